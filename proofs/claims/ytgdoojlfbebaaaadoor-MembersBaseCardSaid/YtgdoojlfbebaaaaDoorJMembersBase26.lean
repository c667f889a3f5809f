/- Parts, one behind the other. MembersBase as the evaluator runs it. -/
import Derived.Test.YtgdoojlfbebaaaaDoorJMembersBase21
import Derived.Test.YtgdoojlfbebaaaaDoorJMembersBase25
import Derived.Test.YtgdoojlfbebaaaaDoorJMembersBase24
import Derived.Test.YtgdoojlfbebaaaaDoorJMembersBase10
import Derived.Test.YtgdoojlfbebaaaaDoorJMembersBase9
set_option linter.unusedSimpArgs false
set_option linter.unusedVariables false
/- MembersBase as the evaluator runs it. -/
section
namespace Go.Proofs.YtgdoojlfbebaaaaDoor
open Go.RowKit
def ctsBb : List (FuncId × CtF) := [(20, ctBase), (21, ctRBase), (19, ctTG mS)]
theorem ctsBb_ok : ∀ f g, (f, g) ∈ ctsBb → CtOk Tryd.prog f g := by
 intro f g h
 simp only [ctsBb, List.mem_cons, Prod.mk.injEq, List.not_mem_nil, or_false] at h
 rcases h with ⟨rfl, rfl⟩ | ⟨rfl, rfl⟩ | ⟨rfl, rfl⟩
 · exact ct_base
 · exact ct_rbase
 · exact ctTG_of (E := E1 Tryd.prog) hE1 ⟨_, _, Tryd.func19, rfl⟩ (by kernel_rfl) (by unfold lim; omega) lv22_run
def bbW (E : Env) (c : Cfg) (n : Nat) (f : Nat → Hq) (path : List Dec) (lp : List (Option LSum)) : Option VF := lwL E 5 mS c 65 56 n (fun k => hqC (f k)) [] path lp
theorem bbE (err : Cfg → Int) (c : Cfg) (n : Nat) (f : Nat → Hq) (Q : VF → Prop) (H : let zq0 : List Bool := [true, true, true, true, true, true, true]; let zq1 : List Bool := true :: (decide (↑(c.np) > Int.ofNat 60) == false) :: zq0; let zq2 : List Bool := true :: (decide (↑(c.ns) > Int.ofNat 60) == false) :: zq1; let zq3 : List Bool := true :: (decide (↑(c.nb) > Int.ofNat 60) == false) :: zq2; let zq4 : List Bool := (decide (↑(c.nt) > Int.ofNat 60) == false) :: zq3; (((decide (↑(c.np) > Int.ofNat 60)) = true → Q (.c (.v (.bool true)), [], 31, ((decide (↑(c.np) > Int.ofNat 60) == true) :: zq0), [])) ∧ ((decide (↑(c.np) > Int.ofNat 60)) = false → (((decide (↑(c.ns) > Int.ofNat 60)) = true → Q (.c (.v (.bool true)), [], 35, ((decide (↑(c.ns) > Int.ofNat 60) == true) :: zq1), [])) ∧ ((decide (↑(c.ns) > Int.ofNat 60)) = false → (((decide (↑(c.nb) > Int.ofNat 60)) = true → Q (.c (.v (.bool true)), [], 39, ((decide (↑(c.nb) > Int.ofNat 60) == true) :: zq2), [])) ∧ ((decide (↑(c.nb) > Int.ofNat 60)) = false → (((decide (↑(c.nt) > Int.ofNat 60)) = true → Q (.c (.v (.bool true)), [], 43, ((decide (↑(c.nt) > Int.ofNat 60) == true) :: zq3), [])) ∧ ((decide (↑(c.nt) > Int.ofNat 60)) = false → (((decide (↑n > Int.ofNat 100)) = true → Q (.c (.v (.bool true)), [], 46, ((decide (↑n > Int.ofNat 100) == true) :: zq4), [])) ∧ ((decide (↑n > Int.ofNat 100)) = false → Q (.c (.v (.bool true)), [], 48, (((err c != Int.ofNat 0) == true) :: (cfgK c) :: true :: true :: true :: true :: true :: true :: true :: (decide (↑n > Int.ofNat 100) == false) :: zq4), [])))))))))))) :
 ∃ p r, bbW (ENl1 Tryd.prog err ctsBb) c n f p [] = some r ∧ Q r :=
 two H
 (fun g1 => ⟨pD 19 1, _, by kernel_rfl, g1⟩)
 (fun g1 => two g1
  (fun g2 => ⟨pD 19 83, _, by kernel_rfl, g2⟩)
  (fun g2 => two g2
   (fun g3 => ⟨pD 19 6725, _, by kernel_rfl, g3⟩)
   (fun g3 => two g3
    (fun g4 => ⟨pD 19 544727, _, by kernel_rfl, g4⟩)
    (fun g4 => two g4
     (fun g5 => ⟨pD 19 15425075, _, by kernel_rfl, g5⟩)
     (fun g5 => ⟨pD 19 417194471, _, by kernel_rfl, g5⟩)))))
end Go.Proofs.YtgdoojlfbebaaaaDoor
end
/- MembersBase: its loops' rounds as the evaluator runs them. -/
section
namespace Go.Proofs.YtgdoojlfbebaaaaDoor
open Go.RowKit
abbrev bbI : List Nat := [gid 0, 0, 1, 2, 3, 4, 10, 48, 49, 50, 51, 52, 53, 60]
abbrev bbT (n : Nat) (f : Nat → Hq) : ABlk := wBlk 65 56 n fun k => hqC (f k)
abbrev bbB (c : Cfg) (n : Nat) (f : Nat → Hq) : List ABlk := [signB, ints 3 c.np c.fp, ints 3 c.ns c.fs, ints 3 c.nb c.fb, sts c.nt c.ft, rBlk 65 56 n fun k => hqC (f k), cfgB c, netY 48 c, intsW c.nodes.toNat (pairF c (2 * c.np)), intsW c.np c.fp, intsW c.ns c.fs, intsW c.nb c.fb, stsW c.nt c.ft, bbT n f]
abbrev bbH : List Nat := [1, 2, 5, 6, 7, 9]
abbrev bbV (n k : Nat) : List AV := [.c (.sl 4 0 0 n none), .c (.ptr 10 0 0), .c (.ptr 48 0 0), i64 0, .c (.sl 60 0 0 n none), i64 (Int.ofNat k)]
abbrev bbM (n : Nat) (f : Nat → Hq) : ABlk := wBlk 66 56 n fun k => hqC (f k)
abbrev bbO (n : Nat) : List (Nat × AV) := [(1, .c (.sl 4 0 0 n none)), (2, .c (.ptr 10 0 0)), (5, .c (.ptr 48 0 0)), (6, i64 0), (7, .c (.sl 60 0 0 n none))]
abbrev bbS (c : Cfg) (n : Nat) (f : Nat → Hq) : LSum := ⟨8 :: bbH, bbI, mkFr 78 ((8, .c (.sl 64 0 0 n none)) :: bbO n), (64, bbM n f) :: bbI.zip (bbB c n f), 100000000000000000000000000000000000000000000000000, .exit 0⟩
def bb0R (P : Program) (c : Cfg) (n : Nat) (f : Nat → Hq) (k : Nat) (path : List Dec) : Option VC :=
 view ([8] ++ [1, 2, 5, 6, 7, 9]) ([64, 1130000000000000000000000000000000000000004] ++ bbI) (fC (E1 P) 100 (loopAt P 5 0) 1000000000000000000000000000000000000000000 10000000000000000000000000000000000000000 ⟨mkFr 78 ((8, .c (.sl 64 0 0 k none)) :: [1, 2, 5, 6, 7, 9].zip (bbV n k)), (64, bbM k f) :: bbI.zip (bbB c n f), 0, 0, false, path, [], [], [], none, []⟩)
abbrev bcI : List Nat := [gid 0, 4, 60]
abbrev bcB (n : Nat) (f : Nat → Hq) : List ABlk := [signB, rBlk 65 56 n fun k => hqC (f k), bbT n f]
abbrev bcH : List Nat := [1, 7, 10]
abbrev bcV (n k : Nat) : List AV := [.c (.sl 4 0 0 n none), .c (.sl 60 0 0 n none), i64 (Int.ofNat k)]
def bc0R (P : Program) (n : Nat) (f : Nat → Hq) (k : Nat) (path : List Dec) : Option VC :=
 view (bcH ++ [4]) bcI (fC (E1 P) 100 (loopAt P 5 1) 1000000000000000000000000000000000000000000000000000 10000000000000000000000000000000000000000 (stH 78 bcH bcI (bcV n k) (bcB n f) path []))
abbrev bcS : LSum := ⟨bcH, bcI, mkFr 78 [], [(gid 0, signB)], 10000000000000000000000000000000000000000000000000000, .exit 2⟩
theorem bb0 (c : Cfg) (n : Nat) (f : Nat → Hq) (k : Nat) (Q : VC → Prop) (H : let zz0 := ((8, AV.c (AC.sl 64 0 0 k none)) :: List.zip [1, 2, 5, 6, 7, 9] (bbV n k)); let zz1 := (Cs.arr (Cfg.nt c) fun k => List.map AC.v ((fun i => [Value.int IntKind.i64 (Station.node (Cfg.ft c i)), Value.int IntKind.u32 (Station.safe (Cfg.ft c i)), Value.int IntKind.i64 (Station.hold (Cfg.ft c i))]) k)); let zz2 := (ABlk.mk true false 87 0 (Cs.lit [AC.v (Value.int IntKind.i64 (Cfg.nodes c)), AC.sl 50 0 0 (Cfg.np c) (some (Cfg.np c)), AC.sl 51 0 0 (Cfg.ns c) (some (Cfg.ns c)), AC.v (Value.int IntKind.i64 (Cfg.long c)), AC.sl 52 0 0 (Cfg.nb c) (some (Cfg.nb c)), AC.sl 53 0 0 (Cfg.nt c) (some (Cfg.nt c)), AC.v (Value.int IntKind.i64 (Cfg.miss c)), AC.v (Value.int IntKind.i64 (Cfg.good c)), AC.v (Value.int IntKind.i64 (Cfg.fresh c)), AC.sl 49 0 0 (Int.toNat (Cfg.nodes c)) none])); let zz3 := (ABlk.mk true false 25 0 (Cs.lit [AC.v (Value.int IntKind.i64 (Cfg.nodes c)), AC.sl 0 0 0 (Cfg.np c) none, AC.sl 1 0 0 (Cfg.ns c) none, AC.v (Value.int IntKind.i64 (Cfg.long c)), AC.sl 2 0 0 (Cfg.nb c) none, AC.sl 3 0 0 (Cfg.nt c) none, AC.v (Value.int IntKind.i64 (Cfg.miss c)), AC.v (Value.int IntKind.i64 (Cfg.good c)), AC.v (Value.int IntKind.i64 (Cfg.fresh c))])); let zz4 := (Cs.arr (Cfg.np c) fun k => List.map AC.v ((fun i => [Value.int IntKind.i64 (Cfg.fp c i)]) k)); let zz5 := (Cs.arr (Cfg.ns c) fun k => List.map AC.v ((fun i => [Value.int IntKind.i64 (Cfg.fs c i)]) k)); let zz6 := (Cs.arr (Cfg.nb c) fun k => List.map AC.v ((fun i => [Value.int IntKind.i64 (Cfg.fb c i)]) k)); let zz7 := (Cs.arr n fun k => List.map AC.v ((fun k => hqC (f k)) k)); (((decide (Int.ofNat k < ↑n)) = true → Q (Exit.normal, [some (.c (.sl 1130000000000000000000000000000000000000004 0 0 (k + 1) none)), some (lkA zz0 1), some (lkA zz0 2), some (lkA zz0 5), some (lkA zz0 6), some (lkA zz0 7), some (.c (.v (.int .i64 (IntKind.wrap .i64 (Int.ofNat k + Int.ofNat 1)))))], [none, some (ABlk.mk true true 66 56 (Cs.arr (k + 1) fun i => if i < k then List.map AC.v ((fun k => hqC (f k)) i) else elt (ABlk.mk true false 66 0 (Cs.lit [.v (.bool (Hq.is (f (0 + Int.toNat (Int.ofNat k))))), .v (.int .i64 (Hq.age (f (0 + Int.toNat (Int.ofNat k))))), .v (.bool (Hq.ob (f (0 + Int.toNat (Int.ofNat k))))), .v (.int .i64 (Hq.oa (f (0 + Int.toNat (Int.ofNat k))))), .v (.int .u8 (Hq.ok (f (0 + Int.toNat (Int.ofNat k))))), .v (.int .u8 (Hq.os (f (0 + Int.toNat (Int.ofNat k))))), .v (.int .u32 (Hq.oq (f (0 + Int.toNat (Int.ofNat k))))), .v (.int .u32 (Hq.ov (f (0 + Int.toNat (Int.ofNat k))))), .v (.bool (Hq.rb (f (0 + Int.toNat (Int.ofNat k))))), .v (.int .i64 (Hq.ra (f (0 + Int.toNat (Int.ofNat k))))), .v (.int .u8 (Hq.rk (f (0 + Int.toNat (Int.ofNat k))))), .v (.int .u8 (Hq.rs (f (0 + Int.toNat (Int.ofNat k))))), .v (.int .u32 (Hq.rq (f (0 + Int.toNat (Int.ofNat k))))), .v (.int .u32 (Hq.rv (f (0 + Int.toNat (Int.ofNat k))))), .v (.bool (Vw.inn (Hq.u (f (0 + Int.toNat (Int.ofNat k)))) 0)), .v (.bool (Vw.inn (Hq.u (f (0 + Int.toNat (Int.ofNat k)))) 1)), .v (.bool (Vw.inn (Hq.u (f (0 + Int.toNat (Int.ofNat k)))) 2)), .v (.bool (Vw.inn (Hq.u (f (0 + Int.toNat (Int.ofNat k)))) 3)), .v (.bool (Vw.inn (Hq.u (f (0 + Int.toNat (Int.ofNat k)))) 4)), .v (.bool (Vw.inn (Hq.u (f (0 + Int.toNat (Int.ofNat k)))) 5)), .v (.bool (Vw.inn (Hq.u (f (0 + Int.toNat (Int.ofNat k)))) 6)), .v (.bool (Vw.inn (Hq.u (f (0 + Int.toNat (Int.ofNat k)))) 7)), .v (.int .u8 (Vw.miss (Hq.u (f (0 + Int.toNat (Int.ofNat k)))) 0)), .v (.int .u8 (Vw.miss (Hq.u (f (0 + Int.toNat (Int.ofNat k)))) 1)), .v (.int .u8 (Vw.miss (Hq.u (f (0 + Int.toNat (Int.ofNat k)))) 2)), .v (.int .u8 (Vw.miss (Hq.u (f (0 + Int.toNat (Int.ofNat k)))) 3)), .v (.int .u8 (Vw.miss (Hq.u (f (0 + Int.toNat (Int.ofNat k)))) 4)), .v (.int .u8 (Vw.miss (Hq.u (f (0 + Int.toNat (Int.ofNat k)))) 5)), .v (.int .u8 (Vw.miss (Hq.u (f (0 + Int.toNat (Int.ofNat k)))) 6)), .v (.int .u8 (Vw.miss (Hq.u (f (0 + Int.toNat (Int.ofNat k)))) 7)), .v (.int .u8 (Vw.good (Hq.u (f (0 + Int.toNat (Int.ofNat k)))) 0)), .v (.int .u8 (Vw.good (Hq.u (f (0 + Int.toNat (Int.ofNat k)))) 1)), .v (.int .u8 (Vw.good (Hq.u (f (0 + Int.toNat (Int.ofNat k)))) 2)), .v (.int .u8 (Vw.good (Hq.u (f (0 + Int.toNat (Int.ofNat k)))) 3)), .v (.int .u8 (Vw.good (Hq.u (f (0 + Int.toNat (Int.ofNat k)))) 4)), .v (.int .u8 (Vw.good (Hq.u (f (0 + Int.toNat (Int.ofNat k)))) 5)), .v (.int .u8 (Vw.good (Hq.u (f (0 + Int.toNat (Int.ofNat k)))) 6)), .v (.int .u8 (Vw.good (Hq.u (f (0 + Int.toNat (Int.ofNat k)))) 7)), .v (.int .u16 (Vw.score (Hq.u (f (0 + Int.toNat (Int.ofNat k)))) 0)), .v (.int .u16 (Vw.score (Hq.u (f (0 + Int.toNat (Int.ofNat k)))) 1)), .v (.int .u16 (Vw.score (Hq.u (f (0 + Int.toNat (Int.ofNat k)))) 2)), .v (.int .u16 (Vw.score (Hq.u (f (0 + Int.toNat (Int.ofNat k)))) 3)), .v (.int .u16 (Vw.score (Hq.u (f (0 + Int.toNat (Int.ofNat k)))) 4)), .v (.int .u16 (Vw.score (Hq.u (f (0 + Int.toNat (Int.ofNat k)))) 5)), .v (.int .u16 (Vw.score (Hq.u (f (0 + Int.toNat (Int.ofNat k)))) 6)), .v (.int .u16 (Vw.score (Hq.u (f (0 + Int.toNat (Int.ofNat k)))) 7)), .v (.bool (Vw.got (Hq.u (f (0 + Int.toNat (Int.ofNat k)))) 0)), .v (.bool (Vw.got (Hq.u (f (0 + Int.toNat (Int.ofNat k)))) 1)), .v (.bool (Vw.got (Hq.u (f (0 + Int.toNat (Int.ofNat k)))) 2)), .v (.bool (Vw.got (Hq.u (f (0 + Int.toNat (Int.ofNat k)))) 3)), .v (.bool (Vw.got (Hq.u (f (0 + Int.toNat (Int.ofNat k)))) 4)), .v (.bool (Vw.got (Hq.u (f (0 + Int.toNat (Int.ofNat k)))) 5)), .v (.bool (Vw.got (Hq.u (f (0 + Int.toNat (Int.ofNat k)))) 6)), .v (.bool (Vw.got (Hq.u (f (0 + Int.toNat (Int.ofNat k)))) 7)), .v (.int .i8 (Vw.command (Hq.u (f (0 + Int.toNat (Int.ofNat k)))))), .v (.int .u8 (Vw.mode (Hq.u (f (0 + Int.toNat (Int.ofNat k))))))])) 0 0 56 (i - k))), some (ABlk.mk false false 139 0 (Cs.lit [.v (.int .i64 (Int.ofNat 1)), .v (.int .i64 (Int.negSucc 0))])), some (ABlk.mk false false 3 1 zz4), some (ABlk.mk false false 3 1 zz5), some (ABlk.mk false false 3 1 zz6), some (ABlk.mk false false 91 3 zz1), some (ABlk.mk false false 65 56 zz7), some zz3, some zz2, some (ABlk.mk true true 3 1 (Cs.arr (Int.toNat (c.nodes)) fun k => List.map AC.v ((fun i => [Value.int .i64 (pairF c (2 * c.np) i)]) k))), some (ABlk.mk true true 3 1 zz4), some (ABlk.mk true true 3 1 zz5), some (ABlk.mk true true 3 1 zz6), some (ABlk.mk true true 91 3 zz1), some (ABlk.mk true true 65 56 zz7)], 78, 1130000000000000000000000000000000000000009, [true, true, decide (k ≤ k), decide ((k + 1) * 136 ≤ 140737488355328), ABlk.inb (ABlk.mk false false 65 56 zz7) (0 + Int.toNat (Int.ofNat k)) 56, true, true, true, true, true, true, true, true, true, true, true, true, true, true, true, true, true, true, true, true, true, true, true, true, true, true, true, true, true, true, true, true, true, true, true, true, true, true, true, true, true, true, true, true, true, true, true, true, true, true, true, true, true, true, true, decide (Int.ofNat 0 ≤ Int.ofNat k ∧ Int.ofNat k < ↑n), ABlk.inb (ABlk.mk false false 65 56 zz7) (0 + Int.toNat (Int.ofNat k)) 1, true, decide (Int.ofNat 0 ≤ Int.ofNat k ∧ Int.ofNat k < ↑n), decide (Int.ofNat k < ↑n) == true], [])) ∧ ((decide (Int.ofNat k < ↑n)) = false → Q (Exit.exit 0, [some (lkA zz0 8), some (lkA zz0 1), some (lkA zz0 2), some (lkA zz0 5), some (lkA zz0 6), some (lkA zz0 7), some (lkA zz0 9)], [some (ABlk.mk true true 66 56 (Cs.arr k fun k => List.map AC.v ((fun k => hqC (f k)) k))), none, some (ABlk.mk false false 139 0 (Cs.lit [.v (.int .i64 (Int.ofNat 1)), .v (.int .i64 (Int.negSucc 0))])), some (ABlk.mk false false 3 1 zz4), some (ABlk.mk false false 3 1 zz5), some (ABlk.mk false false 3 1 zz6), some (ABlk.mk false false 91 3 zz1), some (ABlk.mk false false 65 56 zz7), some zz3, some zz2, some (ABlk.mk true true 3 1 (Cs.arr (Int.toNat (c.nodes)) fun k => List.map AC.v ((fun i => [Value.int .i64 (pairF c (2 * c.np) i)]) k))), some (ABlk.mk true true 3 1 zz4), some (ABlk.mk true true 3 1 zz5), some (ABlk.mk true true 3 1 zz6), some (ABlk.mk true true 91 3 zz1), some (ABlk.mk true true 65 56 zz7)], 78, 1000000000000000000000000000000000000000004, [decide (Int.ofNat k < ↑n) == false], [])))) :
 ∃ p r, bb0R Tryd.prog c n f k p = some r ∧ Q r :=
 two H
 (fun g1 => ⟨pD 1 1, _, by kernel_rfl, g1⟩)
 (fun g1 => ⟨pD 1 2, _, by kernel_rfl, g1⟩)
theorem bc0 (n : Nat) (f : Nat → Hq) (k : Nat) (Q : VC → Prop) (H : let zz0 := [AC.v (Value.bool (Hq.is (f (0 + Int.toNat (Int.ofNat k))))), AC.v (Value.int IntKind.i64 (Hq.age (f (0 + Int.toNat (Int.ofNat k))))), AC.v (Value.bool (Hq.ob (f (0 + Int.toNat (Int.ofNat k))))), AC.v (Value.int IntKind.i64 (Hq.oa (f (0 + Int.toNat (Int.ofNat k))))), AC.v (Value.int IntKind.u8 (Hq.ok (f (0 + Int.toNat (Int.ofNat k))))), AC.v (Value.int IntKind.u8 (Hq.os (f (0 + Int.toNat (Int.ofNat k))))), AC.v (Value.int IntKind.u32 (Hq.oq (f (0 + Int.toNat (Int.ofNat k))))), AC.v (Value.int IntKind.u32 (Hq.ov (f (0 + Int.toNat (Int.ofNat k))))), AC.v (Value.bool (Hq.rb (f (0 + Int.toNat (Int.ofNat k))))), AC.v (Value.int IntKind.i64 (Hq.ra (f (0 + Int.toNat (Int.ofNat k))))), AC.v (Value.int IntKind.u8 (Hq.rk (f (0 + Int.toNat (Int.ofNat k))))), AC.v (Value.int IntKind.u8 (Hq.rs (f (0 + Int.toNat (Int.ofNat k))))), AC.v (Value.int IntKind.u32 (Hq.rq (f (0 + Int.toNat (Int.ofNat k))))), AC.v (Value.int IntKind.u32 (Hq.rv (f (0 + Int.toNat (Int.ofNat k))))), AC.v (Value.bool (Vw.inn (Hq.u (f (0 + Int.toNat (Int.ofNat k)))) 0)), AC.v (Value.bool (Vw.inn (Hq.u (f (0 + Int.toNat (Int.ofNat k)))) 1)), AC.v (Value.bool (Vw.inn (Hq.u (f (0 + Int.toNat (Int.ofNat k)))) 2)), AC.v (Value.bool (Vw.inn (Hq.u (f (0 + Int.toNat (Int.ofNat k)))) 3)), AC.v (Value.bool (Vw.inn (Hq.u (f (0 + Int.toNat (Int.ofNat k)))) 4)), AC.v (Value.bool (Vw.inn (Hq.u (f (0 + Int.toNat (Int.ofNat k)))) 5)), AC.v (Value.bool (Vw.inn (Hq.u (f (0 + Int.toNat (Int.ofNat k)))) 6)), AC.v (Value.bool (Vw.inn (Hq.u (f (0 + Int.toNat (Int.ofNat k)))) 7)), AC.v (Value.int IntKind.u8 (Vw.miss (Hq.u (f (0 + Int.toNat (Int.ofNat k)))) 0)), AC.v (Value.int IntKind.u8 (Vw.miss (Hq.u (f (0 + Int.toNat (Int.ofNat k)))) 1)), AC.v (Value.int IntKind.u8 (Vw.miss (Hq.u (f (0 + Int.toNat (Int.ofNat k)))) 2)), AC.v (Value.int IntKind.u8 (Vw.miss (Hq.u (f (0 + Int.toNat (Int.ofNat k)))) 3)), AC.v (Value.int IntKind.u8 (Vw.miss (Hq.u (f (0 + Int.toNat (Int.ofNat k)))) 4)), AC.v (Value.int IntKind.u8 (Vw.miss (Hq.u (f (0 + Int.toNat (Int.ofNat k)))) 5)), AC.v (Value.int IntKind.u8 (Vw.miss (Hq.u (f (0 + Int.toNat (Int.ofNat k)))) 6)), AC.v (Value.int IntKind.u8 (Vw.miss (Hq.u (f (0 + Int.toNat (Int.ofNat k)))) 7)), AC.v (Value.int IntKind.u8 (Vw.good (Hq.u (f (0 + Int.toNat (Int.ofNat k)))) 0)), AC.v (Value.int IntKind.u8 (Vw.good (Hq.u (f (0 + Int.toNat (Int.ofNat k)))) 1)), AC.v (Value.int IntKind.u8 (Vw.good (Hq.u (f (0 + Int.toNat (Int.ofNat k)))) 2)), AC.v (Value.int IntKind.u8 (Vw.good (Hq.u (f (0 + Int.toNat (Int.ofNat k)))) 3)), AC.v (Value.int IntKind.u8 (Vw.good (Hq.u (f (0 + Int.toNat (Int.ofNat k)))) 4)), AC.v (Value.int IntKind.u8 (Vw.good (Hq.u (f (0 + Int.toNat (Int.ofNat k)))) 5)), AC.v (Value.int IntKind.u8 (Vw.good (Hq.u (f (0 + Int.toNat (Int.ofNat k)))) 6)), AC.v (Value.int IntKind.u8 (Vw.good (Hq.u (f (0 + Int.toNat (Int.ofNat k)))) 7)), AC.v (Value.int IntKind.u16 (Vw.score (Hq.u (f (0 + Int.toNat (Int.ofNat k)))) 0)), AC.v (Value.int IntKind.u16 (Vw.score (Hq.u (f (0 + Int.toNat (Int.ofNat k)))) 1)), AC.v (Value.int IntKind.u16 (Vw.score (Hq.u (f (0 + Int.toNat (Int.ofNat k)))) 2)), AC.v (Value.int IntKind.u16 (Vw.score (Hq.u (f (0 + Int.toNat (Int.ofNat k)))) 3)), AC.v (Value.int IntKind.u16 (Vw.score (Hq.u (f (0 + Int.toNat (Int.ofNat k)))) 4)), AC.v (Value.int IntKind.u16 (Vw.score (Hq.u (f (0 + Int.toNat (Int.ofNat k)))) 5)), AC.v (Value.int IntKind.u16 (Vw.score (Hq.u (f (0 + Int.toNat (Int.ofNat k)))) 6)), AC.v (Value.int IntKind.u16 (Vw.score (Hq.u (f (0 + Int.toNat (Int.ofNat k)))) 7)), AC.v (Value.bool (Vw.got (Hq.u (f (0 + Int.toNat (Int.ofNat k)))) 0)), AC.v (Value.bool (Vw.got (Hq.u (f (0 + Int.toNat (Int.ofNat k)))) 1)), AC.v (Value.bool (Vw.got (Hq.u (f (0 + Int.toNat (Int.ofNat k)))) 2)), AC.v (Value.bool (Vw.got (Hq.u (f (0 + Int.toNat (Int.ofNat k)))) 3)), AC.v (Value.bool (Vw.got (Hq.u (f (0 + Int.toNat (Int.ofNat k)))) 4)), AC.v (Value.bool (Vw.got (Hq.u (f (0 + Int.toNat (Int.ofNat k)))) 5)), AC.v (Value.bool (Vw.got (Hq.u (f (0 + Int.toNat (Int.ofNat k)))) 6)), AC.v (Value.bool (Vw.got (Hq.u (f (0 + Int.toNat (Int.ofNat k)))) 7)), AC.v (Value.int IntKind.i8 (Vw.command (Hq.u (f (0 + Int.toNat (Int.ofNat k)))))), AC.v (Value.int IntKind.u8 (Vw.mode (Hq.u (f (0 + Int.toNat (Int.ofNat k))))))]; let zz1 := [none, some IntKind.i64, none, some IntKind.i64, some IntKind.u8, some IntKind.u8, some IntKind.u32, some IntKind.u32, none, some IntKind.i64, some IntKind.u8, some IntKind.u8, some IntKind.u32, some IntKind.u32, none, none, none, none, none, none, none, none, some IntKind.u8, some IntKind.u8, some IntKind.u8, some IntKind.u8, some IntKind.u8, some IntKind.u8, some IntKind.u8, some IntKind.u8, some IntKind.u8, some IntKind.u8, some IntKind.u8, some IntKind.u8, some IntKind.u8, some IntKind.u8, some IntKind.u8, some IntKind.u8, some IntKind.u16, some IntKind.u16, some IntKind.u16, some IntKind.u16, some IntKind.u16, some IntKind.u16, some IntKind.u16, some IntKind.u16, none, none, none, none, none, none, none, none, some IntKind.i8, some IntKind.u8]; let zz3 := (Cs.arr n fun k => List.map AC.v ((fun k => hqC (f k)) k)); let zz2 := [some (ABlk.mk false false 139 0 (Cs.lit [AC.v (Value.int IntKind.i64 (Int.ofNat 1)), AC.v (Value.int IntKind.i64 (Int.negSucc 0))])), some (ABlk.mk false false 65 56 zz3), some (ABlk.mk true true 65 56 zz3)]; let zt : List Bool → List Bool := fun l => true :: true :: true :: true :: true :: true :: true :: true :: l; let zu : List Bool → List Bool := fun l => zt (zt (zt (zt l))); let zq0 : List Bool := zu (zu (zu (zt (zt ((ABlk.inb (ABlk.mk false false 65 56 zz3) (0 + Int.toNat (Int.ofNat k)) 56) :: (zu (zt (zt (zt ((decide (Int.ofNat 0 ≤ Int.ofNat k ∧ Int.ofNat k < ↑n)) :: (ABlk.inb (ABlk.mk true true 65 56 zz3) (0 + Int.toNat (Int.ofNat k)) 56) :: (zu (zt (zt (zt ((decide (Int.ofNat 0 ≤ Int.ofNat k ∧ Int.ofNat k < ↑n)) :: (decide (Int.ofNat k < ↑n) == true) :: []))))))))))))))); (((decide (Int.ofNat k < ↑n)) = true → (((!eqF zz1 zz0 zz0) = true → Q (Exit.ret, [some (lkA (List.zip bcH (bcV n k)) 1), some (lkA (List.zip bcH (bcV n k)) 7), some (lkA (List.zip bcH (bcV n k)) 10), some (.c (.v (.bool false)))], zz2, 78, 1000000000090000000000000000000000000000000000000005, (((!eqF zz1 zz0 zz0) == true) :: zq0), [])) ∧ ((!eqF zz1 zz0 zz0) = false → Q (Exit.normal, [some (lkA (List.zip bcH (bcV n k)) 1), some (lkA (List.zip bcH (bcV n k)) 7), some (.c (.v (.int .i64 (IntKind.wrap .i64 (Int.ofNat k + Int.ofNat 1))))), some (lkA (List.zip bcH (bcV n k)) 4)], zz2, 78, 1000000000090000000000000000000000000000000000000007, (((!eqF zz1 zz0 zz0) == false) :: zq0), [])))) ∧ ((decide (Int.ofNat k < ↑n)) = false → Q (Exit.exit 2, [some (lkA (List.zip bcH (bcV n k)) 1), some (lkA (List.zip bcH (bcV n k)) 7), some (lkA (List.zip bcH (bcV n k)) 10), some (lkA (List.zip bcH (bcV n k)) 4)], zz2, 78, 1000000000000000000000000000000000000000000000000004, [decide (Int.ofNat k < ↑n) == false], [])))) :
 ∃ p r, bc0R Tryd.prog n f k p = some r ∧ Q r :=
 two H
 (fun g1 => two g1
  (fun g2 => ⟨pD 2 4, _, by kernel_rfl, g2⟩)
  (fun g2 => ⟨pD 2 7, _, by kernel_rfl, g2⟩))
 (fun g1 => ⟨pD 1 2, _, by kernel_rfl, g1⟩)
theorem bbD (err : Cfg → Int) (c : Cfg) (n : Nat) (f : Nat → Hq) (Q : VF → Prop) (H : let zz6 := (NetHS.mk c (Int.toNat (Cfg.nodes c)) (pairF c (2 * Cfg.np c)) n fun k => List.map AC.v ((fun k => hqC (f k)) k)); let zz0 := (bsV c (NetHS.nq zz6) (NetHS.fq zz6) (NetHS.n zz6) (NetHS.f zz6)); let zz1 := (rbV c (CfgHS.n (CfgHS.mk c n fun k => List.map AC.v ((fun k => hqC (f k)) k))) (CfgHS.f (CfgHS.mk c n fun k => List.map AC.v ((fun k => hqC (f k)) k)))); let zz2 := [AC.v (Value.bool (Vw.inn zz0 0)), AC.v (Value.bool (Vw.inn zz0 1)), AC.v (Value.bool (Vw.inn zz0 2)), AC.v (Value.bool (Vw.inn zz0 3)), AC.v (Value.bool (Vw.inn zz0 4)), AC.v (Value.bool (Vw.inn zz0 5)), AC.v (Value.bool (Vw.inn zz0 6)), AC.v (Value.bool (Vw.inn zz0 7)), AC.v (Value.int IntKind.u8 (Vw.miss zz0 0)), AC.v (Value.int IntKind.u8 (Vw.miss zz0 1)), AC.v (Value.int IntKind.u8 (Vw.miss zz0 2)), AC.v (Value.int IntKind.u8 (Vw.miss zz0 3)), AC.v (Value.int IntKind.u8 (Vw.miss zz0 4)), AC.v (Value.int IntKind.u8 (Vw.miss zz0 5)), AC.v (Value.int IntKind.u8 (Vw.miss zz0 6)), AC.v (Value.int IntKind.u8 (Vw.miss zz0 7)), AC.v (Value.int IntKind.u8 (Vw.good zz0 0)), AC.v (Value.int IntKind.u8 (Vw.good zz0 1)), AC.v (Value.int IntKind.u8 (Vw.good zz0 2)), AC.v (Value.int IntKind.u8 (Vw.good zz0 3)), AC.v (Value.int IntKind.u8 (Vw.good zz0 4)), AC.v (Value.int IntKind.u8 (Vw.good zz0 5)), AC.v (Value.int IntKind.u8 (Vw.good zz0 6)), AC.v (Value.int IntKind.u8 (Vw.good zz0 7)), AC.v (Value.int IntKind.u16 (Vw.score zz0 0)), AC.v (Value.int IntKind.u16 (Vw.score zz0 1)), AC.v (Value.int IntKind.u16 (Vw.score zz0 2)), AC.v (Value.int IntKind.u16 (Vw.score zz0 3)), AC.v (Value.int IntKind.u16 (Vw.score zz0 4)), AC.v (Value.int IntKind.u16 (Vw.score zz0 5)), AC.v (Value.int IntKind.u16 (Vw.score zz0 6)), AC.v (Value.int IntKind.u16 (Vw.score zz0 7)), AC.v (Value.bool (Vw.got zz0 0)), AC.v (Value.bool (Vw.got zz0 1)), AC.v (Value.bool (Vw.got zz0 2)), AC.v (Value.bool (Vw.got zz0 3)), AC.v (Value.bool (Vw.got zz0 4)), AC.v (Value.bool (Vw.got zz0 5)), AC.v (Value.bool (Vw.got zz0 6)), AC.v (Value.bool (Vw.got zz0 7)), AC.v (Value.int IntKind.i8 (Vw.command zz0)), AC.v (Value.int IntKind.u8 (Vw.mode zz0))]; let zz3 := [AC.v (Value.bool (Vw.inn zz1 0)), AC.v (Value.bool (Vw.inn zz1 1)), AC.v (Value.bool (Vw.inn zz1 2)), AC.v (Value.bool (Vw.inn zz1 3)), AC.v (Value.bool (Vw.inn zz1 4)), AC.v (Value.bool (Vw.inn zz1 5)), AC.v (Value.bool (Vw.inn zz1 6)), AC.v (Value.bool (Vw.inn zz1 7)), AC.v (Value.int IntKind.u8 (Vw.miss zz1 0)), AC.v (Value.int IntKind.u8 (Vw.miss zz1 1)), AC.v (Value.int IntKind.u8 (Vw.miss zz1 2)), AC.v (Value.int IntKind.u8 (Vw.miss zz1 3)), AC.v (Value.int IntKind.u8 (Vw.miss zz1 4)), AC.v (Value.int IntKind.u8 (Vw.miss zz1 5)), AC.v (Value.int IntKind.u8 (Vw.miss zz1 6)), AC.v (Value.int IntKind.u8 (Vw.miss zz1 7)), AC.v (Value.int IntKind.u8 (Vw.good zz1 0)), AC.v (Value.int IntKind.u8 (Vw.good zz1 1)), AC.v (Value.int IntKind.u8 (Vw.good zz1 2)), AC.v (Value.int IntKind.u8 (Vw.good zz1 3)), AC.v (Value.int IntKind.u8 (Vw.good zz1 4)), AC.v (Value.int IntKind.u8 (Vw.good zz1 5)), AC.v (Value.int IntKind.u8 (Vw.good zz1 6)), AC.v (Value.int IntKind.u8 (Vw.good zz1 7)), AC.v (Value.int IntKind.u16 (Vw.score zz1 0)), AC.v (Value.int IntKind.u16 (Vw.score zz1 1)), AC.v (Value.int IntKind.u16 (Vw.score zz1 2)), AC.v (Value.int IntKind.u16 (Vw.score zz1 3)), AC.v (Value.int IntKind.u16 (Vw.score zz1 4)), AC.v (Value.int IntKind.u16 (Vw.score zz1 5)), AC.v (Value.int IntKind.u16 (Vw.score zz1 6)), AC.v (Value.int IntKind.u16 (Vw.score zz1 7)), AC.v (Value.bool (Vw.got zz1 0)), AC.v (Value.bool (Vw.got zz1 1)), AC.v (Value.bool (Vw.got zz1 2)), AC.v (Value.bool (Vw.got zz1 3)), AC.v (Value.bool (Vw.got zz1 4)), AC.v (Value.bool (Vw.got zz1 5)), AC.v (Value.bool (Vw.got zz1 6)), AC.v (Value.bool (Vw.got zz1 7)), AC.v (Value.int IntKind.i8 (Vw.command zz1)), AC.v (Value.int IntKind.u8 (Vw.mode zz1))]; let zz8 := (Cs.arr (Cfg.nt c) fun k => List.map AC.v ((fun i => [Value.int IntKind.i64 (Station.node (Cfg.ft c i)), Value.int IntKind.u32 (Station.safe (Cfg.ft c i)), Value.int IntKind.i64 (Station.hold (Cfg.ft c i))]) k)); let zz4 := [some (ABlk.mk false false 139 0 (Cs.lit [AC.v (Value.int IntKind.i64 (Int.ofNat 1)), AC.v (Value.int IntKind.i64 (Int.negSucc 0))])), some (ABlk.mk false false 3 1 (Cs.arr (Cfg.np c) fun k => List.map AC.v ((fun i => [Value.int IntKind.i64 (Cfg.fp c i)]) k))), some (ABlk.mk false false 3 1 (Cs.arr (Cfg.ns c) fun k => List.map AC.v ((fun i => [Value.int IntKind.i64 (Cfg.fs c i)]) k))), some (ABlk.mk false false 3 1 (Cs.arr (Cfg.nb c) fun k => List.map AC.v ((fun i => [Value.int IntKind.i64 (Cfg.fb c i)]) k))), some (ABlk.mk false false 91 3 zz8), some (ABlk.mk false false 65 56 (Cs.arr n fun k => List.map AC.v ((fun k => hqC (f k)) k))), some (ABlk.mk true false 25 0 (Cs.lit [AC.v (Value.int IntKind.i64 (Cfg.nodes c)), AC.sl 0 0 0 (Cfg.np c) none, AC.sl 1 0 0 (Cfg.ns c) none, AC.v (Value.int IntKind.i64 (Cfg.long c)), AC.sl 2 0 0 (Cfg.nb c) none, AC.sl 3 0 0 (Cfg.nt c) none, AC.v (Value.int IntKind.i64 (Cfg.miss c)), AC.v (Value.int IntKind.i64 (Cfg.good c)), AC.v (Value.int IntKind.i64 (Cfg.fresh c))])), some (ABlk.mk true false 87 0 (Cs.lit [AC.v (Value.int IntKind.i64 (Cfg.nodes c)), AC.sl 50 0 0 (Cfg.np c) (some (Cfg.np c)), AC.sl 51 0 0 (Cfg.ns c) (some (Cfg.ns c)), AC.v (Value.int IntKind.i64 (Cfg.long c)), AC.sl 52 0 0 (Cfg.nb c) (some (Cfg.nb c)), AC.sl 53 0 0 (Cfg.nt c) (some (Cfg.nt c)), AC.v (Value.int IntKind.i64 (Cfg.miss c)), AC.v (Value.int IntKind.i64 (Cfg.good c)), AC.v (Value.int IntKind.i64 (Cfg.fresh c)), AC.sl 49 0 0 (Int.toNat (Cfg.nodes c)) none])), some (ABlk.mk true true 3 1 (Cs.arr (Int.toNat (Cfg.nodes c)) fun k => List.map AC.v ((fun i => [Value.int IntKind.i64 (pairF c (2 * Cfg.np c) i)]) k))), some (ABlk.mk true true 3 1 (Cs.arr (Cfg.np c) fun k => List.map AC.v ((fun i => [Value.int IntKind.i64 (Cfg.fp c i)]) k))), some (ABlk.mk true true 3 1 (Cs.arr (Cfg.ns c) fun k => List.map AC.v ((fun i => [Value.int IntKind.i64 (Cfg.fs c i)]) k))), some (ABlk.mk true true 3 1 (Cs.arr (Cfg.nb c) fun k => List.map AC.v ((fun i => [Value.int IntKind.i64 (Cfg.fb c i)]) k))), some (ABlk.mk true true 91 3 zz8), some (ABlk.mk true true 65 56 (Cs.arr (0 + n) fun i => if i < 0 then [] else elt (ABlk.mk false false 65 56 (Cs.arr n fun k => List.map AC.v ((fun k => hqC (f k)) k))) 0 0 56 (i - 0)))]; let zz5 := [none, none, none, none, none, none, none, none, some IntKind.u8, some IntKind.u8, some IntKind.u8, some IntKind.u8, some IntKind.u8, some IntKind.u8, some IntKind.u8, some IntKind.u8, some IntKind.u8, some IntKind.u8, some IntKind.u8, some IntKind.u8, some IntKind.u8, some IntKind.u8, some IntKind.u8, some IntKind.u8, some IntKind.u16, some IntKind.u16, some IntKind.u16, some IntKind.u16, some IntKind.u16, some IntKind.u16, some IntKind.u16, some IntKind.u16, none, none, none, none, none, none, none, none, some IntKind.i8, some IntKind.u8]; let zz7 := [some (AV.c (AC.v (Value.slice none 0 0))), some (AV.c (AC.sl 4 0 0 n none)), some (AV.c (AC.ptr 10 0 0)), some (AV.c (AC.ptr 48 0 0)), some (AV.c (AC.v (Value.int IntKind.i64 (Int.ofNat 0)))), some (AV.c (AC.sl 60 0 0 (0 + n) none)), some (AV.c (AC.v (Value.int IntKind.i64 (Int.ofNat 0))))]; let zt : List Bool → List Bool := fun l => true :: true :: true :: true :: true :: true :: true :: true :: l; let zu : List Bool → List Bool := fun l => zt (zt (zt (zt l))); let zq0 : List Bool := zu (zu (zt (zt (true :: true :: true :: true :: ((cfgK c && (decide (n ≤ n) && (true && heldsB n fun k => List.map AC.v ((fun k => hqC (f k)) k)))) :: (rbsP (CfgHS.mk c n fun k => List.map AC.v ((fun k => hqC (f k)) k))) :: true :: true :: true :: true :: true :: true :: (netK c (Int.toNat (c.nodes)) (pairF c (2 * c.np)) && (decide (n ≤ n) && (true && heldsB n fun k => List.map AC.v ((fun k => hqC (f k)) k)))) :: (bsP zz6) :: (decide (0 + n ≤ n)) :: (decide (n * 136 ≤ 140737488355328)) :: (cfgK c) :: (decide (c.nb ≤ 9223372036854775807)) :: (decide (err c = Int.ofNat 0)) :: true :: true :: true :: true :: true :: true :: ((err c != Int.ofNat 0) == false) :: (cfgK c) :: true :: true :: true :: true :: true :: true :: true :: (decide (↑n > Int.ofNat 100) == false) :: (decide (↑(c.nt) > Int.ofNat 60) == false) :: true :: (decide (↑(c.nb) > Int.ofNat 60) == false) :: true :: (decide (↑(c.ns) > Int.ofNat 60) == false) :: true :: (decide (↑(c.np) > Int.ofNat 60) == false) :: true :: true :: true :: true :: true :: true :: true :: []))))); (((!eqF zz5 zz2 zz3) = true → Q (.c (.v (.bool false)), [], 100000000110000000000000000000000000000000000000001, (((!eqF zz5 zz2 zz3) == true) :: zq0), [LoopV Tryd.prog (loopAt Tryd.prog 5 0) (8 :: bbH) bbI zz7 zz4 78 64 (mkFr 78 ((8, .c (.sl 64 0 0 n none)) :: bbO n)) ((64, bbM n f) :: List.zip bbI (bbB c n f)) 100000000000000000000000000000000000000000000000000 (Exit.exit 0) none])) ∧ ((!eqF zz5 zz2 zz3) = false → Q (.c (.v (.bool true)), [], 10000000000000000000000000000000000000000000000000001, (((!eqF zz5 zz2 zz3) == false) :: zq0), [LoopV Tryd.prog (loopAt Tryd.prog 5 1) bcH bcI [some (.c (.sl 4 0 0 n none)), some (.c (.sl 60 0 0 n none)), some (.c (.v (.int .i64 (Int.ofNat 0))))] [some (ABlk.mk false false 139 0 (Cs.lit [.v (.int .i64 (Int.ofNat 1)), .v (.int .i64 (Int.negSucc 0))])), some (ABlk.mk false false 65 56 (Cs.arr n fun k => List.map AC.v ((fun k => hqC (f k)) k))), some (ABlk.mk true true 65 56 (Cs.arr n fun k => List.map AC.v ((fun k => hqC (f k)) k)))] 78 100000000110000000000000000000000000000000000000001 (mkFr 78 []) [(gid 0, signB)] 10000000000000000000000000000000000000000000000000000 (Exit.exit 2) none, LoopV Tryd.prog (loopAt Tryd.prog 5 0) (8 :: bbH) bbI zz7 zz4 78 64 (mkFr 78 ((8, .c (.sl 64 0 0 n none)) :: bbO n)) ((64, bbM n f) :: List.zip bbI (bbB c n f)) 100000000000000000000000000000000000000000000000000 (Exit.exit 0) none])))) :
 ∃ p r, bbW (ENl0 Tryd.prog err ctsBb) c n f p [some (bbS c n f), some bcS] = some r ∧ Q r :=
 two H
 (fun g1 => ⟨pD 27 2542670443289, _, by kernel_rfl, g1⟩)
 (fun g1 => ⟨pD 27 5084536271618, _, by kernel_rfl, g1⟩)
theorem bbG (err : Cfg → Int) (c : Cfg) (n : Nat) (f : Nat → Hq) (Q : VF → Prop) (H : Q (.c (.v (.bool true)), [], 46, [decide (↑n > Int.ofNat 100) == true, decide (↑(c.nt) > Int.ofNat 60) == false, true, decide (↑(c.nb) > Int.ofNat 60) == false, true, decide (↑(c.ns) > Int.ofNat 60) == false, true, decide (↑(c.np) > Int.ofNat 60) == false, true, true, true, true, true, true, true], [])) :
 ∃ p r, bbW (ENl0 Tryd.prog err ctsBb) c n f p [] = some r ∧ Q r :=
 ⟨pD 19 15425075, _, by kernel_rfl, H⟩
end Go.Proofs.YtgdoojlfbebaaaaDoor
end
/- MembersBase: the sums of its loops; its runs. -/
section
namespace Go.Proofs.YtgdoojlfbebaaaaDoor
open Go.RowKit
theorem bbM_low {N n : Nat} {f : Nat → Hq} : lowB N (bbM n f) := wBlk_low
theorem bbB_low {N n : Nat} {c : Cfg} {f : Nat → Hq} (h : 60 < N) : ∀ b ∈ bbB c n f, lowB N b := by
 intro b hb
 simp only [List.mem_cons, List.not_mem_nil, or_false] at hb
 rcases hb with rfl | rfl | rfl | rfl | rfl | rfl | rfl | rfl | rfl | rfl | rfl | rfl | rfl | rfl
 · exact low_lit rfl
 · exact ints_low
 · exact ints_low
 · exact ints_low
 · exact rBlk_low
 · exact rBlk_low
 · exact cfgB_low (by omega)
 · refine low_lit ?_
   have hc : ∀ i, i < 61 → Nat.blt i N = true := fun i h => by rw [Nat.blt_eq]; omega
   simp [lowC, hc, Nat.blt_eq]
   try omega
 · exact wBlk_low
 · exact wBlk_low
 · exact wBlk_low
 · exact wBlk_low
 · exact wBlk_low
 · exact wBlk_low
theorem bcB_low {N n : Nat} {f : Nat → Hq} : ∀ b ∈ bcB n f, lowB N b := by
 intro b hb
 simp only [List.mem_cons, List.not_mem_nil, or_false] at hb
 rcases hb with rfl | rfl | rfl
 · exact low_lit rfl
 · exact rBlk_low
 · exact wBlk_low
set_option maxRecDepth 100000 in
theorem bb0_sum (c : Cfg) (n : Nat) (f : Nat → Hq) (hn : n ≤ 200) {eblks : List (Option ABlk)} (heb : BL (bbB c n f) eblks) :
 LoopV Tryd.prog (loopAt Tryd.prog 5 0) (8 :: bbH) bbI (some (.c (.v (.slice none 0 0))) :: (bbV n 0).map some) eblks 78 64 (mkFr 78 ((8, .c (.sl 64 0 0 n none)) :: bbO n)) ((64, bbM n f) :: bbI.zip (bbB c n f)) 100000000000000000000000000000000000000000000000000 (.exit 0) none := by
 refine loop_growE hE1 (fuel := 100) (str := 10000000000000000000000000000000000000000) (nh := 1000000000000000000000000000000000000000000) (n := 64) (n' := 100000000000000000000000000000000000000000000000000) (S := Nat) (fun k => k ≤ n) (fun k => n - k) 8 64 bbH [64, 1130000000000000000000000000000000000000004] bbI (fun k => k) (fun k => bbM k f) (fun k => bbV n k) (fun _ => bbB c n f) (by decide) (by decide) (by decide) (by unfold lim; omega) (s0 := 0) (Nat.zero_le _) rfl ⟨_, rfl⟩ (Nat.succ_pos 55) (fun _ => ⟨rfl, rfl⟩) (by kernel_rfl) heb (fun k _ => ⟨rfl, bbB_low (by omega), bbM_low⟩) bbM_low fun k hk => ?_
 refine (?_ : (∃ p r, bb0R Tryd.prog c n f k p = some r ∧ _) → _) (bb0 c n f k (StepG 64 1000000000000000000000000000000000000000000 100000000000000000000000000000000000000000000000000 78 64 bbH [64, 1130000000000000000000000000000000000000004] bbI (fun k => k ≤ n) (fun k => n - k) (fun k => k) (fun k => bbM k f) (fun k => bbV n k) (fun _ => bbB c n f) (.exit 0) n (bbM n f) (bbO n) (bbI.zip (bbB c n f)) k) ?_)
 · rintro ⟨p, r, h1, h2⟩
   exact ⟨p, [], r, h1, h2⟩
 · have hout : ∀ l1 : List (Option AV), l1 = (bbV n k).map some → ∀ q ∈ bbO n, okV 64 q.2 = true ∧ (q.1, some q.2) ∈ bbH.zip l1 := by
    rintro l1 rfl q hq
    simp only [bbO, List.mem_cons, List.not_mem_nil, or_false] at hq
    rcases hq with rfl | rfl | rfl | rfl | rfl <;> exact ⟨rfl, by simp⟩
   refine ⟨fun c1 => ?_, fun c1 => ?_⟩
   · have hlt : k < n := by simpa using c1
     refine ⟨?_, (fun q hq => by cases hq), by dsimp only; omega, rfl, .inl ⟨rfl, k + 1, hlt, by show n - (k + 1) < n - k; omega, ?_, BL.refl (bbB c n f), 1130000000000000000000000000000000000000004, _, rfl, .inr ⟨by decide, by decide⟩, .tail _ (.head _), ?_⟩⟩
     · simp only [allT, List.forall_mem_cons, bq_e, c1]
       simp [inb_arr, hlt]
       omega
     · dsimp only; rw [bq_w (by omega)]; rfl
     · refine ⟨rfl, rfl, rfl, rfl, .inr (.inl ⟨_, _, _, rfl, rfl, fun i hi => ?_⟩)⟩
       split
       · rfl
       · obtain rfl : i = k := by omega
         simp only [bq_e]
         simp [elt]
         rfl
   · obtain rfl : k = n := by have : ¬ k < n := by simpa using c1
                              omega
     refine ⟨by simp only [allT, List.forall_mem_cons, c1]; simp, (fun q hq => by cases hq), by dsimp only; omega, rfl, .inr ⟨by simp, rfl, hout _ rfl, mf_all (by kernel_rfl) (bbB_low (by omega)) rfl, 64, _, rfl, .inl rfl, .head _, BEq.refl _⟩⟩
set_option maxRecDepth 100000 in
theorem bc0_sum (n : Nat) (f : Nat → Hq) (hn : n ≤ 200) (N : Nat) (hN : 64 ≤ N) (hN2 : N ≤ 1000000000000000000000000000000000000000000000000000) (hk : bcI.all (keptB N 10000000000000000000000000000000000000000000000000000) = true) :
 LoopV Tryd.prog (loopAt Tryd.prog 5 1) bcH bcI ((bcV n 0).map some) ((bcB n f).map some) 78 N (mkFr 78 []) [(gid 0, signB)] 10000000000000000000000000000000000000000000000000000 (.exit 2) none := by
 have hc : ∀ i, i < 64 → Nat.blt i N = true := fun i h => by rw [Nat.blt_eq]; omega
 refine scan_ob hE1 (fuel := 100) (str := 10000000000000000000000000000000000000000) (nh := 1000000000000000000000000000000000000000000000000000) bcH [4] bcI (bcV n) (bcB n f) n hN2 (by decide) (by unfold lim; omega) (by simp) (fun _ => ⟨rfl, rfl⟩) hk ?_ bcB_low ?_ ?_
 · intro k _
   simp [okV, lowV, lowC, notAny, i64, hc 4 (by omega), hc 60 (by omega)]
 · intro k hk
   refine bc0 n f k _ ⟨fun c1 => ⟨fun c2 => ?_, fun c2 => ?_⟩, fun c1 => ?_⟩
   · rw [eqF_all] at c2; cases c2
   · refine ⟨⟨?_, rfl, by dsimp only; omega, rfl⟩, rfl, ?_, BL.refl (bcB n f)⟩
     · simp only [allT, List.forall_mem_cons, bq_e, c1, c2]
       simp [inb_arr, hk, eqF_all]
     · dsimp only; rw [bq_w (by omega)]; rfl
   · simp at c1; omega
 · refine bc0 n f n _ ⟨fun c1 => ?_, fun c1 => ?_⟩
   · simp at c1
   · refine ⟨⟨by simp only [allT, List.forall_mem_cons, c1]; simp, rfl, by dsimp only; omega, rfl⟩, rfl, (fun _ h => by cases h), fun p hp => ?_⟩
     rw [List.mem_singleton.1 hp]
     exact ⟨by simp only [List.all_cons, Bool.and_eq_true] at hk; exact hk.1, low_lit rfl, _, .head _, BEq.refl _⟩
theorem views_congr2 {may may' : List AC → Bool} {fst : List AC} {F : Nat → List AC} : ∀ {n : Nat}, (∀ k, k < n → heldV may fst (F k) = heldV may' fst (F k)) → viewsA may fst n F = viewsA may' fst n F
 | 0, _ => rfl
 | n + 1, h => by rw [viewsA_succ, viewsA_succ, views_congr2 fun k hk => h k (by omega), h n (by omega)]
theorem bb_same {c : Cfg} (g : CfgGood c) {nq : Nat} (hq : 0 < nq) (fq : Nat → Int) {n : Nat} {F : Nat → List AC} (hF : heldsB n F = true) : bsV c nq fq n F = rbV c n F := by
 have e5 : fstV c nq fq = rfV c.np := by
  unfold fstV rfV
  rw [has_np g hq]
 unfold bsV rbV baseA
 rw [e5]
 congr 2
 refine views_congr2 fun k hk => ?_
 obtain ⟨v, hv, e1, _⟩ := hq_view (heldsB_at hF (show k < n by omega))
 unfold heldV
 rw [e1, may_eq g hq fq hv]
theorem good_gv {c : Cfg} (g : CfgGood c) : gvPre c c.nodes.toNat = true := by
 have := g.s16
 have := g.n16
 have := g.p8
 have := g.nt
 have := g.nb
 have := g.n4
 have := g.p2
 have := g.s1
 simp [gvPre]
 omega
theorem good_round {c : Cfg} (g : CfgGood c) : roundN c c.nodes.toNat ≠ 0 := by
 have hp : ckPre c c.nodes.toNat = true := by
  have := g.s1
  have := g.s16
  have := g.n4
  have := g.n16
  have := g.l1
  have := g.l4
  simp [ckPre]
  omega
 obtain ⟨e, r1, _⟩ := ck_round hp
 rw [e]
 omega
set_option maxRecDepth 1000000 in
theorem bb_run1 (c : Cfg) (n : Nat) (f : Nat → Hq) (h0 : cfgErr c ≠ 0) (hb : c.nb ≤ 9223372036854775807) : ∃ p r, bbW (ENl1 Tryd.prog cfgErr ctsBb) c n f p [] = some r ∧ GoodF (bo true) r := by
 refine bbE cfgErr c n f _ ?_
 (repeat' (first | refine ⟨fun h => ?_, fun h => ?_⟩ | fail))
 all_goals (first | (exfalso; simp_all; done) | skip)
 all_goals (refine ⟨rfl, (by first | (unfold lim; omega) | (dsimp only; unfold lim; omega)), ?_, by simp⟩)
 all_goals (simp_all [allT, cfgK_t, netK_t, intsOk_ints, stsOk_sts, intsOk_s, stsOk_s, h0, hb])
set_option maxRecDepth 1000000 in
theorem bb_run0 (c : Cfg) (n : Nat) (f : Nat → Hq) (h0 : cfgErr c = 0) (hb : c.nb ≤ 9223372036854775807) (hF : heldsB n (fun k => hqL (f k)) = true) : ∃ p lp r, bbW (ENl0 Tryd.prog cfgErr ctsBb) c n f p lp = some r ∧ GoodF (bo true) r := by
 have g := cfg_good h0
 have hq : 0 < c.nodes.toNat := by have := g.n4; omega
 have n4 := g.n4
 have n16 := g.n16
 have p8 := g.p8
 have s16 := g.s16
 have nt := g.nt
 have nb := g.nb
 by_cases hn : n ≤ 100
 · have e := bb_same g hq (pairF c (2 * c.np)) hF
   have b1 : bsP ⟨c, c.nodes.toNat, pairF c (2 * c.np), n, fun k => hqL (f k)⟩ = true := by
    simp only [bsP, Bool.and_eq_true, decide_eq_true_eq]
    exact ⟨good_round g, good_gv g, by omega, by omega, hF⟩
   have b2 : rbsP ⟨c, n, fun k => hqL (f k)⟩ = true := by
    simp only [rbsP, Bool.and_eq_true, decide_eq_true_eq]
    exact ⟨p8, by omega, by omega, hF⟩
   have S0 := fun eblks heb => bb0_sum c n f (by omega) (eblks := eblks) heb
   have S1 := bc0_sum n f (by omega)
   refine (?_ : (∃ p r, bbW (ENl0 Tryd.prog cfgErr ctsBb) c n f p _ = some r ∧ _) → _) (bbD cfgErr c n f (GoodF (bo true)) ?_)
   · rintro ⟨p, r, r1, r2⟩
     exact ⟨p, _, r, r1, r2⟩
   · simp only [h0]
     refine ⟨fun c1 => ?_, fun c1 => ?_⟩
     · exfalso
       rw [e] at c1
       rw [eqF_all] at c1
       cases c1
     · refine ⟨rfl, (by first | (unfold lim; omega) | (dsimp only; unfold lim; omega)), ?_, fun u hu => ?_⟩
       · simp only [allT, List.forall_mem_cons, c1, b1, b2, hF, cfgK_t, netK_t]
         simp
         omega
       · simp only [List.mem_cons, List.not_mem_nil, or_false] at hu
         rcases hu with rfl | rfl
         · exact S1 _ (by omega) (by omega) (by kernel_rfl)
         · simp only [Nat.zero_add]
           refine S0 _ ⟨BEq.refl _, BEq.refl _, BEq.refl _, BEq.refl _, BEq.refl _, BEq.refl _, BEq.refl _, BEq.refl _, BEq.refl _, BEq.refl _, BEq.refl _, BEq.refl _, BEq.refl _, ⟨rfl, rfl, rfl, rfl, .inr (.inl ⟨_, _, _, rfl, rfl, fun i hi => ?_⟩)⟩, trivial⟩
           simp [elt]
 · refine (?_ : (∃ p r, bbW (ENl0 Tryd.prog cfgErr ctsBb) c n f p _ = some r ∧ _) → _) (bbG cfgErr c n f (GoodF (bo true)) ?_)
   · rintro ⟨p, r, r1, r2⟩
     exact ⟨p, _, r, r1, r2⟩
   · try simp only [h0]
     (repeat' (first | refine ⟨fun h => ?_, fun h => ?_⟩ | fail))
     all_goals (first | (exfalso; simp_all; done) | skip)
     all_goals (refine ⟨rfl, (by first | (unfold lim; omega) | (dsimp only; unfold lim; omega)), ?_, by simp⟩)
     all_goals (simp_all [allT, cfgK_t, netK_t, intsOk_ints, stsOk_sts, intsOk_s, stsOk_s, h0, hb]; omega)
end Go.Proofs.YtgdoojlfbebaaaaDoor
end
