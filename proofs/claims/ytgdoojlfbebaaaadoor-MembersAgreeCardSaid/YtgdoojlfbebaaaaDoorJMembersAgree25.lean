/- Parts, one behind the other. MembersAgree as the evaluator runs it. -/
import Derived.Test.YtgdoojlfbebaaaaDoorJMembersAgree20
import Derived.Test.YtgdoojlfbebaaaaDoorJMembersAgree24
import Derived.Test.YtgdoojlfbebaaaaDoorJMembersAgree23
import Derived.Test.YtgdoojlfbebaaaaDoorJMembersAgree10
import Derived.Test.YtgdoojlfbebaaaaDoorJMembersAgree9
set_option linter.unusedSimpArgs false
set_option linter.unusedVariables false
/- MembersAgree as the evaluator runs it. -/
section
namespace Go.Proofs.YtgdoojlfbebaaaaDoor
open Go.RowKit
def ctsMg : List (FuncId × CtF) := [(20, ctBase), (22, ctMay), (19, ctTG mS)]
theorem ctsMg_ok : ∀ f g, (f, g) ∈ ctsMg → CtOk Tryd.prog f g := by
 intro f g h
 simp only [ctsMg, List.mem_cons, Prod.mk.injEq, List.not_mem_nil, or_false] at h
 rcases h with ⟨rfl, rfl⟩ | ⟨rfl, rfl⟩ | ⟨rfl, rfl⟩
 · exact ct_base
 · exact ct_may
 · exact ctTG_of (E := E1 Tryd.prog) hE1 ⟨_, _, Tryd.func19, rfl⟩ (by kernel_rfl) (by unfold lim; omega) lv22_run
def mgW (E : Env) (c : Cfg) (v : Vw) (n : Nat) (f : Nat → Hq) (path : List Dec) (lp : List (Option LSum)) : Option VF := lwM E 6 mS c [.agg (vwL v)] 65 56 n (fun k => hqC (f k)) path lp
theorem mgE (err : Cfg → Int) (c : Cfg) (v : Vw) (n : Nat) (f : Nat → Hq) (Q : VF → Prop) (H : Q (.c (.v (.bool true)), [], 26, [(err c != Int.ofNat 0) == true, cfgK c, decide (c.nb ≤ 9223372036854775807), decide (err c ≠ Int.ofNat 0), true, true, true, true, true, true], [])) :
 ∃ p r, mgW (ENl1 Tryd.prog err ctsMg) c v n f p [] = some r ∧ Q r :=
 ⟨pD 7 1, _, by kernel_rfl, H⟩
theorem mgF (err : Cfg → Int) (c : Cfg) (v : Vw) (n : Nat) (f : Nat → Hq) (Q : VF → Prop) (H : Q (.c (.v (.bool true)), [], 35, [(↑n == Int.ofNat 0) == true, cfgK c, decide (c.nb ≤ 9223372036854775807), decide (err c = Int.ofNat 0), true, true, true, true, true, true], [])) :
 ∃ p r, mgW (ENl0 Tryd.prog err ctsMg) c v n f p [] = some r ∧ Q r :=
 ⟨pD 7 27, _, by kernel_rfl, H⟩
theorem mgG (err : Cfg → Int) (c : Cfg) (v : Vw) (n : Nat) (f : Nat → Hq) (Q : VF → Prop) (H : Q (.c (.v (.bool true)), [], 38, [decide (↑n > Int.ofNat 20) == true, (↑n == Int.ofNat 0) == false, cfgK c, decide (c.nb ≤ 9223372036854775807), decide (err c = Int.ofNat 0), true, true, true, true, true, true], [])) :
 ∃ p r, mgW (ENl0 Tryd.prog err ctsMg) c v n f p [] = some r ∧ Q r :=
 ⟨pD 7 783, _, by kernel_rfl, H⟩
end Go.Proofs.YtgdoojlfbebaaaaDoor
end
/- MembersAgree: its first loop's round as the evaluator runs it. -/
section
namespace Go.Proofs.YtgdoojlfbebaaaaDoor
open Go.RowKit
abbrev mgI : List Nat := [gid 0, 4, 10, 11, 14, 15, 16, 17, 18, 19, 130000000000000000000000000000000000000039]
abbrev mgT (N : Nat) (g : Nat → Hq) : ABlk := wBlk 65 56 N fun j => hqC (g j)
abbrev mgB (c : Cfg) (v : Vw) (n : Nat) (f : Nat → Hq) (g : Nat → Hq) : List ABlk := [signB, rBlk 65 56 n fun k => hqC (f k), cfgB c, vwB v, netY 14 c, intsW c.nodes.toNat (pairF c (2 * c.np)), intsW c.np c.fp, intsW c.ns c.fs, intsW c.nb c.fb, stsW c.nt c.ft, mgT c.nodes.toNat g]
abbrev mgH : List Nat := [2, 3, 4, 7, 9, 10, 11]
abbrev mgV (c : Cfg) (n b k : Nat) : List AV := [.c (.sl 4 0 0 n none), .c (.ptr 10 0 0), .c (.ptr 11 0 0), .c (.ptr 14 0 0), i64 (Int.ofNat b), .c (.sl 130000000000000000000000000000000000000039 0 0 c.nodes.toNat none), i64 (Int.ofNat k)]
abbrev mgO (c : Cfg) (n b : Nat) : List (Nat × AV) := [(2, .c (.sl 4 0 0 n none)), (3, .c (.ptr 10 0 0)), (4, .c (.ptr 11 0 0)), (7, .c (.ptr 14 0 0)), (9, i64 (Int.ofNat b)), (10, .c (.sl 130000000000000000000000000000000000000039 0 0 c.nodes.toNat none))]
def mg0R (P : Program) (c : Cfg) (v : Vw) (n b : Nat) (f g : Nat → Hq) (k : Nat) (path : List Dec) : Option VC :=
 view (mgH ++ []) mgI (fC (E1 P) 100 (loopAt P 6 0) 1000000000000000000000000000000000000000000 10000000000000000000000000000000000000000 (stH 118 mgH mgI (mgV c n b k) (mgB c v n f g) path []))
abbrev mgS (c : Cfg) (v : Vw) (n b : Nat) (f g : Nat → Hq) : LSum := ⟨mgH, mgI, mkFr 118 (mgO c n b), mgI.zip (mgB c v n f g), 100000000000000000000000000000000000000000000000000, .exit 0⟩
theorem mg0 (c : Cfg) (v : Vw) (n b : Nat) (f g : Nat → Hq) (k : Nat) (Q : VC → Prop) (H : let zz0 := (ABlk.mk true false 87 0 (Cs.lit [AC.v (Value.int IntKind.i64 (Cfg.nodes c)), AC.sl 16 0 0 (Cfg.np c) (some (Cfg.np c)), AC.sl 17 0 0 (Cfg.ns c) (some (Cfg.ns c)), AC.v (Value.int IntKind.i64 (Cfg.long c)), AC.sl 18 0 0 (Cfg.nb c) (some (Cfg.nb c)), AC.sl 19 0 0 (Cfg.nt c) (some (Cfg.nt c)), AC.v (Value.int IntKind.i64 (Cfg.miss c)), AC.v (Value.int IntKind.i64 (Cfg.good c)), AC.v (Value.int IntKind.i64 (Cfg.fresh c)), AC.sl 15 0 0 (Int.toNat (Cfg.nodes c)) none])); let zz1 := (ABlk.mk true false 25 0 (Cs.lit [AC.v (Value.int IntKind.i64 (Cfg.nodes c)), AC.sl 0 0 0 (Cfg.np c) none, AC.sl 1 0 0 (Cfg.ns c) none, AC.v (Value.int IntKind.i64 (Cfg.long c)), AC.sl 2 0 0 (Cfg.nb c) none, AC.sl 3 0 0 (Cfg.nt c) none, AC.v (Value.int IntKind.i64 (Cfg.miss c)), AC.v (Value.int IntKind.i64 (Cfg.good c)), AC.v (Value.int IntKind.i64 (Cfg.fresh c))])); let zz2 := (ABlk.mk true true 91 3 (Cs.arr (Cfg.nt c) fun k => List.map AC.v ((fun i => [Value.int IntKind.i64 (Station.node (Cfg.ft c i)), Value.int IntKind.u32 (Station.safe (Cfg.ft c i)), Value.int IntKind.i64 (Station.hold (Cfg.ft c i))]) k))); (((decide (Int.ofNat k < ↑(Int.toNat (c.nodes)))) = true → Q (Exit.normal, [some (lkA (List.zip mgH (mgV c n b k)) 2), some (lkA (List.zip mgH (mgV c n b k)) 3), some (lkA (List.zip mgH (mgV c n b k)) 4), some (lkA (List.zip mgH (mgV c n b k)) 7), some (lkA (List.zip mgH (mgV c n b k)) 9), some (lkA (List.zip mgH (mgV c n b k)) 10), some (.c (.v (.int .i64 (IntKind.wrap .i64 (Int.ofNat k + Int.ofNat 1)))))], [some (ABlk.mk false false 139 0 (Cs.lit [.v (.int .i64 (Int.ofNat 1)), .v (.int .i64 (Int.negSucc 0))])), some (ABlk.mk false false 65 56 (Cs.arr n fun k => List.map AC.v ((fun k => hqC (f k)) k))), some zz1, some (ABlk.mk true false 61 0 (Cs.lit (vwL v))), some zz0, some (ABlk.mk true true 3 1 (Cs.arr (Int.toNat (c.nodes)) fun k => List.map AC.v ((fun i => [Value.int .i64 (pairF c (2 * c.np) i)]) k))), some (ABlk.mk true true 3 1 (Cs.arr (c.np) fun k => List.map AC.v ((fun i => [Value.int .i64 (c.fp i)]) k))), some (ABlk.mk true true 3 1 (Cs.arr (c.ns) fun k => List.map AC.v ((fun i => [Value.int .i64 (c.fs i)]) k))), some (ABlk.mk true true 3 1 (Cs.arr (c.nb) fun k => List.map AC.v ((fun i => [Value.int .i64 (c.fb i)]) k))), some zz2, some (ABlk.mk true true 65 56 (Cs.arr (Int.toNat (c.nodes)) fun i => if i = 0 + Int.toNat (Int.ofNat k) then setL ((fun k => List.map AC.v ((fun j => hqC (g j)) k)) i) 0 [.v (.bool true), .v (.int .i64 (Int.ofNat 0)), .v (.bool false), .v (.int .i64 (Int.ofNat 0)), .v (.int .u8 (Int.ofNat 0)), .v (.int .u8 (Int.ofNat 0)), .v (.int .u32 (Int.ofNat 0)), .v (.int .u32 (Int.ofNat 0)), .v (.bool false), .v (.int .i64 (Int.ofNat 0)), .v (.int .u8 (Int.ofNat 0)), .v (.int .u8 (Int.ofNat 0)), .v (.int .u32 (Int.ofNat 0)), .v (.int .u32 (Int.ofNat 0)), .v (.bool (Vw.inn v 0)), .v (.bool (Vw.inn v 1)), .v (.bool (Vw.inn v 2)), .v (.bool (Vw.inn v 3)), .v (.bool (Vw.inn v 4)), .v (.bool (Vw.inn v 5)), .v (.bool (Vw.inn v 6)), .v (.bool (Vw.inn v 7)), .v (.int .u8 (Vw.miss v 0)), .v (.int .u8 (Vw.miss v 1)), .v (.int .u8 (Vw.miss v 2)), .v (.int .u8 (Vw.miss v 3)), .v (.int .u8 (Vw.miss v 4)), .v (.int .u8 (Vw.miss v 5)), .v (.int .u8 (Vw.miss v 6)), .v (.int .u8 (Vw.miss v 7)), .v (.int .u8 (Vw.good v 0)), .v (.int .u8 (Vw.good v 1)), .v (.int .u8 (Vw.good v 2)), .v (.int .u8 (Vw.good v 3)), .v (.int .u8 (Vw.good v 4)), .v (.int .u8 (Vw.good v 5)), .v (.int .u8 (Vw.good v 6)), .v (.int .u8 (Vw.good v 7)), .v (.int .u16 (Vw.score v 0)), .v (.int .u16 (Vw.score v 1)), .v (.int .u16 (Vw.score v 2)), .v (.int .u16 (Vw.score v 3)), .v (.int .u16 (Vw.score v 4)), .v (.int .u16 (Vw.score v 5)), .v (.int .u16 (Vw.score v 6)), .v (.int .u16 (Vw.score v 7)), .v (.bool (Vw.got v 0)), .v (.bool (Vw.got v 1)), .v (.bool (Vw.got v 2)), .v (.bool (Vw.got v 3)), .v (.bool (Vw.got v 4)), .v (.bool (Vw.got v 5)), .v (.bool (Vw.got v 6)), .v (.bool (Vw.got v 7)), .v (.int .i8 (Vw.command v)), .v (.int .u8 (Vw.mode v))] else List.map AC.v ((fun j => hqC (g j)) i)))], 118, 1000000000000000000000000000000000000000014, [ABlk.inb (ABlk.mk true true 65 56 (Cs.arr (Int.toNat (c.nodes)) fun k => List.map AC.v ((fun j => hqC (g j)) k))) (0 + Int.toNat (Int.ofNat k)) 56, decide (Int.ofNat 0 ≤ Int.ofNat k ∧ Int.ofNat k < ↑(Int.toNat (c.nodes))), true, true, true, true, true, true, true, true, true, true, true, true, true, true, true, true, true, true, true, true, true, true, true, true, true, true, true, true, true, true, true, true, true, true, true, true, true, true, true, true, true, true, true, decide (Int.ofNat k < ↑(Int.toNat (c.nodes))) == true], [])) ∧ ((decide (Int.ofNat k < ↑(Int.toNat (c.nodes)))) = false → Q (Exit.exit 0, [some (lkA (List.zip mgH (mgV c n b k)) 2), some (lkA (List.zip mgH (mgV c n b k)) 3), some (lkA (List.zip mgH (mgV c n b k)) 4), some (lkA (List.zip mgH (mgV c n b k)) 7), some (lkA (List.zip mgH (mgV c n b k)) 9), some (lkA (List.zip mgH (mgV c n b k)) 10), some (lkA (List.zip mgH (mgV c n b k)) 11)], [some (ABlk.mk false false 139 0 (Cs.lit [.v (.int .i64 (Int.ofNat 1)), .v (.int .i64 (Int.negSucc 0))])), some (ABlk.mk false false 65 56 (Cs.arr n fun k => List.map AC.v ((fun k => hqC (f k)) k))), some zz1, some (ABlk.mk true false 61 0 (Cs.lit (vwL v))), some zz0, some (ABlk.mk true true 3 1 (Cs.arr (Int.toNat (c.nodes)) fun k => List.map AC.v ((fun i => [Value.int .i64 (pairF c (2 * c.np) i)]) k))), some (ABlk.mk true true 3 1 (Cs.arr (c.np) fun k => List.map AC.v ((fun i => [Value.int .i64 (c.fp i)]) k))), some (ABlk.mk true true 3 1 (Cs.arr (c.ns) fun k => List.map AC.v ((fun i => [Value.int .i64 (c.fs i)]) k))), some (ABlk.mk true true 3 1 (Cs.arr (c.nb) fun k => List.map AC.v ((fun i => [Value.int .i64 (c.fb i)]) k))), some zz2, some (ABlk.mk true true 65 56 (Cs.arr (Int.toNat (c.nodes)) fun k => List.map AC.v ((fun j => hqC (g j)) k)))], 118, 1000000000000000000000000000000000000000004, [decide (Int.ofNat k < ↑(Int.toNat (c.nodes))) == false], [])))) :
 ∃ p r, mg0R Tryd.prog c v n b f g k p = some r ∧ Q r :=
 two H
 (fun g1 => ⟨pD 1 1, _, by kernel_rfl, g1⟩)
 (fun g1 => ⟨pD 1 2, _, by kernel_rfl, g1⟩)
end Go.Proofs.YtgdoojlfbebaaaaDoor
end
/- MembersAgree: its second loop's round, and the whole, as the evaluator runs them. -/
section
namespace Go.Proofs.YtgdoojlfbebaaaaDoor
open Go.RowKit
abbrev mhI : List Nat := [gid 0, 4, 14, 15, 16, 17, 18, 19, 100000000100000000000000000000000000000000000000009]
abbrev mhB (c : Cfg) (n : Nat) (f h : Nat → Hq) : List ABlk := [signB, rBlk 65 56 n fun k => hqC (f k), netY 14 c, intsW c.nodes.toNat (pairF c (2 * c.np)), intsW c.np c.fp, intsW c.ns c.fs, intsW c.nb c.fb, stsW c.nt c.ft, mgT c.nodes.toNat h]
abbrev mhH : List Nat := [2, 7, 9, 12, 13]
abbrev mhV (c : Cfg) (n b k : Nat) : List AV := [.c (.sl 4 0 0 n none), .c (.ptr 14 0 0), i64 (Int.ofNat b), .c (.sl 100000000100000000000000000000000000000000000000009 0 0 c.nodes.toNat none), i64 (Int.ofNat k)]
abbrev mhO (c : Cfg) (b : Nat) : List (Nat × AV) := [(7, .c (.ptr 14 0 0)), (9, i64 (Int.ofNat b)), (12, .c (.sl 100000000100000000000000000000000000000000000000009 0 0 c.nodes.toNat none))]
def mh0R (P : Program) (c : Cfg) (n b : Nat) (f h : Nat → Hq) (k : Nat) (path : List Dec) : Option VC :=
 view (mhH ++ []) mhI (fC (E1 P) 100 (loopAt P 6 1) 1000000000000000000000000000000000000000000000000000 10000000000000000000000000000000000000000 (stH 118 mhH mhI (mhV c n b k) (mhB c n f h) path []))
abbrev mhS (c : Cfg) (n b : Nat) (f h : Nat → Hq) : LSum := ⟨mhH, mhI, mkFr 118 (mhO c b), mhI.zip (mhB c n f h), 10000000000000000000000000000000000000000000000000000, .exit 2⟩
def mgX (b : Nat) (f g : Nat → Hq) : Nat → List AC := fun i => if i = 0 + Int.toNat (Int.ofNat b) then setL ((fun k => List.map AC.v ((fun j => hqC (g j)) k)) i) 0 (hqL (f 0)) else List.map AC.v ((fun j => hqC (g j)) i)
def mgZ (c : Cfg) (h : Nat → Hq) (b : Nat) : Nat → List AC := fun i => if i < 0 + Int.toNat (Option.getD none ((Int.toNat (Cfg.nodes c) : Nat) : Int) - Option.getD (some (Int.ofNat b)) (Int.ofNat 0)) then if i < 0 then [] else elt ⟨true, true, 65, 56, .arr (Int.toNat (Cfg.nodes c)) fun k => List.map AC.v ((fun j => hqC (h j)) k)⟩ (0 + Int.toNat (Option.getD (some (Int.ofNat b)) (Int.ofNat 0))) 0 56 (i - 0) else elt ⟨true, true, 65, 56, .arr (Int.toNat (Cfg.nodes c)) fun k => List.map AC.v ((fun j => hqC (h j)) k)⟩ 0 0 56 (i - (0 + Int.toNat (Option.getD none ((Int.toNat (Cfg.nodes c) : Nat) : Int) - Option.getD (some (Int.ofNat b)) (Int.ofNat 0))))
def mgQ (c : Cfg) (b : Nat) : Nat := 0 + Int.toNat (Option.getD none ((Int.toNat (Cfg.nodes c) : Nat) : Int) - Option.getD (some (Int.ofNat b)) (Int.ofNat 0)) + Int.toNat (Option.getD (some (Int.ofNat b)) ((Int.toNat (Cfg.nodes c) : Nat) : Int) - Int.ofNat 0)
abbrev mgN1 (c : Cfg) (b : Nat) (f g : Nat → Hq) : NetHS := ⟨c, c.nodes.toNat, pairF c (2 * c.np), c.nodes.toNat, mgX b f g⟩
abbrev mgN2 (c : Cfg) (h : Nat → Hq) : NetHS := ⟨c, c.nodes.toNat, pairF c (2 * c.np), c.nodes.toNat, fun k => hqL (h k)⟩
abbrev mgN3 (c : Cfg) (h : Nat → Hq) (b : Nat) : NetHS := ⟨c, c.nodes.toNat, pairF c (2 * c.np), mgQ c b, mgZ c h b⟩
def mgB1 (c : Cfg) (b : Nat) (f g : Nat → Hq) : Vw := bsV c c.nodes.toNat (pairF c (2 * c.np)) c.nodes.toNat (mgX b f g)
def mgB2 (c : Cfg) (h : Nat → Hq) : Vw := bsV c c.nodes.toNat (pairF c (2 * c.np)) c.nodes.toNat (fun k => hqL (h k))
def mgB3 (c : Cfg) (h : Nat → Hq) (b : Nat) : Vw := bsV c c.nodes.toNat (pairF c (2 * c.np)) (mgQ c b) (mgZ c h b)
theorem mh0 (c : Cfg) (n b : Nat) (f h : Nat → Hq) (k : Nat) (Q : VC → Prop) (H : let zz0 := (f (0 + Int.toNat (Int.tmod (Int.ofNat k) ↑n))); let zz1 := (ABlk.mk true false 87 0 (Cs.lit [AC.v (Value.int IntKind.i64 (Cfg.nodes c)), AC.sl 16 0 0 (Cfg.np c) (some (Cfg.np c)), AC.sl 17 0 0 (Cfg.ns c) (some (Cfg.ns c)), AC.v (Value.int IntKind.i64 (Cfg.long c)), AC.sl 18 0 0 (Cfg.nb c) (some (Cfg.nb c)), AC.sl 19 0 0 (Cfg.nt c) (some (Cfg.nt c)), AC.v (Value.int IntKind.i64 (Cfg.miss c)), AC.v (Value.int IntKind.i64 (Cfg.good c)), AC.v (Value.int IntKind.i64 (Cfg.fresh c)), AC.sl 15 0 0 (Int.toNat (Cfg.nodes c)) none])); let zz2 := (ABlk.mk true true 91 3 (Cs.arr (Cfg.nt c) fun k => List.map AC.v ((fun i => [Value.int IntKind.i64 (Station.node (Cfg.ft c i)), Value.int IntKind.u32 (Station.safe (Cfg.ft c i)), Value.int IntKind.i64 (Station.hold (Cfg.ft c i))]) k))); (((decide (Int.ofNat k < ↑(Int.toNat (c.nodes)))) = true → Q (Exit.normal, [some (lkA (List.zip mhH (mhV c n b k)) 2), some (lkA (List.zip mhH (mhV c n b k)) 7), some (lkA (List.zip mhH (mhV c n b k)) 9), some (lkA (List.zip mhH (mhV c n b k)) 12), some (.c (.v (.int .i64 (IntKind.wrap .i64 (Int.ofNat k + Int.ofNat 1)))))], [some (ABlk.mk false false 139 0 (Cs.lit [.v (.int .i64 (Int.ofNat 1)), .v (.int .i64 (Int.negSucc 0))])), some (ABlk.mk false false 65 56 (Cs.arr n fun k => List.map AC.v ((fun k => hqC (f k)) k))), some zz1, some (ABlk.mk true true 3 1 (Cs.arr (Int.toNat (c.nodes)) fun k => List.map AC.v ((fun i => [Value.int .i64 (pairF c (2 * c.np) i)]) k))), some (ABlk.mk true true 3 1 (Cs.arr (c.np) fun k => List.map AC.v ((fun i => [Value.int .i64 (c.fp i)]) k))), some (ABlk.mk true true 3 1 (Cs.arr (c.ns) fun k => List.map AC.v ((fun i => [Value.int .i64 (c.fs i)]) k))), some (ABlk.mk true true 3 1 (Cs.arr (c.nb) fun k => List.map AC.v ((fun i => [Value.int .i64 (c.fb i)]) k))), some zz2, some (ABlk.mk true true 65 56 (Cs.arr (Int.toNat (c.nodes)) fun i => if i = 0 + Int.toNat (Int.ofNat k) then setL ((fun k => List.map AC.v ((fun j => hqC (h j)) k)) i) 0 [.v (.bool (Hq.is zz0)), .v (.int .i64 (Hq.age zz0)), .v (.bool (Hq.ob zz0)), .v (.int .i64 (Hq.oa zz0)), .v (.int .u8 (Hq.ok zz0)), .v (.int .u8 (Hq.os zz0)), .v (.int .u32 (Hq.oq zz0)), .v (.int .u32 (Hq.ov zz0)), .v (.bool (Hq.rb zz0)), .v (.int .i64 (Hq.ra zz0)), .v (.int .u8 (Hq.rk zz0)), .v (.int .u8 (Hq.rs zz0)), .v (.int .u32 (Hq.rq zz0)), .v (.int .u32 (Hq.rv zz0)), .v (.bool (Vw.inn (Hq.u zz0) 0)), .v (.bool (Vw.inn (Hq.u zz0) 1)), .v (.bool (Vw.inn (Hq.u zz0) 2)), .v (.bool (Vw.inn (Hq.u zz0) 3)), .v (.bool (Vw.inn (Hq.u zz0) 4)), .v (.bool (Vw.inn (Hq.u zz0) 5)), .v (.bool (Vw.inn (Hq.u zz0) 6)), .v (.bool (Vw.inn (Hq.u zz0) 7)), .v (.int .u8 (Vw.miss (Hq.u zz0) 0)), .v (.int .u8 (Vw.miss (Hq.u zz0) 1)), .v (.int .u8 (Vw.miss (Hq.u zz0) 2)), .v (.int .u8 (Vw.miss (Hq.u zz0) 3)), .v (.int .u8 (Vw.miss (Hq.u zz0) 4)), .v (.int .u8 (Vw.miss (Hq.u zz0) 5)), .v (.int .u8 (Vw.miss (Hq.u zz0) 6)), .v (.int .u8 (Vw.miss (Hq.u zz0) 7)), .v (.int .u8 (Vw.good (Hq.u zz0) 0)), .v (.int .u8 (Vw.good (Hq.u zz0) 1)), .v (.int .u8 (Vw.good (Hq.u zz0) 2)), .v (.int .u8 (Vw.good (Hq.u zz0) 3)), .v (.int .u8 (Vw.good (Hq.u zz0) 4)), .v (.int .u8 (Vw.good (Hq.u zz0) 5)), .v (.int .u8 (Vw.good (Hq.u zz0) 6)), .v (.int .u8 (Vw.good (Hq.u zz0) 7)), .v (.int .u16 (Vw.score (Hq.u zz0) 0)), .v (.int .u16 (Vw.score (Hq.u zz0) 1)), .v (.int .u16 (Vw.score (Hq.u zz0) 2)), .v (.int .u16 (Vw.score (Hq.u zz0) 3)), .v (.int .u16 (Vw.score (Hq.u zz0) 4)), .v (.int .u16 (Vw.score (Hq.u zz0) 5)), .v (.int .u16 (Vw.score (Hq.u zz0) 6)), .v (.int .u16 (Vw.score (Hq.u zz0) 7)), .v (.bool (Vw.got (Hq.u zz0) 0)), .v (.bool (Vw.got (Hq.u zz0) 1)), .v (.bool (Vw.got (Hq.u zz0) 2)), .v (.bool (Vw.got (Hq.u zz0) 3)), .v (.bool (Vw.got (Hq.u zz0) 4)), .v (.bool (Vw.got (Hq.u zz0) 5)), .v (.bool (Vw.got (Hq.u zz0) 6)), .v (.bool (Vw.got (Hq.u zz0) 7)), .v (.int .i8 (Vw.command (Hq.u zz0))), .v (.int .u8 (Vw.mode (Hq.u zz0)))] else List.map AC.v ((fun j => hqC (h j)) i)))], 118, 1000000000000000000000000000000000000000000000000018, [ABlk.inb (ABlk.mk true true 65 56 (Cs.arr (Int.toNat (c.nodes)) fun k => List.map AC.v ((fun j => hqC (h j)) k))) (0 + Int.toNat (Int.ofNat k)) 56, decide (Int.ofNat 0 ≤ Int.ofNat k ∧ Int.ofNat k < ↑(Int.toNat (c.nodes))), ABlk.inb (ABlk.mk false false 65 56 (Cs.arr n fun k => List.map AC.v ((fun k => hqC (f k)) k))) (0 + Int.toNat (Int.tmod (Int.ofNat k) ↑n)) 56, true, true, true, true, true, true, true, true, true, true, true, true, true, true, true, true, true, true, true, true, true, true, true, true, true, true, true, true, true, true, true, true, true, true, true, true, true, true, true, true, true, true, true, true, true, true, true, true, true, true, true, true, true, true, true, true, decide (Int.ofNat 0 ≤ Int.tmod (Int.ofNat k) ↑n ∧ Int.tmod (Int.ofNat k) (Int.ofNat n) < ↑n), decide (↑n ≠ Int.ofNat 0), decide (Int.ofNat k < ↑(Int.toNat (c.nodes))) == true], [])) ∧ ((decide (Int.ofNat k < ↑(Int.toNat (c.nodes)))) = false → Q (Exit.exit 2, [some (lkA (List.zip mhH (mhV c n b k)) 2), some (lkA (List.zip mhH (mhV c n b k)) 7), some (lkA (List.zip mhH (mhV c n b k)) 9), some (lkA (List.zip mhH (mhV c n b k)) 12), some (lkA (List.zip mhH (mhV c n b k)) 13)], [some (ABlk.mk false false 139 0 (Cs.lit [.v (.int .i64 (Int.ofNat 1)), .v (.int .i64 (Int.negSucc 0))])), some (ABlk.mk false false 65 56 (Cs.arr n fun k => List.map AC.v ((fun k => hqC (f k)) k))), some zz1, some (ABlk.mk true true 3 1 (Cs.arr (Int.toNat (c.nodes)) fun k => List.map AC.v ((fun i => [Value.int .i64 (pairF c (2 * c.np) i)]) k))), some (ABlk.mk true true 3 1 (Cs.arr (c.np) fun k => List.map AC.v ((fun i => [Value.int .i64 (c.fp i)]) k))), some (ABlk.mk true true 3 1 (Cs.arr (c.ns) fun k => List.map AC.v ((fun i => [Value.int .i64 (c.fs i)]) k))), some (ABlk.mk true true 3 1 (Cs.arr (c.nb) fun k => List.map AC.v ((fun i => [Value.int .i64 (c.fb i)]) k))), some zz2, some (ABlk.mk true true 65 56 (Cs.arr (Int.toNat (c.nodes)) fun k => List.map AC.v ((fun j => hqC (h j)) k)))], 118, 1000000000000000000000000000000000000000000000000004, [decide (Int.ofNat k < ↑(Int.toNat (c.nodes))) == false], [])))) :
 ∃ p r, mh0R Tryd.prog c n b f h k p = some r ∧ Q r :=
 two H
 (fun g1 => ⟨pD 1 1, _, by kernel_rfl, g1⟩)
 (fun g1 => ⟨pD 1 2, _, by kernel_rfl, g1⟩)
theorem mgD (err : Cfg → Int) (c : Cfg) (v : Vw) (n b : Nat) (f g h : Nat → Hq) (Q : VF → Prop) (H : let zz4 := (ABlk.mk false false 65 56 (Cs.arr n fun k => List.map AC.v ((fun k => hqC (f k)) k))); let zz6 := (ABlk.mk true false 87 0 (Cs.lit [AC.v (Value.int IntKind.i64 (Cfg.nodes c)), AC.sl 16 0 0 (Cfg.np c) (some (Cfg.np c)), AC.sl 17 0 0 (Cfg.ns c) (some (Cfg.ns c)), AC.v (Value.int IntKind.i64 (Cfg.long c)), AC.sl 18 0 0 (Cfg.nb c) (some (Cfg.nb c)), AC.sl 19 0 0 (Cfg.nt c) (some (Cfg.nt c)), AC.v (Value.int IntKind.i64 (Cfg.miss c)), AC.v (Value.int IntKind.i64 (Cfg.good c)), AC.v (Value.int IntKind.i64 (Cfg.fresh c)), AC.sl 15 0 0 (Int.toNat (Cfg.nodes c)) none])); let zz15 := (ABlk.mk true true 91 3 (Cs.arr (Cfg.nt c) fun k => List.map AC.v ((fun i => [Value.int IntKind.i64 (Station.node (Cfg.ft c i)), Value.int IntKind.u32 (Station.safe (Cfg.ft c i)), Value.int IntKind.i64 (Station.hold (Cfg.ft c i))]) k))); let zz2 := (ABlk.mk true true 65 56 (Cs.arr (Int.toNat (Cfg.nodes c)) fun x => List.map AC.v (Array.toList (Value.cells (Value.agg #[Value.bool false, Value.int IntKind.i64 0, Value.bool false, Value.int IntKind.i64 0, Value.int IntKind.u8 0, Value.int IntKind.u8 0, Value.int IntKind.u32 0, Value.int IntKind.u32 0, Value.bool false, Value.int IntKind.i64 0, Value.int IntKind.u8 0, Value.int IntKind.u8 0, Value.int IntKind.u32 0, Value.int IntKind.u32 0, Value.bool false, Value.bool false, Value.bool false, Value.bool false, Value.bool false, Value.bool false, Value.bool false, Value.bool false, Value.int IntKind.u8 0, Value.int IntKind.u8 0, Value.int IntKind.u8 0, Value.int IntKind.u8 0, Value.int IntKind.u8 0, Value.int IntKind.u8 0, Value.int IntKind.u8 0, Value.int IntKind.u8 0, Value.int IntKind.u8 0, Value.int IntKind.u8 0, Value.int IntKind.u8 0, Value.int IntKind.u8 0, Value.int IntKind.u8 0, Value.int IntKind.u8 0, Value.int IntKind.u8 0, Value.int IntKind.u8 0, Value.int IntKind.u16 0, Value.int IntKind.u16 0, Value.int IntKind.u16 0, Value.int IntKind.u16 0, Value.int IntKind.u16 0, Value.int IntKind.u16 0, Value.int IntKind.u16 0, Value.int IntKind.u16 0, Value.bool false, Value.bool false, Value.bool false, Value.bool false, Value.bool false, Value.bool false, Value.bool false, Value.bool false, Value.int IntKind.i8 0, Value.int IntKind.u8 0]))))); let zz8 := [some (AV.c (AC.sl 4 0 0 n none)), some (AV.c (AC.ptr 10 0 0)), some (AV.c (AC.ptr 11 0 0)), some (AV.c (AC.ptr 14 0 0)), some (AV.c (AC.v (Value.int IntKind.i64 (IntKind.wrap IntKind.i64 (Int.tmod (Hq.ov (f 0)) (IntKind.wrap IntKind.u32 (Cfg.nodes c))))))), some (AV.c (AC.sl 130000000000000000000000000000000000000039 0 0 (Int.toNat (Cfg.nodes c)) none)), some (AV.c (AC.v (Value.int IntKind.i64 (Int.ofNat 0))))]; let zz1 := [some (ABlk.mk false false 139 0 (Cs.lit [AC.v (Value.int IntKind.i64 (Int.ofNat 1)), AC.v (Value.int IntKind.i64 (Int.negSucc 0))])), some zz4, some (ABlk.mk true false 25 0 (Cs.lit [AC.v (Value.int IntKind.i64 (Cfg.nodes c)), AC.sl 0 0 0 (Cfg.np c) none, AC.sl 1 0 0 (Cfg.ns c) none, AC.v (Value.int IntKind.i64 (Cfg.long c)), AC.sl 2 0 0 (Cfg.nb c) none, AC.sl 3 0 0 (Cfg.nt c) none, AC.v (Value.int IntKind.i64 (Cfg.miss c)), AC.v (Value.int IntKind.i64 (Cfg.good c)), AC.v (Value.int IntKind.i64 (Cfg.fresh c))])), some (ABlk.mk true false 61 0 (Cs.lit (vwL v))), some zz6, some (ABlk.mk true true 3 1 (Cs.arr (Int.toNat (Cfg.nodes c)) fun k => List.map AC.v ((fun i => [Value.int IntKind.i64 (pairF c (2 * Cfg.np c) i)]) k))), some (ABlk.mk true true 3 1 (Cs.arr (Cfg.np c) fun k => List.map AC.v ((fun i => [Value.int IntKind.i64 (Cfg.fp c i)]) k))), some (ABlk.mk true true 3 1 (Cs.arr (Cfg.ns c) fun k => List.map AC.v ((fun i => [Value.int IntKind.i64 (Cfg.fs c i)]) k))), some (ABlk.mk true true 3 1 (Cs.arr (Cfg.nb c) fun k => List.map AC.v ((fun i => [Value.int IntKind.i64 (Cfg.fb c i)]) k))), some zz15, some zz2]; let zz0 := [LoopV Tryd.prog (loopAt Tryd.prog 6 1) mhH mhI [some (AV.c (AC.sl 4 0 0 n none)), some (AV.c (AC.ptr 14 0 0)), some (AV.c (AC.v (Value.int IntKind.i64 (Int.ofNat b)))), some (AV.c (AC.sl 100000000100000000000000000000000000000000000000009 0 0 (Int.toNat (Cfg.nodes c)) none)), some (AV.c (AC.v (Value.int IntKind.i64 (Int.ofNat 0))))] [some (ABlk.mk false false 139 0 (Cs.lit [AC.v (Value.int IntKind.i64 (Int.ofNat 1)), AC.v (Value.int IntKind.i64 (Int.negSucc 0))])), some zz4, some zz6, some (ABlk.mk true true 3 1 (Cs.arr (Int.toNat (Cfg.nodes c)) fun k => List.map AC.v ((fun i => [Value.int IntKind.i64 (pairF c (2 * Cfg.np c) i)]) k))), some (ABlk.mk true true 3 1 (Cs.arr (Cfg.np c) fun k => List.map AC.v ((fun i => [Value.int IntKind.i64 (Cfg.fp c i)]) k))), some (ABlk.mk true true 3 1 (Cs.arr (Cfg.ns c) fun k => List.map AC.v ((fun i => [Value.int IntKind.i64 (Cfg.fs c i)]) k))), some (ABlk.mk true true 3 1 (Cs.arr (Cfg.nb c) fun k => List.map AC.v ((fun i => [Value.int IntKind.i64 (Cfg.fb c i)]) k))), some zz15, some zz2] 118 100000000100000000000000000000000000000000000000012 (mkFr 118 (mhO c b)) (List.zip mhI (mhB c n f h)) 10000000000000000000000000000000000000000000000000000 (Exit.exit 2) none, LoopV Tryd.prog (loopAt Tryd.prog 6 0) mgH mgI zz8 zz1 118 130000000000000000000000000000000000000042 (mkFr 118 (mgO c n b)) (List.zip mgI (mgB c v n f g)) 100000000000000000000000000000000000000000000000000 (Exit.exit 0) none]; let zz3 := (Option.getD none ↑(Int.toNat (Cfg.nodes c)) - Option.getD (some (Int.ofNat b)) (Int.ofNat 0)); let zz5 := (ABlk.mk true true 65 56 (Cs.arr (Int.toNat (Cfg.nodes c)) fun k => List.map AC.v ((fun j => hqC (g j)) k))); let zz7 := (Option.getD (some (Int.ofNat b)) (Int.ofNat 0) = Int.ofNat 0 ∨ Option.getD (some (Int.ofNat b)) (Int.ofNat 0) < slC none (Int.toNat (Cfg.nodes c)) none); let zz9 := (Int.toNat (Cfg.nodes c) ≤ Int.toNat (Cfg.nodes c)); let zz10 := (0 + Int.toNat (Option.getD (some (Int.ofNat b)) ↑(Int.toNat (Cfg.nodes c)) - Int.ofNat 0) ≤ Int.toNat (Cfg.nodes c)); let zz11 := (ABlk.mk true true 65 56 (Cs.arr (Int.toNat (Cfg.nodes c)) fun k => List.map AC.v ((fun j => hqC (h j)) k))); let zz12 := (0 + Int.toNat (Option.getD (some (Int.ofNat b)) (Int.ofNat 0)) + Int.toNat zz3 ≤ Int.toNat (Cfg.nodes c)); let zz13 := (IntKind.wrap IntKind.u32 (Cfg.nodes c) ≠ Int.ofNat 0); let zz14 := (slC none (Int.toNat (Cfg.nodes c)) none ≤ ↑(Option.getD none (Int.toNat (Cfg.nodes c)))); let zz16 := (mayB c (Int.toNat (Cfg.nodes c)) (pairF c (2 * Cfg.np c)) (vwL (mgB2 c h))); let zt : List Bool → List Bool := fun l => true :: true :: true :: true :: true :: true :: true :: true :: l; let zu : List Bool → List Bool := fun l => zt (zt (zt (zt l))); let zq0 : List Bool := (netK c (Int.toNat (c.nodes)) (pairF c (2 * c.np))) :: (zu (zt (true :: true :: true :: true :: ((ABlk.inb zz5 (0 + Int.toNat (Int.ofNat b)) 56) :: (decide (Int.ofNat 0 ≤ Int.ofNat b ∧ Int.ofNat b < ↑(Int.toNat (c.nodes)))) :: (ABlk.inb zz4 0 56) :: (zu (zt (zt (zt ((decide (Int.ofNat 0 ≤ Int.ofNat 0 ∧ Int.ofNat 0 < ↑n)) :: (decide (Int.ofNat 0 ≤ c.nodes ∧ c.nodes = c.nodes ∧ c.nodes * Int.ofNat 136 ≤ Int.ofNat 140737488355328)) :: true :: true :: (decide zz13) :: true :: true :: (ABlk.inb zz4 0 8) :: true :: (decide (Int.ofNat 0 ≤ Int.ofNat 0 ∧ Int.ofNat 0 < ↑n)) :: (decide (↑n > Int.ofNat 20) == false) :: ((↑n == Int.ofNat 0) == false) :: (cfgK c) :: (decide (c.nb ≤ 9223372036854775807)) :: (decide (err c = Int.ofNat 0)) :: true :: true :: true :: true :: true :: true :: []))))))))); let zq1 : List Bool := zu (zu (zu (zt (zt (zt (true :: true :: true :: true :: true :: true :: true :: ((netK c (Int.toNat (c.nodes)) (pairF c (2 * c.np)) && (decide zz9 && (true && heldsB (Int.toNat (c.nodes)) (mgX b f g)))) :: (bsP (mgN1 c b f g)) :: (mayB c (Int.toNat (c.nodes)) (pairF c (2 * c.np)) (vwL v) == true) :: zq0))))))); let zq2 : List Bool := (netK c (Int.toNat (c.nodes)) (pairF c (2 * c.np))) :: (zu (zt (true :: true :: true :: true :: true :: ((netK c (Int.toNat (c.nodes)) (pairF c (2 * c.np)) && (decide zz9 && (true && heldsB (Int.toNat (c.nodes)) fun k => List.map AC.v ((fun j => hqC (h j)) k)))) :: (bsP (mgN2 c h)) :: (decide (Int.ofNat 0 ≤ c.nodes ∧ c.nodes = c.nodes ∧ c.nodes * Int.ofNat 136 ≤ Int.ofNat 140737488355328)) :: true :: true :: ((!eqF vwKs (vwL (mgB1 c b f g)) (vwL v)) == false) :: zq1)))); let zq3 : List Bool := zu (zu (zu (zt (zt (zt (true :: true :: true :: true :: true :: true :: true :: ((netK c (Int.toNat (c.nodes)) (pairF c (2 * c.np)) && (decide ((mgQ c b) ≤ (mgQ c b)) && (true && heldsB (mgQ c b) (mgZ c h b)))) :: (bsP (mgN3 c h b)) :: (decide zz10) :: true :: (decide (0 + Int.toNat zz3 ≤ 0 + Int.toNat zz3)) :: (decide ((mgQ c b) * 136 ≤ 140737488355328)) :: true :: (decide (Int.ofNat 0 ≤ Int.ofNat 0 ∧ Int.ofNat 0 ≤ Option.getD (some (Int.ofNat b)) ↑(Int.toNat (c.nodes)) ∧ Option.getD (some (Int.ofNat b)) (Int.ofNat (Int.toNat (c.nodes))) ≤ ↑(Int.toNat (c.nodes) - 0))) :: true :: (decide (Int.toNat (c.nodes) = 0 ∨ 0 < Int.toNat (c.nodes))) :: (decide zz12) :: (decide (Int.toNat zz3 * 136 ≤ 140737488355328)) :: (decide (Int.ofNat 0 ≤ Option.getD (some (Int.ofNat b)) (Int.ofNat 0) ∧ Option.getD (some (Int.ofNat b)) (Int.ofNat 0) ≤ Option.getD none ↑(Int.toNat (c.nodes)) ∧ Option.getD none ↑(Int.toNat (c.nodes)) ≤ slC none (Int.toNat (c.nodes)) none)) :: (decide zz7) :: (decide zz14) :: true :: (slRow none zz11 0 (Int.toNat (c.nodes))) :: (mayB c (Int.toNat (c.nodes)) (pairF c (2 * c.np)) (vwL (mgB2 c h)) == true) :: zq2))))))); let zq4 : List Bool := (netK c (Int.toNat (c.nodes)) (pairF c (2 * c.np))) :: (zu (zt (true :: true :: true :: true :: true :: ((netK c (Int.toNat (c.nodes)) (pairF c (2 * c.np)) && (decide zz9 && (true && heldsB (Int.toNat (c.nodes)) fun k => List.map AC.v ((fun j => hqC (h j)) k)))) :: (bsP (mgN2 c h)) :: (decide (Int.ofNat 0 ≤ c.nodes ∧ c.nodes = c.nodes ∧ c.nodes * Int.ofNat 136 ≤ Int.ofNat 140737488355328)) :: true :: true :: (mayB c (Int.toNat (c.nodes)) (pairF c (2 * c.np)) (vwL v) == false) :: zq0)))); let zq5 : List Bool := zu (zu (zu (zt (zt (zt (true :: true :: true :: true :: true :: true :: true :: ((netK c (Int.toNat (c.nodes)) (pairF c (2 * c.np)) && (decide ((mgQ c b) ≤ (mgQ c b)) && (true && heldsB (mgQ c b) (mgZ c h b)))) :: (bsP (mgN3 c h b)) :: (decide zz10) :: true :: (decide (0 + Int.toNat zz3 ≤ 0 + Int.toNat zz3)) :: (decide ((mgQ c b) * 136 ≤ 140737488355328)) :: true :: (decide (Int.ofNat 0 ≤ Int.ofNat 0 ∧ Int.ofNat 0 ≤ Option.getD (some (Int.ofNat b)) ↑(Int.toNat (c.nodes)) ∧ Option.getD (some (Int.ofNat b)) (Int.ofNat (Int.toNat (c.nodes))) ≤ ↑(Int.toNat (c.nodes) - 0))) :: true :: (decide (Int.toNat (c.nodes) = 0 ∨ 0 < Int.toNat (c.nodes))) :: (decide zz12) :: (decide (Int.toNat zz3 * 136 ≤ 140737488355328)) :: (decide (Int.ofNat 0 ≤ Option.getD (some (Int.ofNat b)) (Int.ofNat 0) ∧ Option.getD (some (Int.ofNat b)) (Int.ofNat 0) ≤ Option.getD none ↑(Int.toNat (c.nodes)) ∧ Option.getD none ↑(Int.toNat (c.nodes)) ≤ slC none (Int.toNat (c.nodes)) none)) :: (decide zz7) :: (decide zz14) :: true :: (slRow none zz11 0 (Int.toNat (c.nodes))) :: (mayB c (Int.toNat (c.nodes)) (pairF c (2 * c.np)) (vwL (mgB2 c h)) == true) :: zq4))))))); (((mayB c (Int.toNat (c.nodes)) (pairF c (2 * c.np)) (vwL v)) = true → (((!eqF vwKs (vwL (mgB1 c b f g)) (vwL v)) = true → Q (.c (.v (.bool false)), [], 100000000100000000000000000000000000000000000000008, (((!eqF vwKs (vwL (mgB1 c b f g)) (vwL v)) == true) :: zq1), [LoopV Tryd.prog (loopAt Tryd.prog 6 0) mgH mgI zz8 zz1 118 130000000000000000000000000000000000000042 (mkFr 118 (mgO c n b)) (List.zip mgI (mgB c v n f g)) 100000000000000000000000000000000000000000000000000 (Exit.exit 0) none])) ∧ ((!eqF vwKs (vwL (mgB1 c b f g)) (vwL v)) = false → ((zz16 = true → (((eqF vwKs (vwL (mgB3 c h b)) (vwL (mgB2 c h))) = true → Q (.c (.v (.bool true)), [], 10000000000210000000000000000000000000000000000000004, ((eqF vwKs (vwL (mgB3 c h b)) (vwL (mgB2 c h)) == true) :: zq3), zz0)) ∧ ((eqF vwKs (vwL (mgB3 c h b)) (vwL (mgB2 c h))) = false → Q (.c (.v (.bool false)), [], 10000000000210000000000000000000000000000000000000004, ((eqF vwKs (vwL (mgB3 c h b)) (vwL (mgB2 c h)) == false) :: zq3), zz0)))) ∧ (zz16 = false → Q (.c (.v (.bool false)), [], 10000000000210000000000000000000000000000000000000004, ((mayB c (Int.toNat (c.nodes)) (pairF c (2 * c.np)) (vwL (mgB2 c h)) == false) :: zq2), zz0)))))) ∧ ((mayB c (Int.toNat (c.nodes)) (pairF c (2 * c.np)) (vwL v)) = false → ((zz16 = true → (((eqF vwKs (vwL (mgB3 c h b)) (vwL (mgB2 c h))) = true → Q (.c (.v (.bool true)), [], 10000000000210000000000000000000000000000000000000004, ((eqF vwKs (vwL (mgB3 c h b)) (vwL (mgB2 c h)) == true) :: zq5), zz0)) ∧ ((eqF vwKs (vwL (mgB3 c h b)) (vwL (mgB2 c h))) = false → Q (.c (.v (.bool false)), [], 10000000000210000000000000000000000000000000000000004, ((eqF vwKs (vwL (mgB3 c h b)) (vwL (mgB2 c h)) == false) :: zq5), zz0)))) ∧ (zz16 = false → Q (.c (.v (.bool false)), [], 10000000000210000000000000000000000000000000000000004, ((mayB c (Int.toNat (c.nodes)) (pairF c (2 * c.np)) (vwL (mgB2 c h)) == false) :: zq4), zz0)))))) :
 ∃ p r, mgW (ENl0 Tryd.prog err ctsMg) c v n f p [some (mgS c v n b f g), some (mhS c n b f h)] = some r ∧ Q r :=
 two H
 (fun g1 => two g1
  (fun g2 => ⟨pD 13 535140, _, by kernel_rfl, g2⟩)
  (fun g2 => two g2
   (fun g3 => two g3
    (fun g4 => ⟨pD 26 847291270347, _, by kernel_rfl, g4⟩)
    (fun g4 => ⟨pD 26 1694579879790, _, by kernel_rfl, g4⟩))
   (fun g3 => ⟨pD 26 4255227, _, by kernel_rfl, g3⟩)))
 (fun g1 => two g1
  (fun g2 => two g2
   (fun g3 => ⟨pD 26 847290209652, _, by kernel_rfl, g3⟩)
   (fun g3 => ⟨pD 26 1694578819095, _, by kernel_rfl, g3⟩))
  (fun g2 => ⟨pD 26 3194532, _, by kernel_rfl, g2⟩))
end Go.Proofs.YtgdoojlfbebaaaaDoor
end
/- MembersAgree: plain facts on bases. -/
section
namespace Go.Proofs.YtgdoojlfbebaaaaDoor
open Go.RowKit
theorem turn_perm {α : Type} {n k : Nat} (e : Nat → α) (hk : k ≤ n) (f : Nat → α) (h1 : ∀ i, i < n - k → f i = e (k + i)) (h2 : ∀ i, n - k ≤ i → i < n → f i = e (i - (n - k))) : ((List.range n).map e).Perm ((List.range n).map f) := by
 have l1 : (List.range n).map f = (List.range (n - k)).map (fun i => e (k + i)) ++ (List.range k).map e := by
  refine List.ext_getElem (by simp; omega) fun i g1 g2 => ?_
  simp only [List.length_map, List.length_range] at g1
  rw [List.getElem_map, List.getElem_range]
  by_cases hi : i < n - k
  · rw [List.getElem_append_left (by simpa using hi)]
    simp [h1 i hi]
  · rw [List.getElem_append_right (by simpa using Nat.le_of_not_lt hi)]
    simp [h2 i (by omega) g1]
 have l2 : (List.range n).map e = (List.range k).map e ++ (List.range (n - k)).map (fun i => e (k + i)) := by
  refine List.ext_getElem (by simp; omega) fun i g1 g2 => ?_
  simp only [List.length_map, List.length_range] at g1
  rw [List.getElem_map, List.getElem_range]
  by_cases hi : i < k
  · rw [List.getElem_append_left (by simpa using hi)]
    simp
  · rw [List.getElem_append_right (by simpa using Nat.le_of_not_lt hi)]
    simp only [List.length_map, List.length_range, List.getElem_map, List.getElem_range]
    congr 1
    omega
 rw [l1, l2]
 exact List.perm_append_comm
theorem viewsA_map (may : List AC → Bool) (fst : List AC) (n : Nat) (F : Nat → List AC) : viewsA may fst n F = ((List.range n).map F).filterMap (heldV may fst) := by
 unfold viewsA
 rw [List.filterMap_map]
 rfl
theorem fstV_ok (c : Cfg) (nq : Nat) (fq : Nat → Int) : VwOk (vwL (fstV c nq fq)) := by
 refine ⟨fstV c nq fq, ⟨fun i _ => ?_, fun i _ => ?_, fun i _ => ?_, ?_, ?_⟩, rfl⟩
 all_goals (simp [fstV])
theorem views_ok {may : List AC → Bool} {fst : List AC} (hf : VwOk fst) {n N : Nat} {F : Nat → List AC} (hF : heldsB n F = true) (hN : N ≤ n) : ∀ x ∈ viewsA may fst N F, VwOk x :=
 viewsA_ok hf fun k hk => by
  obtain ⟨v, h1, h2, _⟩ := hq_view (heldsB_at hF (show k < n by omega))
  exact ⟨v, h1, h2⟩
theorem base_ok {may : List AC → Bool} {fst : List AC} (hf : VwOk fst) {n N : Nat} {F : Nat → List AC} (hF : heldsB n F = true) (hN : N ≤ n) : VwOk (baseA may fst N F) := by
 rcases baseL_mem less_irr less_tr eqL_refl (first := fst) (viewsA may fst N F) with h | h
 · unfold baseA; rw [h]; exact hf
 · exact views_ok hf hF hN _ h
theorem bs_eq (c : Cfg) (nq : Nat) (fq : Nat → Int) {n : Nat} {F : Nat → List AC} (hF : heldsB n F = true) : vwL (bsV c nq fq n F) = baseA (mayB c nq fq) (vwL (fstV c nq fq)) (min n c.nodes.toNat) F := by
 obtain ⟨v, _, hv⟩ := base_ok (may := mayB c nq fq) (fstV_ok c nq fq) hF (Nat.min_le_left n c.nodes.toNat)
 unfold bsV
 rw [hv]
 rfl
theorem base_perm {may : List AC → Bool} {fst : List AC} (hf : VwOk fst) {n N : Nat} {F G : Nat → List AC} (hF : heldsB n F = true) (hN : N ≤ n) (hp : ((List.range N).map F).Perm ((List.range N).map G)) : baseA may fst N G = baseA may fst N F := by
 unfold baseA
 refine baseL_perm less_irr less_tr eqL_refl (fun a c h1 h2 => less_tot (views_ok hf hF hN a h1) (views_ok hf hF hN c h2)) ?_
 rw [viewsA_map, viewsA_map]
 exact hp.filterMap _
theorem base_may {may : List AC → Bool} {fst : List AC} (h : may fst = true) (N : Nat) (F : Nat → List AC) : may (baseA may fst N F) = true := by
 rcases baseL_mem less_irr less_tr eqL_refl (first := fst) (viewsA may fst N F) with e | e
 · unfold baseA; rw [e]; exact h
 · unfold baseA
   obtain ⟨k, _, hk⟩ := List.mem_filterMap.1 e
   generalize baseL lessL eqL fst (viewsA may fst N F) = x at hk
   unfold heldV at hk
   split at hk
   · rename_i hi
     simp only [Option.some.injEq] at hk
     subst hk
     cases hm : may (vwA (F k))
     · exact h
     · exact hm
   · cases hk
theorem may_first {c : Cfg} (g : CfgGood c) {nq : Nat} (hq : 0 < nq) (fq : Nat → Int) : mayB c nq fq (vwL (fstV c nq fq)) = true := by
 have hv : (fstV c nq fq).Ok := by
  refine ⟨fun i _ => ?_, fun i _ => ?_, fun i _ => ?_, ?_, ?_⟩
  all_goals (simp [fstV])
 have e : fstV c nq fq = rfV c.np := by
  unfold fstV rfV
  rw [has_np g hq]
 rw [may_eq g hq fq hv, e]
 have e1 : rmayB c.np (vwL (rfV c.np)) = (rmayH c.np 0 0 && mayL (npB c.np) (vwL (rfV c.np))) := rfl
 rw [e1, Bool.and_eq_true]
 refine ⟨?_, (mayL_iff _ _).2 fun p hp => ?_⟩
 · have h2 := g.p2
   have w : IntKind.wrap .i64 0 = 0 := by rfl
   unfold rmayH
   rw [w]
   simp
   omega
 · unfold mayP mOne rfV
   simp
theorem count_v {may : List AC → Bool} {fst : List AC} {u : List AC} (hu : may u = true) {b : Nat} {F : Nat → List AC} : ∀ {n : Nat}, (∀ k, k < n → k ≠ b → asB ((F k).getD 0 nov) = true ∧ vwA (F k) = u) → n ≤ cntL eqL (viewsA may fst n F) u + (if b < n then 1 else 0)
 | 0, _ => by omega
 | n + 1, h => by
  have ih := count_v hu (fst := fst) (n := n) (b := b) (F := F) fun k hk => h k (by omega)
  rw [viewsA_succ]
  by_cases hb : n = b
  · subst hb
    rw [if_pos (by omega)]
    rw [if_neg (by omega)] at ih
    cases hh : heldV may fst (F n) with
    | none => simpa using ih
    | some x =>
     show n + 1 ≤ cntL eqL (viewsA may fst n F ++ [x]) u + 1
     rw [cntL_snoc]
     omega
  · obtain ⟨h1, h2⟩ := h n (by omega) hb
    have hh : heldV may fst (F n) = some u := by unfold heldV; rw [h1, h2, hu]
    rw [hh]
    show n + 1 ≤ cntL eqL (viewsA may fst n F ++ [u]) u + _
    rw [cntL_snoc, eqL_refl]
    by_cases h3 : b < n
    · rw [if_pos h3] at ih
      rw [if_pos (by omega)]
      show n + 1 ≤ cntL eqL (viewsA may fst n F) u + 1 + 1
      omega
    · rw [if_neg h3] at ih
      rw [if_neg (by omega)]
      show n + 1 ≤ cntL eqL (viewsA may fst n F) u + 1 + 0
      omega
theorem count_x {may : List AC → Bool} {fst : List AC} {u x : List AC} (hu : may u = true) (hux : eqL u x = false) {b : Nat} {F : Nat → List AC} : ∀ {n : Nat}, (∀ k, k < n → k ≠ b → asB ((F k).getD 0 nov) = true ∧ vwA (F k) = u) → cntL eqL (viewsA may fst n F) x ≤ (if b < n then 1 else 0)
 | 0, _ => Nat.zero_le _
 | n + 1, h => by
  have ih := count_x hu hux (fst := fst) (n := n) (b := b) (F := F) fun k hk => h k (by omega)
  rw [viewsA_succ]
  by_cases hb : n = b
  · subst hb
    rw [if_pos (by omega)]
    rw [if_neg (by omega)] at ih
    cases hh : heldV may fst (F n) with
    | none => simp; omega
    | some y =>
     show cntL eqL (viewsA may fst n F ++ [y]) x ≤ 1
     rw [cntL_snoc]
     cases eqL y x
     · show cntL eqL (viewsA may fst n F) x + 0 ≤ 1
       omega
     · show cntL eqL (viewsA may fst n F) x + 1 ≤ 1
       omega
  · obtain ⟨h1, h2⟩ := h n (by omega) hb
    have hh : heldV may fst (F n) = some u := by unfold heldV; rw [h1, h2, hu]
    rw [hh]
    show cntL eqL (viewsA may fst n F ++ [u]) x ≤ _
    rw [cntL_snoc, hux]
    show cntL eqL (viewsA may fst n F) x + 0 ≤ _
    by_cases h3 : b < n
    · rw [if_pos h3] at ih
      rw [if_pos (by omega)]
      omega
    · rw [if_neg h3] at ih
      omega
theorem base_agree {may : List AC → Bool} {fst u : List AC} (hf : VwOk fst) (hu : may u = true) (huo : VwOk u) {b N : Nat} {F : Nat → List AC} (hF : heldsB N F = true) (hN : 4 ≤ N) (h : ∀ k, k < N → k ≠ b → asB ((F k).getD 0 nov) = true ∧ vwA (F k) = u) : baseA may fst N F = u := by
 have hv := count_v hu (fst := fst) h
 have ok := views_ok (may := may) hf hF (Nat.le_refl N)
 refine baseL_most less_irr less_tr eqL_refl (fun a c h1 h2 => less_tot (ok a h1) (ok c h2)) (fun x hx hne => ?_) ?_
 · have hux : eqL u x = false := by
    cases he : eqL u x with
    | false => rfl
    | true => exact absurd ((eqL_iff huo (ok x hx)).1 he).symm hne
   have := count_x hu hux (fst := fst) h
   split at hv <;> split at this <;> omega
 · have hpos : 0 < cntL eqL (viewsA may fst N F) u := by split at hv <;> omega
   obtain ⟨y, hy⟩ := List.exists_mem_of_length_pos hpos
   obtain ⟨h1, h2⟩ := List.mem_filter.1 hy
   rw [← (eqL_iff (ok y h1) huo).1 h2]
   exact h1
end Go.Proofs.YtgdoojlfbebaaaaDoor
end
/- MembersBase: the sums of its loops; its runs. -/
section
namespace Go.Proofs.YtgdoojlfbebaaaaDoor
open Go.RowKit
theorem good_gv {c : Cfg} (g : CfgGood c) : gvPre c c.nodes.toNat = true := by
 have := g.s16
 have := g.n16
 have := g.p8
 have := g.nt
 have := g.nb
 have := g.n4
 have := g.p2
 have := g.s1
 simp [gvPre]
 omega
theorem good_round {c : Cfg} (g : CfgGood c) : roundN c c.nodes.toNat ≠ 0 := by
 have hp : ckPre c c.nodes.toNat = true := by
  have := g.s1
  have := g.s16
  have := g.n4
  have := g.n16
  have := g.l1
  have := g.l4
  simp [ckPre]
  omega
 obtain ⟨e, r1, _⟩ := ck_round hp
 rw [e]
 omega
end Go.Proofs.YtgdoojlfbebaaaaDoor
end
/- MembersAgree: the sums of its loops; its runs. -/
section
namespace Go.Proofs.YtgdoojlfbebaaaaDoor
open Go.RowKit
def mgE1 (x : View) : Held := { Held.zero with is := true, cell := { Cell.zero with view := x } }
def mgU (x : View) (k j : Nat) : Hq := if j < k then hqOf (mgE1 x) else hqOf Held.zero
def mhU (f : Nat → Hq) (n k j : Nat) : Hq := if j < k then f (j % n) else hqOf Held.zero
theorem setL_all {l vs : List AC} (h : vs.length = l.length) : setL l 0 vs = vs := by
 refine List.ext_getElem? fun i => ?_
 rw [setL_get _ _ _ _ (by omega)]
 split
 · simp
 · rename_i hi
   rw [List.getElem?_eq_none (by omega), List.getElem?_eq_none (by omega)]
theorem mgU_ne (x : View) {k i : Nat} (h : i ≠ k) : mgU x (k + 1) i = mgU x k i := by
 unfold mgU
 by_cases h1 : i < k
 · rw [if_pos (by omega), if_pos h1]
 · rw [if_neg (by omega), if_neg h1]
theorem mhU_ne (f : Nat → Hq) (n : Nat) {k i : Nat} (h : i ≠ k) : mhU f n (k + 1) i = mhU f n k i := by
 unfold mhU
 by_cases h1 : i < k
 · rw [if_pos (by omega), if_pos h1]
 · rw [if_neg (by omega), if_neg h1]
theorem mgT_low {M N : Nat} {g : Nat → Hq} : lowB M (mgT N g) := wBlk_low
theorem netL14_low {N : Nat} {c : Cfg} (h : 20 < N) : ∀ b ∈ [netY 14 c, intsW c.nodes.toNat (pairF c (2 * c.np)), intsW c.np c.fp, intsW c.ns c.fs, intsW c.nb c.fb, stsW c.nt c.ft], lowB N b := by
 intro b hb
 simp only [List.mem_cons, List.not_mem_nil, or_false] at hb
 rcases hb with rfl | rfl | rfl | rfl | rfl | rfl
 · refine low_lit ?_
   have hc : ∀ i, i < 21 → Nat.blt i N = true := fun i h => by rw [Nat.blt_eq]; omega
   simp [lowC, hc, Nat.blt_eq]
   try omega
 all_goals exact wBlk_low
theorem mgB_low {N n : Nat} {c : Cfg} {v : Vw} {f g : Nat → Hq} (h : 20 < N) : ∀ b ∈ mgB c v n f g, lowB N b := by
 intro b hb
 have hb' : b ∈ [signB, rBlk 65 56 n fun k => hqC (f k), cfgB c, vwB v] ++ ([netY 14 c, intsW c.nodes.toNat (pairF c (2 * c.np)), intsW c.np c.fp, intsW c.ns c.fs, intsW c.nb c.fb, stsW c.nt c.ft] ++ [mgT c.nodes.toNat g]) := by simpa [mgB] using hb
 rcases List.mem_append.1 hb' with h1 | h1
 · simp only [List.mem_cons, List.not_mem_nil, or_false] at h1
   rcases h1 with rfl | rfl | rfl | rfl
   · exact low_lit rfl
   · exact rBlk_low
   · exact cfgB_low (by omega)
   · exact vwB_low
 · rcases List.mem_append.1 h1 with h2 | h2
   · exact netL14_low h b h2
   · rw [List.mem_singleton.1 h2]; exact mgT_low
theorem mhB_low {N n : Nat} {c : Cfg} {f h : Nat → Hq} (hN : 20 < N) : ∀ b ∈ mhB c n f h, lowB N b := by
 intro b hb
 have hb' : b ∈ [signB, rBlk 65 56 n fun k => hqC (f k)] ++ ([netY 14 c, intsW c.nodes.toNat (pairF c (2 * c.np)), intsW c.np c.fp, intsW c.ns c.fs, intsW c.nb c.fb, stsW c.nt c.ft] ++ [mgT c.nodes.toNat h]) := by simpa [mhB] using hb
 rcases List.mem_append.1 hb' with h1 | h1
 · simp only [List.mem_cons, List.not_mem_nil, or_false] at h1
   rcases h1 with rfl | rfl
   · exact low_lit rfl
   · exact rBlk_low
 · rcases List.mem_append.1 h1 with h2 | h2
   · exact netL14_low hN b h2
   · rw [List.mem_singleton.1 h2]; exact mgT_low
abbrev mg0N : Nat := 130000000000000000000000000000000000000042
abbrev mh0N : Nat := 100000000100000000000000000000000000000000000000012
set_option maxRecDepth 100000 in
theorem mg0_sum (c : Cfg) (x : View) (n b : Nat) (f : Nat → Hq) (hn : c.nodes.toNat ≤ 16) {eblks : List (Option ABlk)} (heb : BL (mgB c (vwI x) n f (mgU x 0)) eblks) :
 LoopV Tryd.prog (loopAt Tryd.prog 6 0) mgH mgI ((mgV c n b 0).map some) eblks 118 mg0N (mkFr 118 (mgO c n b)) (mgI.zip (mgB c (vwI x) n f (mgU x c.nodes.toNat))) 100000000000000000000000000000000000000000000000000 (.exit 0) none := by
 refine loop_viewN hE1 (fuel := 100) (str := 10000000000000000000000000000000000000000) (nh := 1000000000000000000000000000000000000000000) (S := Nat) (fun k => k ≤ c.nodes.toNat) (fun k => c.nodes.toNat - k) mgH [] mgI (fun k => mgV c n b k) (fun k => mgB c (vwI x) n f (mgU x k)) (by decide) (by decide) (by unfold lim; omega) (s0 := 0) (Nat.zero_le _) (fun _ => ⟨rfl, rfl⟩) (by kernel_rfl) heb (fun k _ => ⟨rfl, mgB_low (by decide)⟩) ?_
 intro k hk
 refine (?_ : (∃ p r, mg0R Tryd.prog c (vwI x) n b f (mgU x k) k p = some r ∧ _) → _) (mg0 c (vwI x) n b f (mgU x k) k (StepN mg0N 100000000000000000000000000000000000000000000000000 118 mgH [] mgI (fun k => k ≤ c.nodes.toNat) (fun k => c.nodes.toNat - k) (fun k => mgV c n b k) (fun k => mgB c (vwI x) n f (mgU x k)) (.exit 0) (mgO c n b) (mgI.zip (mgB c (vwI x) n f (mgU x c.nodes.toNat))) k) ?_)
 · rintro ⟨p, r, h1, h2⟩
   exact ⟨p, [], r, h1, h2⟩
 · have hout : ∀ q ∈ mgO c n b, okV mg0N q.2 = true ∧ (q.1, some q.2) ∈ (mgH ++ []).zip ((mgV c n b k).map some) := by
    intro q hq
    simp only [mgO, List.mem_cons, List.not_mem_nil, or_false] at hq
    rcases hq with rfl | rfl | rfl | rfl | rfl | rfl <;> exact ⟨rfl, by simp⟩
   refine ⟨fun c1 => ?_, fun c1 => ?_⟩
   · have hlt : k < c.nodes.toNat := by have := of_decide_eq_true c1; simp only [Int.ofNat_eq_natCast] at this; omega
     refine ⟨?_, (fun q hq => by cases hq), by dsimp only; omega, rfl, .inl ⟨rfl, k + 1, hlt, by show c.nodes.toNat - (k + 1) < c.nodes.toNat - k; omega, ?_, ⟨BEq.refl _, BEq.refl _, BEq.refl _, BEq.refl _, BEq.refl _, BEq.refl _, BEq.refl _, BEq.refl _, BEq.refl _, BEq.refl _, ⟨rfl, rfl, rfl, rfl, .inr (.inl ⟨_, _, _, rfl, rfl, fun i _ => ?_⟩)⟩, trivial⟩⟩⟩
     · simp only [allT, List.forall_mem_cons, bq_e, c1]
       simp [inb_arr]
       omega
     · dsimp only; rw [bq_w (by omega)]; rfl
     · simp only [bq_e]
       by_cases hik : i = k
       · subst hik
         rw [if_pos rfl]
         have : mgU x (i + 1) i = hqOf (mgE1 x) := by unfold mgU; rw [if_pos (by omega)]
         rw [this]
         exact setL_all (by simp [hqC, Vw.len])
       · rw [if_neg hik, mgU_ne x hik]
   · obtain rfl : k = c.nodes.toNat := by have : ¬ k < c.nodes.toNat := by have := of_decide_eq_false c1; simp only [Int.ofNat_eq_natCast] at this; omega
                                          omega
     refine ⟨by simp only [allT, List.forall_mem_cons, c1]; simp, (fun q hq => by cases hq), by dsimp only; omega, rfl, .inr ⟨by simp, rfl, hout, mf_all (by kernel_rfl) (mgB_low (by decide)) rfl⟩⟩
set_option maxRecDepth 100000 in
theorem mh0_sum (c : Cfg) (n b : Nat) (f : Nat → Hq) (hn : c.nodes.toNat ≤ 16) (h0 : 0 < n) {eblks : List (Option ABlk)} (heb : BL (mhB c n f (mhU f n 0)) eblks) :
 LoopV Tryd.prog (loopAt Tryd.prog 6 1) mhH mhI ((mhV c n b 0).map some) eblks 118 mh0N (mkFr 118 (mhO c b)) (mhI.zip (mhB c n f (mhU f n c.nodes.toNat))) 10000000000000000000000000000000000000000000000000000 (.exit 2) none := by
 refine loop_viewN hE1 (fuel := 100) (str := 10000000000000000000000000000000000000000) (nh := 1000000000000000000000000000000000000000000000000000) (S := Nat) (fun k => k ≤ c.nodes.toNat) (fun k => c.nodes.toNat - k) mhH [] mhI (fun k => mhV c n b k) (fun k => mhB c n f (mhU f n k)) (by decide) (by decide) (by unfold lim; omega) (s0 := 0) (Nat.zero_le _) (fun _ => ⟨rfl, rfl⟩) (by kernel_rfl) heb (fun k _ => ⟨rfl, mhB_low (by decide)⟩) ?_
 intro k hk
 refine (?_ : (∃ p r, mh0R Tryd.prog c n b f (mhU f n k) k p = some r ∧ _) → _) (mh0 c n b f (mhU f n k) k (StepN mh0N 10000000000000000000000000000000000000000000000000000 118 mhH [] mhI (fun k => k ≤ c.nodes.toNat) (fun k => c.nodes.toNat - k) (fun k => mhV c n b k) (fun k => mhB c n f (mhU f n k)) (.exit 2) (mhO c b) (mhI.zip (mhB c n f (mhU f n c.nodes.toNat))) k) ?_)
 · rintro ⟨p, r, h1, h2⟩
   exact ⟨p, [], r, h1, h2⟩
 · have hout : ∀ q ∈ mhO c b, okV mh0N q.2 = true ∧ (q.1, some q.2) ∈ (mhH ++ []).zip ((mhV c n b k).map some) := by
    intro q hq
    simp only [mhO, List.mem_cons, List.not_mem_nil, or_false] at hq
    rcases hq with rfl | rfl | rfl <;> exact ⟨rfl, by simp⟩
   have em : Int.tmod (Int.ofNat k) (n : Int) = ((k % n : Nat) : Int) := by
    rw [Int.tmod_eq_emod_of_nonneg (by simp)]
    simp
   have em2 : 0 + Int.toNat (Int.tmod (Int.ofNat k) (n : Int)) = k % n := by rw [em]; simp only [Int.toNat_natCast, Nat.zero_add]
   have em3 : Int.tmod (Int.ofNat k) (Int.ofNat n) = ((k % n : Nat) : Int) := em
   have hlm := Nat.mod_lt k h0
   refine ⟨fun c1 => ?_, fun c1 => ?_⟩
   · have hlt : k < c.nodes.toNat := by have := of_decide_eq_true c1; simp only [Int.ofNat_eq_natCast] at this; omega
     refine ⟨?_, (fun q hq => by cases hq), by dsimp only; omega, rfl, .inl ⟨rfl, k + 1, hlt, by show c.nodes.toNat - (k + 1) < c.nodes.toNat - k; omega, ?_, ⟨BEq.refl _, BEq.refl _, BEq.refl _, BEq.refl _, BEq.refl _, BEq.refl _, BEq.refl _, BEq.refl _, ⟨rfl, rfl, rfl, rfl, .inr (.inl ⟨_, _, _, rfl, rfl, fun i _ => ?_⟩)⟩, trivial⟩⟩⟩
     · simp only [allT, List.forall_mem_cons, bq_e, em2, em, em3, c1]
       simp [inb_arr]
       omega
     · dsimp only; rw [bq_w (by omega)]; rfl
     · simp only [bq_e, em2]
       by_cases hik : i = k
       · subst hik
         rw [if_pos rfl]
         have : mhU f n (i + 1) i = f (i % n) := by unfold mhU; rw [if_pos (by omega)]
         rw [this]
         exact setL_all (by simp [hqC, Vw.len])
       · rw [if_neg hik, mhU_ne f n hik]
   · obtain rfl : k = c.nodes.toNat := by have : ¬ k < c.nodes.toNat := by have := of_decide_eq_false c1; simp only [Int.ofNat_eq_natCast] at this; omega
                                          omega
     refine ⟨by simp only [allT, List.forall_mem_cons, c1]; simp, (fun q hq => by cases hq), by dsimp only; omega, rfl, .inr ⟨by simp, rfl, hout, mf_all (by kernel_rfl) (mhB_low (by decide)) rfl⟩⟩
end Go.Proofs.YtgdoojlfbebaaaaDoor
end
/- MembersAgree: its runs. -/
section
namespace Go.Proofs.YtgdoojlfbebaaaaDoor
open Go.RowKit
theorem mgX_eq (b : Nat) (f g : Nat → Hq) (i : Nat) : mgX b f g i = if i = b then hqL (f 0) else hqL (g i) := by
 unfold mgX
 rw [bq_e]
 by_cases hi : i = b
 · rw [if_pos hi, if_pos hi]; exact setL_all (by simp [hqC, Vw.len])
 · rw [if_neg hi, if_neg hi]
theorem mgZ_len {N b : Nat} (hb : b < N) : 0 + Int.toNat (Option.getD none (N : Int) - Option.getD (some (Int.ofNat b)) (Int.ofNat 0)) = N - b := by
 simp
theorem mgZ_lo {c : Cfg} {h : Nat → Hq} {b i : Nat} (hb : b < c.nodes.toNat) (hi : i < c.nodes.toNat - b) : mgZ c h b i = hqL (h (b + i)) := by
 unfold mgZ
 rw [mgZ_len hb, if_pos hi, if_neg (by omega)]
 simp only [elt]
 simp
theorem mgZ_hi {c : Cfg} {h : Nat → Hq} {b i : Nat} (hb : b < c.nodes.toNat) (hi : c.nodes.toNat - b ≤ i) : mgZ c h b i = hqL (h (i - (c.nodes.toNat - b))) := by
 unfold mgZ
 rw [mgZ_len hb, if_neg (by omega)]
 simp only [elt]
 simp
theorem mgQ_eq {c : Cfg} {b : Nat} (hb : b < c.nodes.toNat) : mgQ c b = c.nodes.toNat := by
 unfold mgQ
 rw [mgZ_len hb]
 simp
 omega
theorem mg_at {c : Cfg} (g : CfgGood c) {o : Int} (h0 : 0 ≤ o) (h1 : o ≤ 4294967295) : ∃ b : Nat, b < c.nodes.toNat ∧ IntKind.wrap .i64 (Int.tmod o (IntKind.wrap .u32 c.nodes)) = Int.ofNat b := by
 have n4 := g.n4
 have n16 := g.n16
 have w : IntKind.wrap .u32 c.nodes = c.nodes := by
  rw [show IntKind.wrap IntKind.u32 c.nodes = c.nodes % 4294967296 from rfl]; omega
 rw [w, Int.tmod_eq_emod_of_nonneg h0]
 have l1 := Int.emod_nonneg o (show c.nodes ≠ 0 by omega)
 have l2 := Int.emod_lt_of_pos o (show 0 < c.nodes by omega)
 rw [wrap_nat _ (by omega) (by omega)]
 exact ⟨(o % c.nodes).toNat, by omega, by simp only [Int.ofNat_eq_natCast]; omega⟩
set_option maxRecDepth 1000000 in
theorem mg_run1 (c : Cfg) (v : Vw) (n : Nat) (f : Nat → Hq) (h0 : cfgErr c ≠ 0) (hb : c.nb ≤ 9223372036854775807) : ∃ p r, mgW (ENl1 Tryd.prog cfgErr ctsMg) c v n f p [] = some r ∧ GoodF (bo true) r := by
 refine mgE cfgErr c v n f _ ?_
 (repeat' (first | refine ⟨fun h => ?_, fun h => ?_⟩ | fail))
 all_goals (first | (exfalso; simp_all; done) | skip)
 all_goals (refine ⟨rfl, (by first | (unfold lim; omega) | (dsimp only; unfold lim; omega)), ?_, by simp⟩)
 all_goals (simp_all [allT, cfgK_t, netK_t, intsOk_ints, stsOk_sts, intsOk_s, stsOk_s, h0, hb])
theorem view0_ok : View.zero.Ok := by
 refine ⟨fun k _ => ?_, fun k _ => ?_, fun k _ => ?_, (by show (-128 : Int) ≤ 0 ∧ (0 : Int) ≤ 127; decide), (by show (0 : Int) ≤ 0 ∧ (0 : Int) ≤ 255; decide)⟩
 all_goals (simp only [View.zero, vat_rep]; decide)
theorem held0_ok : Held.zero.Ok := by
 have := view0_ok
 simp [Held.Ok, Held.zero, Cell.Ok, Cell.zero, Said.Ok, Said.zero, Payload.Ok, Payload.zero, this]
theorem mgE1_ok {x : View} (h : x.Ok) : (mgE1 x).Ok := by
 simp [mgE1, Held.Ok, Held.zero, Cell.Ok, Cell.zero, Said.Ok, Said.zero, Payload.Ok, Payload.zero, h]
theorem mgU_flat {x : View} (h : x.Ok) (k j : Nat) : flatB Held.ks (hqL (mgU x k j)) = true := by
 unfold mgU
 split
 · exact hq_ok (mgE1_ok h)
 · exact hq_ok held0_ok
theorem mgE1_view (x : View) : asB ((hqL (hqOf (mgE1 x))).getD 0 nov) = true ∧ vwA (hqL (hqOf (mgE1 x))) = vwL (vwI x) := ⟨rfl, rfl⟩
set_option maxRecDepth 1000000 in
set_option maxHeartbeats 2000000 in
theorem mg_run0 (c : Cfg) (x : View) (n : Nat) (f : Nat → Hq) (h0 : cfgErr c = 0) (hx : x.Ok) (hb : c.nb ≤ 9223372036854775807) (hF : heldsB n (fun k => hqL (f k)) = true) (ho : 0 < n → 0 ≤ (f 0).ov ∧ (f 0).ov ≤ 4294967295) : ∃ p lp r, mgW (ENl0 Tryd.prog cfgErr ctsMg) c (vwI x) n f p lp = some r ∧ GoodF (bo true) r := by
 have g := cfg_good h0
 have hq : 0 < c.nodes.toNat := by have := g.n4; omega
 have n4 := g.n4
 have n16 := g.n16
 have s16 := g.s16
 have nt := g.nt
 have nb := g.nb
 by_cases hn0 : n = 0
 · subst hn0
   refine (?_ : (∃ p r, mgW (ENl0 Tryd.prog cfgErr ctsMg) c (vwI x) 0 f p [] = some r ∧ _) → _) (mgF cfgErr c (vwI x) 0 f (GoodF (bo true)) ?_)
   · rintro ⟨p, r, r1, r2⟩
     exact ⟨p, _, r, r1, r2⟩
   · try simp only [h0]
     (repeat' (first | refine ⟨fun h => ?_, fun h => ?_⟩ | fail))
     all_goals (first | (exfalso; simp_all; done) | skip)
     all_goals (refine ⟨rfl, (by first | (unfold lim; omega) | (dsimp only; unfold lim; omega)), ?_, by simp⟩)
     all_goals (simp_all [allT, cfgK_t, netK_t, intsOk_ints, stsOk_sts, intsOk_s, stsOk_s, h0, hb])
 · by_cases hn : n ≤ 20
   · obtain ⟨b, hbN, eb⟩ := mg_at g (ho (by omega)).1 (ho (by omega)).2
     have S0 := fun eblks heb => mg0_sum c x n b f (by omega) (eblks := eblks) heb
     have S1 := fun eblks heb => mh0_sum c n b f (by omega) (by omega) (eblks := eblks) heb
     obtain ⟨N, hN⟩ : ∃ N, c.nodes.toNat = N := ⟨_, rfl⟩
     have hf0 : flatB Held.ks (hqL (f 0)) = true := heldsB_at hF (k := 0) (by omega)
     have fX : heldsB c.nodes.toNat (mgX b f (mgU x c.nodes.toNat)) = true := heldsB_mk fun k _ => by
      rw [mgX_eq]
      split
      · exact hf0
      · exact mgU_flat hx _ _
     have fH : ∀ k, flatB Held.ks (hqL (mhU f n c.nodes.toNat k)) = true := fun k => by
      unfold mhU
      split
      · exact heldsB_at hF (k := k % n) (Nat.mod_lt _ (by omega))
      · exact hq_ok held0_ok
     have fY : heldsB c.nodes.toNat (fun k => hqL (mhU f n c.nodes.toNat k)) = true := heldsB_mk fun k _ => fH k
     have eQ := mgQ_eq hbN
     have fZ : heldsB (mgQ c b) (mgZ c (mhU f n c.nodes.toNat) b) = true := heldsB_mk fun k _ => by
      by_cases hi : k < c.nodes.toNat - b
      · rw [mgZ_lo hbN hi]; exact fH _
      · rw [mgZ_hi hbN (by omega)]; exact fH _
     have bp : ∀ (m : Nat) (F : Nat → List AC), m ≤ 1000000 → heldsB m F = true → bsP ⟨c, c.nodes.toNat, pairF c (2 * c.np), m, F⟩ = true := fun m F h1 h2 => by
      simp only [bsP, Bool.and_eq_true, decide_eq_true_eq]
      exact ⟨good_round g, good_gv g, by omega, h1, h2⟩
     have b1 : bsP (mgN1 c b f (mgU x c.nodes.toNat)) = true := bp _ _ (by omega) fX
     have b2 : bsP (mgN2 c (mhU f n c.nodes.toNat)) = true := bp _ _ (by omega) fY
     have b3 : bsP (mgN3 c (mhU f n c.nodes.toNat) b) = true := bp _ _ (by omega) fZ
     have hfst := fstV_ok c c.nodes.toNat (pairF c (2 * c.np))
     have B1 : mayB c c.nodes.toNat (pairF c (2 * c.np)) (vwL (vwI x)) = true → vwL (mgB1 c b f (mgU x c.nodes.toNat)) = vwL (vwI x) := fun hm => by
      unfold mgB1
      rw [bs_eq _ _ _ fX, Nat.min_self]
      refine base_agree (b := b) hfst hm ⟨vwI x, vwI_ok hx, rfl⟩ fX (by omega) fun k hk hne => ?_
      rw [mgX_eq, if_neg hne]
      have : mgU x c.nodes.toNat k = hqOf (mgE1 x) := by unfold mgU; rw [if_pos hk]
      rw [this]
      exact mgE1_view x
     have E2 : vwL (mgB2 c (mhU f n c.nodes.toNat)) = baseA (mayB c c.nodes.toNat (pairF c (2 * c.np))) (vwL (fstV c c.nodes.toNat (pairF c (2 * c.np)))) c.nodes.toNat (fun k => hqL (mhU f n c.nodes.toNat k)) := by
      unfold mgB2
      rw [bs_eq _ _ _ fY, Nat.min_self]
     have M2 : mayB c c.nodes.toNat (pairF c (2 * c.np)) (vwL (mgB2 c (mhU f n c.nodes.toNat))) = true := by
      rw [E2]
      exact base_may (may_first g hq _) _ _
     have B3 : vwL (mgB3 c (mhU f n c.nodes.toNat) b) = vwL (mgB2 c (mhU f n c.nodes.toNat)) := by
      rw [E2]
      unfold mgB3
      rw [bs_eq _ _ _ fZ, eQ, Nat.min_self]
      exact base_perm hfst fY (Nat.le_refl _) (turn_perm _ (by omega) _ (fun i hi => mgZ_lo hbN hi) (fun i h1 h2 => mgZ_hi hbN h1))
     have wu : IntKind.wrap .u32 c.nodes = c.nodes := by
      rw [show IntKind.wrap IntKind.u32 c.nodes = c.nodes % 4294967296 from rfl]; omega
     refine (?_ : (∃ p r, mgW (ENl0 Tryd.prog cfgErr ctsMg) c (vwI x) n f p _ = some r ∧ _) → _) (mgD cfgErr c (vwI x) n b f (mgU x c.nodes.toNat) (mhU f n c.nodes.toNat) (GoodF (bo true)) ?_)
     · rintro ⟨p, r, r1, r2⟩
       exact ⟨p, _, r, r1, r2⟩
     · simp only [h0, eb, B3, M2, eqF_all]
       refine ⟨fun cM => ⟨fun cN => ?_, fun cN => ⟨fun c3 => ⟨fun c4 => ?_, fun c4 => ?_⟩, fun c3 => ?_⟩⟩, fun cM => ⟨fun c3 => ⟨fun c4 => ?_, fun c4 => ?_⟩, fun c3 => ?_⟩⟩
       · rw [B1 cM, eqF_all] at cN
         cases cN
       · refine ⟨rfl, (by first | (unfold lim; omega) | (dsimp only; unfold lim; omega)), ?_, fun u hu => ?_⟩
         · simp only [allT, List.forall_mem_cons, b1, b2, b3, fX, fY, fZ, cfgK_t, netK_t, cM, cN]
           simp [slC, slRow, inb_arr, wu]
           omega
         · simp only [List.mem_cons, List.not_mem_nil, or_false] at hu
           rcases hu with rfl | rfl
           · exact S1 _ ⟨BEq.refl _, BEq.refl _, BEq.refl _, BEq.refl _, BEq.refl _, BEq.refl _, BEq.refl _, BEq.refl _, ⟨rfl, rfl, rfl, rfl, .inr (.inl ⟨_, _, _, rfl, rfl, fun i _ => rfl⟩)⟩, trivial⟩
           · exact S0 _ ⟨BEq.refl _, BEq.refl _, BEq.refl _, BEq.refl _, BEq.refl _, BEq.refl _, BEq.refl _, BEq.refl _, BEq.refl _, BEq.refl _, ⟨rfl, rfl, rfl, rfl, .inr (.inl ⟨_, _, _, rfl, rfl, fun i _ => rfl⟩)⟩, trivial⟩
       · cases c4
       · cases c3
       · refine ⟨rfl, (by first | (unfold lim; omega) | (dsimp only; unfold lim; omega)), ?_, fun u hu => ?_⟩
         · simp only [allT, List.forall_mem_cons, b1, b2, b3, fX, fY, fZ, cfgK_t, netK_t, cM]
           simp [slC, slRow, inb_arr, wu]
           omega
         · simp only [List.mem_cons, List.not_mem_nil, or_false] at hu
           rcases hu with rfl | rfl
           · exact S1 _ ⟨BEq.refl _, BEq.refl _, BEq.refl _, BEq.refl _, BEq.refl _, BEq.refl _, BEq.refl _, BEq.refl _, ⟨rfl, rfl, rfl, rfl, .inr (.inl ⟨_, _, _, rfl, rfl, fun i _ => rfl⟩)⟩, trivial⟩
           · exact S0 _ ⟨BEq.refl _, BEq.refl _, BEq.refl _, BEq.refl _, BEq.refl _, BEq.refl _, BEq.refl _, BEq.refl _, BEq.refl _, BEq.refl _, ⟨rfl, rfl, rfl, rfl, .inr (.inl ⟨_, _, _, rfl, rfl, fun i _ => rfl⟩)⟩, trivial⟩
       · cases c4
       · cases c3
   · refine (?_ : (∃ p r, mgW (ENl0 Tryd.prog cfgErr ctsMg) c (vwI x) n f p [] = some r ∧ _) → _) (mgG cfgErr c (vwI x) n f (GoodF (bo true)) ?_)
     · rintro ⟨p, r, r1, r2⟩
       exact ⟨p, _, r, r1, r2⟩
     · try simp only [h0]
       (repeat' (first | refine ⟨fun h => ?_, fun h => ?_⟩ | fail))
       all_goals (first | (exfalso; simp_all; done) | skip)
       all_goals (refine ⟨rfl, (by first | (unfold lim; omega) | (dsimp only; unfold lim; omega)), ?_, by simp⟩)
       all_goals (simp_all [allT, cfgK_t, netK_t, intsOk_ints, stsOk_sts, intsOk_s, stsOk_s, h0, hb]; omega)
end Go.Proofs.YtgdoojlfbebaaaaDoor
end
