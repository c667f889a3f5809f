/- Parts, one behind the other. healths.Fit as the evaluator runs it: putting in order, loop by loop. -/
import Derived.Test.YtpgaplcdbbnblaaGreatDoorJHealthsBlame15
import Derived.Test.YtpgaplcdbbnblaaGreatDoorJHealthsBlame13
import Derived.Test.YtpgaplcdbbnblaaGreatDoorJHealthsBlame16
import Derived.Test.YtpgaplcdbbnblaaGreatDoorJHealthsBlame10
set_option linter.unusedSimpArgs false
set_option linter.unusedVariables false
/- healths.Fit as the evaluator runs it: putting in order, loop by loop. -/
section
namespace Go.Proofs.YtpgaplcdbbnblaaGreatDoor
open Go.RowKit
theorem ct_len : CtOk Tryz.prog 222 ctLen := by
 refine ⟨⟨_, _, Tryz.func222, rfl⟩, fun C β m m2 w args ib r news k' ob vs hct ho hs hr hfree hlim hv => ?_⟩
 unfold ctLen at hct
 split at hct
 · rename_i x
   simp only [Option.some.injEq, Prod.mk.injEq] at hct
   obtain ⟨rfl, rfl, rfl, rfl⟩ := hct
   simp only [allT, List.forall_mem_cons, decide_eq_true_eq] at ho
   obtain ⟨o1, o2, _⟩ := ho
   cases hv
   refine (Tryz.bits_Len x w o1 o2).mono ?_
   rintro e w' ⟨rfl, rfl⟩
   exact ⟨β, _, rfl, Ext.refl _, fun _ _ => rfl, rfl, by rw [List.append_nil]; exact hr⟩
 · cases hct
def ctsFt : List (FuncId × CtF) := [(97, ctHl), (159, ctTo), (222, ctLen)]
theorem ctsFt_ok : ∀ f g, (f, g) ∈ ctsFt → CtOk Tryz.prog f g := by
 intro f g h
 simp only [ctsFt, List.mem_cons, Prod.mk.injEq, List.not_mem_nil, or_false] at h
 rcases h with ⟨rfl, rfl⟩ | ⟨rfl, rfl⟩ | ⟨rfl, rfl⟩
 · exact ct_hl
 · exact ct_to
 · exact ct_len
def ENft (P : Program) : Env := ⟨P, ctsFt⟩
theorem hENft : EnvOk (ENft Tryz.prog) := envOk ctsFt_ok (by kernel_rfl) (by kernel_rfl)
abbrev rkB (m : Nat) (s : Nat → Int) (f : Nat → Nat) : ABlk := wBlk 272 2 m fun i => [.int .u16 (s (f i)), .int .i64 (Int.ofNat (f i))]
abbrev pirB (m : Nat) (f : Nat → Nat) : ABlk := wBlk 3 1 m fun i => [.int .i64 (Int.ofNat (f i))]
abbrev r1H : List Nat := [0, 3, 4, 5, 11]
abbrev r1S (vid : Nat) (m : Nat) (s : Nat → Int) (f : Nat → Nat) : LSum := ⟨r1H, netIds ++ [vid], mkFr 53 [(5, .c (.sl 2000 0 0 m none))], [(2000, rkB m s f)], 100000000000000000000000000000000000000000000000000, .exit 0⟩
abbrev r2H : List Nat := [0, 1, 2, 3, 8]
abbrev r2S (m : Nat) (s : Nat → Int) (g : Nat → Nat) : LSum := ⟨r2H, [2000], mkFr 53 [], [(2000, rkB m s g)], 1000000000000000000000000000000000000000000000000000000, .exit 0⟩
abbrev r3H : List Nat := [8, 39, 40, 41]
abbrev r3S (oid m : Nat) (g : Nat → Nat) : LSum := ⟨r3H, [2000, oid], mkFr 53 [(8, .c (.sl oid 0 0 m none))], [(oid, pirB m g)], 100000000000000000000000000000000000000000000000000000000, .exit 2⟩
abbrev ftO : Nat := 1000000000000000000000000000000000000000000000000000002
def ftE (P : Program) (c : Cfg) (nq : Nat) (fq : Nat → Int) (v : Vw) (path : List Dec) (lp : List (Option LSum)) : Option VF := viewF [ftO] (fCallF (ENft P) (fC (ENft P) 300) 95 [.c (.ptr 5 0 0), .agg (vwL v)] 1000 10000000000000000000000000000000000000000 (stA (netM c nq fq) path lp))
theorem rkFt (c : Cfg) (nq : Nat) (fq : Nat → Int) (v : Vw) (m : Nat) (f g : Nat → Nat) (Q : VF → Prop) (H : Q (.c (.sl 1000000000000000000000000000000000000000000000000000002 0 0 m none), [some (ABlk.mk true true 3 1 (Cs.arr m fun k => List.map AC.v ((fun i => [Value.int .i64 (Int.ofNat (g i))]) k)))], 100000000000000000000000000000000000000000000000000000002, [decide (Int.ofNat 0 ≤ ↑m ∧ (Int.ofNat m = Int.ofNat m) ∧ ↑m * Int.ofNat 8 ≤ Int.ofNat 140737488355328), decide (IntKind.wrap .i64 (↑m - Int.ofNat 0) ≤ Int.ofNat 12) == true, true, decide (IntKind.wrap .u64 ↑m ≤ Int.ofNat 18446744073709551615)], [LoopV Tryz.prog (loopAt Tryz.prog 95 1) r3H [2000, ftO] [some (.c (.sl 1000000000000000000000000000000000000000000000000000002 0 0 (Int.toNat ↑m) none)), some (.c (.sl 2000 0 0 m none)), some (.c (.v (.int .i64 ↑m))), some (.c (.v (.int .i64 (Int.ofNat 0))))] [some (ABlk.mk true true 272 2 (Cs.arr m fun k => List.map AC.v ((fun i => [Value.int .u16 (Vw.score v (g i)), Value.int .i64 (Int.ofNat (g i))]) k))), some (ABlk.mk true true 3 1 (Cs.arr (Int.toNat ↑m) fun x => List.map AC.v (Array.toList (Value.cells (Value.int .i64 0)))))] 53 1000000000000000000000000000000000000000000000000000007 (mkFr 53 [(8, .c (.sl ftO 0 0 m none))]) [(ftO, pirB m g)] 100000000000000000000000000000000000000000000000000000000 (Exit.exit 2) none, LoopV Tryz.prog (loopAt Tryz.prog 249 0) r2H [2000] [some (.c (.sl 2000 0 0 m none)), some (.c (.v (.int .i64 (Int.ofNat 0)))), some (.c (.v (.int .i64 ↑m))), some (.c (AC.v (Value.func (Fn.func 159) (Array.mk []) (Array.mk [])))), some (.c (.v (.int .i64 (Int.ofNat 1))))] [some (ABlk.mk true true 272 2 (Cs.arr m fun k => List.map AC.v ((fun i => [Value.int .u16 (Vw.score v (f i)), Value.int .i64 (Int.ofNat (f i))]) k)))] 53 100000000000000000000000000000000000000000000000024 (mkFr 53 []) [(2000, rkB m (Vw.score v) g)] 1000000000000000000000000000000000000000000000000000000 (Exit.exit 0) none, LoopV Tryz.prog (loopAt Tryz.prog 95 0) r1H (netIds ++ [1000]) [some (.c (.ptr 5 0 0)), some (.c (.ptr 1000 0 0)), some (.c (AC.v (Value.slice none 0 0))), some (.c (AC.v (Value.slice none 0 0))), some (.c (.v (.int .i64 (Int.ofNat 0))))] [some (ABlk.mk false false 131 0 (Cs.lit [.v (.int .i64 (Int.ofNat 1)), .v (.int .i64 (Int.negSucc 0))])), some (ABlk.mk false false 3 1 (Cs.arr (c.np) fun k => List.map AC.v ((fun i => [Value.int .i64 (c.fp i)]) k))), some (ABlk.mk false false 3 1 (Cs.arr (c.ns) fun k => List.map AC.v ((fun i => [Value.int .i64 (c.fs i)]) k))), some (ABlk.mk false false 3 1 (Cs.arr (c.nb) fun k => List.map AC.v ((fun i => [Value.int .i64 (c.fb i)]) k))), some (ABlk.mk false false 161 3 (Cs.arr (c.nt) fun k => List.map AC.v ((fun i => [Value.int .i64 (Station.node (c.ft i)), Value.int .u32 (Station.safe (c.ft i)), Value.int .i64 (Station.hold (c.ft i))]) k))), some (ABlk.mk false false 3 1 (Cs.arr nq fun k => List.map AC.v ((fun i => [Value.int .i64 (fq i)]) k))), some (ABlk.mk false false 77 0 (Cs.lit [.v (.int .i64 (c.nodes)), AC.sl 0 0 0 (c.np) none, AC.sl 1 0 0 (c.ns) none, .v (.int .i64 (c.long)), AC.sl 2 0 0 (c.nb) none, AC.sl 3 0 0 (c.nt) none, .v (.int .i64 (c.miss)), .v (.int .i64 (c.good)), .v (.int .i64 (c.fresh)), AC.sl 4 0 0 nq none])), some (ABlk.mk true false 32 0 (Cs.lit (vwL v)))] 53 1004 (mkFr 53 [(5, .c (.sl 2000 0 0 m none))]) [(2000, rkB m (Vw.score v) f)] 100000000000000000000000000000000000000000000000000 (Exit.exit 0) none])) :
 ∃ p r, ftE Tryz.prog c nq fq v p [some (r1S 1000 m v.score f), none, some (r2S m v.score g), some (r3S ftO m g)] = some r ∧ Q r :=
 ⟨pD 1 1, _, by kernel_rfl, H⟩
end Go.Proofs.YtpgaplcdbbnblaaGreatDoor
end
/- healths.Fit: the rounds of its loops as the evaluator runs them. -/
section
namespace Go.Proofs.YtpgaplcdbbnblaaGreatDoor
open Go.RowKit
/-! which pairs are in -/
abbrev r1I : List Nat := netIds ++ [1000, 2000]
abbrev r1V (m k : Nat) : List AV := [.c (.ptr 5 0 0), .c (.ptr 1000 0 0), .c (.v (.slice none 0 0)), .c (.sl 2000 0 0 m none), i64 (Int.ofNat k)]
def r1R (P : Program) (c : Cfg) (nq : Nat) (fq : Nat → Int) (v : Vw) (m : Nat) (f : Nat → Nat) (k : Nat) (path : List Dec) : Option VC :=
 view r1H (2000 :: 1000000000000000000000000000000000000000019 :: 1000000000000000000000000000000000000000021 :: (netIds ++ [1000])) (fC (ENft P) 100 (loopAt P 95 0) 1000000000000000000000000000000000000000000 10000000000000000000000000000000000000000 (stH 53 r1H r1I (r1V m k) (netBk c nq fq ++ [vwB v, rkB m v.score f]) path []))
theorem rk1 (c : Cfg) (nq : Nat) (fq : Nat → Int) (v : Vw) (m : Nat) (f : Nat → Nat) (k : Nat) (Q : VC → Prop) (H : let zt : List Bool → List Bool := fun l => true :: true :: true :: true :: true :: true :: true :: true :: l; let zu : List Bool → List Bool := fun l => zt (zt (zt (zt l))); let zq0 : List Bool := (netK c nq fq) :: (pW hrdC (NetS.mk c nq fq [AV.agg (vwL v), .c (.v (.int .i64 (Int.ofNat k)))])) :: (zu (zt (true :: true :: true :: ((decide (Int.ofNat k < Int.ofNat 8) == true) :: [])))); let zq1 : List Bool := ((hlZ (headN c nq fq (Int.ofNat k)) (asB (List.getD (vwL v) (Int.toNat (Int.ofNat k)) nov)) (asI (List.getD (vwL v) (24 + Int.toNat (Int.ofNat k)) nov)) == Int.ofNat 1) == false) :: zq0; (((decide (Int.ofNat k < Int.ofNat 8)) = true → (((hlZ (headN c nq fq (Int.ofNat k)) (asB (List.getD (vwL v) (Int.toNat (Int.ofNat k)) nov)) (asI (List.getD (vwL v) (24 + Int.toNat (Int.ofNat k)) nov)) == Int.ofNat 1) = true → Q (Exit.normal, [some (lkA (List.zip r1H (r1V m k)) 0), some (lkA (List.zip r1H (r1V m k)) (0 + 1 + 1 + 1)), some (lkA (List.zip r1H (r1V m k)) (0 + 1 + 1 + 1 + 1)), some (.c (.sl 1000000000000000000000000000000000000000019 0 0 (m + 1) none)), some (.c (.v (.int .i64 (IntKind.wrap .i64 (Int.ofNat k + Int.ofNat 1)))))], [none, some (ABlk.mk true true 272 2 (Cs.arr (m + 1) fun i => if i < m then List.map AC.v ((fun i => [Value.int .u16 (Vw.score v (f i)), Value.int .i64 (Int.ofNat (f i))]) i) else elt (ABlk.mk true false 272 0 (Cs.lit [.v (.int .u16 (asI (List.getD (vwL v) (24 + Int.toNat (Int.ofNat k) * 1) nov))), .v (.int .i64 (Int.ofNat k))])) 0 0 2 (i - m))), none, some (ABlk.mk false false 131 0 (Cs.lit [.v (.int .i64 (Int.ofNat 1)), .v (.int .i64 (Int.negSucc 0))])), some (ABlk.mk false false 3 1 (Cs.arr (c.np) fun k => List.map AC.v ((fun i => [Value.int .i64 (c.fp i)]) k))), some (ABlk.mk false false 3 1 (Cs.arr (c.ns) fun k => List.map AC.v ((fun i => [Value.int .i64 (c.fs i)]) k))), some (ABlk.mk false false 3 1 (Cs.arr (c.nb) fun k => List.map AC.v ((fun i => [Value.int .i64 (c.fb i)]) k))), some (ABlk.mk false false 161 3 (Cs.arr (c.nt) fun k => List.map AC.v ((fun i => [Value.int .i64 (Station.node (c.ft i)), Value.int .u32 (Station.safe (c.ft i)), Value.int .i64 (Station.hold (c.ft i))]) k))), some (ABlk.mk false false 3 1 (Cs.arr nq fun k => List.map AC.v ((fun i => [Value.int .i64 (fq i)]) k))), some (ABlk.mk false false 77 0 (Cs.lit [.v (.int .i64 (c.nodes)), AC.sl 0 0 0 (c.np) none, AC.sl 1 0 0 (c.ns) none, .v (.int .i64 (c.long)), AC.sl 2 0 0 (c.nb) none, AC.sl 3 0 0 (c.nt) none, .v (.int .i64 (c.miss)), .v (.int .i64 (c.good)), .v (.int .i64 (c.fresh)), AC.sl 4 0 0 nq none])), some (ABlk.mk true false 32 0 (Cs.lit (vwL v)))], 53, 1000000000000000000000000000000000000000023, (true :: true :: (decide (m ≤ m)) :: (decide ((m + 1) * 16 ≤ 140737488355328)) :: (ABlk.inb (ABlk.mk true false 32 0 (Cs.lit (vwL v))) 0 (24 + Int.toNat (Int.ofNat k) * 1 + 1)) :: (okl (Kd.i .u16) (List.getD (vwL v) (24 + Int.toNat (Int.ofNat k) * 1) nov)) :: (decide (Int.ofNat 0 ≤ Int.ofNat k ∧ Int.ofNat k < Int.ofNat 8)) :: ((hlZ (headN c nq fq (Int.ofNat k)) (asB (List.getD (vwL v) (Int.toNat (Int.ofNat k)) nov)) (asI (List.getD (vwL v) (24 + Int.toNat (Int.ofNat k)) nov)) == Int.ofNat 1) == true) :: zq0), [])) ∧ ((hlZ (headN c nq fq (Int.ofNat k)) (asB (List.getD (vwL v) (Int.toNat (Int.ofNat k)) nov)) (asI (List.getD (vwL v) (24 + Int.toNat (Int.ofNat k)) nov)) == Int.ofNat 1) = false → (((hlZ (headN c nq fq (Int.ofNat k)) (asB (List.getD (vwL v) (Int.toNat (Int.ofNat k)) nov)) (asI (List.getD (vwL v) (24 + Int.toNat (Int.ofNat k)) nov)) == Int.ofNat 2) = true → Q (Exit.normal, [some (lkA (List.zip r1H (r1V m k)) 0), some (lkA (List.zip r1H (r1V m k)) (0 + 1 + 1 + 1)), some (lkA (List.zip r1H (r1V m k)) (0 + 1 + 1 + 1 + 1)), some (.c (.sl 1000000000000000000000000000000000000000021 0 0 (m + 1) none)), some (.c (.v (.int .i64 (IntKind.wrap .i64 (Int.ofNat k + Int.ofNat 1)))))], [none, none, some (ABlk.mk true true 272 2 (Cs.arr (m + 1) fun i => if i < m then List.map AC.v ((fun i => [Value.int .u16 (Vw.score v (f i)), Value.int .i64 (Int.ofNat (f i))]) i) else elt (ABlk.mk true false 272 0 (Cs.lit [.v (.int .u16 (asI (List.getD (vwL v) (24 + Int.toNat (Int.ofNat k) * 1) nov))), .v (.int .i64 (Int.ofNat k))])) 0 0 2 (i - m))), some (ABlk.mk false false 131 0 (Cs.lit [.v (.int .i64 (Int.ofNat 1)), .v (.int .i64 (Int.negSucc 0))])), some (ABlk.mk false false 3 1 (Cs.arr (c.np) fun k => List.map AC.v ((fun i => [Value.int .i64 (c.fp i)]) k))), some (ABlk.mk false false 3 1 (Cs.arr (c.ns) fun k => List.map AC.v ((fun i => [Value.int .i64 (c.fs i)]) k))), some (ABlk.mk false false 3 1 (Cs.arr (c.nb) fun k => List.map AC.v ((fun i => [Value.int .i64 (c.fb i)]) k))), some (ABlk.mk false false 161 3 (Cs.arr (c.nt) fun k => List.map AC.v ((fun i => [Value.int .i64 (Station.node (c.ft i)), Value.int .u32 (Station.safe (c.ft i)), Value.int .i64 (Station.hold (c.ft i))]) k))), some (ABlk.mk false false 3 1 (Cs.arr nq fun k => List.map AC.v ((fun i => [Value.int .i64 (fq i)]) k))), some (ABlk.mk false false 77 0 (Cs.lit [.v (.int .i64 (c.nodes)), AC.sl 0 0 0 (c.np) none, AC.sl 1 0 0 (c.ns) none, .v (.int .i64 (c.long)), AC.sl 2 0 0 (c.nb) none, AC.sl 3 0 0 (c.nt) none, .v (.int .i64 (c.miss)), .v (.int .i64 (c.good)), .v (.int .i64 (c.fresh)), AC.sl 4 0 0 nq none])), some (ABlk.mk true false 32 0 (Cs.lit (vwL v)))], 53, 1000000000000000000000000000000000000000025, (true :: true :: (decide (m ≤ m)) :: (decide ((m + 1) * 16 ≤ 140737488355328)) :: (ABlk.inb (ABlk.mk true false 32 0 (Cs.lit (vwL v))) 0 (24 + Int.toNat (Int.ofNat k) * 1 + 1)) :: (okl (Kd.i .u16) (List.getD (vwL v) (24 + Int.toNat (Int.ofNat k) * 1) nov)) :: (decide (Int.ofNat 0 ≤ Int.ofNat k ∧ Int.ofNat k < Int.ofNat 8)) :: ((hlZ (headN c nq fq (Int.ofNat k)) (asB (List.getD (vwL v) (Int.toNat (Int.ofNat k)) nov)) (asI (List.getD (vwL v) (24 + Int.toNat (Int.ofNat k)) nov)) == Int.ofNat 2) == true) :: zq1), [])) ∧ ((hlZ (headN c nq fq (Int.ofNat k)) (asB (List.getD (vwL v) (Int.toNat (Int.ofNat k)) nov)) (asI (List.getD (vwL v) (24 + Int.toNat (Int.ofNat k)) nov)) == Int.ofNat 2) = false → Q (Exit.normal, [some (lkA (List.zip r1H (r1V m k)) 0), some (lkA (List.zip r1H (r1V m k)) (0 + 1 + 1 + 1)), some (lkA (List.zip r1H (r1V m k)) (0 + 1 + 1 + 1 + 1)), some (lkA (List.zip r1H (r1V m k)) (0 + 1 + 1 + 1 + 1 + 1)), some (.c (.v (.int .i64 (IntKind.wrap .i64 (Int.ofNat k + Int.ofNat 1)))))], [some (ABlk.mk true true 272 2 (Cs.arr m fun k => List.map AC.v ((fun i => [Value.int .u16 (Vw.score v (f i)), Value.int .i64 (Int.ofNat (f i))]) k))), none, none, some (ABlk.mk false false 131 0 (Cs.lit [.v (.int .i64 (Int.ofNat 1)), .v (.int .i64 (Int.negSucc 0))])), some (ABlk.mk false false 3 1 (Cs.arr (c.np) fun k => List.map AC.v ((fun i => [Value.int .i64 (c.fp i)]) k))), some (ABlk.mk false false 3 1 (Cs.arr (c.ns) fun k => List.map AC.v ((fun i => [Value.int .i64 (c.fs i)]) k))), some (ABlk.mk false false 3 1 (Cs.arr (c.nb) fun k => List.map AC.v ((fun i => [Value.int .i64 (c.fb i)]) k))), some (ABlk.mk false false 161 3 (Cs.arr (c.nt) fun k => List.map AC.v ((fun i => [Value.int .i64 (Station.node (c.ft i)), Value.int .u32 (Station.safe (c.ft i)), Value.int .i64 (Station.hold (c.ft i))]) k))), some (ABlk.mk false false 3 1 (Cs.arr nq fun k => List.map AC.v ((fun i => [Value.int .i64 (fq i)]) k))), some (ABlk.mk false false 77 0 (Cs.lit [.v (.int .i64 (c.nodes)), AC.sl 0 0 0 (c.np) none, AC.sl 1 0 0 (c.ns) none, .v (.int .i64 (c.long)), AC.sl 2 0 0 (c.nb) none, AC.sl 3 0 0 (c.nt) none, .v (.int .i64 (c.miss)), .v (.int .i64 (c.good)), .v (.int .i64 (c.fresh)), AC.sl 4 0 0 nq none])), some (ABlk.mk true false 32 0 (Cs.lit (vwL v)))], 53, 1000000000000000000000000000000000000000015, (((hlZ (headN c nq fq (Int.ofNat k)) (asB (List.getD (vwL v) (Int.toNat (Int.ofNat k)) nov)) (asI (List.getD (vwL v) (24 + Int.toNat (Int.ofNat k)) nov)) == Int.ofNat 2) == false) :: zq1), [])))))) ∧ ((decide (Int.ofNat k < Int.ofNat 8)) = false → Q (Exit.exit 0, [some (lkA (List.zip r1H (r1V m k)) 0), some (lkA (List.zip r1H (r1V m k)) (0 + 1 + 1 + 1)), some (lkA (List.zip r1H (r1V m k)) (0 + 1 + 1 + 1 + 1)), some (lkA (List.zip r1H (r1V m k)) (0 + 1 + 1 + 1 + 1 + 1)), some (lkA (List.zip r1H (r1V m k)) (0 + 1 + 1 + 1 + 1 + 1 + 1 + 1 + 1 + 1 + 1 + 1))], [some (ABlk.mk true true 272 2 (Cs.arr m fun k => List.map AC.v ((fun i => [Value.int .u16 (Vw.score v (f i)), Value.int .i64 (Int.ofNat (f i))]) k))), none, none, some (ABlk.mk false false 131 0 (Cs.lit [.v (.int .i64 (Int.ofNat 1)), .v (.int .i64 (Int.negSucc 0))])), some (ABlk.mk false false 3 1 (Cs.arr (c.np) fun k => List.map AC.v ((fun i => [Value.int .i64 (c.fp i)]) k))), some (ABlk.mk false false 3 1 (Cs.arr (c.ns) fun k => List.map AC.v ((fun i => [Value.int .i64 (c.fs i)]) k))), some (ABlk.mk false false 3 1 (Cs.arr (c.nb) fun k => List.map AC.v ((fun i => [Value.int .i64 (c.fb i)]) k))), some (ABlk.mk false false 161 3 (Cs.arr (c.nt) fun k => List.map AC.v ((fun i => [Value.int .i64 (Station.node (c.ft i)), Value.int .u32 (Station.safe (c.ft i)), Value.int .i64 (Station.hold (c.ft i))]) k))), some (ABlk.mk false false 3 1 (Cs.arr nq fun k => List.map AC.v ((fun i => [Value.int .i64 (fq i)]) k))), some (ABlk.mk false false 77 0 (Cs.lit [.v (.int .i64 (c.nodes)), AC.sl 0 0 0 (c.np) none, AC.sl 1 0 0 (c.ns) none, .v (.int .i64 (c.long)), AC.sl 2 0 0 (c.nb) none, AC.sl 3 0 0 (c.nt) none, .v (.int .i64 (c.miss)), .v (.int .i64 (c.good)), .v (.int .i64 (c.fresh)), AC.sl 4 0 0 nq none])), some (ABlk.mk true false 32 0 (Cs.lit (vwL v)))], 53, 1000000000000000000000000000000000000000001, [decide (Int.ofNat k < Int.ofNat 8) == false], [])))) :
 ∃ p r, r1R Tryz.prog c nq fq v m f k p = some r ∧ Q r :=
 two H
 (fun g1 => two g1
  (fun g2 => ⟨pD 4 4, _, by kernel_rfl, g2⟩)
  (fun g2 => two g2
   (fun g3 => ⟨pD 4 34, _, by kernel_rfl, g3⟩)
   (fun g3 => ⟨pD 4 61, _, by kernel_rfl, g3⟩)))
 (fun g1 => ⟨pD 1 2, _, by kernel_rfl, g1⟩)
/-! an element goes ahead -/
abbrev r2V (m i : Nat) : List AV := [.c (.sl 2000 0 0 m none), i64 0, i64 (Int.ofNat m), .c (.v (.func (.func 159) #[] #[])), i64 (Int.ofNat i)]
abbrev r4H : List Nat := [0, 1, 2, 3, 8, 9]
abbrev r4V (m i j : Nat) : List AV := r2V m i ++ [i64 (Int.ofNat j)]
def r4R (P : Program) (m : Nat) (s : Nat → Int) (f : Nat → Nat) (i j : Nat) (path : List Dec) : Option VC :=
 view (r4H ++ []) [2000] (fC (ENft P) 100 (loopAt P 249 1) 10000000000000000000000000000000000000000000000000000 10000000000000000000000000000000000000000 (stH 53 r4H [2000] (r4V m i j) [rkB m s f] path []))
theorem rk4 (m : Nat) (s : Nat → Int) (f : Nat → Nat) (i j : Nat) (Q : VC → Prop) (H : let zq0 : List Bool := [true, true, ABlk.inb (ABlk.mk true true 272 2 (Cs.arr m fun k => List.map AC.v ((fun i => [Value.int .u16 (s (f i)), Value.int .i64 (Int.ofNat (f i))]) k))) (0 + Int.toNat (IntKind.wrap .i64 (Int.ofNat j - Int.ofNat 1))) 2, true, true, decide (Int.ofNat 0 ≤ IntKind.wrap .i64 (Int.ofNat j - Int.ofNat 1) ∧ IntKind.wrap .i64 (Int.ofNat j - Int.ofNat 1) < ↑m), ABlk.inb (ABlk.mk true true 272 2 (Cs.arr m fun k => List.map AC.v ((fun i => [Value.int .u16 (s (f i)), Value.int .i64 (Int.ofNat (f i))]) k))) (0 + Int.toNat (Int.ofNat j)) 2, true, true, decide (Int.ofNat 0 ≤ Int.ofNat j ∧ Int.ofNat j < ↑m), decide (Int.ofNat j > Int.ofNat 0) == true]; (((decide (Int.ofNat j > Int.ofNat 0)) = true → (((decide (toZ (s (f (0 + Int.toNat (Int.ofNat j)))) (Int.ofNat (f (0 + Int.toNat (Int.ofNat j)))) (s (f (0 + Int.toNat (IntKind.wrap .i64 (Int.ofNat j - Int.ofNat 1))))) (Int.ofNat (f (0 + Int.toNat (IntKind.wrap .i64 (Int.ofNat j - Int.ofNat 1))))) < Int.ofNat 0)) = true → Q (Exit.normal, [some (lkA (List.zip r4H (r4V m i j)) 0), some (lkA (List.zip r4H (r4V m i j)) (0 + 1)), some (lkA (List.zip r4H (r4V m i j)) (0 + 1 + 1)), some (lkA (List.zip r4H (r4V m i j)) (0 + 1 + 1 + 1)), some (lkA (List.zip r4H (r4V m i j)) (0 + 1 + 1 + 1 + 1 + 1 + 1 + 1 + 1)), some (.c (.v (.int .i64 (IntKind.wrap .i64 (Int.ofNat j - Int.ofNat 1)))))], [some (ABlk.mk true true 272 2 (Cs.arr m fun i => if i = 0 + Int.toNat (IntKind.wrap .i64 (Int.ofNat j - Int.ofNat 1)) then setL ((fun i => if i = 0 + Int.toNat (Int.ofNat j) then setL ((fun k => List.map AC.v ((fun i => [Value.int .u16 (s (f i)), Value.int .i64 (Int.ofNat (f i))]) k)) i) 0 [.v (.int .u16 (s (f (0 + Int.toNat (IntKind.wrap .i64 (Int.ofNat j - Int.ofNat 1)))))), .v (.int .i64 (Int.ofNat (f (0 + Int.toNat (IntKind.wrap .i64 (Int.ofNat j - Int.ofNat 1))))))] else List.map AC.v ((fun i => [Value.int .u16 (s (f i)), Value.int .i64 (Int.ofNat (f i))]) i)) i) 0 [.v (.int .u16 (s (f (0 + Int.toNat (Int.ofNat j))))), .v (.int .i64 (Int.ofNat (f (0 + Int.toNat (Int.ofNat j)))))] else if i = 0 + Int.toNat (Int.ofNat j) then setL ((fun k => List.map AC.v ((fun i => [Value.int .u16 (s (f i)), Value.int .i64 (Int.ofNat (f i))]) k)) i) 0 [.v (.int .u16 (s (f (0 + Int.toNat (IntKind.wrap .i64 (Int.ofNat j - Int.ofNat 1)))))), .v (.int .i64 (Int.ofNat (f (0 + Int.toNat (IntKind.wrap .i64 (Int.ofNat j - Int.ofNat 1))))))] else List.map AC.v ((fun i => [Value.int .u16 (s (f i)), Value.int .i64 (Int.ofNat (f i))]) i)))], 53, 10000000000350000000000000000000000000000000000000003, ((ABlk.inb (ABlk.mk true true 272 2 (Cs.arr m fun i => if i = 0 + Int.toNat (Int.ofNat j) then setL ((fun k => List.map AC.v ((fun i => [Value.int .u16 (s (f i)), Value.int .i64 (Int.ofNat (f i))]) k)) i) 0 [.v (.int .u16 (s (f (0 + Int.toNat (IntKind.wrap .i64 (Int.ofNat j - Int.ofNat 1)))))), .v (.int .i64 (Int.ofNat (f (0 + Int.toNat (IntKind.wrap .i64 (Int.ofNat j - Int.ofNat 1))))))] else List.map AC.v ((fun i => [Value.int .u16 (s (f i)), Value.int .i64 (Int.ofNat (f i))]) i))) (0 + Int.toNat (IntKind.wrap .i64 (Int.ofNat j - Int.ofNat 1))) 2) :: (decide (Int.ofNat 0 ≤ IntKind.wrap .i64 (Int.ofNat j - Int.ofNat 1) ∧ IntKind.wrap .i64 (Int.ofNat j - Int.ofNat 1) < ↑m)) :: (ABlk.inb (ABlk.mk true true 272 2 (Cs.arr m fun k => List.map AC.v ((fun i => [Value.int .u16 (s (f i)), Value.int .i64 (Int.ofNat (f i))]) k))) (0 + Int.toNat (Int.ofNat j)) 2) :: (decide (Int.ofNat 0 ≤ Int.ofNat j ∧ Int.ofNat j < ↑m)) :: (ABlk.inb (ABlk.mk true true 272 2 (Cs.arr m fun k => List.map AC.v ((fun i => [Value.int .u16 (s (f i)), Value.int .i64 (Int.ofNat (f i))]) k))) (0 + Int.toNat (Int.ofNat j)) 2) :: true :: true :: (decide (Int.ofNat 0 ≤ Int.ofNat j ∧ Int.ofNat j < ↑m)) :: (ABlk.inb (ABlk.mk true true 272 2 (Cs.arr m fun k => List.map AC.v ((fun i => [Value.int .u16 (s (f i)), Value.int .i64 (Int.ofNat (f i))]) k))) (0 + Int.toNat (IntKind.wrap .i64 (Int.ofNat j - Int.ofNat 1))) 2) :: true :: true :: (decide (Int.ofNat 0 ≤ IntKind.wrap .i64 (Int.ofNat j - Int.ofNat 1) ∧ IntKind.wrap .i64 (Int.ofNat j - Int.ofNat 1) < ↑m)) :: (decide (toZ (s (f (0 + Int.toNat (Int.ofNat j)))) (Int.ofNat (f (0 + Int.toNat (Int.ofNat j)))) (s (f (0 + Int.toNat (IntKind.wrap .i64 (Int.ofNat j - Int.ofNat 1))))) (Int.ofNat (f (0 + Int.toNat (IntKind.wrap .i64 (Int.ofNat j - Int.ofNat 1))))) < Int.ofNat 0) == true) :: zq0), [])) ∧ ((decide (toZ (s (f (0 + Int.toNat (Int.ofNat j)))) (Int.ofNat (f (0 + Int.toNat (Int.ofNat j)))) (s (f (0 + Int.toNat (IntKind.wrap .i64 (Int.ofNat j - Int.ofNat 1))))) (Int.ofNat (f (0 + Int.toNat (IntKind.wrap .i64 (Int.ofNat j - Int.ofNat 1))))) < Int.ofNat 0)) = false → Q (Exit.exit 2, [some (lkA (List.zip r4H (r4V m i j)) 0), some (lkA (List.zip r4H (r4V m i j)) (0 + 1)), some (lkA (List.zip r4H (r4V m i j)) (0 + 1 + 1)), some (lkA (List.zip r4H (r4V m i j)) (0 + 1 + 1 + 1)), some (lkA (List.zip r4H (r4V m i j)) (0 + 1 + 1 + 1 + 1 + 1 + 1 + 1 + 1)), some (lkA (List.zip r4H (r4V m i j)) (0 + 1 + 1 + 1 + 1 + 1 + 1 + 1 + 1 + 1))], [some (ABlk.mk true true 272 2 (Cs.arr m fun k => List.map AC.v ((fun i => [Value.int .u16 (s (f i)), Value.int .i64 (Int.ofNat (f i))]) k)))], 53, 10000000000170000000000000000000000000000000000000000, ((decide (toZ (s (f (0 + Int.toNat (Int.ofNat j)))) (Int.ofNat (f (0 + Int.toNat (Int.ofNat j)))) (s (f (0 + Int.toNat (IntKind.wrap .i64 (Int.ofNat j - Int.ofNat 1))))) (Int.ofNat (f (0 + Int.toNat (IntKind.wrap .i64 (Int.ofNat j - Int.ofNat 1))))) < Int.ofNat 0) == false) :: zq0), [])))) ∧ ((decide (Int.ofNat j > Int.ofNat 0)) = false → Q (Exit.exit 2, [some (lkA (List.zip r4H (r4V m i j)) 0), some (lkA (List.zip r4H (r4V m i j)) (0 + 1)), some (lkA (List.zip r4H (r4V m i j)) (0 + 1 + 1)), some (lkA (List.zip r4H (r4V m i j)) (0 + 1 + 1 + 1)), some (lkA (List.zip r4H (r4V m i j)) (0 + 1 + 1 + 1 + 1 + 1 + 1 + 1 + 1)), some (lkA (List.zip r4H (r4V m i j)) (0 + 1 + 1 + 1 + 1 + 1 + 1 + 1 + 1 + 1))], [some (ABlk.mk true true 272 2 (Cs.arr m fun k => List.map AC.v ((fun i => [Value.int .u16 (s (f i)), Value.int .i64 (Int.ofNat (f i))]) k)))], 53, 10000000000170000000000000000000000000000000000000000, [decide (Int.ofNat j > Int.ofNat 0) == false], [])))) :
 ∃ p r, r4R Tryz.prog m s f i j p = some r ∧ Q r :=
 two H
 (fun g1 => two g1
  (fun g2 => ⟨pD 13 531442, _, by kernel_rfl, g2⟩)
  (fun g2 => ⟨pD 13 1062883, _, by kernel_rfl, g2⟩))
 (fun g1 => ⟨pD 13 2, _, by kernel_rfl, g1⟩)
/-! one more element -/
abbrev r4S (m i : Nat) (s : Nat → Int) (g : Nat → Nat) : LSum := ⟨r4H, [2000], mkFr 53 (r2H.zip (r2V m i)), [(2000, rkB m s g)], 100000000000000000000000000000000000000000000000000000, .exit 2⟩
def r2R (P : Program) (m : Nat) (s : Nat → Int) (f : Nat → Nat) (i : Nat) (path : List Dec) (lp : List (Option LSum)) : Option VC :=
 view (r2H ++ []) [2000] (fC (ENft P) 100 (loopAt P 249 0) 1000000000000000000000000000000000000000000000000000 10000000000000000000000000000000000000000 (stH 53 r2H [2000] (r2V m i) [rkB m s f] path lp))
theorem rk2 (m : Nat) (s : Nat → Int) (f g : Nat → Nat) (i : Nat) (Q : VC → Prop) (H : (((decide (Int.ofNat i < Int.ofNat m)) = true → Q (Exit.normal, [some (lkA (List.zip r2H (r2V m i)) 0), some (lkA (List.zip r2H (r2V m i)) (0 + 1)), some (lkA (List.zip r2H (r2V m i)) (0 + 1 + 1)), some (lkA (List.zip r2H (r2V m i)) (0 + 1 + 1 + 1)), some (.c (.v (.int .i64 (IntKind.wrap .i64 (Int.ofNat i + Int.ofNat 1)))))], [some (ABlk.mk true true 272 2 (Cs.arr m fun k => List.map AC.v ((fun i => [Value.int .u16 (s (g i)), Value.int .i64 (Int.ofNat (g i))]) k)))], 53, 100000000000000000000000000000000000000000000000000003, [decide (Int.ofNat i < Int.ofNat m) == true], [LoopV Tryz.prog (loopAt Tryz.prog 249 1) r4H [2000] [some (.c (.sl 2000 0 0 m none)), some (.c (.v (.int .i64 (Int.ofNat 0)))), some (.c (.v (.int .i64 (Int.ofNat m)))), some (.c (AC.v (Value.func (Fn.func 159) (Array.mk []) (Array.mk [])))), some (.c (.v (.int .i64 (Int.ofNat i)))), some (.c (.v (.int .i64 (Int.ofNat i))))] [some (ABlk.mk true true 272 2 (Cs.arr m fun k => List.map AC.v ((fun i => [Value.int .u16 (s (f i)), Value.int .i64 (Int.ofNat (f i))]) k)))] 53 1000000000000000000000000000000000000000000000000005 (mkFr 53 (List.zip r2H (r2V m i))) [(2000, rkB m s g)] 100000000000000000000000000000000000000000000000000000 (Exit.exit 2) none])) ∧ ((decide (Int.ofNat i < Int.ofNat m)) = false → Q (Exit.exit 0, [some (lkA (List.zip r2H (r2V m i)) 0), some (lkA (List.zip r2H (r2V m i)) (0 + 1)), some (lkA (List.zip r2H (r2V m i)) (0 + 1 + 1)), some (lkA (List.zip r2H (r2V m i)) (0 + 1 + 1 + 1)), some (lkA (List.zip r2H (r2V m i)) (0 + 1 + 1 + 1 + 1 + 1 + 1 + 1 + 1))], [some (ABlk.mk true true 272 2 (Cs.arr m fun k => List.map AC.v ((fun i => [Value.int .u16 (s (f i)), Value.int .i64 (Int.ofNat (f i))]) k)))], 53, 1000000000000000000000000000000000000000000000000003, [decide (Int.ofNat i < Int.ofNat m) == false], [])))) :
 ∃ p r, r2R Tryz.prog m s f i p [some (r4S m i s g)] = some r ∧ Q r :=
 two H
 (fun g1 => ⟨pD 1 1, _, by kernel_rfl, g1⟩)
 (fun g1 => ⟨pD 1 2, _, by kernel_rfl, g1⟩)
/-! pairs alone -/
abbrev r3V (m k : Nat) : List AV := [.c (.sl ftO 0 0 m none), .c (.sl 2000 0 0 m none), i64 (Int.ofNat m), i64 (Int.ofNat k)]
def r3R (P : Program) (m : Nat) (s : Nat → Int) (g h : Nat → Nat) (k : Nat) (path : List Dec) : Option VC :=
 view (r3H ++ []) [2000, ftO] (fC (ENft P) 100 (loopAt P 95 1) 10000000000000000000000000000000000000000000000000000000 10000000000000000000000000000000000000000 (stH 53 r3H [2000, ftO] (r3V m k) [rkB m s g, pirB m h] path []))
theorem rk3 (m : Nat) (s : Nat → Int) (g h : Nat → Nat) (k : Nat) (Q : VC → Prop) (H : (((decide (Int.ofNat k < Int.ofNat m)) = true → Q (Exit.normal, [some (lkA (List.zip r3H (r3V m k)) (0 + 1 + 1 + 1 + 1 + 1 + 1 + 1 + 1)), some (lkA (List.zip r3H (r3V m k)) (0 + 1 + 1 + 1 + 1 + 1 + 1 + 1 + 1 + 1 + 1 + 1 + 1 + 1 + 1 + 1 + 1 + 1 + 1 + 1 + 1 + 1 + 1 + 1 + 1 + 1 + 1 + 1 + 1 + 1 + 1 + 1 + 1 + 1 + 1 + 1 + 1 + 1 + 1 + 1)), some (lkA (List.zip r3H (r3V m k)) (0 + 1 + 1 + 1 + 1 + 1 + 1 + 1 + 1 + 1 + 1 + 1 + 1 + 1 + 1 + 1 + 1 + 1 + 1 + 1 + 1 + 1 + 1 + 1 + 1 + 1 + 1 + 1 + 1 + 1 + 1 + 1 + 1 + 1 + 1 + 1 + 1 + 1 + 1 + 1 + 1)), some (.c (.v (.int .i64 (IntKind.wrap .i64 (Int.ofNat k + Int.ofNat 1)))))], [some (ABlk.mk true true 272 2 (Cs.arr m fun k => List.map AC.v ((fun i => [Value.int .u16 (s (g i)), Value.int .i64 (Int.ofNat (g i))]) k))), some (ABlk.mk true true 3 1 (Cs.arr m fun i => if i = 0 + Int.toNat (Int.ofNat k) then setL ((fun k => List.map AC.v ((fun i => [Value.int .i64 (Int.ofNat (h i))]) k)) i) 0 [.v (.int .i64 (Int.ofNat (g (0 + Int.toNat (Int.ofNat k)))))] else List.map AC.v ((fun i => [Value.int .i64 (Int.ofNat (h i))]) i)))], 53, 10000000000000000000000000000000000000000000000000000015, [ABlk.inb (ABlk.mk true true 3 1 (Cs.arr m fun k => List.map AC.v ((fun i => [Value.int .i64 (Int.ofNat (h i))]) k))) (0 + Int.toNat (Int.ofNat k)) 1, decide (Int.ofNat 0 ≤ Int.ofNat k ∧ Int.ofNat k < ↑m), true, true, true, ABlk.inb (ABlk.mk true true 272 2 (Cs.arr m fun k => List.map AC.v ((fun i => [Value.int .u16 (s (g i)), Value.int .i64 (Int.ofNat (g i))]) k))) (0 + Int.toNat (Int.ofNat k)) 2, true, true, decide (Int.ofNat 0 ≤ Int.ofNat k ∧ Int.ofNat k < ↑m), decide (Int.ofNat k < Int.ofNat m) == true], [])) ∧ ((decide (Int.ofNat k < Int.ofNat m)) = false → Q (Exit.exit 2, [some (lkA (List.zip r3H (r3V m k)) (0 + 1 + 1 + 1 + 1 + 1 + 1 + 1 + 1)), some (lkA (List.zip r3H (r3V m k)) (0 + 1 + 1 + 1 + 1 + 1 + 1 + 1 + 1 + 1 + 1 + 1 + 1 + 1 + 1 + 1 + 1 + 1 + 1 + 1 + 1 + 1 + 1 + 1 + 1 + 1 + 1 + 1 + 1 + 1 + 1 + 1 + 1 + 1 + 1 + 1 + 1 + 1 + 1 + 1)), some (lkA (List.zip r3H (r3V m k)) (0 + 1 + 1 + 1 + 1 + 1 + 1 + 1 + 1 + 1 + 1 + 1 + 1 + 1 + 1 + 1 + 1 + 1 + 1 + 1 + 1 + 1 + 1 + 1 + 1 + 1 + 1 + 1 + 1 + 1 + 1 + 1 + 1 + 1 + 1 + 1 + 1 + 1 + 1 + 1 + 1)), some (lkA (List.zip r3H (r3V m k)) (0 + 1 + 1 + 1 + 1 + 1 + 1 + 1 + 1 + 1 + 1 + 1 + 1 + 1 + 1 + 1 + 1 + 1 + 1 + 1 + 1 + 1 + 1 + 1 + 1 + 1 + 1 + 1 + 1 + 1 + 1 + 1 + 1 + 1 + 1 + 1 + 1 + 1 + 1 + 1 + 1 + 1))], [some (ABlk.mk true true 272 2 (Cs.arr m fun k => List.map AC.v ((fun i => [Value.int .u16 (s (g i)), Value.int .i64 (Int.ofNat (g i))]) k))), some (ABlk.mk true true 3 1 (Cs.arr m fun k => List.map AC.v ((fun i => [Value.int .i64 (Int.ofNat (h i))]) k)))], 53, 10000000000000000000000000000000000000000000000000000001, [decide (Int.ofNat k < Int.ofNat m) == false], [])))) :
 ∃ p r, r3R Tryz.prog m s g h k p = some r ∧ Q r :=
 two H
 (fun g1 => ⟨pD 1 1, _, by kernel_rfl, g1⟩)
 (fun g1 => ⟨pD 1 2, _, by kernel_rfl, g1⟩)
end Go.Proofs.YtpgaplcdbbnblaaGreatDoor
end
/- healths.Fit: the sums of its loops. -/
section
namespace Go.Proofs.YtpgaplcdbbnblaaGreatDoor
open Go.RowKit
theorem hl_in {h sc : Int} {b : Bool} (e : hlZ h b sc = 1 ∨ hlZ h b sc = 2) : 0 ≤ h ∧ b = true := by
 unfold hlZ at e
 by_cases h0 : h < 0
 · rw [if_pos h0] at e; omega
 · rw [if_neg h0] at e
   cases b
   · rw [if_pos rfl] at e; omega
   · exact ⟨by omega, rfl⟩
theorem hl_out {h sc : Int} {b : Bool} (e1 : hlZ h b sc ≠ 1) (e2 : hlZ h b sc ≠ 2) : ¬ (0 ≤ h ∧ b = true) := by
 rintro ⟨h0, rfl⟩
 unfold hlZ at e1 e2
 rw [if_neg (by omega), if_neg (by simp)] at e1 e2
 by_cases h1 : sc < 16
 · rw [if_pos h1] at e1; omega
 · rw [if_neg h1] at e2; omega
theorem inF_old {t : Nat → Bool} {k i : Nat} (h : i < cntF t k) : inF t (k + 1) i = inF t k i := by
 unfold inF
 have h' : i < (inLs t k).length := by rw [inLs_len]; exact h
 rw [show inLs t (k + 1) = inLs t k ++ if t k = true then [k] else [] from rfl]
 simp only [List.getD_eq_getElem?_getD, List.getElem?_append_left h']
theorem inF_new {t : Nat → Bool} {k : Nat} (h : t k = true) : inF t (k + 1) (cntF t k) = k := by
 unfold inF
 rw [show inLs t (k + 1) = inLs t k ++ if t k = true then [k] else [] from rfl, if_pos h]
 have h' : (inLs t k).length ≤ cntF t k := by rw [inLs_len]; exact Nat.le_refl _
 simp only [List.getD_eq_getElem?_getD, List.getElem?_append_right h', inLs_len]
 simp
theorem inF_skip {t : Nat → Bool} {k : Nat} (h : t k = false) : inF t (k + 1) = inF t k := by
 funext i
 unfold inF
 rw [show inLs t (k + 1) = inLs t k ++ if t k = true then [k] else [] from rfl, h]
 simp
abbrev r1F (m k : Nat) : List (Nat × AV) := r1H.zip (r1V m k)
abbrev r1M (c : Cfg) (nq : Nat) (fq : Nat → Int) (v : Vw) (k : Nat) : AMem := r1I.zip (netBk c nq fq ++ [vwB v, rkB (cntF (inB c nq fq v) k) v.score (inF (inB c nq fq v) k)])
theorem netY0_low {c : Cfg} {nq n : Nat} (hn : 10 ≤ n) : lowB n (netY0 c nq) := by
 have hc : ∀ i, i < 10 → Nat.blt i n = true := fun i h => by rw [Nat.blt_eq]; omega
 exact low_lit (by simp [lowC, hc 0 (by omega), hc 1 (by omega), hc 2 (by omega), hc 3 (by omega), hc 4 (by omega), Nat.blt_eq]; try omega)
def R1Q (c : Cfg) (nq : Nat) (fq : Nat → Int) (v : Vw) (k : Nat) (r : VC) : Prop :=
 allT r.2.2.2.2.2.1 ∧ r.2.2.2.2.2.2 = [] ∧ r.2.2.2.2.1 ≤ 100000000000000000000000000000000000000000000000000 ∧
  ∀ st' : St, r1H.map (fun t => st'.tm[t]?) = r.2.1 → (2000 :: 1000000000000000000000000000000000000000019 :: 1000000000000000000000000000000000000000021 :: (netIds ++ [1000])).map (look st'.m) = r.2.2.1 → st'.tm.length = r.2.2.2.1 →
   ((r.1 = .normal ∧ ∃ s', s' ≤ 8 ∧ 8 - s' < 8 - k ∧ Wk 1004 1000000000000000000000000000000000000000000 100000000000000000000000000000000000000000000000000 st'.tm st'.m (mkFr 53 (r1F (cntF (inB c nq fq v) s') s')) (r1M c nq fq v s')) ∨
    (r.1 ≠ .normal ∧ r.1 = .exit 0 ∧ Wk 1004 100000000000000000000000000000000000000000000000000 100000000000000000000000000000000000000000000000000 st'.tm st'.m (mkFr 53 [(5, .c (.sl 2000 0 0 (cntF (inB c nq fq v) 8) none))]) [(2000, rkB (cntF (inB c nq fq v) 8) v.score (inF (inB c nq fq v) 8))]))
set_option maxRecDepth 100000 in
set_option maxHeartbeats 1000000 in
theorem r1_sum (c : Cfg) (nq : Nat) (fq : Nat → Int) (v : Vw) (h8 : c.np ≤ 8) :
 LoopV Tryz.prog (loopAt Tryz.prog 95 0) r1H (netIds ++ [1000]) [some (.c (.ptr 5 0 0)), some (.c (.ptr 1000 0 0)), some (.c (.v (.slice none 0 0))), some (.c (.v (.slice none 0 0))), some (i64 (Int.ofNat 0))] ((netBk c nq fq ++ [vwB v]).map some) 53 1004
  (mkFr 53 [(5, .c (.sl 2000 0 0 (cntF (inB c nq fq v) 8) none))]) [(2000, rkB (cntF (inB c nq fq v) 8) v.score (inF (inB c nq fq v) 8))] 100000000000000000000000000000000000000000000000000 (.exit 0) none := by
 refine loop_ob hENft (fuel := 100) (S := Nat) (inv := fun k => k ≤ 8) (μ := fun k => 8 - k) (tmI := fun k => mkFr 53 (r1F (cntF (inB c nq fq v) k) k)) (mI := fun k => r1M c nq fq v k) (nh := 1000000000000000000000000000000000000000000) (str := 10000000000000000000000000000000000000000) (by omega) (by omega) (fun _ h => by cases h) (s0 := 0) (by omega) ?_ ?_
 · intro tm m g1 g2 g3
   simp only [List.map_cons, List.map_nil, List.cons_append, List.nil_append, List.cons.injEq, and_true] at g1 g2
   obtain ⟨s0, s3, s4, s5, s11⟩ := g1
   obtain ⟨bg, b0, b1, b2, b3, b4, b5, bv⟩ := g2
   refine wk_mk (ρ := fun _ => .inr 2) (by omega) (by omega) (by unfold lim; omega) g3 ?_ ?_ ?_
   · kernel_rfl
   · exact ⟨.inl ⟨.inr (by unfold gid; omega), bg, low_lit rfl⟩, .inl ⟨.inl (by omega), b0, rBlk_low⟩, .inl ⟨.inl (by omega), b1, rBlk_low⟩, .inl ⟨.inl (by omega), b2, rBlk_low⟩, .inl ⟨.inl (by omega), b3, rBlk_low⟩, .inl ⟨.inl (by omega), b4, rBlk_low⟩, .inl ⟨.inl (by omega), b5, netY0_low (by omega)⟩, .inl ⟨.inl (by omega), bv, vwB_low⟩, .inr (.inr (.inl ⟨by omega, by omega, rfl, (show (0 : Nat) < 2 by omega), _, rfl⟩)), trivial⟩
   · exact ⟨⟨_, s0, by simp, GW_low rfl⟩, ⟨_, s3, by simp, GW_low rfl⟩, ⟨_, s4, by simp, GW_low rfl⟩, ⟨_, s5, by simp, GW_nil (by omega) (by omega) (by omega) rfl⟩, ⟨_, s11, by simp [i64], GW_i64 rfl⟩, trivial⟩
 · intro k hk
   refine (?_ : (∃ p r, r1R Tryz.prog c nq fq v (cntF (inB c nq fq v) k) (inF (inB c nq fq v) k) k p = some r ∧ _) → _) (rk1 c nq fq v (cntF (inB c nq fq v) k) (inF (inB c nq fq v) k) k (R1Q c nq fq v k) ?_)
   · rintro ⟨p, ⟨e, l, b, len, n1, ob, po⟩, hv, hob, hpo, hn1, hw⟩
     obtain ⟨st, v1, v2, v3, v4, v6, v7, v8⟩ := view_out hv
     exact ⟨p, [], e, n1, st, v1, hn1, ⟨by rw [v6]; exact hob, by rw [v7]; have hpo : po = [] := hpo; rw [hpo]; simp⟩, v8, hw st v2 v3 v4⟩
   · rcases Nat.lt_or_ge k 8 with hlt | hge
     · have hw : IntKind.wrap IntKind.i64 (Int.ofNat k + Int.ofNat 1) = Int.ofNat (k + 1) := by rw [wrap_nat _ (by simp; omega) (by simp; omega)]; simp
       have a0 := vw_inn v k hlt
       have b0 := vw_innB v k hlt
       obtain ⟨a4, b4⟩ := vw_score v k hlt
       have e0 : 0 + Int.toNat (Int.ofNat k) * 1 = Int.toNat (Int.ofNat k) := by simp
       have e1 : 24 + Int.toNat (Int.ofNat k) * 1 = 24 + Int.toNat (Int.ofNat k) := by simp
       rw [e0] at a0 b0
       rw [e1] at a4 b4
       have hin : inB c nq fq v k = (decide (0 ≤ headN c nq fq (Int.ofNat k)) && v.inn k) := rfl
       have hpw : pW hrdC ⟨c, nq, fq, [.agg (vwL v), .c (.v (.int .i64 (Int.ofNat k)))]⟩ = true := by simp [pW, hrdC, isVw_cells, h8]
       have hc := cntF_le (inB c nq fq v) k
       have hcs := cntF_succ (inB c nq fq v) k
       simp only [e0, e1, a0, b0, a4, b4, hw, hpw]
       refine ⟨fun c1 => ⟨fun c2 => ?_, fun c2 => ⟨fun c3 => ?_, fun c3 => ?_⟩⟩, fun c1 => ?_⟩
       · have hy : inB c nq fq v k = true := by
          obtain ⟨q1, q2⟩ := hl_in (.inl (by simpa using c2))
          rw [hin, q2, Bool.and_true]; exact decide_eq_true q1
         rw [hy] at hcs
         refine ⟨?_, rfl, by dsimp only; omega, fun st' v2 v3 v4 => .inl ⟨rfl, k + 1, by omega, by omega, ?_⟩⟩
         · simp [allT, hlt, inb_lit, Vw.len, cfgK_t, netK_t, intsOk_ints, stsOk_sts, intsOk_s, stsOk_s] at c2 ⊢
           omega
         · simp only [List.map_cons, List.map_nil, List.cons_append, List.nil_append, List.cons.injEq, and_true] at v2 v3
           obtain ⟨s0, s3, s4, s5, s11⟩ := v2
           obtain ⟨_, b22, _, bg, b0, b1, b2, b3, b4, b5, bv⟩ := v3
           simp only [if_true] at hcs
           unfold r1M
           rw [hcs]
           refine wk_mk (ρ := fun _ => .inl 1000000000000000000000000000000000000000019) (by omega) (by omega) (by unfold lim; omega) v4 ?_ ?_ ?_
           · kernel_rfl
           · exact ⟨.inl ⟨.inr (by unfold gid; omega), bg, low_lit rfl⟩, .inl ⟨.inl (by omega), b0, rBlk_low⟩, .inl ⟨.inl (by omega), b1, rBlk_low⟩, .inl ⟨.inl (by omega), b2, rBlk_low⟩, .inl ⟨.inl (by omega), b3, rBlk_low⟩, .inl ⟨.inl (by omega), b4, rBlk_low⟩, .inl ⟨.inl (by omega), b5, netY0_low (by omega)⟩, .inl ⟨.inl (by omega), bv, vwB_low⟩, .inr (.inl ⟨by omega, by omega, _, _, rfl, b22, BEq_snoc (f := fun i => [.int .u16 (v.score (inF (inB c nq fq v) k i)), .int .i64 (Int.ofNat (inF (inB c nq fq v) k i))]) (l := [.int .u16 (v.score k), .int .i64 (Int.ofNat k)]) (g := fun i => [.int .u16 (v.score (inF (inB c nq fq v) (k + 1) i)), .int .i64 (Int.ofNat (inF (inB c nq fq v) (k + 1) i))]) rfl (fun i hi => by simp only [inF_old hi]) (by simp only [inF_new hy]), wBlk_low⟩), trivial⟩
           · exact ⟨⟨_, s0, by simp [lkA], GW_low rfl⟩, ⟨_, s3, by simp [lkA], GW_low rfl⟩, ⟨_, s4, by simp [lkA], GW_low rfl⟩, ⟨_, s5, by simp, GW_sl (by omega) (by omega) (by omega) rfl⟩, ⟨_, s11, by simp, GW_i64 rfl⟩, trivial⟩
       · have hy : inB c nq fq v k = true := by
          obtain ⟨q1, q2⟩ := hl_in (.inr (by simpa using c3))
          rw [hin, q2, Bool.and_true]; exact decide_eq_true q1
         rw [hy] at hcs
         refine ⟨?_, rfl, by dsimp only; omega, fun st' v2 v3 v4 => .inl ⟨rfl, k + 1, by omega, by omega, ?_⟩⟩
         · simp [allT, hlt, inb_lit, Vw.len, cfgK_t, netK_t, intsOk_ints, stsOk_sts, intsOk_s, stsOk_s] at c2 c3 ⊢
           omega
         · simp only [List.map_cons, List.map_nil, List.cons_append, List.nil_append, List.cons.injEq, and_true] at v2 v3
           obtain ⟨s0, s3, s4, s5, s11⟩ := v2
           obtain ⟨_, _, b22, bg, b0, b1, b2, b3, b4, b5, bv⟩ := v3
           simp only [if_true] at hcs
           unfold r1M
           rw [hcs]
           refine wk_mk (ρ := fun _ => .inl 1000000000000000000000000000000000000000021) (by omega) (by omega) (by unfold lim; omega) v4 ?_ ?_ ?_
           · kernel_rfl
           · exact ⟨.inl ⟨.inr (by unfold gid; omega), bg, low_lit rfl⟩, .inl ⟨.inl (by omega), b0, rBlk_low⟩, .inl ⟨.inl (by omega), b1, rBlk_low⟩, .inl ⟨.inl (by omega), b2, rBlk_low⟩, .inl ⟨.inl (by omega), b3, rBlk_low⟩, .inl ⟨.inl (by omega), b4, rBlk_low⟩, .inl ⟨.inl (by omega), b5, netY0_low (by omega)⟩, .inl ⟨.inl (by omega), bv, vwB_low⟩, .inr (.inl ⟨by omega, by omega, _, _, rfl, b22, BEq_snoc (f := fun i => [.int .u16 (v.score (inF (inB c nq fq v) k i)), .int .i64 (Int.ofNat (inF (inB c nq fq v) k i))]) (l := [.int .u16 (v.score k), .int .i64 (Int.ofNat k)]) (g := fun i => [.int .u16 (v.score (inF (inB c nq fq v) (k + 1) i)), .int .i64 (Int.ofNat (inF (inB c nq fq v) (k + 1) i))]) rfl (fun i hi => by simp only [inF_old hi]) (by simp only [inF_new hy]), wBlk_low⟩), trivial⟩
           · exact ⟨⟨_, s0, by simp [lkA], GW_low rfl⟩, ⟨_, s3, by simp [lkA], GW_low rfl⟩, ⟨_, s4, by simp [lkA], GW_low rfl⟩, ⟨_, s5, by simp, GW_sl (by omega) (by omega) (by omega) rfl⟩, ⟨_, s11, by simp, GW_i64 rfl⟩, trivial⟩
       · have hy : inB c nq fq v k = false := by
          have q := hl_out (by simpa using c2) (by simpa using c3)
          rw [hin]
          cases hx : (decide (0 ≤ headN c nq fq (Int.ofNat k)) && v.inn k) with
          | false => rfl
          | true => simp only [Bool.and_eq_true, decide_eq_true_eq] at hx; exact absurd hx q
         rw [hy] at hcs
         refine ⟨?_, rfl, by dsimp only; omega, fun st' v2 v3 v4 => .inl ⟨rfl, k + 1, by omega, by omega, ?_⟩⟩
         · simp [allT, hlt, inb_lit, Vw.len, cfgK_t, netK_t, intsOk_ints, stsOk_sts, intsOk_s, stsOk_s] at c2 c3 ⊢
           omega
         · simp only [List.map_cons, List.map_nil, List.cons_append, List.nil_append, List.cons.injEq, and_true] at v2 v3
           obtain ⟨s0, s3, s4, s5, s11⟩ := v2
           obtain ⟨b22, _, _, bg, b0, b1, b2, b3, b4, b5, bv⟩ := v3
           have hcs : cntF (inB c nq fq v) (k + 1) = cntF (inB c nq fq v) k := by simpa using hcs
           unfold r1M
           rw [hcs, inF_skip hy]
           refine wk_mk (ρ := fun _ => .inl 2000) (by omega) (by omega) (by unfold lim; omega) v4 ?_ ?_ ?_
           · kernel_rfl
           · exact ⟨.inl ⟨.inr (by unfold gid; omega), bg, low_lit rfl⟩, .inl ⟨.inl (by omega), b0, rBlk_low⟩, .inl ⟨.inl (by omega), b1, rBlk_low⟩, .inl ⟨.inl (by omega), b2, rBlk_low⟩, .inl ⟨.inl (by omega), b3, rBlk_low⟩, .inl ⟨.inl (by omega), b4, rBlk_low⟩, .inl ⟨.inl (by omega), b5, netY0_low (by omega)⟩, .inl ⟨.inl (by omega), bv, vwB_low⟩, .inr (.inl ⟨by omega, by omega, _, _, rfl, b22, BEq.refl _, wBlk_low⟩), trivial⟩
           · exact ⟨⟨_, s0, by simp [lkA], GW_low rfl⟩, ⟨_, s3, by simp [lkA], GW_low rfl⟩, ⟨_, s4, by simp [lkA], GW_low rfl⟩, ⟨_, s5, by simp [lkA], GW_sl (by omega) (by omega) (by omega) rfl⟩, ⟨_, s11, by simp, GW_i64 rfl⟩, trivial⟩
       · exfalso; simp at c1; omega
     · obtain rfl : k = 8 := by omega
       refine ⟨fun c1 => ?_, fun c1 => ?_⟩
       · exfalso; simp at c1
       · refine ⟨by simp [allT], rfl, by dsimp only; omega, fun st' v2 v3 v4 => .inr ⟨by simp, rfl, ?_⟩⟩
         simp only [List.map_cons, List.map_nil, List.cons_append, List.nil_append, List.cons.injEq, and_true] at v2 v3
         obtain ⟨s0, s3, s4, s5, s11⟩ := v2
         obtain ⟨b22, _⟩ := v3
         refine wk_mk (ρ := fun _ => .inl 2000) (by omega) (by omega) (by unfold lim; omega) v4 rfl ?_ ?_
         · exact ⟨.inr (.inl ⟨by omega, by omega, 2000, _, rfl, b22, BEq.refl _, wBlk_low⟩), trivial⟩
         · exact ⟨⟨_, s5, by simp [lkA], GW_sl (by omega) (by omega) (by omega) rfl⟩, trivial⟩
end Go.Proofs.YtpgaplcdbbnblaaGreatDoor
end
/- healths.Fit: putting in order: the sums of its loops. -/
section
namespace Go.Proofs.YtpgaplcdbbnblaaGreatDoor
open Go.RowKit
theorem kLt_to (v : Vw) (a b : Nat) : toZ (v.score a) (Int.ofNat a) (v.score b) (Int.ofNat b) < 0 ↔ kLt v a b = true := by
 unfold toZ kLt
 simp only [Int.ofNat_eq_natCast, decide_eq_true_eq]
 (repeat' split) <;> constructor <;> intro h <;> omega
theorem insF_at (f : Nat → Nat) (i j : Nat) : insF f i j j = f i := if_pos rfl
theorem insF_lo (f : Nat → Nat) {i j t : Nat} (h : t < j) : insF f i j t = f t := by unfold insF; rw [if_neg (by omega), if_neg (by omega)]
abbrev r4N : Nat := 1000000000000000000000000000000000000000000000000005
theorem BL_one {x y : ABlk} (h : BEq y x) : BL [x] [some y] := ⟨h, trivial⟩
theorem BL_two {x y x' y' : ABlk} (h : BEq y x) (h' : BEq y' x') : BL [x, x'] [some y, some y'] := ⟨h, h', trivial⟩
set_option maxRecDepth 100000 in
set_option maxHeartbeats 1000000 in
theorem r4_sum (v : Vw) (m : Nat) (f : Nat → Nat) (i : Nat) (him : i < m) (hm : m ≤ 8) :
 LoopV Tryz.prog (loopAt Tryz.prog 249 1) r4H [2000] ((r4V m i i).map some) [some (rkB m v.score f)] 53 r4N (mkFr 53 (r2H.zip (r2V m i))) [(2000, rkB m v.score (insF f i (posF (kLt v) f (f i) i)))] 100000000000000000000000000000000000000000000000000000 (.exit 2) none := by
 refine loop_viewE hENft (fuel := 100) (str := 10000000000000000000000000000000000000000) (nh := 10000000000000000000000000000000000000000000000000000) (S := Nat) (fun j => j ≤ i ∧ posF (kLt v) f (f i) j = posF (kLt v) f (f i) i) (fun j => j) r4H [] [2000] (fun j => r4V m i j) (fun j => [rkB m v.score (insF f i j)]) (by decide) (by decide) (by unfold lim; omega) (s0 := i) ⟨Nat.le_refl _, rfl⟩ (fun _ => ⟨rfl, rfl⟩) (by kernel_rfl) (by rw [insF_self]; exact BL.refl [rkB m v.score f]) (fun j _ => ⟨rfl, fun b hb => by rw [List.mem_singleton.1 hb]; exact wBlk_low⟩) ?_
 rintro j ⟨hj, hP⟩
 refine (?_ : (∃ p r, r4R Tryz.prog m v.score (insF f i j) i j p = some r ∧ _) → _) (rk4 m v.score (insF f i j) i j (StepV r4N 100000000000000000000000000000000000000000000000000000 53 r4H [] [2000] (fun j => j ≤ i ∧ posF (kLt v) f (f i) j = posF (kLt v) f (f i) i) (fun j => j) (fun j => r4V m i j) (fun j => [rkB m v.score (insF f i j)]) (.exit 2) (r2H.zip (r2V m i)) [(2000, rkB m v.score (insF f i (posF (kLt v) f (f i) i)))] j) ?_)
 · rintro ⟨p, r, h1, h2⟩
   exact ⟨p, [], r, h1, h2⟩
 · have hout : ∀ j, ∀ q ∈ r2H.zip (r2V m i), okV r4N q.2 = true ∧ (q.1, some q.2) ∈ (r4H ++ []).zip ((r4V m i j).map some) := by
    intro j q hq
    simp only [List.zip_cons_cons, List.zip_nil_right, List.mem_cons, List.not_mem_nil, or_false] at hq
    rcases hq with rfl | rfl | rfl | rfl | rfl <;> exact ⟨rfl, by simp⟩
   match j, hj, hP with
   | 0, hj, hP =>
    have e : posF (kLt v) f (f i) i = 0 := by rw [← hP]; rfl
    refine ⟨fun h1 => ?_, fun h1 => ?_⟩
    · exfalso; simp at h1
    · refine ⟨by simp [allT], rfl, by dsimp only; omega, rfl, .inr ⟨by simp, rfl, hout _, fun p hpp => ?_⟩⟩
      rw [List.mem_singleton.1 hpp, e]
      exact ⟨by kernel_rfl, wBlk_low, _, List.mem_cons_self .., BEq.refl _⟩
   | j + 1, hj, hP =>
    have w1 : IntKind.wrap .i64 (Int.ofNat (j + 1) - Int.ofNat 1) = Int.ofNat j := by rw [wrap_nat _ (by simp only [Int.ofNat_eq_natCast]; omega) (by simp only [Int.ofNat_eq_natCast]; omega)]; simp only [Int.ofNat_eq_natCast]; omega
    have e0 : 0 + Int.toNat (Int.ofNat (j + 1)) = j + 1 := by simp
    have e1 : 0 + Int.toNat (Int.ofNat j) = j := by simp
    have ea := insF_at f i (j + 1)
    have eb := insF_lo f (i := i) (show j < j + 1 by omega)
    have hk := kLt_to v (f i) (f j)
    have hpos : posF (kLt v) f (f i) (j + 1) = if kLt v (f i) (f j) = true then posF (kLt v) f (f i) j else j + 1 := rfl
    rw [hpos] at hP
    rw [w1, e0, e1, ea, eb]
    refine ⟨fun h1 => ⟨fun h2 => ?_, fun h2 => ?_⟩, fun h1 => ?_⟩
    · have hy : kLt v (f i) (f j) = true := hk.1 (by simpa using h2)
      rw [if_pos hy] at hP
      refine ⟨?_, rfl, by dsimp only; omega, rfl, .inl ⟨rfl, j, ⟨by omega, hP⟩, by show j < j + 1; omega, rfl, ?_⟩⟩
      · simp at h2
        simp [allT, inb_arr, h2]
        omega
      · refine BL_one ⟨rfl, rfl, rfl, rfl, .inr (.inl ⟨m, _, _, rfl, rfl, fun t ht => ?_⟩)⟩
        by_cases t1 : t = j
        · subst t1
          simp [setL, setS, pickC, insF_at]
        · by_cases t2 : t = j + 1
          · subst t2
            have : insF f i j (j + 1) = f j := by unfold insF; rw [if_neg (by omega), if_pos ⟨by omega, by omega⟩]; rfl
            simp [setL, setS, pickC, this]
          · have : insF f i j t = insF f i (j + 1) t := by
             unfold insF
             rw [if_neg t1, if_neg t2]
             by_cases t3 : j + 1 < t ∧ t ≤ i
             · rw [if_pos (by omega), if_pos t3]
             · rw [if_neg (by omega), if_neg t3]
            simp [t1, t2, this]
    · have hn : ¬ kLt v (f i) (f j) = true := fun e => of_decide_eq_false h2 (hk.2 e)
      rw [if_neg hn] at hP
      refine ⟨?_, rfl, by dsimp only; omega, rfl, .inr ⟨by simp, rfl, hout _, fun p hpp => ?_⟩⟩
      · simp at h2
        simp [allT, inb_arr, h2]
        omega
      · rw [List.mem_singleton.1 hpp, ← hP]
        exact ⟨by kernel_rfl, wBlk_low, _, List.mem_cons_self .., BEq.refl _⟩
    · exfalso; simp at h1 <;> omega
abbrev r2N : Nat := 100000000000000000000000000000000000000000000000024
set_option maxRecDepth 100000 in
set_option maxHeartbeats 1000000 in
theorem r2_sum (v : Vw) (m : Nat) (f : Nat → Nat) (hm : m ≤ 8) :
 LoopV Tryz.prog (loopAt Tryz.prog 249 0) r2H [2000] ((r2V m 1).map some) [some (rkB m v.score f)] 53 r2N (mkFr 53 []) [(2000, rkB m v.score (srtF (kLt v) f m))] 1000000000000000000000000000000000000000000000000000000 (.exit 0) none := by
 refine loop_viewN hENft (fuel := 100) (str := 10000000000000000000000000000000000000000) (nh := 1000000000000000000000000000000000000000000000000000) (S := Nat) (fun i => 1 ≤ i ∧ (i ≤ m ∨ i = 1)) (fun i => m - i) r2H [] [2000] (fun i => r2V m i) (fun i => [rkB m v.score (srtF (kLt v) f i)]) (by decide) (by decide) (by unfold lim; omega) (s0 := 1) ⟨Nat.le_refl _, .inr rfl⟩ (fun _ => ⟨rfl, rfl⟩) (by kernel_rfl) (by rw [srtF_one]; exact BL.refl [rkB m v.score f]) (fun j _ => ⟨rfl, fun b hb => by rw [List.mem_singleton.1 hb]; exact wBlk_low⟩) ?_
 rintro i ⟨hi, hi2⟩
 refine (?_ : (∃ p r, r2R Tryz.prog m v.score (srtF (kLt v) f i) i p [some (r4S m i v.score (srtF (kLt v) f (i + 1)))] = some r ∧ _) → _) (rk2 m v.score (srtF (kLt v) f i) (srtF (kLt v) f (i + 1)) i (StepN r2N 1000000000000000000000000000000000000000000000000000000 53 r2H [] [2000] (fun i => 1 ≤ i ∧ (i ≤ m ∨ i = 1)) (fun i => m - i) (fun i => r2V m i) (fun i => [rkB m v.score (srtF (kLt v) f i)]) (.exit 0) [] [(2000, rkB m v.score (srtF (kLt v) f m))] i) ?_)
 · rintro ⟨p, r, h1, h2⟩
   exact ⟨p, _, r, h1, h2⟩
 · refine ⟨fun h1 => ?_, fun h1 => ?_⟩
   · have hlt : i < m := by simp at h1; omega
     have w1 : IntKind.wrap .i64 (Int.ofNat i + Int.ofNat 1) = Int.ofNat (i + 1) := by rw [wrap_nat _ (by simp; omega) (by simp; omega)]; simp
     have hs := r4_sum v m (srtF (kLt v) f i) i hlt hm
     rw [w1]
     refine ⟨by simp [allT]; omega, fun q hq => ?_, by dsimp only; omega, rfl, .inl ⟨rfl, i + 1, ⟨by omega, by omega⟩, by show m - (i + 1) < m - i; omega, rfl, BL.refl _⟩⟩
     rw [List.mem_singleton.1 hq]
     exact hs
   · have hge : m ≤ i := by simp at h1; omega
     have e : srtF (kLt v) f m = srtF (kLt v) f i := by
      by_cases hm1 : m = i
      · rw [hm1]
      · obtain rfl : m = 0 := by omega
        obtain rfl : i = 1 := by omega
        rw [srtF_one]; rfl
     refine ⟨by simp [allT]; omega, (fun q hq => by cases hq), by dsimp only; omega, rfl, .inr ⟨by simp, rfl, (fun q hq => by cases hq), fun p hpp => ?_⟩⟩
     rw [List.mem_singleton.1 hpp, e]
     exact ⟨by kernel_rfl, wBlk_low, _, List.mem_cons_self .., BEq.refl _⟩
abbrev r3N : Nat := 1000000000000000000000000000000000000000000000000000007
abbrev r3G (g : Nat → Nat) (k t : Nat) : Nat := if t < k then g t else 0
set_option maxRecDepth 100000 in
set_option maxHeartbeats 1000000 in
theorem r3_sum (v : Vw) (m : Nat) (g : Nat → Nat) (hm : m ≤ 8) {eb : ABlk} (heb : BEq eb (pirB m fun _ => 0)) :
 LoopV Tryz.prog (loopAt Tryz.prog 95 1) r3H [2000, ftO] ((r3V m 0).map some) [some (rkB m v.score g), some eb] 53 r3N (mkFr 53 [(8, .c (.sl ftO 0 0 m none))]) [(ftO, pirB m g)] 100000000000000000000000000000000000000000000000000000000 (.exit 2) none := by
 refine loop_viewE hENft (fuel := 100) (str := 10000000000000000000000000000000000000000) (nh := 10000000000000000000000000000000000000000000000000000000) (S := Nat) (fun k => k ≤ m) (fun k => m - k) r3H [] [2000, ftO] (fun k => r3V m k) (fun k => [rkB m v.score g, pirB m (r3G g k)]) (by decide) (by decide) (by unfold lim; omega) (s0 := 0) (Nat.zero_le _) (fun _ => ⟨rfl, rfl⟩) (by kernel_rfl) (BL_two (BEq.refl _) heb) (fun j _ => ⟨rfl, fun b hb => by simp only [List.mem_cons, List.not_mem_nil, or_false] at hb; rcases hb with rfl | rfl <;> exact wBlk_low⟩) ?_
 intro k hk
 refine (?_ : (∃ p r, r3R Tryz.prog m v.score g (r3G g k) k p = some r ∧ _) → _) (rk3 m v.score g (r3G g k) k (StepV r3N 100000000000000000000000000000000000000000000000000000000 53 r3H [] [2000, ftO] (fun k => k ≤ m) (fun k => m - k) (fun k => r3V m k) (fun k => [rkB m v.score g, pirB m (r3G g k)]) (.exit 2) [(8, .c (.sl ftO 0 0 m none))] [(ftO, pirB m g)] k) ?_)
 · rintro ⟨p, r, h1, h2⟩
   exact ⟨p, [], r, h1, h2⟩
 · have e0 : 0 + Int.toNat (Int.ofNat k) = k := by simp
   refine ⟨fun h1 => ?_, fun h1 => ?_⟩
   · have hlt : k < m := by simp at h1; omega
     have w1 : IntKind.wrap .i64 (Int.ofNat k + Int.ofNat 1) = Int.ofNat (k + 1) := by rw [wrap_nat _ (by simp; omega) (by simp; omega)]; simp
     rw [w1, e0]
     refine ⟨?_, rfl, by dsimp only; omega, rfl, .inl ⟨rfl, k + 1, hlt, by show m - (k + 1) < m - k; omega, rfl, BL_two (BEq.refl _) ⟨rfl, rfl, rfl, rfl, .inr (.inl ⟨m, _, _, rfl, rfl, fun t ht => ?_⟩)⟩⟩⟩
     · simp [allT, inb_arr]
       omega
     · by_cases t1 : t = k
       · subst t1
         simp [setL, setS, pickC, r3G]
       · have : (t < k + 1) = (t < k) := by apply propext; omega
         simp [t1, r3G, this]
   · have hge : k = m := by simp at h1; omega
     subst hge
     refine ⟨by simp [allT], rfl, by dsimp only; omega, rfl, .inr ⟨by simp, rfl, fun q hq => ?_, fun p hpp => ?_⟩⟩
     · rw [List.mem_singleton.1 hq]; exact ⟨rfl, by simp [lkA]⟩
     · rw [List.mem_singleton.1 hpp]
       refine ⟨by kernel_rfl, wBlk_low, _, List.mem_cons_of_mem _ (List.mem_cons_self ..), ⟨rfl, rfl, rfl, rfl, .inr (.inl ⟨k, _, _, rfl, rfl, fun t ht => ?_⟩)⟩⟩
       simp [r3G, ht]
end Go.Proofs.YtpgaplcdbbnblaaGreatDoor
end
/- healths.Fit: its contract. -/
section
namespace Go.Proofs.YtpgaplcdbbnblaaGreatDoor
open Go.RowKit
def mA (c : Cfg) (nq : Nat) (fq : Nat → Int) (l : List AC) : Nat := cntF (inB c nq fq (vwOf l)) 8
def fitA (c : Cfg) (nq : Nat) (fq : Nat → Int) (l : List AC) : Nat → Nat := fitF (vwOf l) (inB c nq fq (vwOf l))
def ctFit : CtF := fun xs m ib =>
 match xs with
 | [x, .agg l] =>
  match netRd.dec [x, .agg l] m with
  | some (⟨c, nq, fq, _⟩, b) => some (.c (.sl ib 0 0 (mA c nq fq l) none), [(ib, pirB (mA c nq fq l) (fitA c nq fq l))], 1, [b, isVw l, decide (c.np ≤ 8)])
  | none => none
 | _ => none
set_option maxRecDepth 100000 in
theorem fit_run (c : Cfg) (nq : Nat) (fq : Nat → Int) (v : Vw) (h8 : c.np ≤ 8) : ∃ p lp r, ftE Tryz.prog c nq fq v p lp = some r ∧ r.1 = .c (.sl ftO 0 0 (cntF (inB c nq fq v) 8) none) ∧ r.2.1 = [some (pirB (cntF (inB c nq fq v) 8) (fitF v (inB c nq fq v)))] ∧ r.2.2.1 ≤ lim ∧ allT r.2.2.2.1 ∧ ∀ q ∈ r.2.2.2.2, q := by
 have h8m := cnt8 (inB c nq fq v)
 refine (?_ : (∃ p r, ftE Tryz.prog c nq fq v p [some (r1S 1000 (cntF (inB c nq fq v) 8) v.score (inF (inB c nq fq v) 8)), none, some (r2S (cntF (inB c nq fq v) 8) v.score (fitF v (inB c nq fq v))), some (r3S ftO (cntF (inB c nq fq v) 8) (fitF v (inB c nq fq v)))] = some r ∧ _) → _) (rkFt c nq fq v (cntF (inB c nq fq v) 8) (inF (inB c nq fq v) 8) (fitF v (inB c nq fq v)) (fun r => r.1 = .c (.sl ftO 0 0 (cntF (inB c nq fq v) 8) none) ∧ r.2.1 = [some (pirB (cntF (inB c nq fq v) 8) (fitF v (inB c nq fq v)))] ∧ r.2.2.1 ≤ lim ∧ allT r.2.2.2.1 ∧ ∀ q ∈ r.2.2.2.2, q) ?_)
 · rintro ⟨p, r, h1, h2⟩
   exact ⟨p, _, r, h1, h2⟩
 · refine ⟨rfl, rfl, (by first | (unfold lim; omega) | (dsimp only; unfold lim; omega)), ?_, fun q hq => ?_⟩
   · have w1 : IntKind.wrap .i64 ((cntF (inB c nq fq v) 8 : Int) - Int.ofNat 0) = (cntF (inB c nq fq v) 8 : Int) := by rw [wrap_nat _ (by simp only [Int.ofNat_eq_natCast]; omega) (by simp only [Int.ofNat_eq_natCast]; omega)]; simp
     have w2 : IntKind.wrap .u64 (cntF (inB c nq fq v) 8 : Int) = (cntF (inB c nq fq v) 8 : Int) := by
      simp only [IntKind.wrap, IntKind.bits, IntKind.signed]
      first | omega | (simp; omega)
     simp only [w1, w2]
     simp [allT]
     omega
   · simp only [List.mem_cons, List.not_mem_nil, or_false] at hq
     rcases hq with rfl | rfl | rfl
     · exact r3_sum v _ _ h8m (BEq.refl _)
     · exact r2_sum v _ _ h8m
     · exact r1_sum c nq fq v h8
theorem netRd_rest {x : AV} {r : List AV} {m : AMem} {s : NetS} {b : Bool} (h : netRd.dec (x :: r) m = some (s, b)) : s.rest = r := by
 unfold netRd netRdG at h
 simp only at h
 split at h
 · rename_i e
   cases e
   split at h
   · split at h
     · cases h; rfl
     · cases h
   · cases h
 · cases h
theorem ct_fit : CtOk Tryz.prog 95 ctFit := by
 refine ⟨⟨_, _, Tryz.func95, rfl⟩, fun C β m m2 w args ib r news k' ob vs hct ho hs hr hfree hlim hv => ?_⟩
 unfold ctFit at hct
 split at hct
 · rename_i x l
   split at hct
   · rename_i c nq fq rest b hd
     simp only [Option.some.injEq, Prod.mk.injEq] at hct
     obtain ⟨rfl, rfl, rfl, rfl⟩ := hct
     simp only [allT, List.forall_mem_cons, decide_eq_true_eq] at ho
     obtain ⟨rfl, ol, o8, _⟩ := ho
     have hrest : rest = [.agg l] := netRd_rest hd
     subst hrest
     obtain ⟨β1, q1, q2, q3⟩ := netRd.ok hs hr hd hv
     have el := vw_eq ol
     have q2 : γt β1 [.c (.ptr 5 0 0), .agg (vwL (vwOf l))] = some vs := by rw [vwL, ← el]; exact q2
     have q1 : Rel (loneC w) β1 (netM c nq fq) w := q1
     obtain ⟨p, lp, ⟨vv, bb, n', ob, po⟩, hrun, hv1, hbb, hn, hob, hpo⟩ := fit_run c nq fq (vwOf l) o8
     obtain ⟨s', r1, r2, r3, r4⟩ := viewF_out hrun
     have hn : n' ≤ lim := hn
     have hbb : bb = _ := hbb
     subst hbb
     have hv1 : vv = _ := hv1
     subst hv1
     refine (calls_f hENft r1 ⟨by rw [r3]; exact hob, by rw [r4]; exact hpo⟩ (C := loneC w) (β := β1) (w := w) (vs := vs) q2 q1 (fun id h1 h2 => q3 id h1 (by omega))).mono ?_
     rintro e w' ⟨β', u, rfl, _, _, hu, hr'⟩
     simp only [List.map_cons, List.map_nil, List.cons.injEq, and_true] at r2
     obtain ⟨L, hL, hb⟩ := hr'.blk ftO _ r2
     have hid : β ib = none := hfree ib (Nat.le_refl _) (by omega)
     refine ⟨ext1 β ib L, u, rfl, ext1_ext hid, fun id h => ?_, ?_, ?_⟩
     · unfold ext1
       rw [if_neg (by omega)]
     · simp only [γ, γ1, γc, hL] at hu
       simp only [γ, γ1, γc, ext1_same]
       exact hu
     · refine rel_fresh hr ⟨hr'.os, hr'.tape, hr'.output, hr'.size, fun b hb => hr'.out b hb fun h => h⟩ hid (not_gid (by omega)) hr' r2 rfl rfl (fun k j _ => ?_) hL
       match j with
       | 0 => exact ⟨_, rfl⟩
       | j + 1 => exact ⟨_, rfl⟩
   · cases hct
 · cases hct
end Go.Proofs.YtpgaplcdbbnblaaGreatDoor
end
/- ranks.Command: its contract; ranks.Heir as the evaluator runs it. -/
section
namespace Go.Proofs.YtpgaplcdbbnblaaGreatDoor
open Go.RowKit
def stayP (hl lev : Int) : Prop := (hl = 1 ∨ hl = 2) ∧ lev ≠ 2
instance (hl lev : Int) : Decidable (stayP hl lev) := by unfold stayP; infer_instance
end Go.Proofs.YtpgaplcdbbnblaaGreatDoor
end
