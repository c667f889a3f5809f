/- Parts, one behind the other. Parts of a proof. -/
import Derived.Test.YtfohlkhfnogmdaaGreatDoorJModelsKeep10
import Derived.Test.YtfohlkhfnogmdaaGreatDoorJModelsKeep13
import Derived.Test.YtfohlkhfnogmdaaGreatDoorJModelsKeep9
import Derived.Test.YtfohlkhfnogmdaaGreatDoorJModelsKeep12
import Derived.Test.YtfohlkhfnogmdaaGreatDoorJModelsKeep14
set_option linter.unusedSimpArgs false
set_option linter.unusedVariables false
section
namespace Go.Proofs.YtfohlkhfnogmdaaGreatDoor
open Go.RowKit
def nodupF (f : Nat -> Int) (n : Nat) : Bool := decide ((List.range n).map f).Nodup
def ctSingle : CtF
 | [.c a], m, _ => match slOf 1 m a with | some (n, F, b) => some (bo (nodupF (fA F) n), [], 0, [b, decide (1 <= n), decide (n <= 1000000), intsOk n F]) | none => none
 | _, _, _ => none
theorem jjcb : CtOk Tryz.prog 87 ctSingle := by
 refine ⟨⟨_, _, Tryz.func87, rfl⟩, fun C β m m2 w args ib r news k' ob vs hct ho hs hr hfree hlim hv => ?_⟩; unfold ctSingle at hct; split at hct
 . rename_i a
   split at hct
   . rename_i n F b hsl
     simp only [Option.some.injEq, Prod.mk.injEq] at hct; obtain ⟨rfl, rfl, rfl, rfl⟩ := hct; simp only [allT, List.forall_mem_cons, decide_eq_true_eq] at ho; obtain ⟨rfl, o1, o2, o3, _⟩ := ho; simp only [γt] at hv; split at hv
     . rename_i v0 us hv0 hus
       cases hus; cases hv; obtain ⟨L, hk, hL2⟩ := jjv hr Nat.one_pos (jj10 hs hsl) hv0 3 (jj17 o3) (fun _ => rfl) (loneC w) (fun _ => none) rfl; have hL3 := hL2 (ext1 (fun _ => none) 0 L) 0 jj7
       have hcell : ∀ k, k < n -> L.nil = false /\ w.cell? ⟨L.b, L.o + k, none⟩ = some (.int .i64 (fA F k)) := by
        intro k hk'; obtain ⟨g1, u, g2, _, g4⟩ := hk.cells k 0 (by simp [jj2, rBlk, hk']); have hs1 : L.s = 1 := hk.sz; simp only [rBlk, Cs.get, γc, List.map_cons, List.map_nil, List.getD_cons_zero, Option.some.injEq] at g2; subst g2; rw [hs1, Nat.mul_one, Nat.add_zero] at g4; exact ⟨g1, g4⟩
       obtain ⟨hnil, _⟩ := hcell 0 (by omega); simp only [γc, jj7, hnil, Bool.false_eq_true, if_false, Nat.zero_mul, Nat.zero_add, Nat.add_zero, Option.some.injEq] at hL3; subst hL3; have hz : ((List.range n).map (fA F)).length = n := by simp
       have hcs := jjed L.b L.o ((none : Option Nat).getD (L.cap - 0)) ((List.range n).map (fA F)) (by rw [hz]; exact o2) w (hk.lt hnil) (fun j hj => by rw [hz] at hj; rw [(hcell j hj).2]; simp [hj]) (by intro e; rw [e] at hz; simp at hz; omega); rw [hz] at hcs; refine hcs.mono ?_; rintro e w' ⟨rfl, hb⟩; have hsv := jj9t ((List.range n).map (fA F)); rw [hz] at hsv; rw [hsv]; exact ⟨β, _, rfl, Ext.refl _, fun _ _ => rfl, rfl, by rw [List.append_nil]; exact hr.below hb⟩
     . cases hv
   . cases hct
 . cases hct
def ENr (P : Program) : Env := ⟨P, [(85, ctInside), (86, ctSorted), (87, ctSingle), (50, ctHalves)]⟩
theorem hENr : EnvOk (ENr Tryz.prog) := by
 refine jj3w (fun f g h => ?_) (by kernel_rfl) (by kernel_rfl); simp only [ENr, List.mem_cons, Prod.mk.injEq, List.not_mem_nil, or_false] at h; rcases h with ⟨rfl, rfl⟩ | ⟨rfl, rfl⟩ | ⟨rfl, rfl⟩ | ⟨rfl, rfl⟩
 . exact jj5v
 . exact jj5u
 . exact jjcb
 . exact jj8o
def ru3R (P : Program) (c : Cfg) (path : List Dec) : Option VF := viewF [] (fCallF (ENr P) (fC (ENr P) 300) 83 [.agg (cfgC c)] 1000 nSt (stA (cfgM c) path []))
theorem ru3 (c : Cfg) (Q : VF -> Prop) (H : let zq0 : List Bool := [decide (0 + c.np <= c.np), decide (c.np <= 1000000), intsOk (c.np) fun k => List.map AC.v ((fun i => [Value.int .i64 (c.fp i)]) k), true, true, true]; let zq1 : List Bool := (decide (0 + c.np <= c.np)) :: (decide (1 <= c.np)) :: (decide (c.np <= 1000000)) :: (intsOk (c.np) fun k => List.map AC.v ((fun i => [Value.int .i64 (c.fp i)]) k)) :: true :: (insideF (c.fp) (c.np) (c.nodes) == true) :: zq0; let zq2 : List Bool := (decide (0 + 2 * c.np <= 2 * c.np)) :: (decide (1 <= 2 * c.np)) :: (decide (2 * c.np <= 1000000)) :: (intsOk (2 * c.np) fun k => List.map AC.v ((fun i => [Value.int .i64 (halfF (Cfg.mk (c.nodes) (c.np) (fA (eltZ (ABlk.mk false false 3 1 (yP c)) 0 0 1)) (c.ns) (fA (eltZ (ABlk.mk false false 3 1 (yS c)) 0 0 1)) (c.long) (c.nb) (fA (eltZ (ABlk.mk false false 3 1 (yB c)) 0 0 1)) (c.nt) (stOf (eltZ (ABlk.mk false false 51 3 (yT c)) 0 0 3)) (c.miss) (c.good) (c.fresh)) i)]) k)) :: (decide (0 + c.np <= c.np) && (decide (0 + c.ns <= c.ns) && (decide (0 + c.nb <= c.nb) && (decide (0 + c.nt <= c.nt) && ((intsOk (c.np) fun k => List.map AC.v ((fun i => [Value.int .i64 (c.fp i)]) k)) && ((intsOk (c.ns) fun k => List.map AC.v ((fun i => [Value.int .i64 (c.fs i)]) k)) && ((intsOk (c.nb) fun k => List.map AC.v ((fun i => [Value.int .i64 (c.fb i)]) k)) && stsOk (c.nt) fun k => List.map AC.v ((fun i => [Value.int .i64 (Station.node (c.ft i)), Value.int .u32 (Station.safe (c.ft i)), Value.int .i64 (Station.hold (c.ft i))]) k)))))))) :: (decide (c.np <= 1000)) :: true :: true :: true :: true :: true :: true :: (sortedF (c.fp) (c.np) == true) :: zq1; (((insideF (c.fp) (c.np) (c.nodes)) = true -> (((sortedF (c.fp) (c.np)) = true -> (((!nodupF (halfF c) (2 * c.np)) = true -> Q (.c (.v (.int .i64 (Int.ofNat 1))), [], 1019, (((!nodupF (halfF c) (2 * c.np)) == true) :: zq2), [])) /\ ((!nodupF (halfF c) (2 * c.np)) = false -> Q (.c (.v (.int .i64 (Int.ofNat 0))), [], 1019, (((!nodupF (halfF c) (2 * c.np)) == false) :: zq2), [])))) /\ ((sortedF (c.fp) (c.np)) = false -> Q (.c (.v (.int .i64 (Int.ofNat 1))), [], 1017, ((sortedF (c.fp) (c.np) == false) :: zq1), [])))) /\ ((insideF (c.fp) (c.np) (c.nodes)) = false -> Q (.c (.v (.int .i64 (Int.ofNat 1))), [], 1015, ((insideF (c.fp) (c.np) (c.nodes) == false) :: zq0), [])))) :
 ∃ p r, ru3R Tryz.prog c p = some r /\ Q r :=
 two H (fun g1 => two g1 (fun g2 => two g2 (fun g3 => ⟨pD 7 757, _, by kernel_rfl, g3⟩) (fun g3 => ⟨pD 7 1486, _, by kernel_rfl, g3⟩)) (fun g2 => ⟨pD 7 55, _, by kernel_rfl, g2⟩)) (fun g1 => ⟨pD 7 2, _, by kernel_rfl, g1⟩)
theorem jj6y {ty n : Nat} {f : Nat -> Station} {o r : Bool} : stOf (elt ⟨o, r, ty, 3, .arr n fun k => List.map AC.v ((fun i => [Value.int .i64 (f i).node, .int .u32 (f i).safe, .int .i64 (f i).hold]) k)⟩ 0 0 3) = f := by
 funext i; simp [stOf, elt, asI]
theorem jj1 {n : Nat} {f : Nat -> Station} : stsOk n (fun k => List.map AC.v ((fun i => [Value.int .i64 (f i).node, .int .u32 (f i).safe, .int .i64 (f i).hold]) k)) = true := by
 unfold stsOk; exact List.all_eq_true.2 fun i _ => by simp [isSt]
theorem jj3 {n : Nat} {f : Nat -> Int} : intsOk n (fun k => [AC.v (Value.int .i64 (f k))]) = true := jj0
theorem jjb {n : Nat} {f : Nat -> Station} : stsOk n (fun k => [AC.v (Value.int .i64 (f k).node), AC.v (Value.int .u32 (f k).safe), AC.v (Value.int .i64 (f k).hold)]) = true := jj1
theorem jjis (c : Cfg) : Cfg.mk c.nodes c.np c.fp c.ns c.fs c.long c.nb c.fb c.nt c.ft c.miss c.good c.fresh = c := rfl
def rule3 (c : Cfg) : Int := if (insideF c.fp c.np c.nodes && (sortedF c.fp c.np && nodupF (halfF c) (2 * c.np))) = true then 0 else 1
theorem jjks : CtOk Tryz.prog 83 (ctCfg (fun c => i64 (rule3 c)) fun c => decide (1 <= c.np) && decide (c.np <= 1000)) := by
 refine jj2w (E := ENr Tryz.prog) (fuel := 300) (str := nSt) hENr ⟨_, _, Tryz.func83, rfl⟩ (fun c => jjs _) fun c hp => ?_
 simp only [Bool.and_eq_true, decide_eq_true_eq] at hp; refine (?_ : (∃ p r, ru3R Tryz.prog c p = some r /\ (r.1 = i64 (rule3 c) /\ r.2.2.1 <= lim /\ allT r.2.2.2.1 /\ ∀ q ∈ r.2.2.2.2, q)) -> _) (ru3 c _ ?_)
 . rintro ⟨p, r, h1, h2⟩
   exact ⟨p, [], r, h1, h2⟩
 . simp only [jj5a, jj0, jj6y, jj1, jjis]
   have h1 : c.np <= 1000000 := by omega
   have h2 : 1 <= 2 * c.np := by omega
   have h3 : 2 * c.np <= 1000000 := by omega
   repeat' (first | refine ⟨fun h => ?_, fun h => ?_⟩ | fail)
   all_goals (refine ⟨?_, (by first | (unfold lim; omega) | (dsimp only; unfold lim; omega)), ?_, by simp⟩)
   all_goals (simp_all [allT, rule3, i64])
   all_goals (try omega)
def ctMul : CtF
 | [.c (.v (.int .u64 x)), .c (.v (.int .u64 y))], _, _ => some (.tup [.c (.v (.int .u64 (x * y / 18446744073709551616))), .c (.v (.int .u64 (x * y % 18446744073709551616)))], [], 0, [decide (0 <= x /\ x < 18446744073709551616), decide (0 <= y /\ y < 18446744073709551616)])
 | _, _, _ => none
theorem jjkz : CtOk Tryz.prog 102 ctMul := by
 refine ⟨⟨_, _, Tryz.func102, rfl⟩, fun C β m m2 w args ib r news k' ob vs hct ho hs hr hfree hlim hv => ?_⟩; unfold ctMul at hct; split at hct
 . rename_i x y
   simp only [Option.some.injEq, Prod.mk.injEq] at hct; obtain ⟨rfl, rfl, rfl, rfl⟩ := hct; simp only [allT, List.forall_mem_cons, decide_eq_true_eq] at ho; obtain ⟨⟨x0, x1⟩, ⟨y0, y1⟩, _⟩ := ho; cases hv; obtain ⟨a, rfl⟩ := Int.eq_ofNat_of_zero_le x0; obtain ⟨b, rfl⟩ := Int.eq_ofNat_of_zero_le y0; refine (Tryz.bits_Mul a b (by omega) (by omega) w).mono ?_; rintro e w' ⟨rfl, rfl⟩; exact ⟨β, _, rfl, Ext.refl _, fun _ _ => rfl, by simp [γ, γt, γ1, γc], by rw [List.append_nil]; exact hr⟩
 . cases hct
def ENp (P : Program) : Env := ⟨P, [(102, ctMul)]⟩
theorem hENp : EnvOk (ENp Tryz.prog) := by
 refine jj3w (fun f g h => ?_) (by kernel_rfl) (by kernel_rfl); simp only [ENp, List.mem_cons, Prod.mk.injEq, List.not_mem_nil, or_false] at h; obtain ⟨rfl, rfl⟩ := h; exact jjkz
abbrev repB (x : Int) (n j : Nat) : ABlk := wBlk 3 1 n fun i => [.int .i64 (if i < j then x else 0)]
abbrev repV (n j : Nat) : List AV := [.c (.sl 1021 0 0 n none), i64 (Int.ofNat j)]
def repR (P : Program) (x : Int) (n j : Nat) (path : List Dec) : Option VC :=
 view ([7, 8] ++ []) [1021] (fC (ENp P) 100 (loopAt P 49 0) 1000000000000000000000000000000000000000000 nSt (stH 48 [7, 8] [1021] (repV n j) [repB x n j] path []))
theorem rep (x : Int) (n j : Nat) (Q : VC -> Prop) (H : (((decide (Int.ofNat j < ↑n)) = true -> Q (Exit.normal, [some (lkA (List.zip [7, 8] (repV n j)) (0 + 1 + 1 + 1 + 1 + 1 + 1 + 1)), some (.c (.v (.int .i64 (IntKind.wrap .i64 (Int.ofNat j + ↑(min (Int.toNat (Option.getD none ↑n - Option.getD (some (Int.ofNat j)) (Int.ofNat 0))) (Int.toNat (Option.getD (some (Int.ofNat j)) ↑n - Int.ofNat 0))))))))], [some (ABlk.mk true true 3 1 (Cs.arr n fun p => if 0 + Int.toNat (Option.getD (some (Int.ofNat j)) (Int.ofNat 0)) <= p /\ p < 0 + Int.toNat (Option.getD (some (Int.ofNat j)) (Int.ofNat 0)) + min (Int.toNat (Option.getD none ↑n - Option.getD (some (Int.ofNat j)) (Int.ofNat 0))) (Int.toNat (Option.getD (some (Int.ofNat j)) ↑n - Int.ofNat 0)) then elt (ABlk.mk true true 3 1 (Cs.arr n fun k => List.map AC.v ((fun i => [Value.int .i64 (if i < j then x else 0)]) k))) 0 0 1 (p - (0 + Int.toNat (Option.getD (some (Int.ofNat j)) (Int.ofNat 0)))) else List.map AC.v ((fun i => [Value.int .i64 (if i < j then x else 0)]) p)))], 48, 1100000000000000000000000000000000000000004, [decide (0 + min (Int.toNat (Option.getD none ↑n - Option.getD (some (Int.ofNat j)) (Int.ofNat 0))) (Int.toNat (Option.getD (some (Int.ofNat j)) ↑n - Int.ofNat 0)) <= n), decide (0 + Int.toNat (Option.getD (some (Int.ofNat j)) (Int.ofNat 0)) + min (Int.toNat (Option.getD none ↑n - Option.getD (some (Int.ofNat j)) (Int.ofNat 0))) (Int.toNat (Option.getD (some (Int.ofNat j)) ↑n - Int.ofNat 0)) <= n), true, decide (Int.ofNat 0 <= Int.ofNat 0 /\ Int.ofNat 0 <= Option.getD (some (Int.ofNat j)) ↑n /\ Option.getD (some (Int.ofNat j)) ↑n <= ↑(n - 0)), true, decide (n = 0 \/ 0 < n), decide (Int.ofNat 0 <= Option.getD (some (Int.ofNat j)) (Int.ofNat 0) /\ Option.getD (some (Int.ofNat j)) (Int.ofNat 0) <= Option.getD none ↑n /\ Option.getD none ↑n <= slC none n none), decide (Option.getD (some (Int.ofNat j)) (Int.ofNat 0) = Int.ofNat 0 \/ Option.getD (some (Int.ofNat j)) (Int.ofNat 0) < slC none n none), decide (slC none n none <= ↑(Option.getD none n)), true, slRow none (ABlk.mk true true 3 1 (Cs.arr n fun k => List.map AC.v ((fun i => [Value.int .i64 (if i < j then x else 0)]) k))) 0 n, decide (Int.ofNat j < ↑n) == true], [])) /\ ((decide (Int.ofNat j < ↑n)) = false -> Q (Exit.exit 0, [some (lkA (List.zip [7, 8] (repV n j)) (0 + 1 + 1 + 1 + 1 + 1 + 1 + 1)), some (lkA (List.zip [7, 8] (repV n j)) (0 + 1 + 1 + 1 + 1 + 1 + 1 + 1 + 1))], [some (ABlk.mk true true 3 1 (Cs.arr n fun k => List.map AC.v ((fun i => [Value.int .i64 (if i < j then x else 0)]) k)))], 48, 1000000000000000000000000000000000000000004, [decide (Int.ofNat j < ↑n) == false], [])))) :
 ∃ p r, repR Tryz.prog x n j p = some r /\ Q r :=
 two H (fun g1 => ⟨pD 1 1, _, by kernel_rfl, g1⟩) (fun g1 => ⟨pD 1 2, _, by kernel_rfl, g1⟩)
def rep1 (P : Program) (f : Nat -> Int) (n : Int) (path : List Dec) : Option VF := viewF [1021] (fCallF (ENp P) (fC (ENp P) 300) 49 [.c (.sl 0 0 0 1 none), i64 n] 1000 nSt (stA [(0, ints 3 1 f)] path [some ⟨[7, 8], [1021], mkFr 48 [(7, .c (.sl 1021 0 0 n.toNat none))], [(1021, repB (f 0) n.toNat n.toNat)], 100000000000000000000000000000000000000000000000000, .exit 0⟩]))
theorem reps (f : Nat -> Int) (n : Int) (Q : VF -> Prop) (H : (((decide (n < Int.ofNat 0)) = true -> False) /\ ((decide (n < Int.ofNat 0)) = false -> (((decide (Int.ofNat 1 * IntKind.wrap .u64 n / Int.ofNat 18446744073709551616 > Int.ofNat 0)) = true -> False) /\ ((decide (Int.ofNat 1 * IntKind.wrap .u64 n / Int.ofNat 18446744073709551616 > Int.ofNat 0)) = false -> (((decide (Int.ofNat 1 * IntKind.wrap .u64 n % Int.ofNat 18446744073709551616 > Int.ofNat 9223372036854775807)) = true -> False) /\ ((decide (Int.ofNat 1 * IntKind.wrap .u64 n % Int.ofNat 18446744073709551616 > Int.ofNat 9223372036854775807)) = false -> Q (.c (.sl 1021 0 0 (Int.toNat n) none), [some (ABlk.mk true true 3 1 (Cs.arr (Int.toNat n) fun k => List.map AC.v ((fun i => [Value.int .i64 (if i < Int.toNat n then f 0 else 0)]) k)))], 100000000000000000000000000000000000000000000000002, [decide (0 + min (Int.toNat (IntKind.wrap .i64 (Int.ofNat 1 * IntKind.wrap .u64 n % Int.ofNat 18446744073709551616))) 1 <= 1), decide (0 + min (Int.toNat (IntKind.wrap .i64 (Int.ofNat 1 * IntKind.wrap .u64 n % Int.ofNat 18446744073709551616))) 1 <= Int.toNat (IntKind.wrap .i64 (Int.ofNat 1 * IntKind.wrap .u64 n % Int.ofNat 18446744073709551616))), decide (Int.ofNat 0 <= IntKind.wrap .i64 (Int.ofNat 1 * IntKind.wrap .u64 n % Int.ofNat 18446744073709551616) /\ IntKind.wrap .i64 (Int.ofNat 1 * IntKind.wrap .u64 n % Int.ofNat 18446744073709551616) = IntKind.wrap .i64 (Int.ofNat 1 * IntKind.wrap .u64 n % Int.ofNat 18446744073709551616) /\ IntKind.wrap .i64 (Int.ofNat 1 * IntKind.wrap .u64 n % Int.ofNat 18446744073709551616) * Int.ofNat 8 <= Int.ofNat 140737488355328), decide (Int.ofNat 1 * IntKind.wrap .u64 n % Int.ofNat 18446744073709551616 > Int.ofNat 9223372036854775807) == false, decide (Int.ofNat 1 * IntKind.wrap .u64 n / Int.ofNat 18446744073709551616 > Int.ofNat 0) == false, true, decide (Int.ofNat 0 <= IntKind.wrap .u64 n /\ IntKind.wrap .u64 n < Int.ofNat 18446744073709551616), decide (n < Int.ofNat 0) == false], [LoopV Tryz.prog (loopAt Tryz.prog 49 0) [7, 8] [1021] [some (.c (.sl 1021 0 0 (Int.toNat (IntKind.wrap .i64 (Int.ofNat 1 * IntKind.wrap .u64 n % Int.ofNat 18446744073709551616))) none)), some (.c (.v (.int .i64 ↑(min (Int.toNat (IntKind.wrap .i64 (Int.ofNat 1 * IntKind.wrap .u64 n % Int.ofNat 18446744073709551616))) 1))))] [some (ABlk.mk true true 3 1 (Cs.arr (Int.toNat (IntKind.wrap .i64 (Int.ofNat 1 * IntKind.wrap .u64 n % Int.ofNat 18446744073709551616))) fun p => if 0 <= p /\ p < 0 + min (Int.toNat (IntKind.wrap .i64 (Int.ofNat 1 * IntKind.wrap .u64 n % Int.ofNat 18446744073709551616))) 1 then elt (ABlk.mk false false 3 1 (Cs.arr 1 fun k => List.map AC.v ((fun i => [Value.int .i64 (f i)]) k))) 0 0 1 (p - 0) else List.map AC.v (Array.toList (Value.cells (Value.int .i64 0)))))] 48 1027 (mkFr 48 [(7, .c (.sl 1021 0 0 (Int.toNat n) none))]) [(1021, repB (f 0) (Int.toNat n) (Int.toNat n))] 100000000000000000000000000000000000000000000000000 (Exit.exit 0) none])))))))) :
 ∃ p r, rep1 Tryz.prog f n p = some r /\ Q r :=
 two H (fun g1 => g1.elim) (fun g1 => two g1 (fun g2 => g2.elim) (fun g2 => two g2 (fun g3 => g3.elim) (fun g3 => ⟨pD 4 62, _, by kernel_rfl, g3⟩)))
theorem jjjd (x : Int) (n : Nat) (h1 : 1 <= n) (hn : n <= 1000000) {z : Nat} (hz : z = n) {y : Int} (hy : y = Int.ofNat 1) {eb : Option ABlk} (heb : BL [repB x n 1] [eb]) :
 LoopV Tryz.prog (loopAt Tryz.prog 49 0) [7, 8] [1021] [some (.c (.sl 1021 0 0 z none)), some (i64 y)] [eb] 48 1027 (mkFr 48 [(7, .c (.sl 1021 0 0 n none))]) [(1021, repB x n n)] 100000000000000000000000000000000000000000000000000 (.exit 0) none := by
 subst hz; subst hy; refine jjn hENp (fuel := 100) (str := nSt) (nh := 1000000000000000000000000000000000000000000) (S := Nat) (fun j => 1 <= j /\ j <= z) (fun j => z - j) [7, 8] [] [1021] (repV z) (fun j => [repB x z j]) (by decide) (by decide) (by unfold lim; omega) (s0 := 1) (by omega) (fun _ => ⟨rfl, rfl⟩) rfl heb ?_ ?_
 . intro j _
   refine ⟨rfl, fun b hb => ?_⟩; rw [List.mem_singleton.1 hb]; exact jjg
 . intro j ⟨j1, j2⟩
   have e1 : min (Int.toNat (Option.getD none ((z : Nat) : Int) - Option.getD (some (Int.ofNat j)) (Int.ofNat 0))) (Int.toNat (Option.getD (some (Int.ofNat j)) ((z : Nat) : Int) - Int.ofNat 0)) = min (z - j) j := by
    first | (simp; done) | (simp; omega)
   have e2 : 0 + Int.toNat (Option.getD (some (Int.ofNat j)) (Int.ofNat 0)) = j := by simp
   refine (?_ : (∃ p r, repR Tryz.prog x z j p = some r /\ _) -> _) (rep x z j (StepV 1027 100000000000000000000000000000000000000000000000000 48 [7, 8] [] [1021] (fun j => 1 <= j /\ j <= z) (fun j => z - j) (repV z) (fun j => [repB x z j]) (.exit 0) [(7, .c (.sl 1021 0 0 z none))] [(1021, repB x z z)] j) ?_)
   . rintro ⟨p, r, h1, h2⟩
     exact ⟨p, [], r, h1, h2⟩
   . simp only [e1, e2]
     refine ⟨fun c1 => ?_, fun c1 => ?_⟩
     . have hlt : j < z := by simpa using c1
       refine ⟨?_, rfl, by dsimp only; omega, rfl, .inl ⟨rfl, j + min (z - j) j, by omega, by show z - (j + min (z - j) j) < z - j; omega, ?_, ?_⟩⟩
       . simp only [allT, List.forall_mem_cons]
         simp [slC, slRow, hlt]; omega
       . dsimp only
         rw [jj6 _ (by simp; omega) (by simp; omega)]; simp [lkA, i64]
       . refine ⟨⟨rfl, rfl, rfl, rfl, .inr (.inl ⟨z, _, _, rfl, rfl, fun i hi => ?_⟩)⟩, trivial⟩
         by_cases h : j <= i /\ i < j + min (z - j) j
         . rw [if_pos h]
           simp [elt, show i - j < j by omega, show i < j + min (z - j) j by omega]
         . rw [if_neg h]
           by_cases h2 : i < j
           . simp [h2, show i < j + min (z - j) j by omega]
           . simp [h2, show ¬ i < j + min (z - j) j by omega]
     . have hge : j = z := by simp at c1; omega
       subst hge; refine ⟨by simp [allT], rfl, by dsimp only; omega, rfl, .inr ⟨by simp, rfl, fun q hq => ?_, fun p hp => ?_⟩⟩
       . rw [List.mem_singleton.1 hq]
         exact ⟨rfl, by simp [lkA]⟩
       . rw [List.mem_singleton.1 hp]
         exact ⟨rfl, jjg, _, List.mem_cons_self .., BEq.refl _⟩
def ctRepeat : CtF
 | [.c a, .c (.v (.int .i64 n))], m, ib => match slOf 1 m a with | some (k, F, b) => some (.c (.sl ib 0 0 n.toNat none), [(ib, repB (fA F 0) n.toNat n.toNat)], 1, [b, decide (k = 1), decide (1 <= n), decide (n <= 1000000), intsOk k F]) | none => none
 | _, _, _ => none
theorem jjcc : CtOk Tryz.prog 49 ctRepeat := by
 refine ⟨⟨_, _, Tryz.func49, rfl⟩, fun C β m m2 w args ib r news k' ob vs hct ho hs hr hfree hlim hv => ?_⟩; unfold ctRepeat at hct; split at hct
 . rename_i a n
   split at hct
   . rename_i k F b hsl
     simp only [Option.some.injEq, Prod.mk.injEq] at hct; obtain ⟨rfl, rfl, rfl, rfl⟩ := hct; simp only [allT, List.forall_mem_cons, decide_eq_true_eq] at ho; obtain ⟨rfl, rfl, o1, o2, o3, _⟩ := ho; simp only [γt] at hv; split at hv
     . rename_i v0 us hv0 hus
       cases hus; cases hv; obtain ⟨L0, hL1, hL2⟩ := jjd3 hr (jj10 hs hsl) o3 (v0 := v0) hv0 3; obtain ⟨q, hq⟩ : ∃ q : Nat, n = q := Int.eq_ofNat_of_zero_le (by omega)
       have hu : IntKind.wrap IntKind.u64 n = n := by subst hq; simp [IntKind.wrap, IntKind.bits, IntKind.signed]; omega
       have hm : Int.ofNat 1 * n % Int.ofNat 18446744073709551616 = n := by simp; omega
       have hd : Int.ofNat 1 * n / Int.ofNat 18446744073709551616 = 0 := by simp; omega
       obtain ⟨p, r, hrun, hvr, hbl, hn, hob, hpo⟩ : ∃ p r, rep1 Tryz.prog (fA F) n p = some r /\ (r.1 = .c (.sl 1021 0 0 n.toNat none) /\ r.2.1 = [some (repB (fA F 0) n.toNat n.toNat)] /\ r.2.2.1 <= lim /\ allT r.2.2.2.1 /\ ∀ q ∈ r.2.2.2.2, q) := by
        refine reps (fA F) n _ ?_; simp only [hu, hm, hd, jj6 n (by omega) (by omega)]; refine ⟨fun h => by simp at h; omega, fun _ => ⟨fun h => by simp at h, fun _ => ⟨fun h => by simp at h; omega, fun _ => ?_⟩⟩⟩; refine ⟨by first | trivial | rfl, by first | trivial | rfl, (by first | (unfold lim; omega) | (dsimp only; unfold lim; omega)), ?_, fun q hq => ?_⟩
        . simp [allT]; omega
        . rw [List.mem_singleton.1 hq]
          refine jjjd (fA F 0) n.toNat (by omega) (by omega) rfl (by simp; omega) ⟨⟨rfl, rfl, rfl, rfl, .inr (.inl ⟨n.toNat, _, _, rfl, rfl, fun i hi => ?_⟩)⟩, trivial⟩; by_cases h0 : i = 0
          . subst h0
            simp [elt]; omega
          . have h1 : ¬ i < 1 := by omega
            have hc : ¬ i < min n.toNat 1 := by omega
            have hc2 : ¬ (0 <= i /\ i < 0 + min n.toNat 1) := by omega
            rw [if_neg (by simpa using hc)]; simp [h1]; rfl
       obtain ⟨v, b', n', ob, po⟩ := r; obtain ⟨s', r1, r2, r3, r4⟩ := jjl hrun; have hn : n' <= lim := hn; simp only at hvr hbl; subst hvr; subst hbl; refine (jjz hENp r1 ⟨by rw [r3]; exact hob, by rw [r4]; exact hpo⟩ (C := loneC w) (β := ext1 (fun _ => none) 0 L0) (w := w) (vs := [v0, .int .i64 n]) ?_ hL1 (fun id h1 _ => by unfold ext1; rw [if_neg (by omega)])).mono ?_
       . simp only [γt, i64, γ1, hL2]
         rfl
       . rintro e w' ⟨β', u, rfl, _, _, hu, hr'⟩
         simp only [List.map_cons, List.map_nil, List.cons.injEq, and_true] at r2; obtain ⟨L, hL, hb⟩ := hr'.blk 1021 _ r2; have hid : β ib = none := hfree ib (Nat.le_refl _) (by omega); refine ⟨ext1 β ib L, u, rfl, jjd hid, fun id h => ?_, ?_, ?_⟩
         . unfold ext1
           rw [if_neg (by omega)]
         . simp only [γ, γ1, γc, hL] at hu
           simp only [γ, γ1, γc, jj7]; exact hu
         . refine jj1i hr (jjk hr') hid (jj1j (by omega)) hr' r2 rfl rfl (fun k j _ => ?_) hL
           match j with
           | 0 => exact ⟨_, rfl⟩
           | j + 1 => exact ⟨_, rfl⟩
     . cases hv
   . cases hct
 . cases hct
def clnR (P : Program) (a : AV) (m : AMem) (path : List Dec) : Option VF := viewF [1003, 1005] (fCallF (E1 P) (fC (E1 P) 300) 101 [a] 1000 nSt (stA m path []))
theorem clnA (f : Nat -> Station) (n : Nat) (Q : VF -> Prop) (H : Q (.c (.sl 1005 0 0 (0 + n) none), [none, some (ABlk.mk true true 51 3 (Cs.arr (0 + n) fun i => if i < 0 then [] else elt (ABlk.mk false false 51 3 (Cs.arr n fun k => List.map AC.v ((fun i => [Value.int .i64 (Station.node (f i)), Value.int .u32 (Station.safe (f i)), Value.int .i64 (Station.hold (f i))]) k))) 0 0 3 (i - 0)))], 1007, [decide (0 + n <= n), true, true, decide ((0 + n) * 24 <= 140737488355328), ABlk.inb (ABlk.mk false false 51 3 (Cs.arr n fun k => List.map AC.v ((fun i => [Value.int .i64 (Station.node (f i)), Value.int .u32 (Station.safe (f i)), Value.int .i64 (Station.hold (f i))]) k))) 0 1], [])) :
 ∃ p r, clnR Tryz.prog (.c (.sl 0 0 0 n none)) [(0, sts n f)] p = some r /\ Q r :=
 ⟨pD 1 0, _, by kernel_rfl, H⟩
theorem clnB  (Q : VF -> Prop) (H : Q (.c (AC.v (Value.slice none 0 0)), [none, none], 1004, [], [])) :
 ∃ p r, clnR Tryz.prog (.c (.v (.slice none 0 0))) [] p = some r /\ Q r :=
 ⟨pD 1 0, _, by kernel_rfl, H⟩
theorem clnC (b o cc : Nat) (Q : VF -> Prop) (H : Q (.c (.sl 1003 0 0 0 none), [some (ABlk.mk true true 51 3 (Cs.arr 0 fun x => [])), none], 1007, [true, true, true], [])) :
 ∃ p r, clnR Tryz.prog (.c (.v (.slice (some ⟨b, o, none⟩) 0 cc))) [] p = some r /\ Q r :=
 ⟨pD 1 0, _, by kernel_rfl, H⟩
abbrev stsW (n : Nat) (f : Nat -> Station) : ABlk := wBlk 51 3 n fun i => [.int .i64 (f i).node, .int .u32 (f i).safe, .int .i64 (f i).hold]
def ctClnSt : CtF
 | [.c a], m, ib => match slOf 3 m a with | some (n, F, b) => some (.c (.sl ib 0 0 n none), [(ib, stsW n (stOf F))], 1, [b, decide (n <= 1000000), stsOk n F]) | none => none
 | _, _, _ => none
theorem jj5w : CtOk Tryz.prog 101 ctClnSt := by
 refine ⟨⟨_, _, Tryz.func101, rfl⟩, fun C β m m2 w args ib r news k' ob vs hct ho hs hr hfree hlim hv => ?_⟩; unfold ctClnSt at hct; split at hct
 . rename_i a
   split at hct
   . rename_i n F b hsl
     simp only [Option.some.injEq, Prod.mk.injEq] at hct; obtain ⟨rfl, rfl, rfl, rfl⟩ := hct; simp only [allT, List.forall_mem_cons, decide_eq_true_eq] at ho; obtain ⟨rfl, o2, o3, _⟩ := ho; simp only [γt] at hv; split at hv
     . rename_i v0 us hv0 hus
       cases hus; cases hv; have hid : β ib = none := hfree ib (Nat.le_refl _) (by omega)
       have hmid : look m2 ib = none := by
        cases e : look m2 ib with
        | none => rfl
        | some x => obtain ⟨L, hL, _⟩ := hr.blk ib x e; rw [hid] at hL; cases hL
       obtain ⟨L, hk, hL2⟩ := jjv hr (by omega : 0 < 3) (jj10 hs hsl) hv0 51 (jj6x o3) (fun _ => rfl) (loneC w) (fun _ => none) rfl; have hL3 := hL2 (ext1 (fun _ => none) 0 L) 0 jj7; have hrel := (jjp (jj32 w) (fun _ _ h => by cases h) (id := 0) rfl (fun g => by unfold gid; omega) rfl rfl hk).1; rcases Nat.eq_zero_or_pos n with rfl | hpos
       . cases hnil : L.nil with
         | true =>
          simp only [γc, jj7, hnil, if_true] at hL3; have hv1 : v0 = .slice none 0 0 := by simpa using hL3.symm
          subst hv1; obtain ⟨p, ⟨v, b', n', ob, po⟩, hrun, hvr, hn, hob, hpo⟩ : ∃ p r, clnR Tryz.prog (.c (.v (.slice none 0 0))) [] p = some r /\ (r.1 = .c (.v (.slice none 0 0)) /\ r.2.2.1 <= lim /\ allT r.2.2.2.1 /\ ∀ q ∈ r.2.2.2.2, q) := clnB _ ⟨rfl, by dsimp only; unfold lim; omega, by simp [allT], by simp⟩
          obtain ⟨s', r1, r2, r3, r4⟩ := jjl hrun; refine (jjz hE1 r1 ⟨by rw [r3]; exact hob, by rw [r4]; exact hpo⟩ (C := loneC w) (β := fun _ => none) (w := w) (vs := [.slice none 0 0]) rfl (jj32 w) (fun _ _ _ => rfl)).mono ?_; rintro e w' ⟨β', u, rfl, _, _, hu, hr'⟩; simp only at hvr; subst hvr; cases hu; refine ⟨ext1 β ib ⟨0, 0, 3, 0, true⟩, _, rfl, jjd hid, fun id h => by unfold ext1; rw [if_neg (by omega)], ?_, jj55 (y := stsW 0 (stOf F)) (hr.below (jjk hr')) hid (jj1j (by omega)) rfl⟩; simp [γ, γ1, γc, jj7]
         | false =>
          simp only [γc, jj7, hnil, Bool.false_eq_true, if_false, Option.some.injEq] at hL3; subst hL3; obtain ⟨p, ⟨v, b', n', ob, po⟩, hrun, hvr, hbl, hn, hob, hpo⟩ : ∃ p r, clnR Tryz.prog (.c (.v (.slice (some ⟨L.b, L.o + (0 * L.s + 0), none⟩) 0 ((none : Option Nat).getD (L.cap - 0))))) [] p = some r /\ (r.1 = .c (.sl 1003 0 0 0 none) /\ r.2.1 = [some ⟨true, true, 51, 3, .arr 0 fun _ => []⟩, none] /\ r.2.2.1 <= lim /\ allT r.2.2.2.1 /\ ∀ q ∈ r.2.2.2.2, q) := clnC _ _ _ _ ⟨rfl, rfl, by dsimp only; unfold lim; omega, by simp [allT], by simp⟩
          obtain ⟨s', r1, r2, r3, r4⟩ := jjl hrun; have hn : n' <= lim := hn; simp only at hvr hbl; subst hvr; subst hbl; refine (jjz hE1 r1 ⟨by rw [r3]; exact hob, by rw [r4]; exact hpo⟩ (C := loneC w) (β := fun _ => none) (w := w) (vs := [_]) rfl (jj32 w) (fun _ _ _ => rfl)).mono ?_; rintro e w' ⟨β', u, rfl, _, _, hu, hr'⟩; simp only [List.map_cons, List.map_nil, List.cons.injEq, and_true] at r2; obtain ⟨r2, _⟩ := r2; obtain ⟨L', hL', hb'⟩ := hr'.blk 1003 _ r2; refine ⟨ext1 β ib L', u, rfl, jjd hid, fun id h => by unfold ext1; rw [if_neg (by omega)], ?_, ?_⟩
          . simp only [γ, γ1, γc, hL'] at hu
            simp only [γ, γ1, γc, jj7]; exact hu
          . exact jj85 (jj1i hr (jjk hr') hid (jj1j (by omega)) hr' r2 rfl rfl (fun k j hi => by simp [ABlk.inb] at hi) hL') hmid rfl rfl
       . have hnil : L.nil = false := (hk.cells 0 0 (by simp [rBlk, ABlk.inb, hpos])).1
         obtain ⟨p, ⟨v, b', n', ob, po⟩, hrun, hvr, hbl, hn, hob, hpo⟩ : ∃ p r, clnR Tryz.prog (.c (.sl 0 0 0 n none)) [(0, sts n (stOf F))] p = some r /\ (r.1 = .c (.sl 1005 0 0 n none) /\ r.2.1 = [none, some (stsW n (stOf F))] /\ r.2.2.1 <= lim /\ allT r.2.2.2.1 /\ ∀ q ∈ r.2.2.2.2, q) := by
          refine clnA _ _ _ ?_; simp only [Nat.zero_add]; refine ⟨?_, ?_, (by first | (unfold lim; omega) | (dsimp only; unfold lim; omega)), ?_, by simp⟩
          . first | trivial | rfl
          . simp [elt, wBlk]
          . simp [allT, jj2, hpos]; omega
         obtain ⟨s', r1, r2, r3, r4⟩ := jjl hrun; have hn : n' <= lim := hn; simp only at hvr hbl; subst hvr; subst hbl; refine (jjz hE1 r1 ⟨by rw [r3]; exact hob, by rw [r4]; exact hpo⟩ (C := loneC w) (β := ext1 (fun _ => none) 0 L) (w := w) (vs := [v0]) ?_ hrel (fun id h1 _ => by unfold ext1; rw [if_neg (by omega)])).mono ?_
         . simp only [γt, γ1, hL3]
         . rintro e w' ⟨β', u, rfl, _, _, hu, hr'⟩
           simp only [List.map_cons, List.map_nil, List.cons.injEq, and_true] at r2; obtain ⟨_, r2⟩ := r2; obtain ⟨L', hL', hb'⟩ := hr'.blk 1005 _ r2; refine ⟨ext1 β ib L', u, rfl, jjd hid, fun id h => by unfold ext1; rw [if_neg (by omega)], ?_, ?_⟩
           . simp only [γ, γ1, γc, hL'] at hu
             simp only [γ, γ1, γc, jj7]; exact hu
           . refine jj1i hr (jjk hr') hid (jj1j (by omega)) hr' r2 rfl rfl (fun k j _ => ?_) hL'
             match j with
             | 0 => exact ⟨_, rfl⟩
             | 1 => exact ⟨_, rfl⟩
             | 2 => exact ⟨_, rfl⟩
             | j + 3 => exact ⟨_, rfl⟩
     . cases hv
   . cases hct
 . cases hct
def pairF (c : Cfg) (k : Nat) (i : Nat) : Int := match (List.range k).find? (fun q => halfF c q == Int.ofNat i) with | some q => Int.ofNat (q / 2) | none => -1
abbrev nwIds : List Nat := [70000000000000000000000000000000000001149, 90000000000000000000000000000000000001150, 50000000000000000000000000000000000001149, 10000000000000000000000000000000000001170, 10000000000000000000000000000000000001197, 10000000000000000000000000000000000001224, 10000000000000000000000000000000000001241]
abbrev netB (c : Cfg) : ABlk := ⟨true, false, 105, 0, .lit [.v (.int .i64 c.nodes), .sl 10000000000000000000000000000000000001170 0 0 c.np (some c.np), .sl 10000000000000000000000000000000000001197 0 0 c.ns (some c.ns), .v (.int .i64 c.long), .sl 10000000000000000000000000000000000001224 0 0 c.nb (some c.nb), .sl 10000000000000000000000000000000000001241 0 0 c.nt (some c.nt), .v (.int .i64 c.miss), .v (.int .i64 c.good), .v (.int .i64 c.fresh), .sl 50000000000000000000000000000000000001149 0 0 c.nodes.toNat none]⟩
abbrev intsW (n : Nat) (f : Nat -> Int) : ABlk := wBlk 3 1 n fun i => [.int .i64 (f i)]
abbrev nwBk (c : Cfg) (k : Nat) : List ABlk := [netB c, intsW (2 * c.np) (halfF c), intsW c.nodes.toNat (pairF c k), intsW c.np c.fp, intsW c.ns c.fs, intsW c.nb c.fb, stsW c.nt c.ft]
abbrev nwV (c : Cfg) (k : Nat) : List AV := [.c (.ptr 70000000000000000000000000000000000001149 0 0), .c (.sl 90000000000000000000000000000000000001150 0 0 (2 * c.np) none), i64 (Int.ofNat (2 * c.np)), i64 (Int.ofNat k)]
def nwlR (P : Program) (c : Cfg) (k : Nat) (path : List Dec) : Option VC :=
 view ([7, 33, 34, 35] ++ []) nwIds (fC (E1 P) 300 (loopAt P 11 1) 1000000000000000000000000000000000000000000 nSt (stH 50 [7, 33, 34, 35] nwIds (nwV c k) (nwBk c k) path []))
theorem nwl (c : Cfg) (k : Nat) (Q : VC -> Prop) (H : (((decide (Int.ofNat k < Int.ofNat (2 * c.np))) = true -> Q (Exit.normal, [some (lkA (List.zip [7, 33, 34, 35] (nwV c k)) (0 + 1 + 1 + 1 + 1 + 1 + 1 + 1)), some (lkA (List.zip [7, 33, 34, 35] (nwV c k)) (0 + 1 + 1 + 1 + 1 + 1 + 1 + 1 + 1 + 1 + 1 + 1 + 1 + 1 + 1 + 1 + 1 + 1 + 1 + 1 + 1 + 1 + 1 + 1 + 1 + 1 + 1 + 1 + 1 + 1 + 1 + 1 + 1 + 1)), some (lkA (List.zip [7, 33, 34, 35] (nwV c k)) (0 + 1 + 1 + 1 + 1 + 1 + 1 + 1 + 1 + 1 + 1 + 1 + 1 + 1 + 1 + 1 + 1 + 1 + 1 + 1 + 1 + 1 + 1 + 1 + 1 + 1 + 1 + 1 + 1 + 1 + 1 + 1 + 1 + 1 + 1)), some (.c (.v (.int .i64 (IntKind.wrap .i64 (Int.ofNat k + Int.ofNat 1)))))], [some (ABlk.mk true false 105 0 (Cs.lit [.v (.int .i64 (c.nodes)), AC.sl 10000000000000000000000000000000000001170 0 0 (c.np) (some (c.np)), AC.sl 10000000000000000000000000000000000001197 0 0 (c.ns) (some (c.ns)), .v (.int .i64 (c.long)), AC.sl 10000000000000000000000000000000000001224 0 0 (c.nb) (some (c.nb)), AC.sl 10000000000000000000000000000000000001241 0 0 (c.nt) (some (c.nt)), .v (.int .i64 (c.miss)), .v (.int .i64 (c.good)), .v (.int .i64 (c.fresh)), AC.sl 50000000000000000000000000000000000001149 0 0 (Int.toNat (c.nodes)) none])), some (ABlk.mk true true 3 1 (Cs.arr (2 * c.np) fun k => List.map AC.v ((fun i => [Value.int .i64 (halfF c i)]) k))), some (ABlk.mk true true 3 1 (Cs.arr (Int.toNat (c.nodes)) fun i => if i = 0 + Int.toNat (halfF c (0 + Int.toNat (Int.ofNat k))) then setL ((fun k_1 => List.map AC.v ((fun i => [Value.int .i64 (pairF c k i)]) k_1)) i) 0 [.v (.int .i64 (IntKind.wrap .i64 (Int.tdiv (Int.ofNat k) (Int.ofNat 2))))] else List.map AC.v ((fun i => [Value.int .i64 (pairF c k i)]) i))), some (ABlk.mk true true 3 1 (yP c)), some (ABlk.mk true true 3 1 (yS c)), some (ABlk.mk true true 3 1 (yB c)), some (ABlk.mk true true 51 3 (yT c))], 50, 1000000000000000000000000000000000000000017, [ABlk.inb (ABlk.mk true true 3 1 (Cs.arr (Int.toNat (c.nodes)) fun k_1 => List.map AC.v ((fun i => [Value.int .i64 (pairF c k i)]) k_1))) (0 + Int.toNat (halfF c (0 + Int.toNat (Int.ofNat k)))) 1, decide (Int.ofNat 0 <= halfF c (0 + Int.toNat (Int.ofNat k)) /\ halfF c (0 + Int.toNat (Int.ofNat k)) < ↑(Int.toNat (c.nodes))), true, true, ABlk.inb (ABlk.mk true true 3 1 (Cs.arr (2 * c.np) fun k => List.map AC.v ((fun i => [Value.int .i64 (halfF c i)]) k))) (0 + Int.toNat (Int.ofNat k)) 1, true, decide (Int.ofNat 0 <= Int.ofNat k /\ Int.ofNat k < ↑(2 * c.np)), decide (Int.ofNat k < Int.ofNat (2 * c.np)) == true], [])) /\ ((decide (Int.ofNat k < Int.ofNat (2 * c.np))) = false -> Q (Exit.exit 2, [some (lkA (List.zip [7, 33, 34, 35] (nwV c k)) (0 + 1 + 1 + 1 + 1 + 1 + 1 + 1)), some (lkA (List.zip [7, 33, 34, 35] (nwV c k)) (0 + 1 + 1 + 1 + 1 + 1 + 1 + 1 + 1 + 1 + 1 + 1 + 1 + 1 + 1 + 1 + 1 + 1 + 1 + 1 + 1 + 1 + 1 + 1 + 1 + 1 + 1 + 1 + 1 + 1 + 1 + 1 + 1 + 1)), some (lkA (List.zip [7, 33, 34, 35] (nwV c k)) (0 + 1 + 1 + 1 + 1 + 1 + 1 + 1 + 1 + 1 + 1 + 1 + 1 + 1 + 1 + 1 + 1 + 1 + 1 + 1 + 1 + 1 + 1 + 1 + 1 + 1 + 1 + 1 + 1 + 1 + 1 + 1 + 1 + 1 + 1)), some (lkA (List.zip [7, 33, 34, 35] (nwV c k)) (0 + 1 + 1 + 1 + 1 + 1 + 1 + 1 + 1 + 1 + 1 + 1 + 1 + 1 + 1 + 1 + 1 + 1 + 1 + 1 + 1 + 1 + 1 + 1 + 1 + 1 + 1 + 1 + 1 + 1 + 1 + 1 + 1 + 1 + 1 + 1))], [some (ABlk.mk true false 105 0 (Cs.lit [.v (.int .i64 (c.nodes)), AC.sl 10000000000000000000000000000000000001170 0 0 (c.np) (some (c.np)), AC.sl 10000000000000000000000000000000000001197 0 0 (c.ns) (some (c.ns)), .v (.int .i64 (c.long)), AC.sl 10000000000000000000000000000000000001224 0 0 (c.nb) (some (c.nb)), AC.sl 10000000000000000000000000000000000001241 0 0 (c.nt) (some (c.nt)), .v (.int .i64 (c.miss)), .v (.int .i64 (c.good)), .v (.int .i64 (c.fresh)), AC.sl 50000000000000000000000000000000000001149 0 0 (Int.toNat (c.nodes)) none])), some (ABlk.mk true true 3 1 (Cs.arr (2 * c.np) fun k => List.map AC.v ((fun i => [Value.int .i64 (halfF c i)]) k))), some (ABlk.mk true true 3 1 (Cs.arr (Int.toNat (c.nodes)) fun k_1 => List.map AC.v ((fun i => [Value.int .i64 (pairF c k i)]) k_1))), some (ABlk.mk true true 3 1 (yP c)), some (ABlk.mk true true 3 1 (yS c)), some (ABlk.mk true true 3 1 (yB c)), some (ABlk.mk true true 51 3 (yT c))], 50, 1000000000000000000000000000000000000000001, [decide (Int.ofNat k < Int.ofNat (2 * c.np)) == false], [])))) :
 ∃ p r, nwlR Tryz.prog c k p = some r /\ Q r :=
 two H (fun g1 => ⟨pD 1 1, _, by kernel_rfl, g1⟩) (fun g1 => ⟨pD 1 2, _, by kernel_rfl, g1⟩)
def ENn (P : Program) : Env := ⟨P, [(80, ctCfg (fun c => i64 (rule1 c)) fun _ => true), (82, ctCfg (fun c => i64 (rule2 c)) fun _ => true), (83, ctCfg (fun c => i64 (rule3 c)) fun c => decide (1 <= c.np) && decide (c.np <= 1000)),
 (88, ctCfg (fun c => i64 (rule4 c)) fun _ => true), (89, ctCfg (fun c => i64 (rule5 c)) fun c => decide (c.np <= 1000000) && decide (c.ns <= 1000000)), (91, ctCfg (fun c => i64 (rule6 c)) okNodes),
 (92, ctCfg (fun c => i64 (rule7 c)) fun c => decide (c.nb <= 9223372036854775807)), (95, ctCfg (fun c => i64 (rule8 c)) fun _ => true), (96, ctCfg (fun c => i64 (rule9 c)) fun c => decide (c.nt <= 1000000)), (97, ctCfg (fun c => i64 (rule10 c)) fun _ => true),
 (50, ctHalves), (49, ctRepeat), (101, ctClnSt)]⟩
theorem hENn : EnvOk (ENn Tryz.prog) := by
 refine jj3w (fun f g h => ?_) (by kernel_rfl) (by kernel_rfl); simp only [ENn, List.mem_cons, Prod.mk.injEq, List.not_mem_nil, or_false] at h; rcases h with ⟨rfl, rfl⟩ | ⟨rfl, rfl⟩ | ⟨rfl, rfl⟩ | ⟨rfl, rfl⟩ | ⟨rfl, rfl⟩ | ⟨rfl, rfl⟩ | ⟨rfl, rfl⟩ | ⟨rfl, rfl⟩ | ⟨rfl, rfl⟩ | ⟨rfl, rfl⟩ | ⟨rfl, rfl⟩ | ⟨rfl, rfl⟩ | ⟨rfl, rfl⟩
 . exact jjku
 . exact jjkt
 . exact jjks
 . exact jjkr
 . exact jjkq
 . exact jjkp
 . exact jjko
 . exact jjkn
 . exact jjkm
 . exact jjii
 . exact jj8o
 . exact jjcc
 . exact jj5w
def cfgI (c : Cfg) : Cfg := Cfg.mk (Cfg.nodes c) (Cfg.np c) (fA (elt (ABlk.mk false false 3 1 (Cs.arr (Cfg.np c) fun k => List.map AC.v ((fun i => [Value.int IntKind.i64 (Cfg.fp c i)]) k))) 0 0 1)) (Cfg.ns c) (fA (elt (ABlk.mk false false 3 1 (Cs.arr (Cfg.ns c) fun k => List.map AC.v ((fun i => [Value.int IntKind.i64 (Cfg.fs c i)]) k))) 0 0 1)) (Cfg.long c) (Cfg.nb c) (fA (elt (ABlk.mk false false 3 1 (Cs.arr (Cfg.nb c) fun k => List.map AC.v ((fun i => [Value.int IntKind.i64 (Cfg.fb c i)]) k))) 0 0 1)) (Cfg.nt c) (stOf (elt (ABlk.mk false false 51 3 (Cs.arr (Cfg.nt c) fun k => List.map AC.v ((fun i => [Value.int IntKind.i64 (Station.node (Cfg.ft c i)), Value.int IntKind.u32 (Station.safe (Cfg.ft c i)), Value.int IntKind.i64 (Station.hold (Cfg.ft c i))]) k))) 0 0 3)) (Cfg.miss c) (Cfg.good c) (Cfg.fresh c)
theorem jj8q (c : Cfg) : cfgI c = c := by
 unfold cfgI; simp only [jj5a, jj6y]
def nwR (P : Program) (c : Cfg) (path : List Dec) : Option VF := viewF nwIds (fCallF (ENn P) (fC (ENn P) 300) 11 [.agg (cfgC c)] 1000 nSt (stA (cfgM c) path [none, none, some ⟨[7, 33, 34, 35], nwIds, mkFr 50 [(7, .c (.ptr 70000000000000000000000000000000000001149 0 0))], nwIds.zip (nwBk c (2 * c.np)), 100000000000000000000000000000000000000000000000000, .exit 2⟩]))
set_option maxRecDepth 1000000
theorem nw (c : Cfg) (Q : VF -> Prop) (H : let zI := fun z : Int => AC.v (Value.int .i64 z); let zN := Int.ofNat; let zM := ABlk.mk; let zD := Int.toNat; let yO := fun (t s : Nat) (c : Cs) => some (ABlk.mk true true t s c); let y3 := fun (l : List Bool) => true :: true :: true :: l; let zz5 := (yT c); let zz0 := (eltZ (zM false false 51 3 zz5) 0 0 3); let zz1 := (yP c); let zz2 := (yS c); let zz3 := (yB c); let zz4 := (zM true true 51 3 (Cs.arr (Cfg.nt c) fun k => List.map AC.v ((fun i => [Value.int IntKind.i64 (Station.node (stOf zz0 i)), Value.int IntKind.u32 (Station.safe (stOf zz0 i)), Value.int IntKind.i64 (Station.hold (stOf zz0 i))]) k))); let zt : List Bool -> List Bool := fun l => y3 (y3 (true :: true :: l)); let zq0 : List Bool := (cfgK c) :: (zt (y3 ([]))); let zq1 : List Bool := (cfgK c) :: (zt (y3 ((((rule1 c != zN 0) == false) :: zq0)))); let zq2 : List Bool := (cfgK c) :: (decide (1 <= c.np) && decide (c.np <= 1000)) :: (zt (true :: true :: (((rule2 c != zN 0) == false) :: zq1))); let zq3 : List Bool := (cfgK c) :: (zt (y3 ((((rule3 c != zN 0) == false) :: zq2)))); let zq4 : List Bool := (cfgK c) :: (decide (c.np <= 1000000) && decide (c.ns <= 1000000)) :: (zt (true :: true :: (((rule4 c != zN 0) == false) :: zq3))); let zq5 : List Bool := (cfgK c) :: (okNodes c) :: (zt (true :: true :: (((rule5 c != zN 0) == false) :: zq4))); let zq6 : List Bool := (cfgK c) :: (decide (c.nb <= 9223372036854775807)) :: (zt (true :: true :: (((rule6 c != zN 0) == false) :: zq5))); let zq7 : List Bool := (cfgK c) :: (zt (y3 ((((rule7 c != zN 0) == false) :: zq6)))); let zq8 : List Bool := (cfgK c) :: (decide (c.nt <= 1000000)) :: (zt (true :: true :: (((rule8 c != zN 0) == false) :: zq7))); let zq9 : List Bool := (cfgK c) :: (zt (y3 ((((rule9 c != zN 0) == false) :: zq8)))); (((rule1 c != zN 0) = true -> Q (.tup [.c (AC.v (Value.pointer none)), .c (zI (rule1 c))], [none, none, none, none, none, none, none], 1032, (((rule1 c != zN 0) == true) :: zq0), [])) /\ ((rule1 c != zN 0) = false -> (((rule2 c != zN 0) = true -> Q (.tup [.c (AC.v (Value.pointer none)), .c (zI (rule2 c))], [none, none, none, none, none, none, none], 1045, (((rule2 c != zN 0) == true) :: zq1), [])) /\ ((rule2 c != zN 0) = false -> (((rule3 c != zN 0) = true -> Q (.tup [.c (AC.v (Value.pointer none)), .c (zI (rule3 c))], [none, none, none, none, none, none, none], 1058, (((rule3 c != zN 0) == true) :: zq2), [])) /\ ((rule3 c != zN 0) = false -> (((rule4 c != zN 0) = true -> Q (.tup [.c (AC.v (Value.pointer none)), .c (zI (rule4 c))], [none, none, none, none, none, none, none], 1071, (((rule4 c != zN 0) == true) :: zq3), [])) /\ ((rule4 c != zN 0) = false -> (((rule5 c != zN 0) = true -> Q (.tup [.c (AC.v (Value.pointer none)), .c (zI (rule5 c))], [none, none, none, none, none, none, none], 1084, (((rule5 c != zN 0) == true) :: zq4), [])) /\ ((rule5 c != zN 0) = false -> (((rule6 c != zN 0) = true -> Q (.tup [.c (AC.v (Value.pointer none)), .c (zI (rule6 c))], [none, none, none, none, none, none, none], 1097, (((rule6 c != zN 0) == true) :: zq5), [])) /\ ((rule6 c != zN 0) = false -> (((rule7 c != zN 0) = true -> Q (.tup [.c (AC.v (Value.pointer none)), .c (zI (rule7 c))], [none, none, none, none, none, none, none], 1110, (((rule7 c != zN 0) == true) :: zq6), [])) /\ ((rule7 c != zN 0) = false -> (((rule8 c != zN 0) = true -> Q (.tup [.c (AC.v (Value.pointer none)), .c (zI (rule8 c))], [none, none, none, none, none, none, none], 1123, (((rule8 c != zN 0) == true) :: zq7), [])) /\ ((rule8 c != zN 0) = false -> (((rule9 c != zN 0) = true -> Q (.tup [.c (AC.v (Value.pointer none)), .c (zI (rule9 c))], [none, none, none, none, none, none, none], 1136, (((rule9 c != zN 0) == true) :: zq8), [])) /\ ((rule9 c != zN 0) = false -> (((rule10 c != zN 0) = true -> Q (.tup [.c (AC.v (Value.pointer none)), .c (zI (rule10 c))], [none, none, none, none, none, none, none], 1149, (((rule10 c != zN 0) == true) :: zq9), [])) /\ ((rule10 c != zN 0) = false -> Q (.tup [.c (.ptr 70000000000000000000000000000000000001149 0 0), .c (zI (zN 0))], [some (zM true false 105 0 (Cs.lit [zI (c.nodes), AC.sl 10000000000000000000000000000000000001170 0 0 (c.np) (some (c.np)), AC.sl 10000000000000000000000000000000000001197 0 0 (c.ns) (some (c.ns)), zI (c.long), AC.sl 10000000000000000000000000000000000001224 0 0 (c.nb) (some (c.nb)), AC.sl 10000000000000000000000000000000000001241 0 0 (c.nt) (some (c.nt)), zI (c.miss), zI (c.good), zI (c.fresh), AC.sl 50000000000000000000000000000000000001149 0 0 (zD (c.nodes)) none])), yO 3 1 (Cs.arr (2 * c.np) fun k => List.map AC.v ((fun i => [Value.int .i64 (halfF c i)]) k)), yO 3 1 (Cs.arr (zD (c.nodes)) fun k => List.map AC.v ((fun i => [Value.int .i64 (pairF c (2 * c.np) i)]) k)), yO 3 1 zz1, yO 3 1 zz2, yO 3 1 zz3, yO 51 3 zz5], 100000000000000000000000000000000000000000000000003, ((cfgK c) :: (decide (c.np <= 1000)) :: (zt ((decide (zN 1 <= c.nodes)) :: (decide (c.nodes <= zN 1000000)) :: (zt (zt (true :: ((decide (zN 0 <= zN 0 /\ zN 0 <= Option.getD (some ↑(c.nt)) ↑(c.nt) /\ Option.getD (some ↑(c.nt)) ↑(c.nt) <= slC none (c.nt) (some ↑(c.nt)))) :: true :: (decide (slC none (c.nt) (some ↑(c.nt)) <= ↑(Option.getD none (c.nt)))) :: true :: (slRow none zz4 0 (c.nt)) :: (decide (0 + c.nt <= c.nt)) :: (decide (c.nt <= 1000000)) :: (stsOk (c.nt) fun k => List.map AC.v ((fun i => [Value.int .i64 (Station.node (c.ft i)), Value.int .u32 (Station.safe (c.ft i)), Value.int .i64 (Station.hold (c.ft i))]) k)) :: true :: true :: (decide (zN 0 <= zN 0 /\ zN 0 <= Option.getD (some ↑(0 + c.nb)) ↑(0 + c.nb) /\ Option.getD (some ↑(0 + c.nb)) ↑(0 + c.nb) <= slC none (0 + c.nb) (some ↑(0 + c.nb)))) :: true :: (decide (slC none (0 + c.nb) (some ↑(0 + c.nb)) <= ↑(Option.getD none (0 + c.nb)))) :: true :: (slRow none (zM true true 3 1 (Cs.arr (0 + c.nb) fun i => if i < 0 then [] else elt (zM false false 3 1 zz3) 0 0 1 (i - 0))) 0 (0 + c.nb)) :: (decide (0 + c.nb <= c.nb)) :: true :: true :: (decide ((0 + c.nb) * 8 <= 140737488355328)) :: (ABlk.inb (zM false false 3 1 zz3) 0 1) :: y3 (true :: (decide (zN 0 <= zN 0 /\ zN 0 <= Option.getD (some ↑(0 + c.ns)) ↑(0 + c.ns) /\ Option.getD (some ↑(0 + c.ns)) ↑(0 + c.ns) <= slC none (0 + c.ns) (some ↑(0 + c.ns)))) :: true :: (decide (slC none (0 + c.ns) (some ↑(0 + c.ns)) <= ↑(Option.getD none (0 + c.ns)))) :: true :: (slRow none (zM true true 3 1 (Cs.arr (0 + c.ns) fun i => if i < 0 then [] else elt (zM false false 3 1 zz2) 0 0 1 (i - 0))) 0 (0 + c.ns)) :: (decide (0 + c.ns <= c.ns)) :: true :: true :: (decide ((0 + c.ns) * 8 <= 140737488355328)) :: (ABlk.inb (zM false false 3 1 zz2) 0 1) :: y3 (true :: (decide (zN 0 <= zN 0 /\ zN 0 <= Option.getD (some ↑(0 + c.np)) ↑(0 + c.np) /\ Option.getD (some ↑(0 + c.np)) ↑(0 + c.np) <= slC none (0 + c.np) (some ↑(0 + c.np)))) :: true :: (decide (slC none (0 + c.np) (some ↑(0 + c.np)) <= ↑(Option.getD none (0 + c.np)))) :: true :: (slRow none (zM true true 3 1 (Cs.arr (0 + c.np) fun i => if i < 0 then [] else elt (zM false false 3 1 zz1) 0 0 1 (i - 0))) 0 (0 + c.np)) :: (decide (0 + c.np <= c.np)) :: true :: true :: (decide ((0 + c.np) * 8 <= 140737488355328)) :: (ABlk.inb (zM false false 3 1 zz1) 0 1) :: (zt (true :: (((rule10 c != zN 0) == false) :: zq9)))))))))))), [LoopV Tryz.prog (loopAt Tryz.prog 11 1) [7, 33, 34, 35] nwIds [some (.c (.ptr 70000000000000000000000000000000000001149 0 0)), some (.c (.sl 90000000000000000000000000000000000001150 0 0 (2 * c.np) none)), some (.c (.v (.int .i64 ↑(2 * c.np)))), some (.c (zI (zN 0)))] [some (zM true false 105 0 (Cs.lit [zI (c.nodes), AC.sl 10000000000000000000000000000000000001170 0 0 (zD (Option.getD (some ↑(0 + c.np)) ↑(0 + c.np) - zN 0)) (some (zD (↑(0 + c.np) - zN 0))), AC.sl 10000000000000000000000000000000000001197 0 0 (zD (Option.getD (some ↑(0 + c.ns)) ↑(0 + c.ns) - zN 0)) (some (zD (↑(0 + c.ns) - zN 0))), zI (c.long), AC.sl 10000000000000000000000000000000000001224 0 0 (zD (Option.getD (some ↑(0 + c.nb)) ↑(0 + c.nb) - zN 0)) (some (zD (↑(0 + c.nb) - zN 0))), AC.sl 10000000000000000000000000000000000001241 0 0 (zD (Option.getD (some ↑(c.nt)) ↑(c.nt) - zN 0)) (some (zD (↑(c.nt) - zN 0))), zI (c.miss), zI (c.good), zI (c.fresh), AC.sl 50000000000000000000000000000000000001149 0 0 (zD (c.nodes)) none])), yO 3 1 (Cs.arr (2 * c.np) fun k => List.map AC.v ((fun i => [Value.int .i64 (halfF (Cfg.mk (c.nodes) (c.np) (fA (eltZ (zM false false 3 1 zz1) 0 0 1)) (c.ns) (fA (eltZ (zM false false 3 1 zz2) 0 0 1)) (c.long) (c.nb) (fA (eltZ (zM false false 3 1 zz3) 0 0 1)) (c.nt) (stOf zz0) (c.miss) (c.good) (c.fresh)) i)]) k)), yO 3 1 (Cs.arr (zD (c.nodes)) fun k => List.map AC.v ((fun i => [Value.int .i64 (if i < zD (c.nodes) then fA (eltZ (zM true false 3 0 (Cs.lit [zI (Int.negSucc 0)])) 0 0 1) 0 else 0)]) k)), yO 3 1 (Cs.arr (0 + c.np) fun i => if i < 0 then [] else elt (zM false false 3 1 zz1) 0 0 1 (i - 0)), yO 3 1 (Cs.arr (0 + c.ns) fun i => if i < 0 then [] else elt (zM false false 3 1 zz2) 0 0 1 (i - 0)), yO 3 1 (Cs.arr (0 + c.nb) fun i => if i < 0 then [] else elt (zM false false 3 1 zz3) 0 0 1 (i - 0)), some zz4] 50 90000000000000000000000000000000000001153 (mkFr 50 [(7, .c (.ptr 70000000000000000000000000000000000001149 0 0))]) (List.zip nwIds (nwBk c (2 * c.np))) 100000000000000000000000000000000000000000000000000 (Exit.exit 2) none])))))))))))))))))))))) :
 ∃ p r, nwR Tryz.prog c p = some r /\ Q r :=
 two H (fun g1 => ⟨pD 2 3, _, by kernel_rfl, g1⟩) (fun g1 => two g1 (fun g2 => ⟨pD 4 33, _, by kernel_rfl, g2⟩) (fun g2 => two g2 (fun g3 => ⟨pD 6 303, _, by kernel_rfl, g3⟩) (fun g3 => two g3 (fun g4 => ⟨pD 8 2733, _, by kernel_rfl, g4⟩) (fun g4 => two g4 (fun g5 => ⟨pD 10 24603, _, by kernel_rfl, g5⟩) (fun g5 => two g5 (fun g6 => ⟨pD 12 221433, _, by kernel_rfl, g6⟩) (fun g6 => two g6 (fun g7 => ⟨pD 14 1992903, _, by kernel_rfl, g7⟩) (fun g7 => two g7 (fun g8 => ⟨pD 16 17936133, _, by kernel_rfl, g8⟩) (fun g8 => two g8 (fun g9 => ⟨pD 18 161425203, _, by kernel_rfl, g9⟩) (fun g9 => two g9 (fun g10 => ⟨pD 20 1452826833, _, by kernel_rfl, g10⟩) (fun g10 => ⟨pD 28 2615088300, _, by kernel_rfl, g10⟩))))))))))
end Go.Proofs.YtfohlkhfnogmdaaGreatDoor
end
section
namespace Go.Proofs.YtfohlkhfnogmdaaGreatDoor
open Go.RowKit
theorem jja {x lo hi : Int} (h : withinF x lo hi = 0) : lo <= x /\ x <= hi := by
 unfold withinF at h; split at h
 . omega
 . split at h <;> omega
theorem jja6 (c : Cfg) (k : Nat) (hnd : ∀ q, q < k -> halfF c q ≠ halfF c k) (i : Nat) : pairF c (k + 1) i = if halfF c k = Int.ofNat i then Int.ofNat (k / 2) else pairF c k i := by
 unfold pairF; rw [List.range_succ, List.find?_append]
 cases e : (List.range k).find? (fun q => halfF c q == Int.ofNat i) with
 | some q =>
  have h1 : halfF c q = Int.ofNat i := by simpa using List.find?_some e
  have h2 : q < k := by simpa using List.mem_of_find?_eq_some e
  rw [if_neg (fun h => hnd q h2 (by rw [h1, h]))]; rfl
 | none =>
  by_cases h : halfF c k = Int.ofNat i
  . rw [if_pos h]; simp [h]
  . rw [if_neg h]
    have : (halfF c k == Int.ofNat i) = false := by simpa using h
    simp only [List.find?_cons, this, List.find?_nil, Option.none_or]
theorem jjac {c : Cfg} {k : Nat} : ∀ b ∈ nwBk c k, lowB 90000000000000000000000000000000000001153 b := by
 intro b hb; simp only [List.mem_cons, List.not_mem_nil, or_false] at hb; rcases hb with rfl | rfl | rfl | rfl | rfl | rfl | rfl
 . exact jjc rfl
 all_goals exact jjg
theorem jjjw (c : Cfg) (h4 : 4 <= c.nodes) (h16 : c.nodes <= 16) (hp : c.np <= 8) (hr : ∀ q, q < 2 * c.np -> 0 <= halfF c q /\ halfF c q < c.nodes) (hnd : ∀ q q', q < q' -> q' < 2 * c.np -> halfF c q ≠ halfF c q') {eblks : List (Option ABlk)} (heb : BL (nwBk c 0) eblks) :
 LoopV Tryz.prog (loopAt Tryz.prog 11 1) [7, 33, 34, 35] nwIds ((nwV c 0).map some) eblks 50 90000000000000000000000000000000000001153 (mkFr 50 [(7, .c (.ptr 70000000000000000000000000000000000001149 0 0))]) (nwIds.zip (nwBk c (2 * c.np))) 100000000000000000000000000000000000000000000000000 (.exit 2) none := by
 refine jjn hE1 (fuel := 300) (str := nSt) (nh := 1000000000000000000000000000000000000000000) (S := Nat) (fun k => k <= 2 * c.np) (fun k => 2 * c.np - k) [7, 33, 34, 35] [] nwIds (nwV c) (nwBk c) (by decide) (by decide) (by unfold lim; omega) (s0 := 0) (by omega) (fun _ => ⟨rfl, rfl⟩) (by kernel_rfl) heb (fun k _ => ⟨rfl, jjac⟩) ?_; intro k hk; have e0 : 0 + Int.toNat (Int.ofNat k) = k := by simp
 refine (?_ : (∃ p r, nwlR Tryz.prog c k p = some r /\ _) -> _) (nwl c k (StepV 90000000000000000000000000000000000001153 100000000000000000000000000000000000000000000000000 50 [7, 33, 34, 35] [] nwIds (fun k => k <= 2 * c.np) (fun k => 2 * c.np - k) (nwV c) (nwBk c) (.exit 2) [(7, .c (.ptr 70000000000000000000000000000000000001149 0 0))] (nwIds.zip (nwBk c (2 * c.np))) k) ?_)
 . rintro ⟨p, r, h1, h2⟩
   exact ⟨p, [], r, h1, h2⟩
 . simp only [e0]
   refine ⟨fun c1 => ?_, fun c1 => ?_⟩
   . have hlt : k < 2 * c.np := by simp at c1; omega
     obtain ⟨q1, q2⟩ := hr k hlt; refine ⟨?_, rfl, by dsimp only; omega, rfl, .inl ⟨rfl, k + 1, by omega, by show 2 * c.np - (k + 1) < 2 * c.np - k; omega, ?_, BEq.refl _, BEq.refl _, ?_, BEq.refl _, BEq.refl _, BEq.refl _, BEq.refl _, trivial⟩⟩
     . simp only [allT, List.forall_mem_cons, e0]
       simp [jj2, jj8, hlt, q1, q2]; omega
     . dsimp only
       rw [jj6 _ (by simp; omega) (by simp; omega)]; rfl
     . refine ⟨rfl, rfl, rfl, rfl, .inr (.inl ⟨c.nodes.toNat, _, _, rfl, rfl, fun i hi => ?_⟩)⟩
       have hv : IntKind.wrap IntKind.i64 (Int.tdiv (Int.ofNat k) (Int.ofNat 2)) = Int.ofNat (k / 2) := by
        rw [jj6 _ (by simp; omega) (by simp; omega)]; simp
       show _ = List.map AC.v [Value.int .i64 (pairF c (k + 1) i)]; rw [jja6 c k (fun q hq => hnd q k hq hlt) i, hv]; by_cases h : halfF c k = Int.ofNat i
       . have hi' : i = 0 + Int.toNat (halfF c k) := by rw [h]; simp
         rw [if_pos hi', if_pos h]; rfl
       . have hi' : ¬ i = 0 + Int.toNat (halfF c k) := fun e => h (by rw [e]; simp; omega)
         rw [if_neg hi', if_neg h]
   . have hge : k = 2 * c.np := by simp at c1; omega
     subst hge; refine ⟨by simp [allT], rfl, by dsimp only; omega, rfl, .inr ⟨by simp, rfl, fun q hq => ?_, fun p hpp => ?_⟩⟩
     . rw [List.mem_singleton.1 hq]
       exact ⟨rfl, List.mem_cons_self ..⟩
     . exact ⟨List.all_eq_true.1 (jj2i (f := keptB 90000000000000000000000000000000000001153 100000000000000000000000000000000000000000000000000) (ids := nwIds) (bs := nwBk c (2 * c.np)) (by kernel_rfl)) p hpp, jjac _ (List.of_mem_zip hpp).2, p.2, jj13 hpp, BEq.refl _⟩
def cfgErr (c : Cfg) : Int :=
 if rule1 c ≠ 0 then rule1 c else if rule2 c ≠ 0 then rule2 c else if rule3 c ≠ 0 then rule3 c else if rule4 c ≠ 0 then rule4 c else if rule5 c ≠ 0 then rule5 c else if rule6 c ≠ 0 then rule6 c else if rule7 c ≠ 0 then rule7 c else if rule8 c ≠ 0 then rule8 c else if rule9 c ≠ 0 then rule9 c else rule10 c
theorem jjcg {c : Cfg} (r1 : rule1 c = 0) (r3 : rule3 c = 0) : (4 <= c.nodes /\ c.nodes <= 16) /\ (∀ q, q < 2 * c.np -> 0 <= halfF c q /\ halfF c q < c.nodes) /\ (∀ q q', q < q' -> q' < 2 * c.np -> halfF c q ≠ halfF c q') := by
 have hn := jja r1; unfold rule3 at r3; split at r3
 . rename_i h
   simp only [Bool.and_eq_true] at h; obtain ⟨hi, _, hd⟩ := h
   have hin : ∀ i, i < c.np -> 0 <= c.fp i /\ c.fp i < c.nodes := fun i h => by
    have := List.all_eq_true.1 hi i (by simpa using h); simpa using this
   refine ⟨hn, fun q hq => ?_, fun q q' h1 h2 => ?_⟩
   . obtain ⟨a, b⟩ := hin (q / 2) (by omega)
     unfold halfF ringF; split
     . exact ⟨a, b⟩
     . rw [if_pos ⟨hn.1, hn.2, a, b⟩]
       exact ⟨Int.emod_nonneg _ (by omega), Int.emod_lt_of_pos _ (by omega)⟩
   . have hd := of_decide_eq_true hd
     rw [List.Nodup, List.pairwise_map] at hd; have := List.pairwise_iff_getElem.1 hd q q' (by simp; omega) (by simpa using h2) h1; simpa using this
 . cases r3
def netV (c : Cfg) (r : VF) : Prop := r.2.2.1 <= lim /\ allT r.2.2.2.1 /\ (∀ q ∈ r.2.2.2.2, q) /\
 ((cfgErr c = 0 /\ r.1 = .tup [.c (.ptr 70000000000000000000000000000000000001149 0 0), i64 0] /\ r.2.1 = (nwBk c (2 * c.np)).map some) \/ (cfgErr c ≠ 0 /\ r.1 = .tup [.c (.v (.pointer none)), i64 (cfgErr c)]))
set_option maxRecDepth 4000 in
theorem jjd9 (c : Cfg) (hb : c.nb <= 9223372036854775807) : ∃ p r, nwR Tryz.prog c p = some r /\ netV c r := by
 refine nw c _ ?_; simp only [jj8q, jjj, jj5a, jj0, jj6y, jj1]; have f2 : rule2 c = 0 -> 2 <= c.np /\ c.np <= 8 := fun h => by have := jja h; omega
 have f4 : rule4 c = 0 -> 1 <= c.ns /\ c.ns <= 16 := fun h => by have := jja h; omega
 have f8 : rule8 c = 0 -> c.nt <= 8 := fun h => by have := jja h; omega
 have f1 : rule1 c = 0 -> 4 <= c.nodes /\ c.nodes <= 16 := fun h => jja h
 have f7 : rule7 c = 0 -> (c.nb : Int) = c.nodes := fun h => by unfold rule7 at h; split at h; assumption; cases h
 have f13 := fun a b => @jjcg c a b
 have t1 : ∀ n : Nat, ((some ((0 + n : Nat) : Int)).getD ((0 + n : Nat) : Int) - Int.ofNat 0).toNat = n := fun n => by simp
 have t2 : ∀ n : Nat, (((0 + n : Nat) : Int) - Int.ofNat 0).toNat = n := fun n => by simp
 have t3 : ∀ n : Nat, ((some ((n : Nat) : Int)).getD ((n : Nat) : Int) - Int.ofNat 0).toNat = n := fun n => by simp
 have t4 : ∀ n : Nat, (((n : Nat) : Int) - Int.ofNat 0).toNat = n := fun n => by simp
 simp only [t1, t2, t3, t4]
 repeat' (first | refine ⟨fun h => ?_, fun h => ?_⟩ | fail)
 all_goals (simp only [bne_iff_ne, ne_eq, bne_eq_false_iff_eq, show (Int.ofNat 0) = (0 : Int) from rfl] at *)
 iterate 10 (rotate_left)
 . -- a net
   rename_i e1 e2 e3 e4 e5 e6 e7 e8 e9; have e10 := h; obtain ⟨⟨n4, n16⟩, hr, hnd⟩ := f13 e1 e3; have g2 := f2 e2; have g4 := f4 e4; have g7 := f7 e7; have g8 := f8 e8; have hz : cfgErr c = 0 := by simp [cfgErr, e1, e2, e3, e4, e5, e6, e7, e8, e9, e10]
   refine ⟨(by first | (unfold lim; omega) | (dsimp only; unfold lim; omega)), ?_, fun q hq => ?_, .inl ⟨hz, rfl, rfl⟩⟩
   . clear f1 f2 f4 f7 f8 f13 hr hnd
     simp [allT, jjj, okNodes, e1, e2, e3, e4, e5, e6, e7, e8, e9, e10, jj0, jj1, jj2, jj8, eltZ, elt, isI64, intsOk, slC, slRow, hb]; omega
   . rw [List.mem_singleton.1 hq]
     refine jjjw c n4 n16 g2.2 hr hnd ⟨BEq.refl _, BEq.refl _, ⟨rfl, rfl, rfl, rfl, .inr (.inl ⟨_, _, _, rfl, rfl, fun i hi => ?_⟩)⟩, ⟨rfl, rfl, rfl, rfl, .inr (.inl ⟨c.np, _, _, by rw [Nat.zero_add], rfl, fun i hi => ?_⟩)⟩, ⟨rfl, rfl, rfl, rfl, .inr (.inl ⟨c.ns, _, _, by rw [Nat.zero_add], rfl, fun i hi => ?_⟩)⟩, ⟨rfl, rfl, rfl, rfl, .inr (.inl ⟨c.nb, _, _, by rw [Nat.zero_add], rfl, fun i hi => ?_⟩)⟩, BEq.refl _, trivial⟩
     . simp [hi, pairF, fA, eltZ, elt, asI]
     . simp [elt]
     . simp [elt]
     . simp [elt]
 all_goals
  clear f13; refine ⟨(by first | (unfold lim; omega) | (dsimp only; unfold lim; omega)), ?_, (by simp), .inr ⟨?_, ?_⟩⟩
  rotate_left
  . simp_all [cfgErr]
  . simp_all [cfgErr, i64]
  . simp_all [allT, jjj, okNodes, jj0, jj1, jj2, jj8, eltZ, elt, isI64, intsOk, slC, slRow]
    try omega
abbrev netC (ib : Nat) (c : Cfg) : List AC := [.v (.int .i64 c.nodes), .sl (ib + 2) 0 0 c.np (some c.np), .sl (ib + 3) 0 0 c.ns (some c.ns), .v (.int .i64 c.long), .sl (ib + 4) 0 0 c.nb (some c.nb), .sl (ib + 5) 0 0 c.nt (some c.nt), .v (.int .i64 c.miss), .v (.int .i64 c.good), .v (.int .i64 c.fresh), .sl (ib + 1) 0 0 c.nodes.toNat none]
abbrev netY (ib : Nat) (c : Cfg) : ABlk := ⟨true, false, 105, 0, .lit (netC ib c)⟩
abbrev nwN (ib : Nat) (c : Cfg) : List (Nat × Nat × ABlk) := [(ib, 70000000000000000000000000000000000001149, netY ib c), (ib + 1, 50000000000000000000000000000000000001149, intsW c.nodes.toNat (pairF c (2 * c.np))), (ib + 2, 10000000000000000000000000000000000001170, intsW c.np c.fp), (ib + 3, 10000000000000000000000000000000000001197, intsW c.ns c.fs), (ib + 4, 10000000000000000000000000000000000001224, intsW c.nb c.fb), (ib + 5, 10000000000000000000000000000000000001241, stsW c.nt c.ft)]
abbrev nwM (ib : Nat) (c : Cfg) : AMem := [(ib, netY ib c), (ib + 1, intsW c.nodes.toNat (pairF c (2 * c.np))), (ib + 2, intsW c.np c.fp), (ib + 3, intsW c.ns c.fs), (ib + 4, intsW c.nb c.fb), (ib + 5, stsW c.nt c.ft)]
def ctNew : CtF
 | [.agg l], m, ib =>
  match cfgOf l m, subB mS m with
  | some (c, b), true => some (.tup [.c (.ptr ib 0 0), i64 0], nwM ib c, 6, [b, decide (c.nb <= 9223372036854775807), decide (cfgErr c = 0)])
  | _, _ => none
 | _, _, _ => none
def ctNewE : CtF
 | [.agg l], m, _ =>
  match cfgOf l m, subB mS m with
  | some (c, b), true => some (.tup [.c (.v (.pointer none)), i64 (cfgErr c)], [], 0, [b, decide (c.nb <= 9223372036854775807), decide (cfgErr c ≠ 0)])
  | _, _ => none
 | _, _, _ => none
theorem jjiw {β β' : Nm} {i i' : Nat} (h : β' i' = β i) (k j : Nat) : ad β' i' k j = ad β i k j := by unfold ad; rw [h]
theorem jjgc {β β' : Nm} (L : List Value) (j : Nat) : ∀ u, γc β ((L.map AC.v).getD j nov) = some u -> γc β' ((L.map AC.v).getD j nov) = some u := by
 intro u hu; simp only [List.getD, List.getElem?_map] at hu ⊢
 cases e : L[j]? with
 | none => rw [e] at hu; simp only [Option.map_none, Option.getD_none] at hu ⊢; exact hu
 | some v => rw [e] at hu; simp only [Option.map_some, Option.getD_some] at hu ⊢; exact hu
theorem jjh1 {β1 β' : Nm} {m1 : AMem} {o ty s n : Nat} {F : Nat -> List Value} (h : look m1 o = some (wBlk ty s n F)) : OutOk β1 β' m1 o (wBlk ty s n F) (wBlk ty s n F) :=
 ⟨h, rfl, rfl, rfl, rfl, rfl, rfl, .inr ⟨_, _, rfl, rfl⟩, fun k j _ u hu => jjgc (F k) j u hu⟩
theorem jjij : CtOk Tryz.prog 11 ctNewE := by
 refine ⟨⟨_, _, Tryz.func11, rfl⟩, fun C β m m2 w args ib r news k' ob vs hct ho hs hr hfree hlim hv => ?_⟩; unfold ctNewE at hct; split at hct
 . rename_i l
   split at hct
   . rename_i c b hc hg
     simp only [Option.some.injEq, Prod.mk.injEq] at hct; obtain ⟨rfl, rfl, rfl, rfl⟩ := hct; simp only [allT, List.forall_mem_cons, decide_eq_true_eq] at ho; obtain ⟨rfl, o2, o3, _⟩ := ho; obtain ⟨p, ⟨v, b', n', ob, po⟩, hrun, hn, hob, hpo, hvr⟩ := jjd9 c o2; obtain ⟨s', r1, r2, r3, r4⟩ := jjl hrun; have hn : n' <= lim := hn; rcases hvr with ⟨h0, _⟩ | ⟨_, hvr⟩
     . exact absurd h0 o3
     simp only [γt, γ1] at hv; split at hv
     . rename_i v0 us hv0 hus
       split at hv0
       . rename_i cs hcs
         cases hv0; cases hus; cases hv; obtain ⟨β1, q1, q2, q3⟩ := jj87 hs hr hc hg hcs; refine (jjz hENn r1 ⟨by rw [r3]; exact hob, by rw [r4]; exact hpo⟩ (C := loneC w) (β := β1) (w := w) (vs := [.agg cs.toArray]) ?_ q1 (fun id h1 h2 => q3 id h1 (by omega))).mono ?_
         . simp only [γt, γ1, q2]
         . rintro e w' ⟨β', u, rfl, _, _, hu, hr'⟩
           simp only at hvr; subst hvr; exact ⟨β, u, rfl, Ext.refl _, fun _ _ => rfl, hu, by rw [List.append_nil]; exact hr.below (jjk hr')⟩
       . cases hv0
     . cases hv
   . cases hct
 . cases hct
theorem jjky : CtOk Tryz.prog 11 ctNew := by
 refine ⟨⟨_, _, Tryz.func11, rfl⟩, fun C β m m2 w args ib r news k' ob vs hct ho hs hr hfree hlim hv => ?_⟩; unfold ctNew at hct; split at hct
 . rename_i l
   split at hct
   . rename_i c b hc hg
     simp only [Option.some.injEq, Prod.mk.injEq] at hct; obtain ⟨rfl, rfl, rfl, rfl⟩ := hct; simp only [allT, List.forall_mem_cons, decide_eq_true_eq] at ho; obtain ⟨rfl, o2, o3, _⟩ := ho; obtain ⟨p, ⟨v, b', n', ob, po⟩, hrun, hn, hob, hpo, hvr⟩ := jjd9 c o2; obtain ⟨s', r1, r2, r3, r4⟩ := jjl hrun; have hn : n' <= lim := hn; rcases hvr with ⟨_, hvr, hbl⟩ | ⟨h0, _⟩
     rotate_left
     . exact absurd o3 h0
     simp only [γt, γ1] at hv; split at hv
     . rename_i v0 us hv0 hus
       split at hv0
       . rename_i cs hcs
         cases hv0; cases hus; cases hv; obtain ⟨β1, q1, q2, q3⟩ := jj87 hs hr hc hg hcs; refine (jjz hENn r1 ⟨by rw [r3]; exact hob, by rw [r4]; exact hpo⟩ (C := loneC w) (β := β1) (w := w) (vs := [.agg cs.toArray]) ?_ q1 (fun id h1 h2 => q3 id h1 (by omega))).mono ?_
         . simp only [γt, γ1, q2]
         . rintro e w' ⟨β2, u, rfl, _, _, hu, hr'⟩
           simp only at hvr hbl; subst hvr; subst hbl; simp only [List.map_cons, List.map_nil, List.cons.injEq, and_true] at r2; obtain ⟨k0, _, k1, k2, k3, k4, k5⟩ := r2; have hnd : ((nwN ib c).map (·.1)).Nodup := by simp
           have hnd2 : ∀ p ∈ nwN ib c, ∀ q ∈ nwN ib c, p.2.1 = q.2.1 -> p.1 = q.1 := by
            intro p hp q hq e; simp only [List.mem_cons, List.not_mem_nil, or_false] at hp hq; rcases hp with rfl | rfl | rfl | rfl | rfl | rfl <;> rcases hq with rfl | rfl | rfl | rfl | rfl | rfl <;> first | rfl | (exact absurd e (by dsimp only; omega))
           have hj := jjek hr (jjk hr') hr' hnd hnd2 (fun p hp => ?_) ?_
           . refine ⟨_, u, rfl, hj.2, fun id h => jj4v fun p hp => ?_, ?_, hj.1⟩
             . simp only [List.mem_cons, List.not_mem_nil, or_false] at hp
               rcases hp with rfl | rfl | rfl | rfl | rfl | rfl <;> dsimp only <;> omega
             . have e0 : addN β β2 (nwN ib c) ib = β2 70000000000000000000000000000000000001149 := jj2e hnd (p := (ib, _, _)) (List.mem_cons_self ..)
               simp only [γ, γt, γ1, γc, jjiw e0] at hu ⊢; exact hu
           . simp only [List.mem_cons, List.not_mem_nil, or_false] at hp
             rcases hp with rfl | rfl | rfl | rfl | rfl | rfl <;> exact ⟨hfree _ (by dsimp only; omega) (by dsimp only; omega), jj1j (by dsimp only; omega)⟩
           . have e1 : addN β β2 (nwN ib c) (ib + 1) = β2 50000000000000000000000000000000000001149 := jj2e hnd (p := (ib + 1, _, _)) (List.mem_cons_of_mem _ (List.mem_cons_self ..))
             have e2 : addN β β2 (nwN ib c) (ib + 2) = β2 10000000000000000000000000000000000001170 := jj2e hnd (p := (ib + 2, _, _)) (List.mem_cons_of_mem _ (List.mem_cons_of_mem _ (List.mem_cons_self ..))); have e3 : addN β β2 (nwN ib c) (ib + 3) = β2 10000000000000000000000000000000000001197 := jj2e hnd (p := (ib + 3, _, _)) (List.mem_cons_of_mem _ (List.mem_cons_of_mem _ (List.mem_cons_of_mem _ (List.mem_cons_self ..)))); have e4 : addN β β2 (nwN ib c) (ib + 4) = β2 10000000000000000000000000000000000001224 := jj2e hnd (p := (ib + 4, _, _)) (List.mem_cons_of_mem _ (List.mem_cons_of_mem _ (List.mem_cons_of_mem _ (List.mem_cons_of_mem _ (List.mem_cons_self ..))))); have e5 : addN β β2 (nwN ib c) (ib + 5) = β2 10000000000000000000000000000000000001241 := jj2e hnd (p := (ib + 5, _, _)) (List.mem_cons_of_mem _ (List.mem_cons_of_mem _ (List.mem_cons_of_mem _ (List.mem_cons_of_mem _ (List.mem_cons_of_mem _ (List.mem_cons_self ..)))))); intro p hp; simp only [List.mem_cons, List.not_mem_nil, or_false] at hp; rcases hp with rfl | rfl | rfl | rfl | rfl | rfl
             . refine ⟨_, k0, rfl, rfl, rfl, rfl, rfl, rfl, .inl ⟨_, _, rfl, rfl, rfl⟩, fun k j hi u hu => ?_⟩
               match j with
               | 0 => exact hu
               | 1 => simp only [Cs.get, List.getD, List.getElem?_cons_succ, List.getElem?_cons_zero, Option.getD_some, γc, e2] at hu ⊢; exact hu
               | 2 => simp only [Cs.get, List.getD, List.getElem?_cons_succ, List.getElem?_cons_zero, Option.getD_some, γc, e3] at hu ⊢; exact hu
               | 3 => exact hu
               | 4 => simp only [Cs.get, List.getD, List.getElem?_cons_succ, List.getElem?_cons_zero, Option.getD_some, γc, e4] at hu ⊢; exact hu
               | 5 => simp only [Cs.get, List.getD, List.getElem?_cons_succ, List.getElem?_cons_zero, Option.getD_some, γc, e5] at hu ⊢; exact hu
               | 6 => exact hu
               | 7 => exact hu
               | 8 => exact hu
               | 9 => simp only [Cs.get, List.getD, List.getElem?_cons_succ, List.getElem?_cons_zero, Option.getD_some, γc, e1] at hu ⊢; exact hu
               | j + 10 => exact hu
             . exact ⟨_, jjh1 k1⟩
             . exact ⟨_, jjh1 k2⟩
             . exact ⟨_, jjh1 k3⟩
             . exact ⟨_, jjh1 k4⟩
             . exact ⟨_, jjh1 k5⟩
       . cases hv0
     . cases hv
   . cases hct
 . cases hct
abbrev netC0 (c : Cfg) (nq : Nat) : List AC := [.v (.int .i64 c.nodes), .sl 0 0 0 c.np none, .sl 1 0 0 c.ns none, .v (.int .i64 c.long), .sl 2 0 0 c.nb none, .sl 3 0 0 c.nt none, .v (.int .i64 c.miss), .v (.int .i64 c.good), .v (.int .i64 c.fresh), .sl 4 0 0 nq none]
abbrev netL (c : Cfg) (nq : Nat) (fq : Nat -> Int) : AMem := [(0, ints 3 c.np c.fp), (1, ints 3 c.ns c.fs), (2, ints 3 c.nb c.fb), (3, sts c.nt c.ft), (4, ints 3 nq fq), (5, ⟨false, false, 105, 0, .lit (netC0 c nq)⟩)]
abbrev netM (c : Cfg) (nq : Nat) (fq : Nat -> Int) : AMem := [(gid 0, signB), (0, ints 3 c.np c.fp), (1, ints 3 c.ns c.fs), (2, ints 3 c.nb c.fb), (3, sts c.nt c.ft), (4, ints 3 nq fq), (5, ⟨false, false, 105, 0, .lit (netC0 c nq)⟩)]
def netOf (l : List AC) (m : AMem) : Option (Cfg × Nat × (Nat -> Int) × Bool) :=
 match l with
 | [.v (.int .i64 nodes), p, s, .v (.int .i64 long), b, t, .v (.int .i64 miss), .v (.int .i64 good), .v (.int .i64 fresh), q] =>
  match slOf 1 m p, slOf 1 m s, slOf 1 m b, slOf 3 m t, slOf 1 m q with
  | some (np, P, b1), some (ns, S, b2), some (nb, B, b3), some (nt, T, b4), some (nq, Q, b5) => some (⟨nodes, np, fA P, ns, fA S, long, nb, fA B, nt, stOf T, miss, good, fresh⟩, nq, fA Q, b1 && (b2 && (b3 && (b4 && (b5 && (intsOk np P && (intsOk ns S && (intsOk nb B && (stsOk nt T && intsOk nq Q)))))))))
  | _, _, _, _, _ => none
 | _ => none
theorem jjgi {G m : AMem} (hg : subB G m = true) : ∀ id x, look G id = some x -> x.own = false /\ isO x = false := by
 intro id x hx; have h1 := List.all_eq_true.1 hg _ (jj11 hx); simp only at h1; split at h1
 . simp only [Bool.and_eq_true, Bool.not_eq_true'] at h1
   refine ⟨h1.1, ?_⟩; have h3 := h1.2; unfold eqBk at h3; split at h3
   . rename_i l q _ hq; simp [isO, hq]
   . cases h3
 . cases h1
theorem jjbp {G : AMem} (hG : (G.all fun p => Nat.ble lim p.1) = true) {C : Ctx} {β : Nm} {m m2 : AMem} {w : World} (hs : Sub m m2) (hr : Rel C β m2 w) {l : List AC} {id0 : Nat} {x0 : ABlk} (hx0 : look m id0 = some x0) (hc0 : x0.cs = .lit l) {c : Cfg} {nq : Nat} {fq : Nat -> Int} (h : netOf l m = some (c, nq, fq, true)) (hg : subB G m = true) {v0 : Value} (hv : γc β (.ptr id0 0 0) = some v0) :
 ∃ β', Rel (loneC w) β' (G ++ netL c nq fq) w /\ γc β' (.ptr 5 0 0) = some v0 /\ (∀ id, 6 <= id -> id < lim -> β' id = none) /\ ∀ i x, look (G ++ netL c nq fq) i = some x -> x.own = false /\ isO x = false := by
 obtain ⟨LN, hLN, hkN⟩ := hr.blk id0 x0 (hs _ _ hx0); have hsz := hkN.lit l hc0; unfold netOf at h; split at h
 . rename_i nodes p s long b t miss good fresh q
   split at h
   . rename_i np P b1 ns S b2 nb B b3 nt T b4 nq' Q b5 hp hsl hb ht hq
     simp only [Option.some.injEq, Prod.mk.injEq, Bool.and_eq_true] at h; obtain ⟨rfl, rfl, rfl, rfl, rfl, rfl, rfl, rfl, i1, i2, i3, i4, i5⟩ := h
     have cell : ∀ j, j < 10 -> LN.nil = false /\ ∃ u, γc β ((Cs.lit [.v (.int .i64 nodes), p, s, .v (.int .i64 long), b, t, .v (.int .i64 miss), .v (.int .i64 good), .v (.int .i64 fresh), q]).get 0 j) = some u /\ u.oneCell' = true /\ w.cell? ⟨LN.b, LN.o + j, none⟩ = some u := by
      intro j hj; obtain ⟨g1, u, g2, g3, g4⟩ := hkN.cells 0 j (by simp only [ABlk.inb, hc0, hsz]; simp; omega); rw [hc0] at g2; rw [Nat.zero_mul, Nat.zero_add] at g4; exact ⟨g1, u, g2, g3, g4⟩
     have hnil := (cell 0 (by omega)).1; obtain ⟨v1, g1⟩ : ∃ v, γc β p = some v := by obtain ⟨_, u, g2, _⟩ := cell 1 (by omega); exact ⟨u, g2⟩
     obtain ⟨v2, g2⟩ : ∃ v, γc β s = some v := by obtain ⟨_, u, g2, _⟩ := cell 2 (by omega); exact ⟨u, g2⟩
     obtain ⟨v4, g4⟩ : ∃ v, γc β b = some v := by obtain ⟨_, u, g2, _⟩ := cell 4 (by omega); exact ⟨u, g2⟩
     obtain ⟨v5, g5⟩ : ∃ v, γc β t = some v := by obtain ⟨_, u, g2, _⟩ := cell 5 (by omega); exact ⟨u, g2⟩
     obtain ⟨v9, g9⟩ : ∃ v, γc β q = some v := by obtain ⟨_, u, g2, _⟩ := cell 9 (by omega); exact ⟨u, g2⟩
     have r0 := jj4d hr hs hg hG; have n0 := jjgi hg; have hlo : ∀ id, id < lim -> nmG β id = none := fun id h => by unfold nmG; rw [if_neg (by omega)]
     have hgi : ∀ (id : Nat), id < lim -> ∀ g, id ≠ gid g := fun id h => jj1j h
     obtain ⟨L0, k0, z0⟩ := jjv hr Nat.one_pos (jj10 hs hp) g1 3 (jj17 i1) (fun _ => rfl) (loneC w) (nmG β) rfl; obtain ⟨r1, n1⟩ := jjp r0 n0 (id := 0) (hlo 0 (by unfold lim; omega)) (hgi 0 (by unfold lim; omega)) rfl rfl k0; obtain ⟨L1, k1, z1⟩ := jjv hr Nat.one_pos (jj10 hs hsl) g2 3 (jj17 i2) (fun _ => rfl) (loneC w) (ext1 (nmG β) 0 L0) rfl; obtain ⟨r2, n2⟩ := jjp r1 n1 (id := 1) (by simp [ext1, hlo 1 (by unfold lim; omega)]) (hgi 1 (by unfold lim; omega)) rfl rfl k1; obtain ⟨L2, k2, z2⟩ := jjv hr Nat.one_pos (jj10 hs hb) g4 3 (jj17 i3) (fun _ => rfl) (loneC w) (ext1 (ext1 (nmG β) 0 L0) 1 L1) rfl; obtain ⟨r3, n3⟩ := jjp r2 n2 (id := 2) (by simp [ext1, hlo 2 (by unfold lim; omega)]) (hgi 2 (by unfold lim; omega)) rfl rfl k2; obtain ⟨L3, k3, z3⟩ := jjv hr (by omega : 0 < 3) (jj10 hs ht) g5 51 (jj6x i4) (fun _ => rfl) (loneC w) (ext1 (ext1 (ext1 (nmG β) 0 L0) 1 L1) 2 L2) rfl; obtain ⟨r4, n4⟩ := jjp r3 n3 (id := 3) (by simp [ext1, hlo 3 (by unfold lim; omega)]) (hgi 3 (by unfold lim; omega)) rfl rfl k3; obtain ⟨L4, k4, z4⟩ := jjv hr Nat.one_pos (jj10 hs hq) g9 3 (jj17 i5) (fun _ => rfl) (loneC w) (ext1 (ext1 (ext1 (ext1 (nmG β) 0 L0) 1 L1) 2 L2) 3 L3) rfl; obtain ⟨r5, n5⟩ := jjp r4 n4 (id := 4) (by simp [ext1, hlo 4 (by unfold lim; omega)]) (hgi 4 (by unfold lim; omega)) rfl rfl k4; obtain ⟨β5, hβ5⟩ : ∃ β5, β5 = ext1 (ext1 (ext1 (ext1 (ext1 (nmG β) 0 L0) 1 L1) 2 L2) 3 L3) 4 L4 := ⟨_, rfl⟩
     rw [<- hβ5] at r5; have y0 := z0 β5 0 (by rw [hβ5]; simp [ext1]); have y1 := z1 β5 1 (by rw [hβ5]; simp [ext1]); have y2 := z2 β5 2 (by rw [hβ5]; simp [ext1]); have y3 := z3 β5 3 (by rw [hβ5]; simp [ext1]); have y4 := z4 β5 4 (by rw [hβ5]; simp [ext1])
     have h5 : ∀ id, 5 <= id -> id < lim -> β5 id = none := fun id h1 h2 => by
      rw [hβ5]; simp [ext1, hlo id h2, show id ≠ 0 by omega, show id ≠ 1 by omega, show id ≠ 2 by omega, show id ≠ 3 by omega, show id ≠ 4 by omega]
     have hkn : BlkOk (loneC w) β5 w ⟨LN.b, LN.o, 0, LN.cap, LN.nil⟩ ⟨false, false, 105, 0, .lit (netC0 ⟨nodes, np, fA P, ns, fA S, long, nb, fA B, nt, stOf T, miss, good, fresh⟩ nq')⟩ := by
      refine ⟨rfl, fun _ _ => rfl, fun k j hi => ?_, hkN.lt, fun ho => (by cases ho), fun n f hf => (by cases hf), fun ho => (by cases ho)⟩; have hj : j < 10 := by simp [ABlk.inb] at hi; omega
      obtain ⟨_, u, e2, e3, e4⟩ := cell j hj; refine ⟨hnil, u, ?_, e3, by rw [Nat.mul_zero, Nat.zero_add]; exact e4⟩
      match j, hj with
      | 0, _ => exact e2
      | 1, _ => exact y0.trans (g1.symm.trans e2)
      | 2, _ => exact y1.trans (g2.symm.trans e2)
      | 3, _ => exact e2
      | 4, _ => exact y2.trans (g4.symm.trans e2)
      | 5, _ => exact y3.trans (g5.symm.trans e2)
      | 6, _ => exact e2
      | 7, _ => exact e2
      | 8, _ => exact e2
      | 9, _ => exact y4.trans (g9.symm.trans e2)
     obtain ⟨r6, n6⟩ := jjp r5 n5 (id := 5) (h5 5 (by omega) (by unfold lim; omega)) (hgi 5 (by unfold lim; omega)) rfl rfl hkn; simp only [List.append_assoc, List.cons_append, List.nil_append] at r6 n6; refine ⟨_, r6, ?_, fun id h1 h2 => ?_, n6⟩
     . simp only [γc, ad, hLN, hnil, Bool.false_eq_true, if_false, Nat.zero_mul, Nat.add_zero, Option.some.injEq] at hv
       simp only [γc, ad, jj7, hnil, Bool.false_eq_true, if_false, Nat.zero_mul, Nat.add_zero, Option.some.injEq]; exact hv
     . unfold ext1
       rw [if_neg (by omega)]; exact h5 id (by omega) h2
   . cases h
 . cases h
theorem jja1 {G : AMem} (hG : (G.all fun p => Nat.ble lim p.1) = true) {C : Ctx} {β : Nm} {m m2 : AMem} {w : World} (hs : Sub m m2) (hr : Rel C β m2 w) {l : List AC} {id0 : Nat} {x0 : ABlk} (hx0 : look m id0 = some x0) (hc0 : x0.cs = .lit l) {c : Cfg} {nq : Nat} {fq : Nat -> Int} (h : netOf l m = some (c, nq, fq, true)) (hg : subB G m = true) {v0 : Value} (hv : γc β (.ptr id0 0 0) = some v0) :
 ∃ β', Rel (loneC w) β' (G ++ netL c nq fq) w /\ γc β' (.ptr 5 0 0) = some v0 /\ ∀ id, 1000 <= id -> id < lim -> β' id = none := by
 obtain ⟨β', h1, h2, h3, _⟩ := jjbp hG hs hr hx0 hc0 h hg hv; exact ⟨β', h1, h2, fun id a b => h3 id (by omega) b⟩
theorem jjgp {C : Ctx} {β : Nm} {m m2 : AMem} {w : World} (hs : Sub m m2) (hr : Rel C β m2 w) {l : List AC} {id0 : Nat} {x0 : ABlk} (hx0 : look m id0 = some x0) (hc0 : x0.cs = .lit l) {c : Cfg} {nq : Nat} {fq : Nat -> Int} (h : netOf l m = some (c, nq, fq, true)) (hg : subB mS m = true) {v0 : Value} (hv : γc β (.ptr id0 0 0) = some v0) :
 ∃ β', Rel (loneC w) β' (netM c nq fq) w /\ γc β' (.ptr 5 0 0) = some v0 /\ ∀ id, 1000 <= id -> id < lim -> β' id = none := jja1 (G := mS) (by kernel_rfl) hs hr hx0 hc0 h hg hv
def netK (c : Cfg) (nq : Nat) (fq : Nat -> Int) : Bool := decide (0 + Cfg.np c <= Cfg.np c) && (decide (0 + Cfg.ns c <= Cfg.ns c) && (decide (0 + Cfg.nb c <= Cfg.nb c) && (decide (0 + Cfg.nt c <= Cfg.nt c) && (decide (0 + nq <= nq) && ((intsOk (Cfg.np c) fun k => List.map AC.v ((fun i => [Value.int IntKind.i64 (Cfg.fp c i)]) k)) && ((intsOk (Cfg.ns c) fun k => List.map AC.v ((fun i => [Value.int IntKind.i64 (Cfg.fs c i)]) k)) && ((intsOk (Cfg.nb c) fun k => List.map AC.v ((fun i => [Value.int IntKind.i64 (Cfg.fb c i)]) k)) && ((stsOk (Cfg.nt c) fun k => List.map AC.v ((fun i => [Value.int IntKind.i64 (Station.node (Cfg.ft c i)), Value.int IntKind.u32 (Station.safe (Cfg.ft c i)), Value.int IntKind.i64 (Station.hold (Cfg.ft c i))]) k)) && intsOk nq fun k => List.map AC.v ((fun i => [Value.int IntKind.i64 (fq i)]) k)))))))))
theorem jji (c : Cfg) (nq : Nat) (fq : Nat -> Int) : netK c nq fq = true := by simp [netK, intsOk, isI64, stsOk, isSt]
def intsA : List AV -> Option (List Int)
 | [] => some []
 | .c (.v (.int .i64 z)) :: r => match intsA r with | some zs => some (z :: zs) | none => none
 | _ => none
abbrev argsI (zs : List Int) : List AV := zs.map fun z => .c (.v (.int .i64 z))
theorem jjfd : ∀ {l : List AV} {zs : List Int}, intsA l = some zs -> l = argsI zs := by
 intro l
 induction l with
 | nil => intro zs h; cases h; rfl
 | cons a r ih =>
  intro zs h; unfold intsA at h; split at h
  . rename_i e; cases e
  . rename_i z r' e
    cases e
    cases e2 : intsA r with
    | none => rw [e2] at h; cases h
    | some zs' => rw [e2] at h; cases h; rw [ih e2]; rfl
  . cases h
def ctNet (R : Cfg -> Nat -> (Nat -> Int) -> List Int -> AV) (pre : Cfg -> Nat -> (Nat -> Int) -> List Int -> Bool) : CtF
 | .c (.ptr id 0 0) :: rest, m, _ =>
  match look m id, intsA rest, subB mS m with
  | some ⟨_, _, _, _, .lit l⟩, some zs, true => match netOf l m with | some (c, nq, fq, b) => some (R c nq fq zs, [], 0, [b, pre c nq fq zs]) | none => none
  | _, _, _ => none
 | _, _, _ => none
theorem jj7l {P : Program} {f : FuncId} {R : Cfg -> Nat -> (Nat -> Int) -> List Int -> AV} {pre : Cfg -> Nat -> (Nat -> Int) -> List Int -> Bool} (hf : ∃ (fn : Func) (c : Code), P.funcs[f]? = some fn /\ fn.body = some c) (hres : ∀ c nq fq zs (β1 β2 : Nm) u, γ β1 (R c nq fq zs) = some u -> γ β2 (R c nq fq zs) = some u) (many : Nat)
 (run : ∀ c nq fq zs, pre c nq fq zs = true -> zs.length = many -> ∃ (E : Env) (fuel str : Nat), E.P = P /\ EnvOk E /\ ∃ p lp r, viewF [] (fCallF E (fC E fuel) f (.c (.ptr 5 0 0) :: argsI zs) 1000 str (stA (netM c nq fq) p lp)) = some r /\ r.1 = R c nq fq zs /\ r.2.2.1 <= lim /\ allT r.2.2.2.1 /\ ∀ q ∈ r.2.2.2.2, q) : CtOk P f (ctNet R fun c nq fq zs => pre c nq fq zs && decide (zs.length = many)) := by
 refine ⟨hf, fun C β m m2 w args ib r news k' ob vs hct ho hs hr hfree hlim hv => ?_⟩; unfold ctNet at hct; split at hct
 . rename_i id rest
   split at hct
   . rename_i o1 r1' t1 s1 l zs hlk hzs hg
     split at hct
     . rename_i c nq fq b hc
       simp only [Option.some.injEq, Prod.mk.injEq] at hct; obtain ⟨rfl, rfl, rfl, rfl⟩ := hct; simp only [allT, List.forall_mem_cons, Bool.and_eq_true, decide_eq_true_eq] at ho; obtain ⟨rfl, ⟨o2, o3⟩, _⟩ := ho; obtain ⟨E, fuel, str, rfl, hE, p, lp, ⟨v, b', n', ob, po⟩, hrun, hvr, hn, hob, hpo⟩ := run c nq fq zs o2 o3; obtain ⟨s', r1, r2, r3, r4⟩ := jjl hrun; have hn : n' <= lim := hn; obtain rfl := jjfd hzs; simp only [γt] at hv; split at hv
       . rename_i v0 us hv0 hus
         cases hv; obtain ⟨β1, q1, q2, q3⟩ := jjgp hs hr hlk rfl hc hg hv0; refine (jjz hE r1 ⟨by rw [r3]; exact hob, by rw [r4]; exact hpo⟩ (C := loneC w) (β := β1) (w := w) (vs := v0 :: us) ?_ q1 (fun id h1 h2 => q3 id h1 (by omega))).mono ?_
         . have hus' := jj2h (zs.map fun z => Value.int .i64 z) (restA := argsI zs) (by simp [argsI]) β β1 us hus
           simp only [γt, γ1, q2, hus']
         . rintro e w' ⟨β', u, rfl, _, _, hu, hr'⟩
           simp only at hvr; subst hvr; exact ⟨β, u, rfl, Ext.refl _, fun _ _ => rfl, hres _ _ _ _ _ _ _ hu, by rw [List.append_nil]; exact hr.below (jjk hr')⟩
       . cases hv
     . cases hct
   . cases hct
 . cases hct
def netR (P : Program) (f : FuncId) (c : Cfg) (nq : Nat) (fq : Nat -> Int) (zs : List Int) (path : List Dec) : Option VF := viewF [] (fCallF (E1 P) (fC (E1 P) 300) f (.c (.ptr 5 0 0) :: argsI zs) 1000 nSt (stA (netM c nq fq) path []))
structure NetS where
 c : Cfg
 nq : Nat
 fq : Nat -> Int
 rest : List AV
def netRdG (G : AMem) (hG : (G.all fun p => Nat.ble lim p.1) = true) : Rd NetS where
 dec := fun xs m =>
  match xs with
  | .c (.ptr id 0 0) :: rest =>
   match look m id, plainL rest, subB G m with
   | some ⟨_, _, _, _, .lit l⟩, true, true => match netOf l m with | some (c, nq, fq, b) => some (⟨c, nq, fq, rest⟩, b) | none => none
   | _, _, _ => none
  | _ => none
 args := fun s => .c (.ptr 5 0 0) :: s.rest
 mem := fun s => G ++ netL s.c s.nq s.fq
 ok := by
  intro C β m m2 w xs s vs hs hr hd hv; split at hd
  . rename_i id rest
    split at hd
    . rename_i o1 r1' t1 s1 l hlk hpl hg
      split at hd
      . rename_i c nq fq b hc
        simp only [Option.some.injEq, Prod.mk.injEq] at hd; obtain ⟨rfl, rfl⟩ := hd; simp only [γt] at hv; split at hv
        . rename_i v0 us hv0 hus
          cases hv; obtain ⟨β1, q1, q2, q3⟩ := jja1 hG hs hr hlk rfl hc hg hv0; refine ⟨β1, q1, ?_, q3⟩; simp only [γt, γ1, q2, jj3z hpl hus]
        . cases hv
      . cases hd
    . cases hd
  . cases hd
def netRd : Rd NetS := netRdG mS (by kernel_rfl)
theorem jjk0 (c : Cfg) (nq : Nat) (fq : Nat -> Int) (z : Int) (Q : VF -> Prop) (H : (((!decide (↑nq > Int.ofNat 0)) = true -> Q (.c (.v (.int .i64 (Int.negSucc 0))), [], 1016, [(!decide (↑nq > Int.ofNat 0)) == true, true], [])) /\ ((!decide (↑nq > Int.ofNat 0)) = false -> (((decide (z < Int.ofNat 0)) = true -> Q (.c (.v (.int .i64 (Int.negSucc 0))), [], 1028, [decide (z < Int.ofNat 0) == true, true, (!decide (↑nq > Int.ofNat 0)) == false, true], [])) /\ ((decide (z < Int.ofNat 0)) = false -> (((decide (z ≥ ↑(c.np))) = true -> Q (.c (.v (.int .i64 (Int.negSucc 0))), [], 1032, [decide (z ≥ ↑(c.np)) == true, decide (z < Int.ofNat 0) == false, true, (!decide (↑nq > Int.ofNat 0)) == false, true], [])) /\ ((decide (z ≥ ↑(c.np))) = false -> Q (.c (.v (.int .i64 (c.fp (0 + Int.toNat z)))), [], 1036, [ABlk.inb (ABlk.mk false false 3 1 (yP c)) (0 + Int.toNat z) 1, true, decide (Int.ofNat 0 <= z /\ z < ↑(c.np)), decide (z ≥ ↑(c.np)) == false, decide (z < Int.ofNat 0) == false, true, (!decide (↑nq > Int.ofNat 0)) == false, true], [])))))))) :
 ∃ p r, netR Tryz.prog 16 c nq fq [z] p = some r /\ Q r :=
 two H (fun g1 => ⟨pD 7 729, _, by kernel_rfl, g1⟩) (fun g1 => two g1 (fun g2 => ⟨pD 12 3645, _, by kernel_rfl, g2⟩) (fun g2 => two g2 (fun g3 => ⟨pD 12 182979, _, by kernel_rfl, g3⟩) (fun g3 => ⟨pD 12 360126, _, by kernel_rfl, g3⟩)))
def ctNew0 (err : Cfg -> Int) : CtF
 | [.agg l], m, ib =>
  match cfgOf l m, subB mS m with
  | some (c, b), true => some (.tup [.c (.ptr ib 0 0), i64 0], nwM ib c, 6, [b, decide (c.nb <= 9223372036854775807), decide (err c = 0)])
  | _, _ => none
 | _, _, _ => none
def ctNew1 (err : Cfg -> Int) : CtF
 | [.agg l], m, _ =>
  match cfgOf l m, subB mS m with
  | some (c, b), true => some (.tup [.c (.v (.pointer none)), i64 (err c)], [], 0, [b, decide (c.nb <= 9223372036854775807), decide (err c ≠ 0)])
  | _, _ => none
 | _, _, _ => none
theorem jjil : CtOk Tryz.prog 11 (ctNew0 cfgErr) := jjky
theorem jjik : CtOk Tryz.prog 11 (ctNew1 cfgErr) := jjij
def atF (f : Nat -> Int) (n : Nat) (z : Int) : Int := if 0 <= z /\ z < n then f z.toNat else -1
def roundN (c : Cfg) (nq : Nat) : Int := if nq = 0 then 0 else IntKind.wrap .i64 (c.ns * c.long)
def ctNet1 (R : Cfg -> Nat -> (Nat -> Int) -> Int -> Int) : CtF := ctNet (fun c nq fq zs => i64 (R c nq fq (zs.headD 0))) fun c nq fq zs => true && decide (zs.length = 1)
def ctRoundN : CtF := ctNet (fun c nq _ _ => i64 (roundN c nq)) fun c nq fq zs => true && decide (zs.length = 0)
def ntE (E : Env) (f : FuncId) (c : Cfg) (nq : Nat) (fq : Nat -> Int) (r : List AV) (path : List Dec) (lp : List (Option LSum)) : Option VF := viewF [] (fCallF E (fC E 300) f (.c (.ptr 5 0 0) :: r) 1000 nSt (stA (netM c nq fq) path lp))
def ckPre (c : Cfg) (nq : Nat) : Bool := decide (0 < nq) && (decide (1 <= c.ns) && (decide (c.ns <= 16) && (decide (1 <= c.long) && decide (c.long <= 4096))))
theorem jj3t {a b x y : Int} (h0 : 0 <= a) (h1 : a <= x) (h2 : 0 <= b) (h3 : b <= y) : a * b <= x * y := Int.mul_le_mul h1 h3 h2 (by omega)
theorem jjb5 {c : Cfg} {nq : Nat} (h : ckPre c nq = true) : roundN c nq = c.ns * c.long /\ 1 <= (c.ns : Int) * c.long /\ (c.ns : Int) * c.long <= 65536 /\ 0 < nq /\ 1 <= c.ns /\ c.ns <= 16 /\ 1 <= c.long /\ c.long <= 4096 := by
 simp only [ckPre, Bool.and_eq_true, decide_eq_true_eq] at h; obtain ⟨h1, h2, h3, h4, h5⟩ := h; have e1 : (c.ns : Int) * c.long <= 16 * 4096 := jj3t (by omega) (by omega) (by omega) (by omega); have e2 : (1 : Int) * 1 <= c.ns * c.long := jj3t (by omega) (by omega) (by omega) (by omega); refine ⟨?_, by omega, by omega, h1, h2, h3, h4, h5⟩; unfold roundN; rw [if_neg (by omega), jj6 _ (by omega) (by omega)]
def headN (c : Cfg) (nq : Nat) (_ : Nat -> Int) (z : Int) : Int := if nq = 0 then -1 else atF c.fp c.np z
theorem jjb2 : CtOk Tryz.prog 16 (ctNet (fun c nq fq zs => i64 (headN c nq fq (zs.headD 0))) fun c nq fq zs => true && decide (zs.length = 1)) := by
 refine jj7l ⟨_, _, Tryz.func16, rfl⟩ (fun c nq fq zs => jjs _) 1 fun c nq fq zs _ hz => ?_
 obtain ⟨z, rfl⟩ := List.length_eq_one_iff.1 hz; refine (?_ : (∃ p r, netR Tryz.prog 16 c nq fq [z] p = some r /\ (r.1 = i64 (headN c nq fq z) /\ r.2.2.1 <= lim /\ allT r.2.2.2.1 /\ ∀ q ∈ r.2.2.2.2, q)) -> _) (jjk0 c nq fq z _ ?_)
 . rintro ⟨p, r, h1, h2⟩
   exact ⟨E1 Tryz.prog, 300, nSt, rfl, hE1, p, [], r, h1, h2⟩
 . repeat' (first | refine ⟨fun h => ?_, fun h => ?_⟩ | fail)
   all_goals (refine ⟨?_, (by first | (unfold lim; omega) | (dsimp only; unfold lim; omega)), ?_, by simp⟩)
   all_goals (simp only [Int.ofNat_eq_natCast] at *)
   all_goals (first
    | (show i64 _ = i64 _; unfold headN atF; simp at *; first | (rw [if_pos (by omega)]; done) | (rw [if_neg (by omega), if_neg (by omega)]; done) | (rw [if_neg (by omega), if_pos (by omega)]; done) | (intros; omega) | (split <;> first | rfl | omega))
    | (simp at *; simp [allT, jj2]; omega))
def ctFirst : CtF := ctNet (fun c nq fq zs => i64 (headN c nq fq (zs.headD 0))) fun c nq fq zs => true && decide (zs.length = 1)
def ENf (P : Program) : Env := ⟨P, [(16, ctFirst)]⟩
theorem hENf : EnvOk (ENf Tryz.prog) := by
 refine jj3w (fun f g h => ?_) (by kernel_rfl) (by kernel_rfl); simp only [ENf, List.mem_cons, Prod.mk.injEq, List.not_mem_nil, or_false] at h; obtain ⟨rfl, rfl⟩ := h; exact jjb2
def hasB (c : Cfg) (nq : Nat) (fq : Nat -> Int) (p : Nat) : Bool := decide (0 <= headN c nq fq (Int.ofNat p))
def inB (c : Cfg) (nq : Nat) (fq : Nat -> Int) (v : Vw) (p : Nat) : Bool := hasB c nq fq p && v.inn p
abbrev vwB (v : Vw) : ABlk := ⟨true, false, 59, 0, .lit (v.cells.map .v)⟩
abbrev netY0 (c : Cfg) (nq : Nat) : ABlk := ⟨false, false, 105, 0, .lit (netC0 c nq)⟩
abbrev netIds : List Nat := [gid 0, 0, 1, 2, 3, 4, 5]
abbrev netBk (c : Cfg) (nq : Nat) (fq : Nat -> Int) : List ABlk := [signB, ints 3 c.np c.fp, ints 3 c.ns c.fs, ints 3 c.nb c.fb, sts c.nt c.ft, ints 3 nq fq, netY0 c nq]
theorem jj4w (v : Vw) (k : Nat) (h : k < 8) : asB (List.getD (vwL v) (0 + Int.toNat (Int.ofNat k) * 1) nov) = v.inn k := by
 match k, h with
 | 0, _ => rfl
 | 1, _ => rfl
 | 2, _ => rfl
 | 3, _ => rfl
 | 4, _ => rfl
 | 5, _ => rfl
 | 6, _ => rfl
 | 7, _ => rfl
theorem jj52 (v : Vw) (k : Nat) (h : k < 8) : okl .b (List.getD (vwL v) (0 + Int.toNat (Int.ofNat k) * 1) nov) = true := by
 match k, h with
 | 0, _ => rfl
 | 1, _ => rfl
 | 2, _ => rfl
 | 3, _ => rfl
 | 4, _ => rfl
 | 5, _ => rfl
 | 6, _ => rfl
 | 7, _ => rfl
theorem jj24 {n : Nat} {v : Vw} : lowB n (vwB v) := jjc (List.all_eq_true.2 fun x hx => by
 obtain ⟨y, _, rfl⟩ := List.mem_map.1 hx
 rfl)
theorem jj8c {c : Cfg} {nq : Nat} {fq : Nat -> Int} {n : Nat} (hn : 10 <= n) : ∀ b ∈ netBk c nq fq, lowB n b := by
 intro b hb; have hc : ∀ i, i < 10 -> Nat.blt i n = true := fun i h => by rw [Nat.blt_eq]; omega
 simp only [List.mem_cons, List.not_mem_nil, or_false] at hb; rcases hb with rfl | rfl | rfl | rfl | rfl | rfl | rfl
 . exact jjc rfl
 . exact jje
 . exact jje
 . exact jje
 . exact jje
 . exact jje
 . exact jjc (by simp [lowC, hc 0 (by omega), hc 1 (by omega), hc 2 (by omega), hc 3 (by omega), hc 4 (by omega), Nat.blt_eq]; try omega)
theorem jj20 (f : Nat -> Bool) (k : Nat) : cntF f (k + 1) = cntF f k + (if f k then 1 else 0) := rfl
theorem jj2j (k : Nat) (h : k <= 1000000) : IntKind.wrap IntKind.i64 (Int.ofNat k + Int.ofNat 1) = Int.ofNat (k + 1) := by rw [jj6 _ (by simp; omega) (by simp; omega)]; simp
def rV (R : Cfg -> Nat -> (Nat -> Int) -> List AC -> List AV -> AV) : NetS -> AV
 | ⟨c, nq, fq, .agg l :: r⟩ => R c nq fq l r
 | _ => i64 0
def pV (pre : List AC -> List AV -> Bool) : NetS -> Bool
 | ⟨_, _, _, .agg l :: r⟩ => isVw l && pre l r
 | _ => false
theorem jjjs {G : AMem} (hG : (G.all fun p => Nat.ble lim p.1) = true) {pre : List AC -> List AV -> Bool} {s : NetS} (h : pV pre s = true) : ∃ c nq fq v r, pre (vwL v) r = true /\ (netRdG G hG).args s = .c (.ptr 5 0 0) :: .agg (vwL v) :: r /\ (netRdG G hG).mem s = G ++ netL c nq fq /\ ∀ R, rV R s = R c nq fq (vwL v) r := by
 obtain ⟨c, nq, fq, rest⟩ := s
 match rest with
 | .agg l :: r =>
  simp only [pV, Bool.and_eq_true] at h; have e := jjga h.1; exact ⟨c, nq, fq, vwOf l, r, by rw [vwL, <- e]; exact h.2, by rw [vwL, <- e]; rfl, rfl, fun R => by rw [vwL, <- e]; rfl⟩
 | [] => simp [pV] at h
 | .c _ :: _ => simp [pV] at h
 | .tup _ :: _ => simp [pV] at h
 | .any :: _ => simp [pV] at h
theorem jj73 {R : Cfg -> Nat -> (Nat -> Int) -> List AC -> List AV -> AV} (h : ∀ c nq fq v r, plainR (R c nq fq v r) = true) (s : NetS) : plainR (rV R s) = true := by
 unfold rV; split
 . exact h _ _ _ _ _
 . rfl
theorem jjb4 {G : AMem} (hG : (G.all fun p => Nat.ble lim p.1) = true) {E : Env} (hE : EnvOk E) {f : FuncId} {R : Cfg -> Nat -> (Nat -> Int) -> List AC -> List AV -> AV} {pre : List AC -> List AV -> Bool} (hf : ∃ (fn : Func) (c : Code), E.P.funcs[f]? = some fn /\ fn.body = some c) (hres : ∀ c nq fq v r, plainR (R c nq fq v r) = true)
 (run : ∀ c nq fq v r, pre (vwL v) r = true -> ∃ p lp q, viewF [] (fCallF E (fC E 300) f (.c (.ptr 5 0 0) :: .agg (vwL v) :: r) 1000 nSt (stA (G ++ netL c nq fq) p lp)) = some q /\ GoodF (R c nq fq (vwL v) r) q) : CtOk E.P f (ctRd (netRdG G hG) (rV R) (pV pre)) := by
 refine jj1e hE (netRdG G hG) (fuel := 300) (str := nSt) hf (jj73 hres) fun s hs => ?_
 obtain ⟨c, nq, fq, v, r, h1, h2, h3, h4⟩ := jjjs hG hs; rw [h2, h3, h4]; exact run c nq fq v r h1
theorem jjb3 {E : Env} (hE : EnvOk E) {f : FuncId} {R : Cfg -> Nat -> (Nat -> Int) -> List AC -> List AV -> AV} {pre : List AC -> List AV -> Bool} (hf : ∃ (fn : Func) (c : Code), E.P.funcs[f]? = some fn /\ fn.body = some c) (hres : ∀ c nq fq v r, plainR (R c nq fq v r) = true)
 (run : ∀ c nq fq v r, pre (vwL v) r = true -> ∃ p lp q, viewF [] (fCallF E (fC E 300) f (.c (.ptr 5 0 0) :: .agg (vwL v) :: r) 1000 nSt (stA (netM c nq fq) p lp)) = some q /\ GoodF (R c nq fq (vwL v) r) q) : CtOk E.P f (ctRd netRd (rV R) (pV pre)) :=
 jjb4 (G := mS) (by kernel_rfl) hE hf hres run
def vwE (E : Env) (f : FuncId) (c : Cfg) (nq : Nat) (fq : Nat -> Int) (v : Vw) (r : List AV) (path : List Dec) (lp : List (Option LSum)) : Option VF := viewF [] (fCallF E (fC E 300) f (.c (.ptr 5 0 0) :: .agg (vwL v) :: r) 1000 nSt (stA (netM c nq fq) path lp))
def scE (P : Program) (f : FuncId) (k : IntKind) (z : Int) (path : List Dec) : Option VF := viewF [] (fCallF (E1 P) (fC (E1 P) 300) f [.c (.v (.int k z))] 1000 nSt (stA [] path []))
theorem scUp (z : Int) (Q : VF -> Prop) (H : Q (.c (.v (.int .u8 (IntKind.wrap .u8 ((if Int.ofNat 99 < z then Int.ofNat 99 else z) + Int.ofNat 1)))), [], 1005, [], [])) :
 ∃ p r, scE Tryz.prog 126 .u8 z p = some r /\ Q r :=
 ⟨pD 0 0, _, by kernel_rfl, H⟩
theorem scPen (z : Int) (Q : VF -> Prop) (H : Q (.c (.v (.int .u16 (if Int.ofNat 1000 < IntKind.wrap .u16 ((if Int.ofNat 1000 < z then Int.ofNat 1000 else z) + Int.ofNat 8) then Int.ofNat 1000 else IntKind.wrap .u16 ((if Int.ofNat 1000 < z then Int.ofNat 1000 else z) + Int.ofNat 8)))), [], 1006, [], [])) :
 ∃ p r, scE Tryz.prog 128 .u16 z p = some r /\ Q r :=
 ⟨pD 0 0, _, by kernel_rfl, H⟩
theorem scRew (z : Int) (Q : VF -> Prop) (H : Q (.c (.v (.int .u16 (IntKind.wrap .u16 ((if Int.ofNat 1 > if Int.ofNat 1000 < z then Int.ofNat 1000 else z then Int.ofNat 1 else if Int.ofNat 1000 < z then Int.ofNat 1000 else z) - Int.ofNat 1)))), [], 1006, [], [])) :
 ∃ p r, scE Tryz.prog 127 .u16 z p = some r /\ Q r :=
 ⟨pD 0 0, _, by kernel_rfl, H⟩
def emE (P : Program) (v : Vw) (k : Nat) (path : List Dec) : Option VF := viewF [] (fCallF (E1 P) (fC (E1 P) 300) 59 [.agg (vwL v), i64 (Int.ofNat k)] 1000 nSt (stA [] path []))
theorem mbEm (v : Vw) (k : Nat) (Q : VF -> Prop) (H : let zN := Int.ofNat; let zD := Int.toNat; let zz0 := (List.getD (vwL v) (0 + zD (zN k) * 1) nov); let zz1 := (List.getD (vwL v) (32 + zD (zN k) * 1) nov); let zz2 := (List.getD (vwL v) (8 + zD (zN k) * 1) nov); let zz3 := (List.getD (vwL v) (16 + zD (zN k) * 1) nov); let zq0 : List Bool := [ABlk.inb (ABlk.mk true false 59 0 (Cs.lit (vwL v))) 0 (0 + zD (zN k) * 1 + 1), okl Kd.b zz0, decide (zN 0 <= zN k /\ zN k < zN 8)]; let zq1 : List Bool := (ABlk.inb (ABlk.mk true false 59 0 (Cs.lit (vwL v))) 0 (32 + zD (zN k) * 1 + 1)) :: (okl Kd.b zz1) :: (decide (zN 0 <= zN k /\ zN k < zN 8)) :: ((!asB zz0) == true) :: zq0; let zq2 : List Bool := (ABlk.inb (ABlk.mk true false 59 0 (Cs.lit (vwL v))) 0 (8 + zD (zN k) * 1 + 1)) :: (okl (Kd.i .u8) zz2) :: (decide (zN 0 <= zN k /\ zN k < zN 8)) :: ((!asB zz1) == true) :: zq1; let zq3 : List Bool := (ABlk.inb (ABlk.mk true false 59 0 (Cs.lit (vwL v))) 0 (16 + zD (zN k) * 1 + 1)) :: (okl (Kd.i .u8) zz3) :: (decide (zN 0 <= zN k /\ zN k < zN 8)) :: ((asI zz2 == zN 0) == true) :: zq2; (((!asB zz0) = true -> (((!asB zz1) = true -> (((asI zz2 == zN 0) = true -> (((asI zz3 == zN 0) = true -> Q (.c (.v (.bool (asI (List.getD (vwL v) (24 + zD (zN k) * 1) nov) == zN 0))), [], 1036, ((ABlk.inb (ABlk.mk true false 59 0 (Cs.lit (vwL v))) 0 (24 + zD (zN k) * 1 + 1)) :: (okl (Kd.i .u16) (List.getD (vwL v) (24 + zD (zN k) * 1) nov)) :: (decide (zN 0 <= zN k /\ zN k < zN 8)) :: ((asI zz3 == zN 0) == true) :: zq3), [])) /\ ((asI zz3 == zN 0) = false -> Q (.c (.v (.bool false)), [], 1031, (((asI zz3 == zN 0) == false) :: zq3), [])))) /\ ((asI zz2 == zN 0) = false -> Q (.c (.v (.bool false)), [], 1026, (((asI zz2 == zN 0) == false) :: zq2), [])))) /\ ((!asB zz1) = false -> Q (.c (.v (.bool false)), [], 1021, (((!asB zz1) == false) :: zq1), [])))) /\ ((!asB zz0) = false -> Q (.c (.v (.bool false)), [], 1016, (((!asB zz0) == false) :: zq0), [])))) :
 ∃ p r, emE Tryz.prog v k p = some r /\ Q r :=
 two H (fun g1 => two g1 (fun g2 => two g2 (fun g3 => two g3 (fun g4 => ⟨pD 20 14408200, _, by kernel_rfl, g4⟩) (fun g4 => ⟨pD 20 28757107, _, by kernel_rfl, g4⟩)) (fun g3 => ⟨pD 20 118342, _, by kernel_rfl, g3⟩)) (fun g2 => ⟨pD 20 487, _, by kernel_rfl, g2⟩)) (fun g1 => ⟨pD 20 2, _, by kernel_rfl, g1⟩)
theorem mbHe (c : Cfg) (nq : Nat) (fq : Nat -> Int) (v : Vw) (z : Int) (Q : VF -> Prop) (H : let zU := fun z : Int => AC.v (Value.int .u8 z); let zH := fun z : Int => AC.v (Value.int .u16 z); let zB := fun z : Bool => AC.v (Value.bool z); let zN := Int.ofNat; let zD := Int.toNat; let z8 := fun (f : Nat -> AC) (l : List AC) => f 0 :: f 1 :: f 2 :: f 3 :: f 4 :: f 5 :: f 6 :: f 7 :: l; let zz0 := ((intsOk (Cfg.np c) fun k => List.map AC.v ((fun i => [Value.int IntKind.i64 (Cfg.fp c i)]) k)) && ((intsOk (Cfg.ns c) fun k => List.map AC.v ((fun i => [Value.int IntKind.i64 (Cfg.fs c i)]) k)) && ((intsOk (Cfg.nb c) fun k => List.map AC.v ((fun i => [Value.int IntKind.i64 (Cfg.fb c i)]) k)) && ((stsOk (Cfg.nt c) fun k => List.map AC.v ((fun i => [Value.int IntKind.i64 (Station.node (Cfg.ft c i)), Value.int IntKind.u32 (Station.safe (Cfg.ft c i)), Value.int IntKind.i64 (Station.hold (Cfg.ft c i))]) k)) && intsOk nq fun k => List.map AC.v ((fun i => [Value.int IntKind.i64 (fq i)]) k))))); let zt : List Bool -> List Bool := fun l => true :: true :: true :: true :: true :: true :: true :: true :: l; let zu : List Bool -> List Bool := fun l => zt (zt (zt (zt l))); let zq0 : List Bool := [decide (0 + c.np <= c.np) && (decide (0 + c.ns <= c.ns) && (decide (0 + c.nb <= c.nb) && (decide (0 + c.nt <= c.nt) && (decide (0 + nq <= nq) && zz0)))), true]; (((decide (headN c nq fq (List.headD [z] (zN 0)) ≥ zN 0)) = true -> Q (.agg (z8 (fun zk => zB (asB (pickC (Nat.beq zk (32 + zD z * 1)) (zB true) (zB (Vw.inn v zk))))) [zU (asI (pickC (Nat.beq 8 (32 + zD z * 1)) (zB true) (zU (Vw.miss v 0)))), zU (asI (pickC (Nat.beq 9 (32 + zD z * 1)) (zB true) (zU (Vw.miss v 1)))), zU (asI (pickC (Nat.beq 10 (32 + zD z * 1)) (zB true) (zU (Vw.miss v 2)))), zU (asI (pickC (Nat.beq 11 (32 + zD z * 1)) (zB true) (zU (Vw.miss v 3)))), zU (asI (pickC (Nat.beq 12 (32 + zD z * 1)) (zB true) (zU (Vw.miss v 4)))), zU (asI (pickC (Nat.beq 13 (32 + zD z * 1)) (zB true) (zU (Vw.miss v 5)))), zU (asI (pickC (Nat.beq 14 (32 + zD z * 1)) (zB true) (zU (Vw.miss v 6)))), zU (asI (pickC (Nat.beq 15 (32 + zD z * 1)) (zB true) (zU (Vw.miss v 7)))), zU (asI (pickC (Nat.beq 16 (32 + zD z * 1)) (zB true) (zU (Vw.good v 0)))), zU (asI (pickC (Nat.beq 17 (32 + zD z * 1)) (zB true) (zU (Vw.good v 1)))), zU (asI (pickC (Nat.beq 18 (32 + zD z * 1)) (zB true) (zU (Vw.good v 2)))), zU (asI (pickC (Nat.beq 19 (32 + zD z * 1)) (zB true) (zU (Vw.good v 3)))), zU (asI (pickC (Nat.beq 20 (32 + zD z * 1)) (zB true) (zU (Vw.good v 4)))), zU (asI (pickC (Nat.beq 21 (32 + zD z * 1)) (zB true) (zU (Vw.good v 5)))), zU (asI (pickC (Nat.beq 22 (32 + zD z * 1)) (zB true) (zU (Vw.good v 6)))), zU (asI (pickC (Nat.beq 23 (32 + zD z * 1)) (zB true) (zU (Vw.good v 7)))), zH (asI (pickC (Nat.beq 24 (32 + zD z * 1)) (zB true) (zH (Vw.score v 0)))), zH (asI (pickC (Nat.beq 25 (32 + zD z * 1)) (zB true) (zH (Vw.score v 1)))), zH (asI (pickC (Nat.beq 26 (32 + zD z * 1)) (zB true) (zH (Vw.score v 2)))), zH (asI (pickC (Nat.beq 27 (32 + zD z * 1)) (zB true) (zH (Vw.score v 3)))), zH (asI (pickC (Nat.beq 28 (32 + zD z * 1)) (zB true) (zH (Vw.score v 4)))), zH (asI (pickC (Nat.beq 29 (32 + zD z * 1)) (zB true) (zH (Vw.score v 5)))), zH (asI (pickC (Nat.beq 30 (32 + zD z * 1)) (zB true) (zH (Vw.score v 6)))), zH (asI (pickC (Nat.beq 31 (32 + zD z * 1)) (zB true) (zH (Vw.score v 7)))), zB (asB (pickC (Nat.beq 32 (32 + zD z * 1)) (zB true) (zB (Vw.got v 0)))), zB (asB (pickC (Nat.beq 33 (32 + zD z * 1)) (zB true) (zB (Vw.got v 1)))), zB (asB (pickC (Nat.beq 34 (32 + zD z * 1)) (zB true) (zB (Vw.got v 2)))), zB (asB (pickC (Nat.beq 35 (32 + zD z * 1)) (zB true) (zB (Vw.got v 3)))), zB (asB (pickC (Nat.beq 36 (32 + zD z * 1)) (zB true) (zB (Vw.got v 4)))), zB (asB (pickC (Nat.beq 37 (32 + zD z * 1)) (zB true) (zB (Vw.got v 5)))), zB (asB (pickC (Nat.beq 38 (32 + zD z * 1)) (zB true) (zB (Vw.got v 6)))), zB (asB (pickC (Nat.beq 39 (32 + zD z * 1)) (zB true) (zB (Vw.got v 7)))), .v (.int .i8 (asI (pickC (Nat.beq 40 (32 + zD z * 1)) (zB true) (.v (.int .i8 (Vw.command v)))))), zU (asI (pickC (Nat.beq 41 (32 + zD z * 1)) (zB true) (zU (Vw.mode v))))]), [], 1011, (zu (zt (true :: true :: true :: true :: true :: ((okl Kd.b (pickC (Nat.beq 0 (32 + zD z * 1)) (zB true) (zB (Vw.inn v 0)))) :: (okl Kd.b (pickC (Nat.beq 1 (32 + zD z * 1)) (zB true) (zB (Vw.inn v 1)))) :: (okl Kd.b (pickC (Nat.beq 2 (32 + zD z * 1)) (zB true) (zB (Vw.inn v 2)))) :: (okl Kd.b (pickC (Nat.beq 3 (32 + zD z * 1)) (zB true) (zB (Vw.inn v 3)))) :: (okl Kd.b (pickC (Nat.beq 4 (32 + zD z * 1)) (zB true) (zB (Vw.inn v 4)))) :: (okl Kd.b (pickC (Nat.beq 5 (32 + zD z * 1)) (zB true) (zB (Vw.inn v 5)))) :: (okl Kd.b (pickC (Nat.beq 6 (32 + zD z * 1)) (zB true) (zB (Vw.inn v 6)))) :: (okl Kd.b (pickC (Nat.beq 7 (32 + zD z * 1)) (zB true) (zB (Vw.inn v 7)))) :: (okl (Kd.i .u8) (pickC (Nat.beq 8 (32 + zD z * 1)) (zB true) (zU (Vw.miss v 0)))) :: (okl (Kd.i .u8) (pickC (Nat.beq 9 (32 + zD z * 1)) (zB true) (zU (Vw.miss v 1)))) :: (okl (Kd.i .u8) (pickC (Nat.beq 10 (32 + zD z * 1)) (zB true) (zU (Vw.miss v 2)))) :: (okl (Kd.i .u8) (pickC (Nat.beq 11 (32 + zD z * 1)) (zB true) (zU (Vw.miss v 3)))) :: (okl (Kd.i .u8) (pickC (Nat.beq 12 (32 + zD z * 1)) (zB true) (zU (Vw.miss v 4)))) :: (okl (Kd.i .u8) (pickC (Nat.beq 13 (32 + zD z * 1)) (zB true) (zU (Vw.miss v 5)))) :: (okl (Kd.i .u8) (pickC (Nat.beq 14 (32 + zD z * 1)) (zB true) (zU (Vw.miss v 6)))) :: (okl (Kd.i .u8) (pickC (Nat.beq 15 (32 + zD z * 1)) (zB true) (zU (Vw.miss v 7)))) :: (okl (Kd.i .u8) (pickC (Nat.beq 16 (32 + zD z * 1)) (zB true) (zU (Vw.good v 0)))) :: (okl (Kd.i .u8) (pickC (Nat.beq 17 (32 + zD z * 1)) (zB true) (zU (Vw.good v 1)))) :: (okl (Kd.i .u8) (pickC (Nat.beq 18 (32 + zD z * 1)) (zB true) (zU (Vw.good v 2)))) :: (okl (Kd.i .u8) (pickC (Nat.beq 19 (32 + zD z * 1)) (zB true) (zU (Vw.good v 3)))) :: (okl (Kd.i .u8) (pickC (Nat.beq 20 (32 + zD z * 1)) (zB true) (zU (Vw.good v 4)))) :: (okl (Kd.i .u8) (pickC (Nat.beq 21 (32 + zD z * 1)) (zB true) (zU (Vw.good v 5)))) :: (okl (Kd.i .u8) (pickC (Nat.beq 22 (32 + zD z * 1)) (zB true) (zU (Vw.good v 6)))) :: (okl (Kd.i .u8) (pickC (Nat.beq 23 (32 + zD z * 1)) (zB true) (zU (Vw.good v 7)))) :: (okl (Kd.i .u16) (pickC (Nat.beq 24 (32 + zD z * 1)) (zB true) (zH (Vw.score v 0)))) :: (okl (Kd.i .u16) (pickC (Nat.beq 25 (32 + zD z * 1)) (zB true) (zH (Vw.score v 1)))) :: (okl (Kd.i .u16) (pickC (Nat.beq 26 (32 + zD z * 1)) (zB true) (zH (Vw.score v 2)))) :: (okl (Kd.i .u16) (pickC (Nat.beq 27 (32 + zD z * 1)) (zB true) (zH (Vw.score v 3)))) :: (okl (Kd.i .u16) (pickC (Nat.beq 28 (32 + zD z * 1)) (zB true) (zH (Vw.score v 4)))) :: (okl (Kd.i .u16) (pickC (Nat.beq 29 (32 + zD z * 1)) (zB true) (zH (Vw.score v 5)))) :: (okl (Kd.i .u16) (pickC (Nat.beq 30 (32 + zD z * 1)) (zB true) (zH (Vw.score v 6)))) :: (okl (Kd.i .u16) (pickC (Nat.beq 31 (32 + zD z * 1)) (zB true) (zH (Vw.score v 7)))) :: (okl Kd.b (pickC (Nat.beq 32 (32 + zD z * 1)) (zB true) (zB (Vw.got v 0)))) :: (okl Kd.b (pickC (Nat.beq 33 (32 + zD z * 1)) (zB true) (zB (Vw.got v 1)))) :: (okl Kd.b (pickC (Nat.beq 34 (32 + zD z * 1)) (zB true) (zB (Vw.got v 2)))) :: (okl Kd.b (pickC (Nat.beq 35 (32 + zD z * 1)) (zB true) (zB (Vw.got v 3)))) :: (okl Kd.b (pickC (Nat.beq 36 (32 + zD z * 1)) (zB true) (zB (Vw.got v 4)))) :: (okl Kd.b (pickC (Nat.beq 37 (32 + zD z * 1)) (zB true) (zB (Vw.got v 5)))) :: (okl Kd.b (pickC (Nat.beq 38 (32 + zD z * 1)) (zB true) (zB (Vw.got v 6)))) :: (okl Kd.b (pickC (Nat.beq 39 (32 + zD z * 1)) (zB true) (zB (Vw.got v 7)))) :: (okl (Kd.i .i8) (pickC (Nat.beq 40 (32 + zD z * 1)) (zB true) (.v (.int .i8 (Vw.command v))))) :: (okl (Kd.i .u8) (pickC (Nat.beq 41 (32 + zD z * 1)) (zB true) (zU (Vw.mode v)))) :: (ABlk.inb (ABlk.mk true false 59 0 (Cs.lit (vwL v))) 0 (32 + zD z * 1 + 1)) :: (decide (zN 0 <= z /\ z < zN 8)) :: (decide (headN c nq fq (List.headD [z] (zN 0)) ≥ zN 0) == true) :: zq0)))), [])) /\ ((decide (headN c nq fq (List.headD [z] (zN 0)) ≥ zN 0)) = false -> Q (AV.agg (vwL v), [], 1007, (zu (zu (zt (zt (true :: true :: true :: true :: true :: true :: true :: ((decide (headN c nq fq (List.headD [z] (zN 0)) ≥ zN 0) == false) :: zq0)))))), [])))) :
 ∃ p r, vwE (ENf Tryz.prog) 63 c nq fq v [i64 z] p [] = some r /\ Q r :=
 two H (fun g1 => ⟨pD 1 1, _, by kernel_rfl, g1⟩) (fun g1 => ⟨pD 1 2, _, by kernel_rfl, g1⟩)
theorem jjgd {z : Int} (h0 : 0 <= z) (h1 : z <= 255) : IntKind.wrap .u8 z = z := by
 simp only [IntKind.wrap, IntKind.bits, IntKind.signed]
 first | omega | (simp; omega)
theorem jj9o {z : Int} (h0 : 0 <= z) (h1 : z <= 65535) : IntKind.wrap .u16 z = z := by
 simp only [IntKind.wrap, IntKind.bits, IntKind.signed]
 first | omega | (simp; omega)
def scrR (k : IntKind) (g : Int -> Int) : List AV -> AV
 | [.c (.v (.int _ z))] => .c (.v (.int k (g z)))
 | _ => i64 0
def scP (k : IntKind) : List AV -> Bool
 | [.c (.v (.int q z))] => decide (q = k) && decide (0 <= z)
 | _ => false
def ctSc (k : IntKind) (g : Int -> Int) : CtF := ctRd (pureRd [] rfl) (scrR k g) (scP k)
theorem jjja {f : FuncId} {k : IntKind} {g : Int -> Int} (hf : ∃ (fn : Func) (c : Code), Tryz.prog.funcs[f]? = some fn /\ fn.body = some c) (run : ∀ z : Int, 0 <= z -> ∃ p q, scE Tryz.prog f k z p = some q /\ GoodF (.c (.v (.int k (g z)))) q) : CtOk Tryz.prog f (ctSc k g) := by
 refine jj1e (E := E1 Tryz.prog) hE1 (pureRd [] rfl) (fuel := 300) (str := nSt) hf (fun s => by unfold scrR; split <;> rfl) fun s hs => ?_
 unfold scP at hs; split at hs
 . rename_i q z
   simp only [Bool.and_eq_true, decide_eq_true_eq] at hs; obtain ⟨rfl, h0⟩ := hs; obtain ⟨p, r, h1, h2⟩ := run z h0; exact ⟨p, [], r, h1, h2⟩
 . cases hs
theorem ct_up : CtOk Tryz.prog 126 (ctSc .u8 upZ) := by
 refine jjja ⟨_, _, Tryz.func126, rfl⟩ fun z h0 => scUp z _ ?_
 refine ⟨?_, (by first | (unfold lim; omega) | (dsimp only; unfold lim; omega)), by simp [allT], by simp⟩; have e : (if Int.ofNat 99 < z then Int.ofNat 99 else z) = min z 99 := by simp only [Int.ofNat_eq_natCast]; split <;> omega
 simp only [e]; rw [show min z 99 + Int.ofNat 1 = upZ z from rfl, jjgd (by unfold upZ; omega) (by unfold upZ; omega)]
theorem jjkx : CtOk Tryz.prog 128 (ctSc .u16 penZ) := by
 refine jjja ⟨_, _, Tryz.func128, rfl⟩ fun z h0 => scPen z _ ?_
 refine ⟨?_, (by first | (unfold lim; omega) | (dsimp only; unfold lim; omega)), by simp [allT], by simp⟩; have e : (if Int.ofNat 1000 < z then Int.ofNat 1000 else z) = min z 1000 := by simp only [Int.ofNat_eq_natCast]; split <;> omega
 simp only [e]; rw [jj9o (z := min z 1000 + Int.ofNat 8) (by simp; omega) (by simp; omega)]; have e2 : (if Int.ofNat 1000 < min z 1000 + Int.ofNat 8 then Int.ofNat 1000 else min z 1000 + Int.ofNat 8) = penZ z := by unfold penZ; simp only [Int.ofNat_eq_natCast]; split <;> omega
 rw [e2]
theorem jjkw : CtOk Tryz.prog 127 (ctSc .u16 rewZ) := by
 refine jjja ⟨_, _, Tryz.func127, rfl⟩ fun z h0 => scRew z _ ?_
 refine ⟨?_, (by first | (unfold lim; omega) | (dsimp only; unfold lim; omega)), by simp [allT], by simp⟩; have e : (if Int.ofNat 1000 < z then Int.ofNat 1000 else z) = min z 1000 := by simp only [Int.ofNat_eq_natCast]; split <;> omega
 simp only [e]; have e2 : (if Int.ofNat 1 > min z 1000 then Int.ofNat 1 else min z 1000) - Int.ofNat 1 = rewZ z := by unfold rewZ; simp only [Int.ofNat_eq_natCast]; split <;> omega
 rw [e2, jj9o (by unfold rewZ; omega) (by unfold rewZ; omega)]
theorem jj7y {p : Vw -> Nat -> Prop} (h0 : ∀ v, p v 0) (h1 : ∀ v, p v 1) (h2 : ∀ v, p v 2) (h3 : ∀ v, p v 3) (h4 : ∀ v, p v 4) (h5 : ∀ v, p v 5) (h6 : ∀ v, p v 6) (h7 : ∀ v, p v 7) (v : Vw) (k : Nat) (h : k < 8) : p v k := by
 match k, h with
 | 0, _ => exact h0 v
 | 1, _ => exact h1 v
 | 2, _ => exact h2 v
 | 3, _ => exact h3 v
 | 4, _ => exact h4 v
 | 5, _ => exact h5 v
 | 6, _ => exact h6 v
 | 7, _ => exact h7 v
theorem jje5 (v : Vw) (k : Nat) (h : k < 8) : asB (List.getD (vwL v) (32 + Int.toNat (Int.ofNat k) * 1) nov) = v.got k /\ okl .b (List.getD (vwL v) (32 + Int.toNat (Int.ofNat k) * 1) nov) = true :=
 jj7y (p := fun v k => asB (List.getD (vwL v) (32 + Int.toNat (Int.ofNat k) * 1) nov) = v.got k /\ okl .b (List.getD (vwL v) (32 + Int.toNat (Int.ofNat k) * 1) nov) = true) (fun _ => ⟨rfl, rfl⟩) (fun _ => ⟨rfl, rfl⟩) (fun _ => ⟨rfl, rfl⟩) (fun _ => ⟨rfl, rfl⟩) (fun _ => ⟨rfl, rfl⟩) (fun _ => ⟨rfl, rfl⟩) (fun _ => ⟨rfl, rfl⟩) (fun _ => ⟨rfl, rfl⟩) v k h
theorem jj3n (v : Vw) (k : Nat) (h : k < 8) : asI (List.getD (vwL v) (8 + Int.toNat (Int.ofNat k) * 1) nov) = v.miss k /\ okl (.i .u8) (List.getD (vwL v) (8 + Int.toNat (Int.ofNat k) * 1) nov) = true :=
 jj7y (p := fun v k => asI (List.getD (vwL v) (8 + Int.toNat (Int.ofNat k) * 1) nov) = v.miss k /\ okl (.i .u8) (List.getD (vwL v) (8 + Int.toNat (Int.ofNat k) * 1) nov) = true) (fun _ => ⟨rfl, rfl⟩) (fun _ => ⟨rfl, rfl⟩) (fun _ => ⟨rfl, rfl⟩) (fun _ => ⟨rfl, rfl⟩) (fun _ => ⟨rfl, rfl⟩) (fun _ => ⟨rfl, rfl⟩) (fun _ => ⟨rfl, rfl⟩) (fun _ => ⟨rfl, rfl⟩) v k h
theorem jj3o (v : Vw) (k : Nat) (h : k < 8) : asI (List.getD (vwL v) (16 + Int.toNat (Int.ofNat k) * 1) nov) = v.good k /\ okl (.i .u8) (List.getD (vwL v) (16 + Int.toNat (Int.ofNat k) * 1) nov) = true :=
 jj7y (p := fun v k => asI (List.getD (vwL v) (16 + Int.toNat (Int.ofNat k) * 1) nov) = v.good k /\ okl (.i .u8) (List.getD (vwL v) (16 + Int.toNat (Int.ofNat k) * 1) nov) = true) (fun _ => ⟨rfl, rfl⟩) (fun _ => ⟨rfl, rfl⟩) (fun _ => ⟨rfl, rfl⟩) (fun _ => ⟨rfl, rfl⟩) (fun _ => ⟨rfl, rfl⟩) (fun _ => ⟨rfl, rfl⟩) (fun _ => ⟨rfl, rfl⟩) (fun _ => ⟨rfl, rfl⟩) v k h
theorem jj16 (v : Vw) (k : Nat) (h : k < 8) : asI (List.getD (vwL v) (24 + Int.toNat (Int.ofNat k) * 1) nov) = v.score k /\ okl (.i .u16) (List.getD (vwL v) (24 + Int.toNat (Int.ofNat k) * 1) nov) = true :=
 jj7y (p := fun v k => asI (List.getD (vwL v) (24 + Int.toNat (Int.ofNat k) * 1) nov) = v.score k /\ okl (.i .u16) (List.getD (vwL v) (24 + Int.toNat (Int.ofNat k) * 1) nov) = true) (fun _ => ⟨rfl, rfl⟩) (fun _ => ⟨rfl, rfl⟩) (fun _ => ⟨rfl, rfl⟩) (fun _ => ⟨rfl, rfl⟩) (fun _ => ⟨rfl, rfl⟩) (fun _ => ⟨rfl, rfl⟩) (fun _ => ⟨rfl, rfl⟩) (fun _ => ⟨rfl, rfl⟩) v k h
def emptyB (v : Vw) (k : Nat) : Bool := !v.inn k && (!v.got k && (decide (v.miss k = 0) && (decide (v.good k = 0) && decide (v.score k = 0))))
def vwPR (R : List AC -> List AV -> AV) : List AV -> AV
 | .agg l :: r => R l r
 | _ => i64 0
def vwPP (pre : List AC -> List AV -> Bool) : List AV -> Bool
 | .agg l :: r => isVw l && pre l r
 | _ => false
def emB (l : List AC) (z : Int) : Bool := !asB (l.getD z.toNat nov) && (!asB (l.getD (32 + z.toNat) nov) && (decide (asI (l.getD (8 + z.toNat) nov) = 0) && (decide (asI (l.getD (16 + z.toNat) nov) = 0) && decide (asI (l.getD (24 + z.toNat) nov) = 0))))
def emR (l : List AC) : List AV -> AV
 | [.c (.v (.int .i64 z))] => bo (emB l z)
 | _ => i64 0
theorem jjfi {v : Vw} {k : Nat} (hk : k < 8) : emB (vwL v) (Int.ofNat k) = emptyB v k := by
 have a0 := jj4w v k hk; have a1 := (jje5 v k hk).1; have a2 := (jj3n v k hk).1; have a3 := (jj3o v k hk).1; have a4 := (jj16 v k hk).1; simp only [Nat.zero_add, Nat.mul_one, Int.ofNat_eq_natCast, Int.toNat_natCast] at a0 a1 a2 a3 a4; simp only [emB, Int.ofNat_eq_natCast, Int.toNat_natCast, a0, a1, a2, a3, a4, emptyB]
def emPr (_ : List AC) : List AV -> Bool
 | [.c (.v (.int .i64 z))] => decide (0 <= z) && decide (z < 8)
 | _ => false
def ctEmpty : CtF := ctRd (pureRd [] rfl) (vwPR emR) (vwPP emPr)
theorem jjfv : CtOk Tryz.prog 59 ctEmpty := by
 refine jj1e (E := E1 Tryz.prog) hE1 (pureRd [] rfl) (fuel := 300) (str := nSt) ⟨_, _, Tryz.func59, rfl⟩ (fun s => by unfold vwPR emR; (repeat' split) <;> rfl) fun s hs => ?_
 unfold vwPP at hs; split at hs
 . rename_i l r
   rw [Bool.and_eq_true] at hs; obtain ⟨hl, hs⟩ := hs; have e := jjga hl; generalize vwOf l = v at e; subst e; unfold emPr at hs; split at hs
   . rename_i z
     simp only [Bool.and_eq_true, decide_eq_true_eq] at hs; obtain ⟨h0, h1⟩ := hs; obtain ⟨k, rfl⟩ := Int.eq_ofNat_of_zero_le h0; have hk : k < 8 := by omega
     refine (?_ : (∃ p q, emE Tryz.prog v k p = some q /\ GoodF (vwPR emR [.agg (vwL v), i64 (Int.ofNat k)]) q) -> _) (mbEm v k _ ?_)
     . rintro ⟨p, q, h1, h2⟩
       exact ⟨p, [], q, h1, h2⟩
     . have hR : vwPR emR [.agg (vwL v), i64 (Int.ofNat k)] = bo (emptyB v k) := by
        show bo _ = bo _; rw [<- jjfi hk]
       rw [hR]; simp only [jj4w v k hk, (jje5 v k hk).1, (jj3n v k hk).1, (jj3o v k hk).1, (jj16 v k hk).1, jj52 v k hk, (jje5 v k hk).2, (jj3n v k hk).2, (jj3o v k hk).2, (jj16 v k hk).2]
       (repeat' (first | refine ⟨fun h => ?_, fun h => ?_⟩ | fail))
       all_goals (refine ⟨?_, (by first | (unfold lim; omega) | (dsimp only; unfold lim; omega)), ?_, by simp⟩)
       all_goals first
        | (simp_all [emptyB, bo]; done)
        | (simp_all [emptyB, bo, Bool.beq_eq_decide_eq]; done)
        | (simp_all [emptyB, bo, decide_eq_decide, beq_eq_decide]; done)
        | (simp_all [allT, jj8, Vw.len]; done)
        | (simp_all [allT, jj8, Vw.len]; omega)
   . cases hs
 . cases hs
def hrdR (c : Cfg) (nq : Nat) (fq : Nat -> Int) (l : List AC) : List AV -> AV
 | [.c (.v (.int .i64 z))] => .agg (hrdL (decide (0 <= headN c nq fq z)) z l)
 | _ => i64 0
def hrdC (c : Cfg) (_ : List AC) : List AV -> Bool
 | [.c (.v (.int .i64 _))] => decide (c.np <= 8)
 | _ => false
def pW (pre : Cfg -> List AC -> List AV -> Bool) : NetS -> Bool
 | ⟨c, _, _, .agg l :: r⟩ => isVw l && pre c l r
 | _ => false
theorem jj7k {G : AMem} (hG : (G.all fun p => Nat.ble lim p.1) = true) {E : Env} (hE : EnvOk E) {f : FuncId} {R : Cfg -> Nat -> (Nat -> Int) -> List AC -> List AV -> AV} {pre : Cfg -> List AC -> List AV -> Bool} (hf : ∃ (fn : Func) (c : Code), E.P.funcs[f]? = some fn /\ fn.body = some c) (hres : ∀ c nq fq v r, plainR (R c nq fq v r) = true)
 (run : ∀ c nq fq v r, pre c (vwL v) r = true -> ∃ p lp q, viewF [] (fCallF E (fC E 300) f (.c (.ptr 5 0 0) :: .agg (vwL v) :: r) 1000 nSt (stA (G ++ netL c nq fq) p lp)) = some q /\ GoodF (R c nq fq (vwL v) r) q) : CtOk E.P f (ctRd (netRdG G hG) (rV R) (pW pre)) := by
 refine jj1e hE (netRdG G hG) (fuel := 300) (str := nSt) hf (jj73 hres) fun s hs => ?_
 unfold pW at hs; split at hs
 . rename_i c nq fq l r
   rw [Bool.and_eq_true] at hs; have e := jjga hs.1; rw [e]; rw [e] at hs; exact run c nq fq (vwOf l) r hs.2
 . cases hs
theorem jjkh (z : Int) (v : Vw) : hrdV false z v = v := by
 cases v; simp [hrdV, hGt]
def ctHrd : CtF := ctRd netRd (rV hrdR) (pW hrdC)
theorem jj4o {c : Cfg} {nq : Nat} {fq : Nat -> Int} {z : Int} (h : 0 <= headN c nq fq z) : 0 <= z /\ z < c.np := by
 unfold headN atF at h; split at h
 . omega
 . split at h
   . assumption
   . omega
theorem jjl3 : CtOk Tryz.prog 63 ctHrd := by
 refine jj7k (G := mS) (by kernel_rfl) (E := ENf Tryz.prog) hENf ⟨_, _, Tryz.func63, rfl⟩ (fun c nq fq v r => by unfold hrdR; split <;> rfl) fun c nq fq v r hr => ?_
 unfold hrdC at hr; split at hr
 . rename_i z
   have h8 : c.np <= 8 := of_decide_eq_true hr; refine (?_ : (∃ p q, vwE (ENf Tryz.prog) 63 c nq fq v [i64 z] p [] = some q /\ GoodF (.agg (hrdL (decide (0 <= headN c nq fq z)) z (vwL v))) q) -> _) (mbHe c nq fq v z _ ?_)
   . rintro ⟨p, q, h1, h2⟩
     exact ⟨p, [], q, h1, h2⟩
   . refine ⟨fun h => ?_, fun h => ?_⟩
     . have hd : 0 <= headN c nq fq z := by simpa using h
       obtain ⟨z0, z1⟩ := jj4o hd; have e : decide (0 <= headN c nq fq z) = true := decide_eq_true hd; rw [e]; have hz : z = 0 \/ z = 1 \/ z = 2 \/ z = 3 \/ z = 4 \/ z = 5 \/ z = 6 \/ z = 7 := by omega
       rcases hz with rfl | rfl | rfl | rfl | rfl | rfl | rfl | rfl
       all_goals (refine ⟨rfl, (by first | (unfold lim; omega) | (dsimp only; unfold lim; omega)), ?_, by simp⟩)
       all_goals (simp_all [allT, jjj, jji, jj0, jj1, jj3, jjb, pickC, okl, jj8, Vw.len])
     . have hd : decide (0 <= headN c nq fq z) = false := by simpa using h
       rw [hd]; refine ⟨?_, (by first | (unfold lim; omega) | (dsimp only; unfold lim; omega)), ?_, by simp⟩
       . show AV.agg (vwL v) = AV.agg (hrdL false z (vwL v))
         rw [jjhz, jjkh]
       . simp_all [allT, jjj, jji, jj0, jj1, jj3, jjb]
 . cases hr
theorem rkLv (z : Int) (Q : VF -> Prop) (H : (((decide (z < Int.ofNat 16)) = true -> Q (.c (.v (.int .u8 (Int.ofNat 0))), [], 1005, [decide (z < Int.ofNat 16) == true], [])) /\ ((decide (z < Int.ofNat 16)) = false -> (((decide (z < Int.ofNat 64)) = true -> Q (.c (.v (.int .u8 (Int.ofNat 1))), [], 1008, [decide (z < Int.ofNat 64) == true, decide (z < Int.ofNat 16) == false], [])) /\ ((decide (z < Int.ofNat 64)) = false -> Q (.c (.v (.int .u8 (Int.ofNat 2))), [], 1008, [decide (z < Int.ofNat 64) == false, decide (z < Int.ofNat 16) == false], [])))))) :
 ∃ p r, scE Tryz.prog 131 .u16 z p = some r /\ Q r :=
 two H (fun g1 => ⟨pD 1 1, _, by kernel_rfl, g1⟩) (fun g1 => two g1 (fun g2 => ⟨pD 2 5, _, by kernel_rfl, g2⟩) (fun g2 => ⟨pD 2 8, _, by kernel_rfl, g2⟩))
theorem rkOf (c : Cfg) (nq : Nat) (fq : Nat -> Int) (v : Vw) (z : Int) (Q : VF -> Prop) (H : let zN := Int.ofNat; let zD := Int.toNat; let zq0 : List Bool := [netK c nq fq, true]; let zq1 : List Bool := (ABlk.inb (ABlk.mk true false 59 0 (Cs.lit (vwL v))) 0 (0 + zD z * 1 + 1)) :: (okl Kd.b (List.getD (vwL v) (0 + zD z * 1) nov)) :: (decide (zN 0 <= z /\ z < zN 8)) :: (decide (headN c nq fq z < zN 0) == false) :: zq0; let zq2 : List Bool := (ABlk.inb (ABlk.mk true false 59 0 (Cs.lit (vwL v))) 0 (24 + zD z * 1 + 1)) :: (okl (Kd.i .u16) (List.getD (vwL v) (24 + zD z * 1) nov)) :: (decide (zN 0 <= z /\ z < zN 8)) :: ((!asB (List.getD (vwL v) (0 + zD z * 1) nov)) == false) :: zq1; let zq3 : List Bool := (decide (asI (List.getD (vwL v) (24 + zD z * 1) nov) < zN 16) == false) :: zq2; (((decide (headN c nq fq z < zN 0)) = true -> Q (.c (.v (.int .u8 (zN 0))), [], 1007, ((decide (headN c nq fq z < zN 0) == true) :: zq0), [])) /\ ((decide (headN c nq fq z < zN 0)) = false -> (((!asB (List.getD (vwL v) (0 + zD z * 1) nov)) = true -> Q (.c (.v (.int .u8 (zN 3))), [], 1013, (((!asB (List.getD (vwL v) (0 + zD z * 1) nov)) == true) :: zq1), [])) /\ ((!asB (List.getD (vwL v) (0 + zD z * 1) nov)) = false -> (((decide (asI (List.getD (vwL v) (24 + zD z * 1) nov) < zN 16)) = true -> Q (.c (.v (.int .u8 (zN 1))), [], 1024, ((decide (asI (List.getD (vwL v) (24 + zD z * 1) nov) < zN 16) == true) :: zq2), [])) /\ ((decide (asI (List.getD (vwL v) (24 + zD z * 1) nov) < zN 16)) = false -> (((decide (asI (List.getD (vwL v) (24 + zD z * 1) nov) < zN 64)) = true -> Q (.c (.v (.int .u8 (zN 2))), [], 1027, ((decide (asI (List.getD (vwL v) (24 + zD z * 1) nov) < zN 64) == true) :: zq3), [])) /\ ((decide (asI (List.getD (vwL v) (24 + zD z * 1) nov) < zN 64)) = false -> Q (.c (.v (.int .u8 (zN 2))), [], 1027, ((decide (asI (List.getD (vwL v) (24 + zD z * 1) nov) < zN 64) == false) :: zq3), [])))))))))) :
 ∃ p r, vwE (ENf Tryz.prog) 130 c nq fq v [i64 z] p [] = some r /\ Q r :=
 two H (fun g1 => ⟨pD 1 1, _, by kernel_rfl, g1⟩) (fun g1 => two g1 (fun g2 => ⟨pD 2 5, _, by kernel_rfl, g2⟩) (fun g2 => two g2 (fun g3 => ⟨pD 4 17, _, by kernel_rfl, g3⟩) (fun g3 => two g3 (fun g4 => ⟨pD 5 53, _, by kernel_rfl, g4⟩) (fun g4 => ⟨pD 5 80, _, by kernel_rfl, g4⟩))))
def toE (P : Program) (s p s' p' : Int) (path : List Dec) : Option VF := viewF [] (fCallF (E1 P) (fC (E1 P) 300) 160 [.agg [.v (.int .u16 s), .v (.int .i64 p)], .agg [.v (.int .u16 s'), .v (.int .i64 p')]] 1000 nSt (stA [] path []))
theorem rkTo (s t s' t' : Int) (Q : VF -> Prop) (H : let zI := fun z : Int => AC.v (Value.int .i64 z); let y3 := fun (l : List Bool) => true :: true :: true :: l; let zq0 : List Bool := [(s' != s') == false, (s != s) == false, true, true, true, true]; let zq1 : List Bool := ((t' != t') == false) :: ((t != t) == false) :: y3 (true :: (decide (s < s') == true) :: zq0); let zq2 : List Bool := (decide (t < t') == false) :: zq1; let zq3 : List Bool := (decide (s < s') == false) :: zq0; let zq4 : List Bool := ((t' != t') == false) :: ((t != t) == false) :: y3 (true :: (decide (s > s') == true) :: zq3); let zq5 : List Bool := (decide (t < t') == false) :: zq4; let zq6 : List Bool := ((t' != t') == false) :: ((t != t) == false) :: y3 (true :: (decide (s > s') == false) :: zq3); let zq7 : List Bool := (decide (t < t') == false) :: zq6; (((decide (s < s')) = true -> (((decide (t < t')) = true -> Q (.c (zI (Int.negSucc 0)), [], 130000000000000000000000000000000000001003, (y3 ((decide (t < t') == true) :: zq1)), [])) /\ ((decide (t < t')) = false -> (((decide (t > t')) = true -> Q (.c (zI (Int.negSucc 0)), [], 130000000000000000000000000000000000001003, (y3 ((decide (t > t') == true) :: zq2)), [])) /\ ((decide (t > t')) = false -> Q (.c (zI (Int.negSucc 0)), [], 130000000000000000000000000000000000001003, (y3 ((decide (t > t') == false) :: zq2)), [])))))) /\ ((decide (s < s')) = false -> (((decide (s > s')) = true -> (((decide (t < t')) = true -> Q (.c (zI (Int.ofNat 1)), [], 130000000000000000000000000000000000001003, (y3 ((decide (t < t') == true) :: zq4)), [])) /\ ((decide (t < t')) = false -> (((decide (t > t')) = true -> Q (.c (zI (Int.ofNat 1)), [], 130000000000000000000000000000000000001003, (y3 ((decide (t > t') == true) :: zq5)), [])) /\ ((decide (t > t')) = false -> Q (.c (zI (Int.ofNat 1)), [], 130000000000000000000000000000000000001003, (y3 ((decide (t > t') == false) :: zq5)), [])))))) /\ ((decide (s > s')) = false -> (((decide (t < t')) = true -> Q (.c (zI (Int.negSucc 0)), [], 130000000000000000000000000000000000001003, (y3 (y3 ((decide (t < t') == true) :: zq6))), [])) /\ ((decide (t < t')) = false -> (((decide (t > t')) = true -> Q (.c (zI (Int.ofNat 1)), [], 130000000000000000000000000000000000001003, (y3 (y3 ((decide (t > t') == true) :: zq7))), [])) /\ ((decide (t > t')) = false -> Q (.c (zI (Int.ofNat 0)), [], 130000000000000000000000000000000000001003, (y3 (y3 ((decide (t > t') == false) :: zq7))), [])))))))))) :
 ∃ p r, toE Tryz.prog s t s' t' p = some r /\ Q r :=
 two H (fun g1 => two g1 (fun g2 => ⟨pD 8 476, _, by kernel_rfl, g2⟩) (fun g2 => two g2 (fun g3 => ⟨pD 9 1448, _, by kernel_rfl, g3⟩) (fun g3 => ⟨pD 9 2177, _, by kernel_rfl, g3⟩))) (fun g1 => two g1 (fun g2 => two g2 (fun g3 => ⟨pD 9 1430, _, by kernel_rfl, g3⟩) (fun g3 => two g3 (fun g4 => ⟨pD 10 4346, _, by kernel_rfl, g4⟩) (fun g4 => ⟨pD 10 6533, _, by kernel_rfl, g4⟩))) (fun g2 => two g2 (fun g3 => ⟨pD 11 1457, _, by kernel_rfl, g3⟩) (fun g3 => two g3 (fun g4 => ⟨pD 12 4373, _, by kernel_rfl, g4⟩) (fun g4 => ⟨pD 13 6560, _, by kernel_rfl, g4⟩))))
def levZ (z : Int) : Int := if z < 16 then 0 else if z < 64 then 1 else 2
def levR : List AV -> AV
 | [.c (.v (.int .u16 z))] => .c (.v (.int .u8 (levZ z)))
 | _ => i64 0
def levP : List AV -> Bool
 | [.c (.v (.int .u16 _))] => true
 | _ => false
def ctLev : CtF := ctRd (pureRd [] rfl) levR levP
theorem jjl1 : CtOk Tryz.prog 131 ctLev := by
 refine jj1e (E := E1 Tryz.prog) hE1 (pureRd [] rfl) (fuel := 300) (str := nSt) ⟨_, _, Tryz.func131, rfl⟩ (fun s => by unfold levR; split <;> rfl) fun s hs => ?_
 unfold levP at hs; split at hs
 . rename_i z
   refine (?_ : (∃ p q, scE Tryz.prog 131 .u16 z p = some q /\ GoodF (.c (.v (.int .u8 (levZ z)))) q) -> _) (rkLv z _ ?_)
   . rintro ⟨p, q, h1, h2⟩
     exact ⟨p, [], q, h1, h2⟩
   . (repeat' (first | refine ⟨fun h => ?_, fun h => ?_⟩ | fail))
     all_goals (refine ⟨?_, (by first | (unfold lim; omega) | (dsimp only; unfold lim; omega)), by simp_all [allT], by simp⟩)
     all_goals (simp only [decide_eq_true_eq, decide_eq_false_iff_not, Int.ofNat_eq_natCast, Int.cast_ofNat_Int] at *)
     all_goals (refine congrArg (fun z => AV.c (.v (.int .u8 z))) ?_; unfold levZ)
     all_goals ((repeat' split) <;> first | rfl | (exfalso; omega))
 . cases hs
def hlZ (hd : Int) (inn : Bool) (score : Int) : Int := if hd < 0 then 0 else if inn = false then 3 else if score < 16 then 1 else 2
def hlR (c : Cfg) (nq : Nat) (fq : Nat -> Int) (l : List AC) : List AV -> AV
 | [.c (.v (.int .i64 z))] => .c (.v (.int .u8 (hlZ (headN c nq fq z) (asB (l.getD z.toNat nov)) (asI (l.getD (24 + z.toNat) nov)))))
 | _ => i64 0
def ctHl : CtF := ctRd netRd (rV hlR) (pW hrdC)
theorem ct_hl : CtOk Tryz.prog 130 ctHl := by
 refine jj7k (G := mS) (by kernel_rfl) (E := ENf Tryz.prog) hENf ⟨_, _, Tryz.func130, rfl⟩ (fun c nq fq v r => by unfold hlR; split <;> rfl) fun c nq fq v r hr => ?_
 unfold hrdC at hr; split at hr
 . rename_i z
   have h8 : c.np <= 8 := of_decide_eq_true hr; refine (?_ : (∃ p q, vwE (ENf Tryz.prog) 130 c nq fq v [i64 z] p [] = some q /\ GoodF (.c (.v (.int .u8 (hlZ (headN c nq fq z) (asB ((vwL v).getD z.toNat nov)) (asI ((vwL v).getD (24 + z.toNat) nov)))))) q) -> _) (rkOf c nq fq v z _ ?_)
   . rintro ⟨p, q, h1, h2⟩
     exact ⟨p, [], q, h1, h2⟩
   . by_cases hd : 0 <= headN c nq fq z
     . obtain ⟨z0, z1⟩ := jj4o hd
       obtain ⟨k, rfl⟩ := Int.eq_ofNat_of_zero_le z0; have hk : k < 8 := by omega
       have a0 := jj4w v k hk; have b0 := jj52 v k hk; obtain ⟨a4, b4⟩ := jj16 v k hk; simp only [Nat.zero_add, Nat.mul_one, Int.ofNat_eq_natCast, Int.toNat_natCast] at a0 a4 b0 b4; simp only [Int.ofNat_eq_natCast, Int.toNat_natCast, Nat.zero_add, Nat.mul_one, a0, a4, b0, b4]; obtain ⟨h, hh⟩ : ∃ h, headN c nq fq (k : Int) = h := ⟨_, rfl⟩
       rw [hh] at hd ⊢; clear hh; have hn : ¬ h < 0 := by omega
       obtain ⟨b, hb⟩ : ∃ b, v.inn k = b := ⟨_, rfl⟩
       obtain ⟨sc, hsc⟩ : ∃ b, v.score k = b := ⟨_, rfl⟩
       simp only [hb, hsc]; cases b
       all_goals (repeat' (first | refine ⟨fun h => ?_, fun h => ?_⟩ | fail))
       all_goals (first | (exfalso; simp at *; done) | (exfalso; simp at *; omega) | skip)
       all_goals (refine ⟨?_, (by first | (unfold lim; omega) | (dsimp only; unfold lim; omega)), ?_, by simp⟩)
       all_goals (simp only [decide_eq_true_eq, decide_eq_false_iff_not, Int.ofNat_eq_natCast, Int.cast_ofNat_Int] at *)
       all_goals first
        | (refine congrArg (fun z => AV.c (.v (.int .u8 z))) ?_; unfold hlZ; (repeat' split) <;> first | rfl | (exfalso; omega) | contradiction)
        | (simp [allT, jjj, jji, jj0, jj1, jj3, jjb, jj8, Vw.len]; omega)
     . have e : decide (headN c nq fq z < 0) = true := decide_eq_true (by omega)
       refine ⟨fun h => ?_, fun h => ?_⟩
       . refine ⟨?_, (by first | (unfold lim; omega) | (dsimp only; unfold lim; omega)), ?_, by simp⟩
         . simp [hlZ, show headN c nq fq z < 0 by omega]
         . simp_all [allT, jjj, jji, jj0, jj1, jj3, jjb]
       . exfalso
         simp at h; omega
 . cases hr
def toZ (s p s' p' : Int) : Int := if s < s' then -1 else if s' < s then 1 else if p < p' then -1 else if p' < p then 1 else 0
def toR : List AV -> AV
 | [.agg [.v (.int .u16 s), .v (.int .i64 p)], .agg [.v (.int .u16 s'), .v (.int .i64 p')]] => i64 (toZ s p s' p')
 | _ => i64 0
def toP : List AV -> Bool
 | [.agg [.v (.int .u16 _), .v (.int .i64 _)], .agg [.v (.int .u16 _), .v (.int .i64 _)]] => true
 | _ => false
def ctTo : CtF := ctRd (pureRd [] rfl) toR toP
theorem ct_to : CtOk Tryz.prog 160 ctTo := by
 refine jj1e (E := E1 Tryz.prog) hE1 (pureRd [] rfl) (fuel := 300) (str := nSt) ⟨_, _, Tryz.func160, rfl⟩ (fun s => by unfold toR; split <;> rfl) fun s hs => ?_
 unfold toP at hs; split at hs
 . rename_i s t s' t'
   refine (?_ : (∃ p q, toE Tryz.prog s t s' t' p = some q /\ GoodF (i64 (toZ s t s' t')) q) -> _) (rkTo s t s' t' _ ?_)
   . rintro ⟨p, q, h1, h2⟩
     exact ⟨p, [], q, h1, h2⟩
   . (repeat' (first | refine ⟨fun h => ?_, fun h => ?_⟩ | fail))
     all_goals (refine ⟨?_, (by first | (unfold lim; omega) | (dsimp only; unfold lim; omega)), by simp_all [allT], by simp⟩)
     all_goals (simp only [decide_eq_true_eq, decide_eq_false_iff_not, gt_iff_lt] at *)
     all_goals (refine congrArg i64 ?_; unfold toZ)
     all_goals ((repeat' split) <;> first | rfl | (exfalso; omega))
 . cases hs
def ctLen : CtF
 | [.c (.v (.int .u64 x))], _, _ => some (i64 (Lib.bitLen x.toNat), [], 0, [decide (0 <= x), decide (x <= 18446744073709551615)])
 | _, _, _ => none
theorem jjl2 : CtOk Tryz.prog 172 ctLen := by
 refine ⟨⟨_, _, Tryz.func172, rfl⟩, fun C β m m2 w args ib r news k' ob vs hct ho hs hr hfree hlim hv => ?_⟩; unfold ctLen at hct; split at hct
 . rename_i x
   simp only [Option.some.injEq, Prod.mk.injEq] at hct; obtain ⟨rfl, rfl, rfl, rfl⟩ := hct; simp only [allT, List.forall_mem_cons, decide_eq_true_eq] at ho; obtain ⟨o1, o2, _⟩ := ho; cases hv; refine (Tryz.bits_Len x w o1 o2).mono ?_; rintro e w' ⟨rfl, rfl⟩; exact ⟨β, _, rfl, Ext.refl _, fun _ _ => rfl, rfl, by rw [List.append_nil]; exact hr⟩
 . cases hct
def ctsFt : List (FuncId × CtF) := [(130, ctHl), (160, ctTo), (172, ctLen)]
theorem jjfq : ∀ f g, (f, g) ∈ ctsFt -> CtOk Tryz.prog f g := by
 intro f g h; simp only [ctsFt, List.mem_cons, Prod.mk.injEq, List.not_mem_nil, or_false] at h; rcases h with ⟨rfl, rfl⟩ | ⟨rfl, rfl⟩ | ⟨rfl, rfl⟩
 . exact ct_hl
 . exact ct_to
 . exact jjl2
def ENft (P : Program) : Env := ⟨P, ctsFt⟩
theorem jji4 : EnvOk (ENft Tryz.prog) := jj3w jjfq (by kernel_rfl) (by kernel_rfl)
abbrev rkB (m : Nat) (s : Nat -> Int) (f : Nat -> Nat) : ABlk := wBlk 230 2 m fun i => [.int .u16 (s (f i)), .int .i64 (Int.ofNat (f i))]
abbrev pirB (m : Nat) (f : Nat -> Nat) : ABlk := wBlk 3 1 m fun i => [.int .i64 (Int.ofNat (f i))]
abbrev r1H : List Nat := [0, 3, 4, 5, 11]
abbrev r1S (vid : Nat) (m : Nat) (s : Nat -> Int) (f : Nat -> Nat) : LSum := ⟨r1H, netIds ++ [vid], mkFr 53 [(5, .c (.sl 2000 0 0 m none))], [(2000, rkB m s f)], 100000000000000000000000000000000000000000000000000, .exit 0⟩
abbrev r2H : List Nat := [0, 1, 2, 3, 8]
abbrev r2S (m : Nat) (s : Nat -> Int) (g : Nat -> Nat) : LSum := ⟨r2H, [2000], mkFr 53 [], [(2000, rkB m s g)], 1000000000000000000000000000000000000000000000000000000, .exit 0⟩
abbrev r3H : List Nat := [8, 39, 40, 41]
abbrev r3S (oid m : Nat) (g : Nat -> Nat) : LSum := ⟨r3H, [2000, oid], mkFr 53 [(8, .c (.sl oid 0 0 m none))], [(oid, pirB m g)], 100000000000000000000000000000000000000000000000000000000, .exit 2⟩
abbrev ftO : Nat := 1000000000000000000000000000000000000000000000000000002
def ftE (P : Program) (c : Cfg) (nq : Nat) (fq : Nat -> Int) (v : Vw) (path : List Dec) (lp : List (Option LSum)) : Option VF := viewF [ftO] (fCallF (ENft P) (fC (ENft P) 300) 133 [.c (.ptr 5 0 0), .agg (vwL v)] 1000 nSt (stA (netM c nq fq) path lp))
theorem rkFt (c : Cfg) (nq : Nat) (fq : Nat -> Int) (v : Vw) (m : Nat) (f g : Nat -> Nat) (Q : VF -> Prop) (H : Q (.c (.sl 1000000000000000000000000000000000000000000000000000002 0 0 m none), [some (ABlk.mk true true 3 1 (Cs.arr m fun k => List.map AC.v ((fun i => [Value.int .i64 (Int.ofNat (g i))]) k)))], 100000000000000000000000000000000000000000000000000000002, [decide (Int.ofNat 0 <= ↑m /\ (Int.ofNat m = Int.ofNat m) /\ ↑m * Int.ofNat 8 <= Int.ofNat 140737488355328), decide (IntKind.wrap .i64 (↑m - Int.ofNat 0) <= Int.ofNat 12) == true, true, decide (IntKind.wrap .u64 ↑m <= Int.ofNat 18446744073709551615)], [LoopV Tryz.prog (loopAt Tryz.prog 133 1) r3H [2000, ftO] [some (.c (.sl 1000000000000000000000000000000000000000000000000000002 0 0 (Int.toNat ↑m) none)), some (.c (.sl 2000 0 0 m none)), some (.c (.v (.int .i64 ↑m))), some (.c (.v (.int .i64 (Int.ofNat 0))))] [some (ABlk.mk true true 230 2 (Cs.arr m fun k => List.map AC.v ((fun i => [Value.int .u16 (Vw.score v (g i)), Value.int .i64 (Int.ofNat (g i))]) k))), some (ABlk.mk true true 3 1 (Cs.arr (Int.toNat ↑m) fun x => List.map AC.v (Array.toList (Value.cells (Value.int .i64 0)))))] 53 1000000000000000000000000000000000000000000000000000007 (mkFr 53 [(8, .c (.sl ftO 0 0 m none))]) [(ftO, pirB m g)] 100000000000000000000000000000000000000000000000000000000 (Exit.exit 2) none, LoopV Tryz.prog (loopAt Tryz.prog 180 0) r2H [2000] [some (.c (.sl 2000 0 0 m none)), some (.c (.v (.int .i64 (Int.ofNat 0)))), some (.c (.v (.int .i64 ↑m))), some (.c (AC.v (Value.func (Fn.func 160) (Array.mk []) (Array.mk [])))), some (.c (.v (.int .i64 (Int.ofNat 1))))] [some (ABlk.mk true true 230 2 (Cs.arr m fun k => List.map AC.v ((fun i => [Value.int .u16 (Vw.score v (f i)), Value.int .i64 (Int.ofNat (f i))]) k)))] 53 100000000000000000000000000000000000000000000000024 (mkFr 53 []) [(2000, rkB m (Vw.score v) g)] 1000000000000000000000000000000000000000000000000000000 (Exit.exit 0) none, LoopV Tryz.prog (loopAt Tryz.prog 133 0) r1H (netIds ++ [1000]) [some (.c (.ptr 5 0 0)), some (.c (.ptr 1000 0 0)), some (.c (AC.v (Value.slice none 0 0))), some (.c (AC.v (Value.slice none 0 0))), some (.c (.v (.int .i64 (Int.ofNat 0))))] [some (ABlk.mk false false 26 0 (Cs.lit [.v (.int .i64 (Int.ofNat 1)), .v (.int .i64 (Int.negSucc 0))])), some (ABlk.mk false false 3 1 (yP c)), some (ABlk.mk false false 3 1 (yS c)), some (ABlk.mk false false 3 1 (yB c)), some (ABlk.mk false false 51 3 (yT c)), some (ABlk.mk false false 3 1 (Cs.arr nq fun k => List.map AC.v ((fun i => [Value.int .i64 (fq i)]) k))), some (ABlk.mk false false 105 0 (Cs.lit [.v (.int .i64 (c.nodes)), AC.sl 0 0 0 (c.np) none, AC.sl 1 0 0 (c.ns) none, .v (.int .i64 (c.long)), AC.sl 2 0 0 (c.nb) none, AC.sl 3 0 0 (c.nt) none, .v (.int .i64 (c.miss)), .v (.int .i64 (c.good)), .v (.int .i64 (c.fresh)), AC.sl 4 0 0 nq none])), some (ABlk.mk true false 59 0 (Cs.lit (vwL v)))] 53 1004 (mkFr 53 [(5, .c (.sl 2000 0 0 m none))]) [(2000, rkB m (Vw.score v) f)] 100000000000000000000000000000000000000000000000000 (Exit.exit 0) none])) :
 ∃ p r, ftE Tryz.prog c nq fq v p [some (r1S 1000 m v.score f), none, some (r2S m v.score g), some (r3S ftO m g)] = some r /\ Q r :=
 ⟨pD 1 1, _, by kernel_rfl, H⟩
abbrev r1I : List Nat := netIds ++ [1000, 2000]
abbrev r1V (m k : Nat) : List AV := [.c (.ptr 5 0 0), .c (.ptr 1000 0 0), .c (.v (.slice none 0 0)), .c (.sl 2000 0 0 m none), i64 (Int.ofNat k)]
def r1R (P : Program) (c : Cfg) (nq : Nat) (fq : Nat -> Int) (v : Vw) (m : Nat) (f : Nat -> Nat) (k : Nat) (path : List Dec) : Option VC :=
 view r1H (2000 :: 1000000000000000000000000000000000000000019 :: 1000000000000000000000000000000000000000021 :: (netIds ++ [1000])) (fC (ENft P) 100 (loopAt P 133 0) 1000000000000000000000000000000000000000000 nSt (stH 53 r1H r1I (r1V m k) (netBk c nq fq ++ [vwB v, rkB m v.score f]) path []))
theorem rk1 (c : Cfg) (nq : Nat) (fq : Nat -> Int) (v : Vw) (m : Nat) (f : Nat -> Nat) (k : Nat) (Q : VC -> Prop) (H : let zI := fun z : Int => AC.v (Value.int .i64 z); let zN := Int.ofNat; let zM := ABlk.mk; let zD := Int.toNat; let yF := fun (t s : Nat) (c : Cs) => some (ABlk.mk false false t s c); let zt : List Bool -> List Bool := fun l => true :: true :: true :: true :: true :: true :: true :: true :: l; let zu : List Bool -> List Bool := fun l => zt (zt (zt (zt l))); let zq0 : List Bool := (netK c nq fq) :: (pW hrdC (NetS.mk c nq fq [AV.agg (vwL v), .c (zI (zN k))])) :: (zu (zt (true :: true :: true :: ((decide (zN k < zN 8) == true) :: [])))); let zq1 : List Bool := ((hlZ (headN c nq fq (zN k)) (asB (List.getD (vwL v) (zD (zN k)) nov)) (asI (List.getD (vwL v) (24 + zD (zN k)) nov)) == zN 1) == false) :: zq0; (((decide (zN k < zN 8)) = true -> (((hlZ (headN c nq fq (zN k)) (asB (List.getD (vwL v) (zD (zN k)) nov)) (asI (List.getD (vwL v) (24 + zD (zN k)) nov)) == zN 1) = true -> Q (Exit.normal, [some (lkA (List.zip r1H (r1V m k)) 0), some (lkA (List.zip r1H (r1V m k)) (0 + 1 + 1 + 1)), some (lkA (List.zip r1H (r1V m k)) (0 + 1 + 1 + 1 + 1)), some (.c (.sl 1000000000000000000000000000000000000000019 0 0 (m + 1) none)), some (.c (zI (IntKind.wrap .i64 (zN k + zN 1))))], [none, some (zM true true 230 2 (Cs.arr (m + 1) fun i => if i < m then List.map AC.v ((fun i => [Value.int .u16 (Vw.score v (f i)), Value.int .i64 (zN (f i))]) i) else elt (zM true false 230 0 (Cs.lit [.v (.int .u16 (asI (List.getD (vwL v) (24 + zD (zN k) * 1) nov))), zI (zN k)])) 0 0 2 (i - m))), none, yF 26 0 (Cs.lit [zI (zN 1), zI (Int.negSucc 0)]), yF 3 1 (yP c), yF 3 1 (yS c), yF 3 1 (yB c), yF 51 3 (yT c), yF 3 1 (Cs.arr nq fun k => List.map AC.v ((fun i => [Value.int .i64 (fq i)]) k)), yF 105 0 (Cs.lit [zI (c.nodes), AC.sl 0 0 0 (c.np) none, AC.sl 1 0 0 (c.ns) none, zI (c.long), AC.sl 2 0 0 (c.nb) none, AC.sl 3 0 0 (c.nt) none, zI (c.miss), zI (c.good), zI (c.fresh), AC.sl 4 0 0 nq none]), some (zM true false 59 0 (Cs.lit (vwL v)))], 53, 1000000000000000000000000000000000000000023, (true :: true :: (decide (m <= m)) :: (decide ((m + 1) * 16 <= 140737488355328)) :: (ABlk.inb (zM true false 59 0 (Cs.lit (vwL v))) 0 (24 + zD (zN k) * 1 + 1)) :: (okl (Kd.i .u16) (List.getD (vwL v) (24 + zD (zN k) * 1) nov)) :: (decide (zN 0 <= zN k /\ zN k < zN 8)) :: ((hlZ (headN c nq fq (zN k)) (asB (List.getD (vwL v) (zD (zN k)) nov)) (asI (List.getD (vwL v) (24 + zD (zN k)) nov)) == zN 1) == true) :: zq0), [])) /\ ((hlZ (headN c nq fq (zN k)) (asB (List.getD (vwL v) (zD (zN k)) nov)) (asI (List.getD (vwL v) (24 + zD (zN k)) nov)) == zN 1) = false -> (((hlZ (headN c nq fq (zN k)) (asB (List.getD (vwL v) (zD (zN k)) nov)) (asI (List.getD (vwL v) (24 + zD (zN k)) nov)) == zN 2) = true -> Q (Exit.normal, [some (lkA (List.zip r1H (r1V m k)) 0), some (lkA (List.zip r1H (r1V m k)) (0 + 1 + 1 + 1)), some (lkA (List.zip r1H (r1V m k)) (0 + 1 + 1 + 1 + 1)), some (.c (.sl 1000000000000000000000000000000000000000021 0 0 (m + 1) none)), some (.c (zI (IntKind.wrap .i64 (zN k + zN 1))))], [none, none, some (zM true true 230 2 (Cs.arr (m + 1) fun i => if i < m then List.map AC.v ((fun i => [Value.int .u16 (Vw.score v (f i)), Value.int .i64 (zN (f i))]) i) else elt (zM true false 230 0 (Cs.lit [.v (.int .u16 (asI (List.getD (vwL v) (24 + zD (zN k) * 1) nov))), zI (zN k)])) 0 0 2 (i - m))), yF 26 0 (Cs.lit [zI (zN 1), zI (Int.negSucc 0)]), yF 3 1 (yP c), yF 3 1 (yS c), yF 3 1 (yB c), yF 51 3 (yT c), yF 3 1 (Cs.arr nq fun k => List.map AC.v ((fun i => [Value.int .i64 (fq i)]) k)), yF 105 0 (Cs.lit [zI (c.nodes), AC.sl 0 0 0 (c.np) none, AC.sl 1 0 0 (c.ns) none, zI (c.long), AC.sl 2 0 0 (c.nb) none, AC.sl 3 0 0 (c.nt) none, zI (c.miss), zI (c.good), zI (c.fresh), AC.sl 4 0 0 nq none]), some (zM true false 59 0 (Cs.lit (vwL v)))], 53, 1000000000000000000000000000000000000000025, (true :: true :: (decide (m <= m)) :: (decide ((m + 1) * 16 <= 140737488355328)) :: (ABlk.inb (zM true false 59 0 (Cs.lit (vwL v))) 0 (24 + zD (zN k) * 1 + 1)) :: (okl (Kd.i .u16) (List.getD (vwL v) (24 + zD (zN k) * 1) nov)) :: (decide (zN 0 <= zN k /\ zN k < zN 8)) :: ((hlZ (headN c nq fq (zN k)) (asB (List.getD (vwL v) (zD (zN k)) nov)) (asI (List.getD (vwL v) (24 + zD (zN k)) nov)) == zN 2) == true) :: zq1), [])) /\ ((hlZ (headN c nq fq (zN k)) (asB (List.getD (vwL v) (zD (zN k)) nov)) (asI (List.getD (vwL v) (24 + zD (zN k)) nov)) == zN 2) = false -> Q (Exit.normal, [some (lkA (List.zip r1H (r1V m k)) 0), some (lkA (List.zip r1H (r1V m k)) (0 + 1 + 1 + 1)), some (lkA (List.zip r1H (r1V m k)) (0 + 1 + 1 + 1 + 1)), some (lkA (List.zip r1H (r1V m k)) (0 + 1 + 1 + 1 + 1 + 1)), some (.c (zI (IntKind.wrap .i64 (zN k + zN 1))))], [some (zM true true 230 2 (Cs.arr m fun k => List.map AC.v ((fun i => [Value.int .u16 (Vw.score v (f i)), Value.int .i64 (zN (f i))]) k))), none, none, yF 26 0 (Cs.lit [zI (zN 1), zI (Int.negSucc 0)]), yF 3 1 (yP c), yF 3 1 (yS c), yF 3 1 (yB c), yF 51 3 (yT c), yF 3 1 (Cs.arr nq fun k => List.map AC.v ((fun i => [Value.int .i64 (fq i)]) k)), yF 105 0 (Cs.lit [zI (c.nodes), AC.sl 0 0 0 (c.np) none, AC.sl 1 0 0 (c.ns) none, zI (c.long), AC.sl 2 0 0 (c.nb) none, AC.sl 3 0 0 (c.nt) none, zI (c.miss), zI (c.good), zI (c.fresh), AC.sl 4 0 0 nq none]), some (zM true false 59 0 (Cs.lit (vwL v)))], 53, 1000000000000000000000000000000000000000015, (((hlZ (headN c nq fq (zN k)) (asB (List.getD (vwL v) (zD (zN k)) nov)) (asI (List.getD (vwL v) (24 + zD (zN k)) nov)) == zN 2) == false) :: zq1), [])))))) /\ ((decide (zN k < zN 8)) = false -> Q (Exit.exit 0, [some (lkA (List.zip r1H (r1V m k)) 0), some (lkA (List.zip r1H (r1V m k)) (0 + 1 + 1 + 1)), some (lkA (List.zip r1H (r1V m k)) (0 + 1 + 1 + 1 + 1)), some (lkA (List.zip r1H (r1V m k)) (0 + 1 + 1 + 1 + 1 + 1)), some (lkA (List.zip r1H (r1V m k)) (0 + 1 + 1 + 1 + 1 + 1 + 1 + 1 + 1 + 1 + 1 + 1))], [some (zM true true 230 2 (Cs.arr m fun k => List.map AC.v ((fun i => [Value.int .u16 (Vw.score v (f i)), Value.int .i64 (zN (f i))]) k))), none, none, yF 26 0 (Cs.lit [zI (zN 1), zI (Int.negSucc 0)]), yF 3 1 (yP c), yF 3 1 (yS c), yF 3 1 (yB c), yF 51 3 (yT c), yF 3 1 (Cs.arr nq fun k => List.map AC.v ((fun i => [Value.int .i64 (fq i)]) k)), yF 105 0 (Cs.lit [zI (c.nodes), AC.sl 0 0 0 (c.np) none, AC.sl 1 0 0 (c.ns) none, zI (c.long), AC.sl 2 0 0 (c.nb) none, AC.sl 3 0 0 (c.nt) none, zI (c.miss), zI (c.good), zI (c.fresh), AC.sl 4 0 0 nq none]), some (zM true false 59 0 (Cs.lit (vwL v)))], 53, 1000000000000000000000000000000000000000001, [decide (zN k < zN 8) == false], [])))) :
 ∃ p r, r1R Tryz.prog c nq fq v m f k p = some r /\ Q r :=
 two H (fun g1 => two g1 (fun g2 => ⟨pD 4 4, _, by kernel_rfl, g2⟩) (fun g2 => two g2 (fun g3 => ⟨pD 4 34, _, by kernel_rfl, g3⟩) (fun g3 => ⟨pD 4 61, _, by kernel_rfl, g3⟩))) (fun g1 => ⟨pD 1 2, _, by kernel_rfl, g1⟩)
abbrev r2V (m i : Nat) : List AV := [.c (.sl 2000 0 0 m none), i64 0, i64 (Int.ofNat m), .c (.v (.func (.func 160) #[] #[])), i64 (Int.ofNat i)]
abbrev r4H : List Nat := [0, 1, 2, 3, 8, 9]
abbrev r4V (m i j : Nat) : List AV := r2V m i ++ [i64 (Int.ofNat j)]
def r4R (P : Program) (m : Nat) (s : Nat -> Int) (f : Nat -> Nat) (i j : Nat) (path : List Dec) : Option VC :=
 view (r4H ++ []) [2000] (fC (ENft P) 100 (loopAt P 180 1) 10000000000000000000000000000000000000000000000000000 nSt (stH 53 r4H [2000] (r4V m i j) [rkB m s f] path []))
theorem rk4 (m : Nat) (s : Nat -> Int) (f : Nat -> Nat) (i j : Nat) (Q : VC -> Prop) (H : let zN := Int.ofNat; let zD := Int.toNat; let zq0 : List Bool := [true, true, ABlk.inb (ABlk.mk true true 230 2 (Cs.arr m fun k => List.map AC.v ((fun i => [Value.int .u16 (s (f i)), Value.int .i64 (zN (f i))]) k))) (0 + zD (IntKind.wrap .i64 (zN j - zN 1))) 2, true, true, decide (zN 0 <= IntKind.wrap .i64 (zN j - zN 1) /\ IntKind.wrap .i64 (zN j - zN 1) < ↑m), ABlk.inb (ABlk.mk true true 230 2 (Cs.arr m fun k => List.map AC.v ((fun i => [Value.int .u16 (s (f i)), Value.int .i64 (zN (f i))]) k))) (0 + zD (zN j)) 2, true, true, decide (zN 0 <= zN j /\ zN j < ↑m), decide (zN j > zN 0) == true]; (((decide (zN j > zN 0)) = true -> (((decide (toZ (s (f (0 + zD (zN j)))) (zN (f (0 + zD (zN j)))) (s (f (0 + zD (IntKind.wrap .i64 (zN j - zN 1))))) (zN (f (0 + zD (IntKind.wrap .i64 (zN j - zN 1))))) < zN 0)) = true -> Q (Exit.normal, [some (lkA (List.zip r4H (r4V m i j)) 0), some (lkA (List.zip r4H (r4V m i j)) (0 + 1)), some (lkA (List.zip r4H (r4V m i j)) (0 + 1 + 1)), some (lkA (List.zip r4H (r4V m i j)) (0 + 1 + 1 + 1)), some (lkA (List.zip r4H (r4V m i j)) (0 + 1 + 1 + 1 + 1 + 1 + 1 + 1 + 1)), some (.c (.v (.int .i64 (IntKind.wrap .i64 (zN j - zN 1)))))], [some (ABlk.mk true true 230 2 (Cs.arr m fun i => if i = 0 + zD (IntKind.wrap .i64 (zN j - zN 1)) then setL ((fun i => if i = 0 + zD (zN j) then setL ((fun k => List.map AC.v ((fun i => [Value.int .u16 (s (f i)), Value.int .i64 (zN (f i))]) k)) i) 0 [.v (.int .u16 (s (f (0 + zD (IntKind.wrap .i64 (zN j - zN 1)))))), .v (.int .i64 (zN (f (0 + zD (IntKind.wrap .i64 (zN j - zN 1))))))] else List.map AC.v ((fun i => [Value.int .u16 (s (f i)), Value.int .i64 (zN (f i))]) i)) i) 0 [.v (.int .u16 (s (f (0 + zD (zN j))))), .v (.int .i64 (zN (f (0 + zD (zN j)))))] else if i = 0 + zD (zN j) then setL ((fun k => List.map AC.v ((fun i => [Value.int .u16 (s (f i)), Value.int .i64 (zN (f i))]) k)) i) 0 [.v (.int .u16 (s (f (0 + zD (IntKind.wrap .i64 (zN j - zN 1)))))), .v (.int .i64 (zN (f (0 + zD (IntKind.wrap .i64 (zN j - zN 1))))))] else List.map AC.v ((fun i => [Value.int .u16 (s (f i)), Value.int .i64 (zN (f i))]) i)))], 53, 10000000000350000000000000000000000000000000000000003, ((ABlk.inb (ABlk.mk true true 230 2 (Cs.arr m fun i => if i = 0 + zD (zN j) then setL ((fun k => List.map AC.v ((fun i => [Value.int .u16 (s (f i)), Value.int .i64 (zN (f i))]) k)) i) 0 [.v (.int .u16 (s (f (0 + zD (IntKind.wrap .i64 (zN j - zN 1)))))), .v (.int .i64 (zN (f (0 + zD (IntKind.wrap .i64 (zN j - zN 1))))))] else List.map AC.v ((fun i => [Value.int .u16 (s (f i)), Value.int .i64 (zN (f i))]) i))) (0 + zD (IntKind.wrap .i64 (zN j - zN 1))) 2) :: (decide (zN 0 <= IntKind.wrap .i64 (zN j - zN 1) /\ IntKind.wrap .i64 (zN j - zN 1) < ↑m)) :: (ABlk.inb (ABlk.mk true true 230 2 (Cs.arr m fun k => List.map AC.v ((fun i => [Value.int .u16 (s (f i)), Value.int .i64 (zN (f i))]) k))) (0 + zD (zN j)) 2) :: (decide (zN 0 <= zN j /\ zN j < ↑m)) :: (ABlk.inb (ABlk.mk true true 230 2 (Cs.arr m fun k => List.map AC.v ((fun i => [Value.int .u16 (s (f i)), Value.int .i64 (zN (f i))]) k))) (0 + zD (zN j)) 2) :: true :: true :: (decide (zN 0 <= zN j /\ zN j < ↑m)) :: (ABlk.inb (ABlk.mk true true 230 2 (Cs.arr m fun k => List.map AC.v ((fun i => [Value.int .u16 (s (f i)), Value.int .i64 (zN (f i))]) k))) (0 + zD (IntKind.wrap .i64 (zN j - zN 1))) 2) :: true :: true :: (decide (zN 0 <= IntKind.wrap .i64 (zN j - zN 1) /\ IntKind.wrap .i64 (zN j - zN 1) < ↑m)) :: (decide (toZ (s (f (0 + zD (zN j)))) (zN (f (0 + zD (zN j)))) (s (f (0 + zD (IntKind.wrap .i64 (zN j - zN 1))))) (zN (f (0 + zD (IntKind.wrap .i64 (zN j - zN 1))))) < zN 0) == true) :: zq0), [])) /\ ((decide (toZ (s (f (0 + zD (zN j)))) (zN (f (0 + zD (zN j)))) (s (f (0 + zD (IntKind.wrap .i64 (zN j - zN 1))))) (zN (f (0 + zD (IntKind.wrap .i64 (zN j - zN 1))))) < zN 0)) = false -> Q (Exit.exit 2, [some (lkA (List.zip r4H (r4V m i j)) 0), some (lkA (List.zip r4H (r4V m i j)) (0 + 1)), some (lkA (List.zip r4H (r4V m i j)) (0 + 1 + 1)), some (lkA (List.zip r4H (r4V m i j)) (0 + 1 + 1 + 1)), some (lkA (List.zip r4H (r4V m i j)) (0 + 1 + 1 + 1 + 1 + 1 + 1 + 1 + 1)), some (lkA (List.zip r4H (r4V m i j)) (0 + 1 + 1 + 1 + 1 + 1 + 1 + 1 + 1 + 1))], [some (ABlk.mk true true 230 2 (Cs.arr m fun k => List.map AC.v ((fun i => [Value.int .u16 (s (f i)), Value.int .i64 (zN (f i))]) k)))], 53, 10000000000170000000000000000000000000000000000000000, ((decide (toZ (s (f (0 + zD (zN j)))) (zN (f (0 + zD (zN j)))) (s (f (0 + zD (IntKind.wrap .i64 (zN j - zN 1))))) (zN (f (0 + zD (IntKind.wrap .i64 (zN j - zN 1))))) < zN 0) == false) :: zq0), [])))) /\ ((decide (zN j > zN 0)) = false -> Q (Exit.exit 2, [some (lkA (List.zip r4H (r4V m i j)) 0), some (lkA (List.zip r4H (r4V m i j)) (0 + 1)), some (lkA (List.zip r4H (r4V m i j)) (0 + 1 + 1)), some (lkA (List.zip r4H (r4V m i j)) (0 + 1 + 1 + 1)), some (lkA (List.zip r4H (r4V m i j)) (0 + 1 + 1 + 1 + 1 + 1 + 1 + 1 + 1)), some (lkA (List.zip r4H (r4V m i j)) (0 + 1 + 1 + 1 + 1 + 1 + 1 + 1 + 1 + 1))], [some (ABlk.mk true true 230 2 (Cs.arr m fun k => List.map AC.v ((fun i => [Value.int .u16 (s (f i)), Value.int .i64 (zN (f i))]) k)))], 53, 10000000000170000000000000000000000000000000000000000, [decide (zN j > zN 0) == false], [])))) :
 ∃ p r, r4R Tryz.prog m s f i j p = some r /\ Q r :=
 two H (fun g1 => two g1 (fun g2 => ⟨pD 13 531442, _, by kernel_rfl, g2⟩) (fun g2 => ⟨pD 13 1062883, _, by kernel_rfl, g2⟩)) (fun g1 => ⟨pD 13 2, _, by kernel_rfl, g1⟩)
abbrev r4S (m i : Nat) (s : Nat -> Int) (g : Nat -> Nat) : LSum := ⟨r4H, [2000], mkFr 53 (r2H.zip (r2V m i)), [(2000, rkB m s g)], 100000000000000000000000000000000000000000000000000000, .exit 2⟩
def r2R (P : Program) (m : Nat) (s : Nat -> Int) (f : Nat -> Nat) (i : Nat) (path : List Dec) (lp : List (Option LSum)) : Option VC :=
 view (r2H ++ []) [2000] (fC (ENft P) 100 (loopAt P 180 0) 1000000000000000000000000000000000000000000000000000 nSt (stH 53 r2H [2000] (r2V m i) [rkB m s f] path lp))
theorem rk2 (m : Nat) (s : Nat -> Int) (f g : Nat -> Nat) (i : Nat) (Q : VC -> Prop) (H : (((decide (Int.ofNat i < Int.ofNat m)) = true -> Q (Exit.normal, [some (lkA (List.zip r2H (r2V m i)) 0), some (lkA (List.zip r2H (r2V m i)) (0 + 1)), some (lkA (List.zip r2H (r2V m i)) (0 + 1 + 1)), some (lkA (List.zip r2H (r2V m i)) (0 + 1 + 1 + 1)), some (.c (.v (.int .i64 (IntKind.wrap .i64 (Int.ofNat i + Int.ofNat 1)))))], [some (ABlk.mk true true 230 2 (Cs.arr m fun k => List.map AC.v ((fun i => [Value.int .u16 (s (g i)), Value.int .i64 (Int.ofNat (g i))]) k)))], 53, 100000000000000000000000000000000000000000000000000003, [decide (Int.ofNat i < Int.ofNat m) == true], [LoopV Tryz.prog (loopAt Tryz.prog 180 1) r4H [2000] [some (.c (.sl 2000 0 0 m none)), some (.c (.v (.int .i64 (Int.ofNat 0)))), some (.c (.v (.int .i64 (Int.ofNat m)))), some (.c (AC.v (Value.func (Fn.func 160) (Array.mk []) (Array.mk [])))), some (.c (.v (.int .i64 (Int.ofNat i)))), some (.c (.v (.int .i64 (Int.ofNat i))))] [some (ABlk.mk true true 230 2 (Cs.arr m fun k => List.map AC.v ((fun i => [Value.int .u16 (s (f i)), Value.int .i64 (Int.ofNat (f i))]) k)))] 53 1000000000000000000000000000000000000000000000000005 (mkFr 53 (List.zip r2H (r2V m i))) [(2000, rkB m s g)] 100000000000000000000000000000000000000000000000000000 (Exit.exit 2) none])) /\ ((decide (Int.ofNat i < Int.ofNat m)) = false -> Q (Exit.exit 0, [some (lkA (List.zip r2H (r2V m i)) 0), some (lkA (List.zip r2H (r2V m i)) (0 + 1)), some (lkA (List.zip r2H (r2V m i)) (0 + 1 + 1)), some (lkA (List.zip r2H (r2V m i)) (0 + 1 + 1 + 1)), some (lkA (List.zip r2H (r2V m i)) (0 + 1 + 1 + 1 + 1 + 1 + 1 + 1 + 1))], [some (ABlk.mk true true 230 2 (Cs.arr m fun k => List.map AC.v ((fun i => [Value.int .u16 (s (f i)), Value.int .i64 (Int.ofNat (f i))]) k)))], 53, 1000000000000000000000000000000000000000000000000003, [decide (Int.ofNat i < Int.ofNat m) == false], [])))) :
 ∃ p r, r2R Tryz.prog m s f i p [some (r4S m i s g)] = some r /\ Q r :=
 two H (fun g1 => ⟨pD 1 1, _, by kernel_rfl, g1⟩) (fun g1 => ⟨pD 1 2, _, by kernel_rfl, g1⟩)
abbrev r3V (m k : Nat) : List AV := [.c (.sl ftO 0 0 m none), .c (.sl 2000 0 0 m none), i64 (Int.ofNat m), i64 (Int.ofNat k)]
def r3R (P : Program) (m : Nat) (s : Nat -> Int) (g h : Nat -> Nat) (k : Nat) (path : List Dec) : Option VC :=
 view (r3H ++ []) [2000, ftO] (fC (ENft P) 100 (loopAt P 133 1) 10000000000000000000000000000000000000000000000000000000 nSt (stH 53 r3H [2000, ftO] (r3V m k) [rkB m s g, pirB m h] path []))
theorem rk3 (m : Nat) (s : Nat -> Int) (g h : Nat -> Nat) (k : Nat) (Q : VC -> Prop) (H : (((decide (Int.ofNat k < Int.ofNat m)) = true -> Q (Exit.normal, [some (lkA (List.zip r3H (r3V m k)) (0 + 1 + 1 + 1 + 1 + 1 + 1 + 1 + 1)), some (lkA (List.zip r3H (r3V m k)) (0 + 1 + 1 + 1 + 1 + 1 + 1 + 1 + 1 + 1 + 1 + 1 + 1 + 1 + 1 + 1 + 1 + 1 + 1 + 1 + 1 + 1 + 1 + 1 + 1 + 1 + 1 + 1 + 1 + 1 + 1 + 1 + 1 + 1 + 1 + 1 + 1 + 1 + 1 + 1)), some (lkA (List.zip r3H (r3V m k)) (0 + 1 + 1 + 1 + 1 + 1 + 1 + 1 + 1 + 1 + 1 + 1 + 1 + 1 + 1 + 1 + 1 + 1 + 1 + 1 + 1 + 1 + 1 + 1 + 1 + 1 + 1 + 1 + 1 + 1 + 1 + 1 + 1 + 1 + 1 + 1 + 1 + 1 + 1 + 1 + 1)), some (.c (.v (.int .i64 (IntKind.wrap .i64 (Int.ofNat k + Int.ofNat 1)))))], [some (ABlk.mk true true 230 2 (Cs.arr m fun k => List.map AC.v ((fun i => [Value.int .u16 (s (g i)), Value.int .i64 (Int.ofNat (g i))]) k))), some (ABlk.mk true true 3 1 (Cs.arr m fun i => if i = 0 + Int.toNat (Int.ofNat k) then setL ((fun k => List.map AC.v ((fun i => [Value.int .i64 (Int.ofNat (h i))]) k)) i) 0 [.v (.int .i64 (Int.ofNat (g (0 + Int.toNat (Int.ofNat k)))))] else List.map AC.v ((fun i => [Value.int .i64 (Int.ofNat (h i))]) i)))], 53, 10000000000000000000000000000000000000000000000000000015, [ABlk.inb (ABlk.mk true true 3 1 (Cs.arr m fun k => List.map AC.v ((fun i => [Value.int .i64 (Int.ofNat (h i))]) k))) (0 + Int.toNat (Int.ofNat k)) 1, decide (Int.ofNat 0 <= Int.ofNat k /\ Int.ofNat k < ↑m), true, true, true, ABlk.inb (ABlk.mk true true 230 2 (Cs.arr m fun k => List.map AC.v ((fun i => [Value.int .u16 (s (g i)), Value.int .i64 (Int.ofNat (g i))]) k))) (0 + Int.toNat (Int.ofNat k)) 2, true, true, decide (Int.ofNat 0 <= Int.ofNat k /\ Int.ofNat k < ↑m), decide (Int.ofNat k < Int.ofNat m) == true], [])) /\ ((decide (Int.ofNat k < Int.ofNat m)) = false -> Q (Exit.exit 2, [some (lkA (List.zip r3H (r3V m k)) (0 + 1 + 1 + 1 + 1 + 1 + 1 + 1 + 1)), some (lkA (List.zip r3H (r3V m k)) (0 + 1 + 1 + 1 + 1 + 1 + 1 + 1 + 1 + 1 + 1 + 1 + 1 + 1 + 1 + 1 + 1 + 1 + 1 + 1 + 1 + 1 + 1 + 1 + 1 + 1 + 1 + 1 + 1 + 1 + 1 + 1 + 1 + 1 + 1 + 1 + 1 + 1 + 1 + 1)), some (lkA (List.zip r3H (r3V m k)) (0 + 1 + 1 + 1 + 1 + 1 + 1 + 1 + 1 + 1 + 1 + 1 + 1 + 1 + 1 + 1 + 1 + 1 + 1 + 1 + 1 + 1 + 1 + 1 + 1 + 1 + 1 + 1 + 1 + 1 + 1 + 1 + 1 + 1 + 1 + 1 + 1 + 1 + 1 + 1 + 1)), some (lkA (List.zip r3H (r3V m k)) (0 + 1 + 1 + 1 + 1 + 1 + 1 + 1 + 1 + 1 + 1 + 1 + 1 + 1 + 1 + 1 + 1 + 1 + 1 + 1 + 1 + 1 + 1 + 1 + 1 + 1 + 1 + 1 + 1 + 1 + 1 + 1 + 1 + 1 + 1 + 1 + 1 + 1 + 1 + 1 + 1 + 1))], [some (ABlk.mk true true 230 2 (Cs.arr m fun k => List.map AC.v ((fun i => [Value.int .u16 (s (g i)), Value.int .i64 (Int.ofNat (g i))]) k))), some (ABlk.mk true true 3 1 (Cs.arr m fun k => List.map AC.v ((fun i => [Value.int .i64 (Int.ofNat (h i))]) k)))], 53, 10000000000000000000000000000000000000000000000000000001, [decide (Int.ofNat k < Int.ofNat m) == false], [])))) :
 ∃ p r, r3R Tryz.prog m s g h k p = some r /\ Q r :=
 two H (fun g1 => ⟨pD 1 1, _, by kernel_rfl, g1⟩) (fun g1 => ⟨pD 1 2, _, by kernel_rfl, g1⟩)
theorem jjj3 {h sc : Int} {b : Bool} (e : hlZ h b sc = 1 \/ hlZ h b sc = 2) : 0 <= h /\ b = true := by
 unfold hlZ at e; by_cases h0 : h < 0
 . rw [if_pos h0] at e; omega
 . rw [if_neg h0] at e
   cases b
   . rw [if_pos rfl] at e; omega
   . exact ⟨by omega, rfl⟩
theorem jji3 {h sc : Int} {b : Bool} (e1 : hlZ h b sc ≠ 1) (e2 : hlZ h b sc ≠ 2) : ¬ (0 <= h /\ b = true) := by
 rintro ⟨h0, rfl⟩; unfold hlZ at e1 e2; rw [if_neg (by omega), if_neg (by simp)] at e1 e2; by_cases h1 : sc < 16
 . rw [if_pos h1] at e1; omega
 . rw [if_neg h1] at e2; omega
theorem jjdl {t : Nat -> Bool} {k i : Nat} (h : i < cntF t k) : inF t (k + 1) i = inF t k i := by
 unfold inF; have h' : i < (inLs t k).length := by rw [jj1w]; exact h
 rw [show inLs t (k + 1) = inLs t k ++ if t k = true then [k] else [] from rfl]; simp only [List.getD_eq_getElem?_getD, List.getElem?_append_left h']
theorem jjdm {t : Nat -> Bool} {k : Nat} (h : t k = true) : inF t (k + 1) (cntF t k) = k := by
 unfold inF; rw [show inLs t (k + 1) = inLs t k ++ if t k = true then [k] else [] from rfl, if_pos h]; have h' : (inLs t k).length <= cntF t k := by rw [jj1w]; exact Nat.le_refl _
 simp only [List.getD_eq_getElem?_getD, List.getElem?_append_right h', jj1w]; simp
theorem jjfe {t : Nat -> Bool} {k : Nat} (h : t k = false) : inF t (k + 1) = inF t k := by
 funext i; unfold inF; rw [show inLs t (k + 1) = inLs t k ++ if t k = true then [k] else [] from rfl, h]; simp
abbrev r1F (m k : Nat) : List (Nat × AV) := r1H.zip (r1V m k)
abbrev r1M (c : Cfg) (nq : Nat) (fq : Nat -> Int) (v : Vw) (k : Nat) : AMem := r1I.zip (netBk c nq fq ++ [vwB v, rkB (cntF (inB c nq fq v) k) v.score (inF (inB c nq fq v) k)])
theorem jj41 {c : Cfg} {nq n : Nat} (hn : 10 <= n) : lowB n (netY0 c nq) := by
 have hc : ∀ i, i < 10 -> Nat.blt i n = true := fun i h => by rw [Nat.blt_eq]; omega
 exact jjc (by simp [lowC, hc 0 (by omega), hc 1 (by omega), hc 2 (by omega), hc 3 (by omega), hc 4 (by omega), Nat.blt_eq]; try omega)
def R1Q (c : Cfg) (nq : Nat) (fq : Nat -> Int) (v : Vw) (k : Nat) (r : VC) : Prop :=
 allT r.2.2.2.2.2.1 /\ r.2.2.2.2.2.2 = [] /\ r.2.2.2.2.1 <= 100000000000000000000000000000000000000000000000000 /\
  ∀ st' : St, r1H.map (fun t => st'.tm[t]?) = r.2.1 -> (2000 :: 1000000000000000000000000000000000000000019 :: 1000000000000000000000000000000000000000021 :: (netIds ++ [1000])).map (look st'.m) = r.2.2.1 -> st'.tm.length = r.2.2.2.1 ->
   ((r.1 = .normal /\ ∃ s', s' <= 8 /\ 8 - s' < 8 - k /\ Wk 1004 1000000000000000000000000000000000000000000 100000000000000000000000000000000000000000000000000 st'.tm st'.m (mkFr 53 (r1F (cntF (inB c nq fq v) s') s')) (r1M c nq fq v s')) \/
    (r.1 ≠ .normal /\ r.1 = .exit 0 /\ Wk 1004 100000000000000000000000000000000000000000000000000 100000000000000000000000000000000000000000000000000 st'.tm st'.m (mkFr 53 [(5, .c (.sl 2000 0 0 (cntF (inB c nq fq v) 8) none))]) [(2000, rkB (cntF (inB c nq fq v) 8) v.score (inF (inB c nq fq v) 8))]))
set_option maxRecDepth 100000 in
set_option maxHeartbeats 1000000 in
theorem jjjq (c : Cfg) (nq : Nat) (fq : Nat -> Int) (v : Vw) (h8 : c.np <= 8) :
 LoopV Tryz.prog (loopAt Tryz.prog 133 0) r1H (netIds ++ [1000]) [some (.c (.ptr 5 0 0)), some (.c (.ptr 1000 0 0)), some (.c (.v (.slice none 0 0))), some (.c (.v (.slice none 0 0))), some (i64 (Int.ofNat 0))] ((netBk c nq fq ++ [vwB v]).map some) 53 1004
  (mkFr 53 [(5, .c (.sl 2000 0 0 (cntF (inB c nq fq v) 8) none))]) [(2000, rkB (cntF (inB c nq fq v) 8) v.score (inF (inB c nq fq v) 8))] 100000000000000000000000000000000000000000000000000 (.exit 0) none := by
 refine jj6g jji4 (fuel := 100) (S := Nat) (inv := fun k => k <= 8) (μ := fun k => 8 - k) (tmI := fun k => mkFr 53 (r1F (cntF (inB c nq fq v) k) k)) (mI := fun k => r1M c nq fq v k) (nh := 1000000000000000000000000000000000000000000) (str := nSt) (by omega) (by omega) (fun _ h => by cases h) (s0 := 0) (by omega) ?_ ?_
 . intro tm m g1 g2 g3
   simp only [List.map_cons, List.map_nil, List.cons_append, List.nil_append, List.cons.injEq, and_true] at g1 g2; obtain ⟨s0, s3, s4, s5, s11⟩ := g1; obtain ⟨bg, b0, b1, b2, b3, b4, b5, bv⟩ := g2; refine jj8z (ρ := fun _ => .inr 2) (by omega) (by omega) (by unfold lim; omega) g3 ?_ ?_ ?_
   . kernel_rfl
   . exact ⟨.inl ⟨.inr (by unfold gid; omega), bg, jjc rfl⟩, .inl ⟨.inl (by omega), b0, jje⟩, .inl ⟨.inl (by omega), b1, jje⟩, .inl ⟨.inl (by omega), b2, jje⟩, .inl ⟨.inl (by omega), b3, jje⟩, .inl ⟨.inl (by omega), b4, jje⟩, .inl ⟨.inl (by omega), b5, jj41 (by omega)⟩, .inl ⟨.inl (by omega), bv, jj24⟩, .inr (.inr (.inl ⟨by omega, by omega, rfl, (show (0 : Nat) < 2 by omega), _, rfl⟩)), trivial⟩
   . exact ⟨⟨_, s0, by simp, jj2f rfl⟩, ⟨_, s3, by simp, jj2f rfl⟩, ⟨_, s4, by simp, jj2f rfl⟩, ⟨_, s5, by simp, jjg5 (by omega) (by omega) (by omega) rfl⟩, ⟨_, s11, by simp [i64], jj1u rfl⟩, trivial⟩
 . intro k hk
   refine (?_ : (∃ p r, r1R Tryz.prog c nq fq v (cntF (inB c nq fq v) k) (inF (inB c nq fq v) k) k p = some r /\ _) -> _) (rk1 c nq fq v (cntF (inB c nq fq v) k) (inF (inB c nq fq v) k) k (R1Q c nq fq v k) ?_)
   . rintro ⟨p, ⟨e, l, b, len, n1, ob, po⟩, hv, hob, hpo, hn1, hw⟩
     obtain ⟨st, v1, v2, v3, v4, v6, v7, v8⟩ := jj47 hv; exact ⟨p, [], e, n1, st, v1, hn1, ⟨by rw [v6]; exact hob, by rw [v7]; have hpo : po = [] := hpo; rw [hpo]; simp⟩, v8, hw st v2 v3 v4⟩
   . rcases Nat.lt_or_ge k 8 with hlt | hge
     . have hw : IntKind.wrap IntKind.i64 (Int.ofNat k + Int.ofNat 1) = Int.ofNat (k + 1) := by rw [jj6 _ (by simp; omega) (by simp; omega)]; simp
       have a0 := jj4w v k hlt; have b0 := jj52 v k hlt; obtain ⟨a4, b4⟩ := jj16 v k hlt; have e0 : 0 + Int.toNat (Int.ofNat k) * 1 = Int.toNat (Int.ofNat k) := by simp
       have e1 : 24 + Int.toNat (Int.ofNat k) * 1 = 24 + Int.toNat (Int.ofNat k) := by simp
       rw [e0] at a0 b0; rw [e1] at a4 b4; have hin : inB c nq fq v k = (decide (0 <= headN c nq fq (Int.ofNat k)) && v.inn k) := rfl; have hpw : pW hrdC ⟨c, nq, fq, [.agg (vwL v), .c (.v (.int .i64 (Int.ofNat k)))]⟩ = true := by simp [pW, hrdC, jj4, h8]
       have hc := jj6n (inB c nq fq v) k; have hcs := jj20 (inB c nq fq v) k; simp only [e0, e1, a0, b0, a4, b4, hw, hpw]; refine ⟨fun c1 => ⟨fun c2 => ?_, fun c2 => ⟨fun c3 => ?_, fun c3 => ?_⟩⟩, fun c1 => ?_⟩
       . have hy : inB c nq fq v k = true := by
          obtain ⟨q1, q2⟩ := jjj3 (.inl (by simpa using c2)); rw [hin, q2, Bool.and_true]; exact decide_eq_true q1
         rw [hy] at hcs; refine ⟨?_, rfl, by dsimp only; omega, fun st' v2 v3 v4 => .inl ⟨rfl, k + 1, by omega, by omega, ?_⟩⟩
         . simp [allT, hlt, jj8, Vw.len, jjj, jji, jj0, jj1, jj3, jjb] at c2 ⊢
           omega
         . simp only [List.map_cons, List.map_nil, List.cons_append, List.nil_append, List.cons.injEq, and_true] at v2 v3
           obtain ⟨s0, s3, s4, s5, s11⟩ := v2; obtain ⟨_, b22, _, bg, b0, b1, b2, b3, b4, b5, bv⟩ := v3; simp only [if_true] at hcs; unfold r1M; rw [hcs]; refine jj8z (ρ := fun _ => .inl 1000000000000000000000000000000000000000019) (by omega) (by omega) (by unfold lim; omega) v4 ?_ ?_ ?_
           . kernel_rfl
           . exact ⟨.inl ⟨.inr (by unfold gid; omega), bg, jjc rfl⟩, .inl ⟨.inl (by omega), b0, jje⟩, .inl ⟨.inl (by omega), b1, jje⟩, .inl ⟨.inl (by omega), b2, jje⟩, .inl ⟨.inl (by omega), b3, jje⟩, .inl ⟨.inl (by omega), b4, jje⟩, .inl ⟨.inl (by omega), b5, jj41 (by omega)⟩, .inl ⟨.inl (by omega), bv, jj24⟩, .inr (.inl ⟨by omega, by omega, _, _, rfl, b22, jj7u (f := fun i => [.int .u16 (v.score (inF (inB c nq fq v) k i)), .int .i64 (Int.ofNat (inF (inB c nq fq v) k i))]) (l := [.int .u16 (v.score k), .int .i64 (Int.ofNat k)]) (g := fun i => [.int .u16 (v.score (inF (inB c nq fq v) (k + 1) i)), .int .i64 (Int.ofNat (inF (inB c nq fq v) (k + 1) i))]) rfl (fun i hi => by simp only [jjdl hi]) (by simp only [jjdm hy]), jjg⟩), trivial⟩
           . exact ⟨⟨_, s0, by simp [lkA], jj2f rfl⟩, ⟨_, s3, by simp [lkA], jj2f rfl⟩, ⟨_, s4, by simp [lkA], jj2f rfl⟩, ⟨_, s5, by simp, jjcv (by omega) (by omega) (by omega) rfl⟩, ⟨_, s11, by simp, jj1u rfl⟩, trivial⟩
       . have hy : inB c nq fq v k = true := by
          obtain ⟨q1, q2⟩ := jjj3 (.inr (by simpa using c3)); rw [hin, q2, Bool.and_true]; exact decide_eq_true q1
         rw [hy] at hcs; refine ⟨?_, rfl, by dsimp only; omega, fun st' v2 v3 v4 => .inl ⟨rfl, k + 1, by omega, by omega, ?_⟩⟩
         . simp [allT, hlt, jj8, Vw.len, jjj, jji, jj0, jj1, jj3, jjb] at c2 c3 ⊢
           omega
         . simp only [List.map_cons, List.map_nil, List.cons_append, List.nil_append, List.cons.injEq, and_true] at v2 v3
           obtain ⟨s0, s3, s4, s5, s11⟩ := v2; obtain ⟨_, _, b22, bg, b0, b1, b2, b3, b4, b5, bv⟩ := v3; simp only [if_true] at hcs; unfold r1M; rw [hcs]; refine jj8z (ρ := fun _ => .inl 1000000000000000000000000000000000000000021) (by omega) (by omega) (by unfold lim; omega) v4 ?_ ?_ ?_
           . kernel_rfl
           . exact ⟨.inl ⟨.inr (by unfold gid; omega), bg, jjc rfl⟩, .inl ⟨.inl (by omega), b0, jje⟩, .inl ⟨.inl (by omega), b1, jje⟩, .inl ⟨.inl (by omega), b2, jje⟩, .inl ⟨.inl (by omega), b3, jje⟩, .inl ⟨.inl (by omega), b4, jje⟩, .inl ⟨.inl (by omega), b5, jj41 (by omega)⟩, .inl ⟨.inl (by omega), bv, jj24⟩, .inr (.inl ⟨by omega, by omega, _, _, rfl, b22, jj7u (f := fun i => [.int .u16 (v.score (inF (inB c nq fq v) k i)), .int .i64 (Int.ofNat (inF (inB c nq fq v) k i))]) (l := [.int .u16 (v.score k), .int .i64 (Int.ofNat k)]) (g := fun i => [.int .u16 (v.score (inF (inB c nq fq v) (k + 1) i)), .int .i64 (Int.ofNat (inF (inB c nq fq v) (k + 1) i))]) rfl (fun i hi => by simp only [jjdl hi]) (by simp only [jjdm hy]), jjg⟩), trivial⟩
           . exact ⟨⟨_, s0, by simp [lkA], jj2f rfl⟩, ⟨_, s3, by simp [lkA], jj2f rfl⟩, ⟨_, s4, by simp [lkA], jj2f rfl⟩, ⟨_, s5, by simp, jjcv (by omega) (by omega) (by omega) rfl⟩, ⟨_, s11, by simp, jj1u rfl⟩, trivial⟩
       . have hy : inB c nq fq v k = false := by
          have q := jji3 (by simpa using c2) (by simpa using c3); rw [hin]
          cases hx : (decide (0 <= headN c nq fq (Int.ofNat k)) && v.inn k) with
          | false => rfl
          | true => simp only [Bool.and_eq_true, decide_eq_true_eq] at hx; exact absurd hx q
         rw [hy] at hcs; refine ⟨?_, rfl, by dsimp only; omega, fun st' v2 v3 v4 => .inl ⟨rfl, k + 1, by omega, by omega, ?_⟩⟩
         . simp [allT, hlt, jj8, Vw.len, jjj, jji, jj0, jj1, jj3, jjb] at c2 c3 ⊢
           omega
         . simp only [List.map_cons, List.map_nil, List.cons_append, List.nil_append, List.cons.injEq, and_true] at v2 v3
           obtain ⟨s0, s3, s4, s5, s11⟩ := v2; obtain ⟨b22, _, _, bg, b0, b1, b2, b3, b4, b5, bv⟩ := v3; have hcs : cntF (inB c nq fq v) (k + 1) = cntF (inB c nq fq v) k := by simpa using hcs
           unfold r1M; rw [hcs, jjfe hy]; refine jj8z (ρ := fun _ => .inl 2000) (by omega) (by omega) (by unfold lim; omega) v4 ?_ ?_ ?_
           . kernel_rfl
           . exact ⟨.inl ⟨.inr (by unfold gid; omega), bg, jjc rfl⟩, .inl ⟨.inl (by omega), b0, jje⟩, .inl ⟨.inl (by omega), b1, jje⟩, .inl ⟨.inl (by omega), b2, jje⟩, .inl ⟨.inl (by omega), b3, jje⟩, .inl ⟨.inl (by omega), b4, jje⟩, .inl ⟨.inl (by omega), b5, jj41 (by omega)⟩, .inl ⟨.inl (by omega), bv, jj24⟩, .inr (.inl ⟨by omega, by omega, _, _, rfl, b22, BEq.refl _, jjg⟩), trivial⟩
           . exact ⟨⟨_, s0, by simp [lkA], jj2f rfl⟩, ⟨_, s3, by simp [lkA], jj2f rfl⟩, ⟨_, s4, by simp [lkA], jj2f rfl⟩, ⟨_, s5, by simp [lkA], jjcv (by omega) (by omega) (by omega) rfl⟩, ⟨_, s11, by simp, jj1u rfl⟩, trivial⟩
       . exfalso; simp at c1; omega
     . obtain rfl : k = 8 := by omega
       refine ⟨fun c1 => ?_, fun c1 => ?_⟩
       . exfalso; simp at c1
       . refine ⟨by simp [allT], rfl, by dsimp only; omega, fun st' v2 v3 v4 => .inr ⟨by simp, rfl, ?_⟩⟩
         simp only [List.map_cons, List.map_nil, List.cons_append, List.nil_append, List.cons.injEq, and_true] at v2 v3; obtain ⟨s0, s3, s4, s5, s11⟩ := v2; obtain ⟨b22, _⟩ := v3; refine jj8z (ρ := fun _ => .inl 2000) (by omega) (by omega) (by unfold lim; omega) v4 rfl ?_ ?_
         . exact ⟨.inr (.inl ⟨by omega, by omega, 2000, _, rfl, b22, BEq.refl _, jjg⟩), trivial⟩
         . exact ⟨⟨_, s5, by simp [lkA], jjcv (by omega) (by omega) (by omega) rfl⟩, trivial⟩
theorem jjkf (v : Vw) (a b : Nat) : toZ (v.score a) (Int.ofNat a) (v.score b) (Int.ofNat b) < 0 ↔ kLt v a b = true := by
 unfold toZ kLt; simp only [Int.ofNat_eq_natCast, decide_eq_true_eq]
 (repeat' split) <;> constructor <;> intro h <;> omega
theorem jjdi (f : Nat -> Nat) (i j : Nat) : insF f i j j = f i := if_pos rfl
theorem jjhv (f : Nat -> Nat) {i j t : Nat} (h : t < j) : insF f i j t = f t := by unfold insF; rw [if_neg (by omega), if_neg (by omega)]
abbrev r4N : Nat := 1000000000000000000000000000000000000000000000000005
theorem jjla {x y : ABlk} (h : BEq y x) : BL [x] [some y] := ⟨h, trivial⟩
theorem jjj2 {x y x' y' : ABlk} (h : BEq y x) (h' : BEq y' x') : BL [x, x'] [some y, some y'] := ⟨h, h', trivial⟩
set_option maxRecDepth 100000 in
set_option maxHeartbeats 1000000 in
theorem jjjn (v : Vw) (m : Nat) (f : Nat -> Nat) (i : Nat) (him : i < m) (hm : m <= 8) :
 LoopV Tryz.prog (loopAt Tryz.prog 180 1) r4H [2000] ((r4V m i i).map some) [some (rkB m v.score f)] 53 r4N (mkFr 53 (r2H.zip (r2V m i))) [(2000, rkB m v.score (insF f i (posF (kLt v) f (f i) i)))] 100000000000000000000000000000000000000000000000000000 (.exit 2) none := by
 refine jjn jji4 (fuel := 100) (str := nSt) (nh := 10000000000000000000000000000000000000000000000000000) (S := Nat) (fun j => j <= i /\ posF (kLt v) f (f i) j = posF (kLt v) f (f i) i) (fun j => j) r4H [] [2000] (fun j => r4V m i j) (fun j => [rkB m v.score (insF f i j)]) (by decide) (by decide) (by unfold lim; omega) (s0 := i) ⟨Nat.le_refl _, rfl⟩ (fun _ => ⟨rfl, rfl⟩) (by kernel_rfl) (by rw [jj8h]; exact BL.refl [rkB m v.score f]) (fun j _ => ⟨rfl, fun b hb => by rw [List.mem_singleton.1 hb]; exact jjg⟩) ?_; rintro j ⟨hj, hP⟩; refine (?_ : (∃ p r, r4R Tryz.prog m v.score (insF f i j) i j p = some r /\ _) -> _) (rk4 m v.score (insF f i j) i j (StepV r4N 100000000000000000000000000000000000000000000000000000 53 r4H [] [2000] (fun j => j <= i /\ posF (kLt v) f (f i) j = posF (kLt v) f (f i) i) (fun j => j) (fun j => r4V m i j) (fun j => [rkB m v.score (insF f i j)]) (.exit 2) (r2H.zip (r2V m i)) [(2000, rkB m v.score (insF f i (posF (kLt v) f (f i) i)))] j) ?_)
 . rintro ⟨p, r, h1, h2⟩
   exact ⟨p, [], r, h1, h2⟩
 . have hout : ∀ j, ∀ q ∈ r2H.zip (r2V m i), okV r4N q.2 = true /\ (q.1, some q.2) ∈ (r4H ++ []).zip ((r4V m i j).map some) := by
    intro j q hq; simp only [List.zip_cons_cons, List.zip_nil_right, List.mem_cons, List.not_mem_nil, or_false] at hq; rcases hq with rfl | rfl | rfl | rfl | rfl <;> exact ⟨rfl, by simp⟩
   match j, hj, hP with
   | 0, hj, hP =>
    have e : posF (kLt v) f (f i) i = 0 := by rw [<- hP]; rfl
    refine ⟨fun h1 => ?_, fun h1 => ?_⟩
    . exfalso; simp at h1
    . refine ⟨by simp [allT], rfl, by dsimp only; omega, rfl, .inr ⟨by simp, rfl, hout _, fun p hpp => ?_⟩⟩
      rw [List.mem_singleton.1 hpp, e]; exact ⟨by kernel_rfl, jjg, _, List.mem_cons_self .., BEq.refl _⟩
   | j + 1, hj, hP =>
    have w1 : IntKind.wrap .i64 (Int.ofNat (j + 1) - Int.ofNat 1) = Int.ofNat j := by rw [jj6 _ (by simp only [Int.ofNat_eq_natCast]; omega) (by simp only [Int.ofNat_eq_natCast]; omega)]; simp only [Int.ofNat_eq_natCast]; omega
    have e0 : 0 + Int.toNat (Int.ofNat (j + 1)) = j + 1 := by simp
    have e1 : 0 + Int.toNat (Int.ofNat j) = j := by simp
    have ea := jjdi f i (j + 1); have eb := jjhv f (i := i) (show j < j + 1 by omega); have hk := jjkf v (f i) (f j); have hpos : posF (kLt v) f (f i) (j + 1) = if kLt v (f i) (f j) = true then posF (kLt v) f (f i) j else j + 1 := rfl
    rw [hpos] at hP; simp only [w1, e0, e1, ea, eb]; refine ⟨fun h1 => ⟨fun h2 => ?_, fun h2 => ?_⟩, fun h1 => ?_⟩
    . have hy : kLt v (f i) (f j) = true := hk.1 (by simpa using h2)
      rw [if_pos hy] at hP; refine ⟨?_, rfl, by dsimp only; omega, rfl, .inl ⟨rfl, j, ⟨by omega, hP⟩, by show j < j + 1; omega, rfl, ?_⟩⟩
      . simp at h2
        simp [allT, jj2, h2]; omega
      . refine jjla ⟨rfl, rfl, rfl, rfl, .inr (.inl ⟨m, _, _, rfl, rfl, fun t ht => ?_⟩)⟩
        by_cases t1 : t = j
        . subst t1
          simp [setL, setS, pickC, jjdi]
        . by_cases t2 : t = j + 1
          . subst t2
            have : insF f i j (j + 1) = f j := by unfold insF; rw [if_neg (by omega), if_pos ⟨by omega, by omega⟩]; rfl
            simp [setL, setS, pickC, this]
          . have : insF f i j t = insF f i (j + 1) t := by
             unfold insF; rw [if_neg t1, if_neg t2]; by_cases t3 : j + 1 < t /\ t <= i
             . rw [if_pos (by omega), if_pos t3]
             . rw [if_neg (by omega), if_neg t3]
            simp [t1, t2, this]
    . have hn : ¬ kLt v (f i) (f j) = true := fun e => of_decide_eq_false h2 (hk.2 e)
      rw [if_neg hn] at hP; refine ⟨?_, rfl, by dsimp only; omega, rfl, .inr ⟨by simp, rfl, hout _, fun p hpp => ?_⟩⟩
      . simp at h2
        simp [allT, jj2, h2]; omega
      . rw [List.mem_singleton.1 hpp, <- hP]
        exact ⟨by kernel_rfl, jjg, _, List.mem_cons_self .., BEq.refl _⟩
    . exfalso; simp at h1 <;> omega
abbrev r2N : Nat := 100000000000000000000000000000000000000000000000024
set_option maxRecDepth 100000 in
set_option maxHeartbeats 1000000 in
theorem jjjp (v : Vw) (m : Nat) (f : Nat -> Nat) (hm : m <= 8) :
 LoopV Tryz.prog (loopAt Tryz.prog 180 0) r2H [2000] ((r2V m 1).map some) [some (rkB m v.score f)] 53 r2N (mkFr 53 []) [(2000, rkB m v.score (srtF (kLt v) f m))] 1000000000000000000000000000000000000000000000000000000 (.exit 0) none := by
 refine jj6f jji4 (fuel := 100) (str := nSt) (nh := 1000000000000000000000000000000000000000000000000000) (S := Nat) (fun i => 1 <= i /\ (i <= m \/ i = 1)) (fun i => m - i) r2H [] [2000] (fun i => r2V m i) (fun i => [rkB m v.score (srtF (kLt v) f i)]) (by decide) (by decide) (by unfold lim; omega) (s0 := 1) ⟨Nat.le_refl _, .inr rfl⟩ (fun _ => ⟨rfl, rfl⟩) (by kernel_rfl) (by rw [jj9r]; exact BL.refl [rkB m v.score f]) (fun j _ => ⟨rfl, fun b hb => by rw [List.mem_singleton.1 hb]; exact jjg⟩) ?_; rintro i ⟨hi, hi2⟩; refine (?_ : (∃ p r, r2R Tryz.prog m v.score (srtF (kLt v) f i) i p [some (r4S m i v.score (srtF (kLt v) f (i + 1)))] = some r /\ _) -> _) (rk2 m v.score (srtF (kLt v) f i) (srtF (kLt v) f (i + 1)) i (StepN r2N 1000000000000000000000000000000000000000000000000000000 53 r2H [] [2000] (fun i => 1 <= i /\ (i <= m \/ i = 1)) (fun i => m - i) (fun i => r2V m i) (fun i => [rkB m v.score (srtF (kLt v) f i)]) (.exit 0) [] [(2000, rkB m v.score (srtF (kLt v) f m))] i) ?_)
 . rintro ⟨p, r, h1, h2⟩
   exact ⟨p, _, r, h1, h2⟩
 . refine ⟨fun h1 => ?_, fun h1 => ?_⟩
   . have hlt : i < m := by simp at h1; omega
     have w1 : IntKind.wrap .i64 (Int.ofNat i + Int.ofNat 1) = Int.ofNat (i + 1) := by rw [jj6 _ (by simp; omega) (by simp; omega)]; simp
     have hs := jjjn v m (srtF (kLt v) f i) i hlt hm; rw [w1]; refine ⟨by simp [allT]; omega, fun q hq => ?_, by dsimp only; omega, rfl, .inl ⟨rfl, i + 1, ⟨by omega, by omega⟩, by show m - (i + 1) < m - i; omega, rfl, BL.refl _⟩⟩; rw [List.mem_singleton.1 hq]; exact hs
   . have hge : m <= i := by simp at h1; omega
     have e : srtF (kLt v) f m = srtF (kLt v) f i := by
      by_cases hm1 : m = i
      . rw [hm1]
      . obtain rfl : m = 0 := by omega
        obtain rfl : i = 1 := by omega
        rw [jj9r]; rfl
     refine ⟨by simp [allT]; omega, (fun q hq => by cases hq), by dsimp only; omega, rfl, .inr ⟨by simp, rfl, (fun q hq => by cases hq), fun p hpp => ?_⟩⟩; rw [List.mem_singleton.1 hpp, e]; exact ⟨by kernel_rfl, jjg, _, List.mem_cons_self .., BEq.refl _⟩
abbrev r3N : Nat := 1000000000000000000000000000000000000000000000000000007
abbrev r3G (g : Nat -> Nat) (k t : Nat) : Nat := if t < k then g t else 0
set_option maxRecDepth 100000 in
set_option maxHeartbeats 1000000 in
theorem jjjo (v : Vw) (m : Nat) (g : Nat -> Nat) (hm : m <= 8) {eb : ABlk} (heb : BEq eb (pirB m fun _ => 0)) :
 LoopV Tryz.prog (loopAt Tryz.prog 133 1) r3H [2000, ftO] ((r3V m 0).map some) [some (rkB m v.score g), some eb] 53 r3N (mkFr 53 [(8, .c (.sl ftO 0 0 m none))]) [(ftO, pirB m g)] 100000000000000000000000000000000000000000000000000000000 (.exit 2) none := by
 refine jjn jji4 (fuel := 100) (str := nSt) (nh := 10000000000000000000000000000000000000000000000000000000) (S := Nat) (fun k => k <= m) (fun k => m - k) r3H [] [2000, ftO] (fun k => r3V m k) (fun k => [rkB m v.score g, pirB m (r3G g k)]) (by decide) (by decide) (by unfold lim; omega) (s0 := 0) (Nat.zero_le _) (fun _ => ⟨rfl, rfl⟩) (by kernel_rfl) (jjj2 (BEq.refl _) heb) (fun j _ => ⟨rfl, fun b hb => by simp only [List.mem_cons, List.not_mem_nil, or_false] at hb; rcases hb with rfl | rfl <;> exact jjg⟩) ?_; intro k hk; refine (?_ : (∃ p r, r3R Tryz.prog m v.score g (r3G g k) k p = some r /\ _) -> _) (rk3 m v.score g (r3G g k) k (StepV r3N 100000000000000000000000000000000000000000000000000000000 53 r3H [] [2000, ftO] (fun k => k <= m) (fun k => m - k) (fun k => r3V m k) (fun k => [rkB m v.score g, pirB m (r3G g k)]) (.exit 2) [(8, .c (.sl ftO 0 0 m none))] [(ftO, pirB m g)] k) ?_)
 . rintro ⟨p, r, h1, h2⟩
   exact ⟨p, [], r, h1, h2⟩
 . have e0 : 0 + Int.toNat (Int.ofNat k) = k := by simp
   refine ⟨fun h1 => ?_, fun h1 => ?_⟩
   . have hlt : k < m := by simp at h1; omega
     have w1 : IntKind.wrap .i64 (Int.ofNat k + Int.ofNat 1) = Int.ofNat (k + 1) := by rw [jj6 _ (by simp; omega) (by simp; omega)]; simp
     rw [w1, e0]; refine ⟨?_, rfl, by dsimp only; omega, rfl, .inl ⟨rfl, k + 1, hlt, by show m - (k + 1) < m - k; omega, rfl, jjj2 (BEq.refl _) ⟨rfl, rfl, rfl, rfl, .inr (.inl ⟨m, _, _, rfl, rfl, fun t ht => ?_⟩)⟩⟩⟩
     . simp [allT, jj2]
       omega
     . by_cases t1 : t = k
       . subst t1
         simp [setL, setS, pickC, r3G]
       . have : (t < k + 1) = (t < k) := by apply propext; omega
         simp [t1, r3G, this]
   . have hge : k = m := by simp at h1; omega
     subst hge; refine ⟨by simp [allT], rfl, by dsimp only; omega, rfl, .inr ⟨by simp, rfl, fun q hq => ?_, fun p hpp => ?_⟩⟩
     . rw [List.mem_singleton.1 hq]; exact ⟨rfl, by simp [lkA]⟩
     . rw [List.mem_singleton.1 hpp]
       refine ⟨by kernel_rfl, jjg, _, List.mem_cons_of_mem _ (List.mem_cons_self ..), ⟨rfl, rfl, rfl, rfl, .inr (.inl ⟨k, _, _, rfl, rfl, fun t ht => ?_⟩)⟩⟩; simp [r3G, ht]
def mA (c : Cfg) (nq : Nat) (fq : Nat -> Int) (l : List AC) : Nat := cntF (inB c nq fq (vwOf l)) 8
def fitA (c : Cfg) (nq : Nat) (fq : Nat -> Int) (l : List AC) : Nat -> Nat := fitF (vwOf l) (inB c nq fq (vwOf l))
theorem jjhy {c : Cfg} {nq : Nat} {fq : Nat -> Int} {v : Vw} {p : Nat} (h : p < 8) : inB c nq fq (vwOf (vwL v)) p = inB c nq fq v p := by
 unfold inB; rw [(jj64 v).inn p h]
theorem mA_eq (c : Cfg) (nq : Nat) (fq : Nat -> Int) (v : Vw) : mA c nq fq (vwL v) = cntF (inB c nq fq v) 8 := jj3g fun p hp => jjhy hp
theorem jjdk {t u : Nat -> Bool} : ∀ {n : Nat}, (∀ p, p < n -> t p = u p) -> inLs t n = inLs u n
 | 0, _ => rfl
 | n + 1, h => by
  unfold inLs; rw [jjdk fun p hp => h p (by omega), h n (by omega)]
theorem jjdj {t : Nat -> Bool} {n i : Nat} (h : i < cntF t n) : inF t n i < n := by
 have : inF t n i ∈ inLs t n := by
  unfold inF; rw [jj8i (by rw [jj1w]; exact h)]; exact List.getElem_mem _
 exact ((jj4i t _ n).1 this).1
theorem jj6c {lt lt' : Nat -> Nat -> Bool} {f g : Nat -> Nat} {x : Nat} : ∀ {j : Nat}, (∀ t, t < j -> f t = g t /\ lt x (f t) = lt' x (f t)) -> posF lt f x j = posF lt' g x j
 | 0, _ => rfl
 | j + 1, h => by
  unfold posF; rw [jj6c fun t ht => h t (by omega), (h j (by omega)).2, (h j (by omega)).1]
theorem jj66 {lt lt' : Nat -> Nat -> Bool} {f g : Nat -> Nat} {n : Nat} (hf : ∀ t, t < n -> f t = g t) (hl : ∀ s t, s < n -> t < n -> lt (f s) (f t) = lt' (f s) (f t)) (hA : ∀ a b, lt a b = true -> lt b a = false) (hN : ∀ a b c, lt a b = false -> lt b c = false -> lt a c = false) : ∀ i, i <= n -> ∀ t, t < n -> srtF lt f i t = srtF lt' g i t
 | 0, _, t, ht => hf t ht
 | i + 1, hi, t, ht => by
  have ih := jj66 hf hl hA hN i (by omega); obtain ⟨_, h2, h3, _⟩ := jj82 hA hN f i
  have him : ∀ s, s < n -> ∃ q, q < n /\ srtF lt f i s = f q := fun s hs => by
   by_cases e : s < i
   . obtain ⟨q, hq, he⟩ := h3 s e
     exact ⟨q, by omega, he⟩
   . exact ⟨s, hs, h2 s (by omega)⟩
  have hp : posF lt (srtF lt f i) (srtF lt f i i) i = posF lt' (srtF lt' g i) (srtF lt' g i i) i := by
   rw [<- ih i (by omega)]; refine jj6c fun s hs => ⟨ih s (by omega), ?_⟩
   obtain ⟨q1, e1, e2⟩ := him i (by omega); obtain ⟨q2, e3, e4⟩ := him s (by omega); rw [e2, e4]; exact hl q1 q2 e1 e3
  show insF (srtF lt f i) i _ t = insF (srtF lt' g i) i _ t; rw [hp]; unfold insF; rw [ih i (by omega), ih t ht]; split
  . rfl
  . split
    . rw [ih (t - 1) (by omega)]
    . rfl
theorem jjdq {c : Cfg} {nq : Nat} {fq : Nat -> Int} {v : Vw} {i : Nat} (h : i < cntF (inB c nq fq v) 8) : fitA c nq fq (vwL v) i = fitF v (inB c nq fq v) i := by
 have e1 : ∀ p, p < 8 -> inB c nq fq (vwOf (vwL v)) p = inB c nq fq v p := fun p hp => jjhy hp
 have e2 : inF (inB c nq fq (vwOf (vwL v))) 8 = inF (inB c nq fq v) 8 := by funext j; unfold inF; rw [jjdk e1]
 unfold fitA fitF; rw [e2, jj3g e1]; have hs := jj64 v; refine jj66 (lt := kLt (vwOf (vwL v))) (lt' := kLt v) (n := cntF (inB c nq fq v) 8) (fun _ _ => rfl) (fun s t hs' ht' => ?_) (fun _ _ => jj7b) (fun _ _ _ => jj4n) _ (Nat.le_refl _) i h; have a1 := hs.score _ (jjdj hs'); have a2 := hs.score _ (jjdj ht'); unfold kLt; rw [a1, a2]
def ctFit : CtF := fun xs m ib =>
 match xs with
 | [x, .agg l] =>
  match netRd.dec [x, .agg l] m with
  | some (⟨c, nq, fq, _⟩, b) => some (.c (.sl ib 0 0 (mA c nq fq l) none), [(ib, pirB (mA c nq fq l) (fitA c nq fq l))], 1, [b, isVw l, decide (c.np <= 8)])
  | none => none
 | _ => none
set_option maxRecDepth 100000 in
theorem jji5 (c : Cfg) (nq : Nat) (fq : Nat -> Int) (v : Vw) (h8 : c.np <= 8) : ∃ p lp r, ftE Tryz.prog c nq fq v p lp = some r /\ r.1 = .c (.sl ftO 0 0 (cntF (inB c nq fq v) 8) none) /\ r.2.1 = [some (pirB (cntF (inB c nq fq v) 8) (fitF v (inB c nq fq v)))] /\ r.2.2.1 <= lim /\ allT r.2.2.2.1 /\ ∀ q ∈ r.2.2.2.2, q := by
 have h8m := cnt8 (inB c nq fq v); refine (?_ : (∃ p r, ftE Tryz.prog c nq fq v p [some (r1S 1000 (cntF (inB c nq fq v) 8) v.score (inF (inB c nq fq v) 8)), none, some (r2S (cntF (inB c nq fq v) 8) v.score (fitF v (inB c nq fq v))), some (r3S ftO (cntF (inB c nq fq v) 8) (fitF v (inB c nq fq v)))] = some r /\ _) -> _) (rkFt c nq fq v (cntF (inB c nq fq v) 8) (inF (inB c nq fq v) 8) (fitF v (inB c nq fq v)) (fun r => r.1 = .c (.sl ftO 0 0 (cntF (inB c nq fq v) 8) none) /\ r.2.1 = [some (pirB (cntF (inB c nq fq v) 8) (fitF v (inB c nq fq v)))] /\ r.2.2.1 <= lim /\ allT r.2.2.2.1 /\ ∀ q ∈ r.2.2.2.2, q) ?_)
 . rintro ⟨p, r, h1, h2⟩
   exact ⟨p, _, r, h1, h2⟩
 . refine ⟨rfl, rfl, (by first | (unfold lim; omega) | (dsimp only; unfold lim; omega)), ?_, fun q hq => ?_⟩
   . have w1 : IntKind.wrap .i64 ((cntF (inB c nq fq v) 8 : Int) - Int.ofNat 0) = (cntF (inB c nq fq v) 8 : Int) := by rw [jj6 _ (by simp only [Int.ofNat_eq_natCast]; omega) (by simp only [Int.ofNat_eq_natCast]; omega)]; simp
     have w2 : IntKind.wrap .u64 (cntF (inB c nq fq v) 8 : Int) = (cntF (inB c nq fq v) 8 : Int) := by
      simp only [IntKind.wrap, IntKind.bits, IntKind.signed]
      first | omega | (simp; omega)
     simp only [w1, w2]; simp [allT]; omega
   . simp only [List.mem_cons, List.not_mem_nil, or_false] at hq
     rcases hq with rfl | rfl | rfl
     . exact jjjo v _ _ h8m (BEq.refl _)
     . exact jjjp v _ _ h8m
     . exact jjjq c nq fq v h8
theorem jjad {x : AV} {r : List AV} {m : AMem} {s : NetS} {b : Bool} (h : netRd.dec (x :: r) m = some (s, b)) : s.rest = r := by
 unfold netRd netRdG at h; simp only at h; split at h
 . rename_i e
   cases e; split at h
   . split at h
     . cases h; rfl
     . cases h
   . cases h
 . cases h
theorem jjl4 : CtOk Tryz.prog 133 ctFit := by
 refine ⟨⟨_, _, Tryz.func133, rfl⟩, fun C β m m2 w args ib r news k' ob vs hct ho hs hr hfree hlim hv => ?_⟩; unfold ctFit at hct; split at hct
 . rename_i x l
   split at hct
   . rename_i c nq fq rest b hd
     simp only [Option.some.injEq, Prod.mk.injEq] at hct; obtain ⟨rfl, rfl, rfl, rfl⟩ := hct; simp only [allT, List.forall_mem_cons, decide_eq_true_eq] at ho; obtain ⟨rfl, ol, o8, _⟩ := ho; have hrest : rest = [.agg l] := jjad hd; subst hrest; obtain ⟨β1, q1, q2, q3⟩ := netRd.ok hs hr hd hv; have el := jjga ol; have q2 : γt β1 [.c (.ptr 5 0 0), .agg (vwL (vwOf l))] = some vs := by rw [vwL, <- el]; exact q2
     have q1 : Rel (loneC w) β1 (netM c nq fq) w := q1; obtain ⟨p, lp, ⟨vv, bb, n', ob, po⟩, hrun, hv1, hbb, hn, hob, hpo⟩ := jji5 c nq fq (vwOf l) o8; obtain ⟨s', r1, r2, r3, r4⟩ := jjl hrun; have hn : n' <= lim := hn; have hbb : bb = _ := hbb; subst hbb; have hv1 : vv = _ := hv1; subst hv1; refine (jjz jji4 r1 ⟨by rw [r3]; exact hob, by rw [r4]; exact hpo⟩ (C := loneC w) (β := β1) (w := w) (vs := vs) q2 q1 (fun id h1 h2 => q3 id h1 (by omega))).mono ?_; rintro e w' ⟨β', u, rfl, _, _, hu, hr'⟩; simp only [List.map_cons, List.map_nil, List.cons.injEq, and_true] at r2; obtain ⟨L, hL, hb⟩ := hr'.blk ftO _ r2; have hid : β ib = none := hfree ib (Nat.le_refl _) (by omega); refine ⟨ext1 β ib L, u, rfl, jjd hid, fun id h => ?_, ?_, ?_⟩
     . unfold ext1
       rw [if_neg (by omega)]
     . simp only [γ, γ1, γc, hL] at hu
       simp only [γ, γ1, γc, jj7]; exact hu
     . refine jj1i hr ⟨hr'.os, hr'.tape, hr'.output, hr'.size, fun b hb => hr'.out b hb fun h => h⟩ hid (jj1j (by omega)) hr' r2 rfl rfl (fun k j _ => ?_) hL
       match j with
       | 0 => exact ⟨_, rfl⟩
       | j + 1 => exact ⟨_, rfl⟩
   . cases hct
 . cases hct
def ctsCm : List (FuncId × CtF) := [(130, ctHl), (131, ctLev), (133, ctFit)]
theorem jjfr : ∀ f g, (f, g) ∈ ctsCm -> CtOk Tryz.prog f g := by
 intro f g h; simp only [ctsCm, List.mem_cons, Prod.mk.injEq, List.not_mem_nil, or_false] at h; rcases h with ⟨rfl, rfl⟩ | ⟨rfl, rfl⟩ | ⟨rfl, rfl⟩
 . exact ct_hl
 . exact jjl1
 . exact jjl4
def ENcm (P : Program) : Env := ⟨P, ctsCm⟩
theorem hENcm : EnvOk (ENcm Tryz.prog) := jj3w jjfr (by kernel_rfl) (by kernel_rfl)
theorem rkCm (c : Cfg) (nq : Nat) (fq : Nat -> Int) (v : Vw) (Q : VF -> Prop) (H : let zN := Int.ofNat; let zM := ABlk.mk; let zD := Int.toNat; let y3 := fun (l : List Bool) => true :: true :: true :: l; let zt : List Bool -> List Bool := fun l => y3 (y3 (true :: true :: l)); let zu : List Bool -> List Bool := fun l => zt (zt (zt (zt l))); let zq0 : List Bool := (netK c nq fq) :: (pW hrdC (NetS.mk c nq fq [AV.agg (vwL v), .c (.v (.int .i64 (IntKind.wrap .i64 (Vw.command v))))])) :: (zu (zt (zt []))); let zq1 : List Bool := ((hlZ (headN c nq fq (IntKind.wrap .i64 (Vw.command v))) (asB (List.getD (vwL v) (zD (IntKind.wrap .i64 (Vw.command v))) nov)) (asI (List.getD (vwL v) (24 + zD (IntKind.wrap .i64 (Vw.command v))) nov)) != zN 1) == true) :: zq0; let zq2 : List Bool := (netK c nq fq) :: true :: (decide (c.np <= 8)) :: (zu (zt (y3 (y3 ((((hlZ (headN c nq fq (IntKind.wrap .i64 (Vw.command v))) (asB (List.getD (vwL v) (zD (IntKind.wrap .i64 (Vw.command v))) nov)) (asI (List.getD (vwL v) (24 + zD (IntKind.wrap .i64 (Vw.command v))) nov)) != zN 2) == true) :: zq1)))))); let zq3 : List Bool := (ABlk.inb (zM true true 3 1 (Cs.arr (mA c nq fq (vwL v)) fun k => List.map AC.v ((fun i => [Value.int .i64 (zN (fitA (Cfg.mk (c.nodes) (c.np) (fA (eltZ (zM false false 3 1 (yP c)) 0 0 1)) (c.ns) (fA (eltZ (zM false false 3 1 (yS c)) 0 0 1)) (c.long) (c.nb) (fA (eltZ (zM false false 3 1 (yB c)) 0 0 1)) (c.nt) (stOf (eltZ (zM false false 51 3 (yT c)) 0 0 3)) (c.miss) (c.good) (c.fresh)) nq (fA (eltZ (zM false false 3 1 (Cs.arr nq fun k => List.map AC.v ((fun i => [Value.int .i64 (fq i)]) k))) 0 0 1)) (vwL v) i))]) k))) 0 1) :: true :: (decide (zN 0 <= zN 0 /\ zN 0 < ↑(mA c nq fq (vwL v)))) :: (decide (↑(mA c nq fq (vwL v)) > zN 0) == true) :: zq2; let zq4 : List Bool := true :: true :: (ABlk.inb (zM true false 59 0 (Cs.lit (vwL v))) 0 (24 + zD (IntKind.wrap .i64 (Vw.command v)) * 1 + 1)) :: (okl (Kd.i .u16) (List.getD (vwL v) (24 + zD (IntKind.wrap .i64 (Vw.command v)) * 1) nov)) :: (decide (zN 0 <= IntKind.wrap .i64 (Vw.command v) /\ IntKind.wrap .i64 (Vw.command v) < zN 8)) :: ((hlZ (headN c nq fq (IntKind.wrap .i64 (Vw.command v))) (asB (List.getD (vwL v) (zD (IntKind.wrap .i64 (Vw.command v))) nov)) (asI (List.getD (vwL v) (24 + zD (IntKind.wrap .i64 (Vw.command v))) nov)) != zN 2) == false) :: zq1; let zq5 : List Bool := (netK c nq fq) :: true :: (decide (c.np <= 8)) :: (zu (zt (y3 (y3 ((((levZ (asI (List.getD (vwL v) (24 + zD (IntKind.wrap .i64 (Vw.command v)) * 1) nov)) == zN 2) == true) :: zq4)))))); let zq6 : List Bool := (ABlk.inb (zM true true 3 1 (Cs.arr (mA c nq fq (vwL v)) fun k => List.map AC.v ((fun i => [Value.int .i64 (zN (fitA (Cfg.mk (c.nodes) (c.np) (fA (eltZ (zM false false 3 1 (yP c)) 0 0 1)) (c.ns) (fA (eltZ (zM false false 3 1 (yS c)) 0 0 1)) (c.long) (c.nb) (fA (eltZ (zM false false 3 1 (yB c)) 0 0 1)) (c.nt) (stOf (eltZ (zM false false 51 3 (yT c)) 0 0 3)) (c.miss) (c.good) (c.fresh)) nq (fA (eltZ (zM false false 3 1 (Cs.arr nq fun k => List.map AC.v ((fun i => [Value.int .i64 (fq i)]) k))) 0 0 1)) (vwL v) i))]) k))) 0 1) :: true :: (decide (zN 0 <= zN 0 /\ zN 0 < ↑(mA c nq fq (vwL v)))) :: (decide (↑(mA c nq fq (vwL v)) > zN 0) == true) :: zq5; let zq7 : List Bool := true :: true :: ((levZ (asI (List.getD (vwL v) (24 + zD (IntKind.wrap .i64 (Vw.command v)) * 1) nov)) == zN 2) == false) :: zq4; let zq8 : List Bool := (netK c nq fq) :: true :: (decide (c.np <= 8)) :: (zu (zt (y3 (y3 ((((Vw.command v != Int.negSucc 0) == false) :: zq7)))))); let zq9 : List Bool := (ABlk.inb (zM true true 3 1 (Cs.arr (mA c nq fq (vwL v)) fun k => List.map AC.v ((fun i => [Value.int .i64 (zN (fitA (Cfg.mk (c.nodes) (c.np) (fA (eltZ (zM false false 3 1 (yP c)) 0 0 1)) (c.ns) (fA (eltZ (zM false false 3 1 (yS c)) 0 0 1)) (c.long) (c.nb) (fA (eltZ (zM false false 3 1 (yB c)) 0 0 1)) (c.nt) (stOf (eltZ (zM false false 51 3 (yT c)) 0 0 3)) (c.miss) (c.good) (c.fresh)) nq (fA (eltZ (zM false false 3 1 (Cs.arr nq fun k => List.map AC.v ((fun i => [Value.int .i64 (fq i)]) k))) 0 0 1)) (vwL v) i))]) k))) 0 1) :: true :: (decide (zN 0 <= zN 0 /\ zN 0 < ↑(mA c nq fq (vwL v)))) :: (decide (↑(mA c nq fq (vwL v)) > zN 0) == true) :: zq8; let zq10 : List Bool := true :: true :: (ABlk.inb (zM true false 59 0 (Cs.lit (vwL v))) 0 (24 + zD (IntKind.wrap .i64 (Vw.command v)) * 1 + 1)) :: (okl (Kd.i .u16) (List.getD (vwL v) (24 + zD (IntKind.wrap .i64 (Vw.command v)) * 1) nov)) :: (decide (zN 0 <= IntKind.wrap .i64 (Vw.command v) /\ IntKind.wrap .i64 (Vw.command v) < zN 8)) :: ((hlZ (headN c nq fq (IntKind.wrap .i64 (Vw.command v))) (asB (List.getD (vwL v) (zD (IntKind.wrap .i64 (Vw.command v))) nov)) (asI (List.getD (vwL v) (24 + zD (IntKind.wrap .i64 (Vw.command v))) nov)) != zN 1) == false) :: zq0; let zq11 : List Bool := (netK c nq fq) :: true :: (decide (c.np <= 8)) :: (zu (zt (y3 (y3 ((((levZ (asI (List.getD (vwL v) (24 + zD (IntKind.wrap .i64 (Vw.command v)) * 1) nov)) == zN 2) == true) :: zq10)))))); let zq12 : List Bool := (ABlk.inb (zM true true 3 1 (Cs.arr (mA c nq fq (vwL v)) fun k => List.map AC.v ((fun i => [Value.int .i64 (zN (fitA (Cfg.mk (c.nodes) (c.np) (fA (eltZ (zM false false 3 1 (yP c)) 0 0 1)) (c.ns) (fA (eltZ (zM false false 3 1 (yS c)) 0 0 1)) (c.long) (c.nb) (fA (eltZ (zM false false 3 1 (yB c)) 0 0 1)) (c.nt) (stOf (eltZ (zM false false 51 3 (yT c)) 0 0 3)) (c.miss) (c.good) (c.fresh)) nq (fA (eltZ (zM false false 3 1 (Cs.arr nq fun k => List.map AC.v ((fun i => [Value.int .i64 (fq i)]) k))) 0 0 1)) (vwL v) i))]) k))) 0 1) :: true :: (decide (zN 0 <= zN 0 /\ zN 0 < ↑(mA c nq fq (vwL v)))) :: (decide (↑(mA c nq fq (vwL v)) > zN 0) == true) :: zq11; let zq13 : List Bool := true :: true :: ((levZ (asI (List.getD (vwL v) (24 + zD (IntKind.wrap .i64 (Vw.command v)) * 1) nov)) == zN 2) == false) :: zq10; let zq14 : List Bool := (netK c nq fq) :: true :: (decide (c.np <= 8)) :: (zu (zt (y3 (y3 ((((Vw.command v != Int.negSucc 0) == false) :: zq13)))))); let zq15 : List Bool := (ABlk.inb (zM true true 3 1 (Cs.arr (mA c nq fq (vwL v)) fun k => List.map AC.v ((fun i => [Value.int .i64 (zN (fitA (Cfg.mk (c.nodes) (c.np) (fA (eltZ (zM false false 3 1 (yP c)) 0 0 1)) (c.ns) (fA (eltZ (zM false false 3 1 (yS c)) 0 0 1)) (c.long) (c.nb) (fA (eltZ (zM false false 3 1 (yB c)) 0 0 1)) (c.nt) (stOf (eltZ (zM false false 51 3 (yT c)) 0 0 3)) (c.miss) (c.good) (c.fresh)) nq (fA (eltZ (zM false false 3 1 (Cs.arr nq fun k => List.map AC.v ((fun i => [Value.int .i64 (fq i)]) k))) 0 0 1)) (vwL v) i))]) k))) 0 1) :: true :: (decide (zN 0 <= zN 0 /\ zN 0 < ↑(mA c nq fq (vwL v)))) :: (decide (↑(mA c nq fq (vwL v)) > zN 0) == true) :: zq14; (((hlZ (headN c nq fq (IntKind.wrap .i64 (Vw.command v))) (asB (List.getD (vwL v) (zD (IntKind.wrap .i64 (Vw.command v))) nov)) (asI (List.getD (vwL v) (24 + zD (IntKind.wrap .i64 (Vw.command v))) nov)) != zN 1) = true -> (((hlZ (headN c nq fq (IntKind.wrap .i64 (Vw.command v))) (asB (List.getD (vwL v) (zD (IntKind.wrap .i64 (Vw.command v))) nov)) (asI (List.getD (vwL v) (24 + zD (IntKind.wrap .i64 (Vw.command v))) nov)) != zN 2) = true -> (((decide (↑(mA c nq fq (vwL v)) > zN 0)) = true -> (((IntKind.wrap .i8 (zN (fitA c nq fq (vwL v) 0)) != Int.negSucc 0) = true -> Q (.c (.v (.int .i8 (IntKind.wrap .i8 (zN (fitA c nq fq (vwL v) 0))))), [], 1063, (((IntKind.wrap .i8 (zN (fitA c nq fq (vwL v) 0)) != Int.negSucc 0) == true) :: zq3), [])) /\ ((IntKind.wrap .i8 (zN (fitA c nq fq (vwL v) 0)) != Int.negSucc 0) = false -> Q (.c (.v (.int .i8 (Int.negSucc 0))), [], 1065, (((IntKind.wrap .i8 (zN (fitA c nq fq (vwL v) 0)) != Int.negSucc 0) == false) :: zq3), [])))) /\ ((decide (↑(mA c nq fq (vwL v)) > zN 0)) = false -> Q (.c (.v (.int .i8 (Int.negSucc 0))), [], 1061, ((decide (↑(mA c nq fq (vwL v)) > zN 0) == false) :: zq2), [])))) /\ ((hlZ (headN c nq fq (IntKind.wrap .i64 (Vw.command v))) (asB (List.getD (vwL v) (zD (IntKind.wrap .i64 (Vw.command v))) nov)) (asI (List.getD (vwL v) (24 + zD (IntKind.wrap .i64 (Vw.command v))) nov)) != zN 2) = false -> (((levZ (asI (List.getD (vwL v) (24 + zD (IntKind.wrap .i64 (Vw.command v)) * 1) nov)) == zN 2) = true -> (((decide (↑(mA c nq fq (vwL v)) > zN 0)) = true -> (((IntKind.wrap .i8 (zN (fitA c nq fq (vwL v) 0)) != Int.negSucc 0) = true -> Q (.c (.v (.int .i8 (IntKind.wrap .i8 (zN (fitA c nq fq (vwL v) 0))))), [], 1068, (((IntKind.wrap .i8 (zN (fitA c nq fq (vwL v) 0)) != Int.negSucc 0) == true) :: zq6), [])) /\ ((IntKind.wrap .i8 (zN (fitA c nq fq (vwL v) 0)) != Int.negSucc 0) = false -> Q (.c (.v (.int .i8 (Int.negSucc 0))), [], 1070, (((IntKind.wrap .i8 (zN (fitA c nq fq (vwL v) 0)) != Int.negSucc 0) == false) :: zq6), [])))) /\ ((decide (↑(mA c nq fq (vwL v)) > zN 0)) = false -> Q (.c (.v (.int .i8 (Int.negSucc 0))), [], 1066, ((decide (↑(mA c nq fq (vwL v)) > zN 0) == false) :: zq5), [])))) /\ ((levZ (asI (List.getD (vwL v) (24 + zD (IntKind.wrap .i64 (Vw.command v)) * 1) nov)) == zN 2) = false -> (((Vw.command v != Int.negSucc 0) = true -> Q (.c (.v (.int .i8 (Vw.command v))), [], 1047, (((Vw.command v != Int.negSucc 0) == true) :: zq7), [])) /\ ((Vw.command v != Int.negSucc 0) = false -> (((decide (↑(mA c nq fq (vwL v)) > zN 0)) = true -> (((IntKind.wrap .i8 (zN (fitA c nq fq (vwL v) 0)) != Int.negSucc 0) = true -> Q (.c (.v (.int .i8 (IntKind.wrap .i8 (zN (fitA c nq fq (vwL v) 0))))), [], 1070, (((IntKind.wrap .i8 (zN (fitA c nq fq (vwL v) 0)) != Int.negSucc 0) == true) :: zq9), [])) /\ ((IntKind.wrap .i8 (zN (fitA c nq fq (vwL v) 0)) != Int.negSucc 0) = false -> Q (.c (.v (.int .i8 (Int.negSucc 0))), [], 1072, (((IntKind.wrap .i8 (zN (fitA c nq fq (vwL v) 0)) != Int.negSucc 0) == false) :: zq9), [])))) /\ ((decide (↑(mA c nq fq (vwL v)) > zN 0)) = false -> Q (.c (.v (.int .i8 (Int.negSucc 0))), [], 1068, ((decide (↑(mA c nq fq (vwL v)) > zN 0) == false) :: zq8), [])))))))))) /\ ((hlZ (headN c nq fq (IntKind.wrap .i64 (Vw.command v))) (asB (List.getD (vwL v) (zD (IntKind.wrap .i64 (Vw.command v))) nov)) (asI (List.getD (vwL v) (24 + zD (IntKind.wrap .i64 (Vw.command v))) nov)) != zN 1) = false -> (((levZ (asI (List.getD (vwL v) (24 + zD (IntKind.wrap .i64 (Vw.command v)) * 1) nov)) == zN 2) = true -> (((decide (↑(mA c nq fq (vwL v)) > zN 0)) = true -> (((IntKind.wrap .i8 (zN (fitA c nq fq (vwL v) 0)) != Int.negSucc 0) = true -> Q (.c (.v (.int .i8 (IntKind.wrap .i8 (zN (fitA c nq fq (vwL v) 0))))), [], 1066, (((IntKind.wrap .i8 (zN (fitA c nq fq (vwL v) 0)) != Int.negSucc 0) == true) :: zq12), [])) /\ ((IntKind.wrap .i8 (zN (fitA c nq fq (vwL v) 0)) != Int.negSucc 0) = false -> Q (.c (.v (.int .i8 (Int.negSucc 0))), [], 1068, (((IntKind.wrap .i8 (zN (fitA c nq fq (vwL v) 0)) != Int.negSucc 0) == false) :: zq12), [])))) /\ ((decide (↑(mA c nq fq (vwL v)) > zN 0)) = false -> Q (.c (.v (.int .i8 (Int.negSucc 0))), [], 1064, ((decide (↑(mA c nq fq (vwL v)) > zN 0) == false) :: zq11), [])))) /\ ((levZ (asI (List.getD (vwL v) (24 + zD (IntKind.wrap .i64 (Vw.command v)) * 1) nov)) == zN 2) = false -> (((Vw.command v != Int.negSucc 0) = true -> Q (.c (.v (.int .i8 (Vw.command v))), [], 1045, (((Vw.command v != Int.negSucc 0) == true) :: zq13), [])) /\ ((Vw.command v != Int.negSucc 0) = false -> (((decide (↑(mA c nq fq (vwL v)) > zN 0)) = true -> (((IntKind.wrap .i8 (zN (fitA c nq fq (vwL v) 0)) != Int.negSucc 0) = true -> Q (.c (.v (.int .i8 (IntKind.wrap .i8 (zN (fitA c nq fq (vwL v) 0))))), [], 1068, (((IntKind.wrap .i8 (zN (fitA c nq fq (vwL v) 0)) != Int.negSucc 0) == true) :: zq15), [])) /\ ((IntKind.wrap .i8 (zN (fitA c nq fq (vwL v) 0)) != Int.negSucc 0) = false -> Q (.c (.v (.int .i8 (Int.negSucc 0))), [], 1070, (((IntKind.wrap .i8 (zN (fitA c nq fq (vwL v) 0)) != Int.negSucc 0) == false) :: zq15), [])))) /\ ((decide (↑(mA c nq fq (vwL v)) > zN 0)) = false -> Q (.c (.v (.int .i8 (Int.negSucc 0))), [], 1066, ((decide (↑(mA c nq fq (vwL v)) > zN 0) == false) :: zq14), [])))))))))) :
 ∃ p r, vwE (ENcm Tryz.prog) 75 c nq fq v [] p [] = some r /\ Q r :=
 two H (fun g1 => two g1 (fun g2 => two g2 (fun g3 => two g3 (fun g4 => ⟨pD 14 2125794, _, by kernel_rfl, g4⟩) (fun g4 => ⟨pD 15 3720117, _, by kernel_rfl, g4⟩)) (fun g3 => ⟨pD 15 1062912, _, by kernel_rfl, g3⟩)) (fun g2 => two g2 (fun g3 => two g3 (fun g4 => two g4 (fun g5 => ⟨pD 14 2145504, _, by kernel_rfl, g5⟩) (fun g5 => ⟨pD 15 3739827, _, by kernel_rfl, g5⟩)) (fun g4 => ⟨pD 15 1082622, _, by kernel_rfl, g4⟩)) (fun g3 => two g3 (fun g4 => ⟨pD 11 98472, _, by kernel_rfl, g4⟩) (fun g4 => two g4 (fun g5 => two g5 (fun g6 => ⟨pD 14 2283285, _, by kernel_rfl, g6⟩) (fun g6 => ⟨pD 15 3877608, _, by kernel_rfl, g6⟩)) (fun g5 => ⟨pD 15 1220403, _, by kernel_rfl, g5⟩))))) (fun g1 => two g1 (fun g2 => two g2 (fun g3 => two g3 (fun g4 => ⟨pD 14 2145453, _, by kernel_rfl, g4⟩) (fun g4 => ⟨pD 15 3739776, _, by kernel_rfl, g4⟩)) (fun g3 => ⟨pD 15 1082571, _, by kernel_rfl, g3⟩)) (fun g2 => two g2 (fun g3 => ⟨pD 11 98421, _, by kernel_rfl, g3⟩) (fun g3 => two g3 (fun g4 => two g4 (fun g5 => ⟨pD 14 2283234, _, by kernel_rfl, g5⟩) (fun g5 => ⟨pD 15 3877557, _, by kernel_rfl, g5⟩)) (fun g4 => ⟨pD 15 1220352, _, by kernel_rfl, g4⟩))))
def stayP (hl lev : Int) : Prop := (hl = 1 \/ hl = 2) /\ lev ≠ 2
instance (hl lev : Int) : Decidable (stayP hl lev) := by unfold stayP; infer_instance
def hlC (c : Cfg) (nq : Nat) (fq : Nat -> Int) (l : List AC) (z : Int) : Int := hlZ (headN c nq fq z) (asB (l.getD z.toNat nov)) (asI (l.getD (24 + z.toNat) nov))
def comZ (c : Cfg) (nq : Nat) (fq : Nat -> Int) (l : List AC) (z cmd : Int) : Int := if stayP (hlC c nq fq l z) (levZ (asI (l.getD (24 + z.toNat) nov))) then cmd else if 0 < mA c nq fq l then (fitA c nq fq l 0 : Int) else -1
def comN (c : Cfg) (nq : Nat) (fq : Nat -> Int) (l : List AC) : Int := comZ c nq fq l (IntKind.wrap .i64 (asI (l.getD 40 nov))) (asI (l.getD 40 nov))
def comR (c : Cfg) (nq : Nat) (fq : Nat -> Int) (l : List AC) (_ : List AV) : AV := .c (.v (.int .i8 (comN c nq fq l)))
def comP (c : Cfg) (_ : List AC) (r : List AV) : Bool := r.isEmpty && decide (c.np <= 8)
def ctCom : CtF := ctRd netRd (rV comR) (pW comP)
theorem jjdn {n : Nat} (h : n < 8) : IntKind.wrap .i8 (Int.ofNat n) = (n : Int) := by
 simp only [IntKind.wrap, IntKind.bits, IntKind.signed, Int.ofNat_eq_natCast]
 first | omega | (simp; omega)
set_option maxRecDepth 100000 in
set_option maxHeartbeats 1000000 in
theorem jjl5 : CtOk Tryz.prog 75 ctCom := by
 refine jj7k (G := mS) (by kernel_rfl) (E := ENcm Tryz.prog) hENcm ⟨_, _, Tryz.func75, rfl⟩ (fun _ _ _ _ _ => rfl) fun c nq fq v r hr => ?_
 simp only [comP, Bool.and_eq_true, decide_eq_true_eq] at hr; obtain ⟨hr, h8⟩ := hr; obtain rfl := List.isEmpty_iff.1 hr; have hR : comR c nq fq (vwL v) [] = .c (.v (.int .i8 (comZ c nq fq (vwL v) (IntKind.wrap .i64 v.command) v.command))) := rfl; rw [hR]; refine (?_ : (∃ p q, vwE (ENcm Tryz.prog) 75 c nq fq v [] p [] = some q /\ GoodF (.c (.v (.int .i8 (comZ c nq fq (vwL v) (IntKind.wrap .i64 v.command) v.command)))) q) -> _) (rkCm c nq fq v _ ?_)
 . rintro ⟨p, q, h1, h2⟩
   exact ⟨p, [], q, h1, h2⟩
 . have hfit : 0 < mA c nq fq (vwL v) -> fitA c nq fq (vwL v) 0 < 8 := fun h => by
    rw [mA_eq] at h; rw [jjdq h]; exact jjkj h
   have hpw : ∀ z, pW hrdC ⟨c, nq, fq, [.agg (vwL v), .c (.v (.int .i64 z))]⟩ = true := fun z => by simp [pW, hrdC, jj4, h8]
   have hm1 : hlZ (headN c nq fq (IntKind.wrap .i64 (-1))) (asB (List.getD (vwL v) (Int.toNat (IntKind.wrap .i64 (-1))) nov)) (asI (List.getD (vwL v) (24 + Int.toNat (IntKind.wrap .i64 (-1))) nov)) = 0 := by
    unfold hlZ; rw [if_pos]; have := @jj4o c nq fq (IntKind.wrap .i64 (-1)); have e : IntKind.wrap .i64 (-1) = -1 := by decide
    rw [e] at this ⊢; omega
   have hm2 : ∀ z, z = v.command -> v.command = -1 -> hlZ (headN c nq fq (IntKind.wrap .i64 z)) (asB (List.getD (vwL v) (Int.toNat (IntKind.wrap .i64 z)) nov)) (asI (List.getD (vwL v) (24 + Int.toNat (IntKind.wrap .i64 z)) nov)) = 0 := fun z e1 e2 => by rw [e1, e2]; exact hm1
   have hm3 := hm2 v.command rfl; unfold comZ hlC; have e1 : 24 + Int.toNat (IntKind.wrap .i64 v.command) * 1 = 24 + Int.toNat (IntKind.wrap .i64 v.command) := by simp
   have hin : ∀ z, hlZ (headN c nq fq z) (asB (List.getD (vwL v) (Int.toNat z) nov)) (asI (List.getD (vwL v) (24 + Int.toNat z) nov)) = 1 \/ hlZ (headN c nq fq z) (asB (List.getD (vwL v) (Int.toNat z) nov)) (asI (List.getD (vwL v) (24 + Int.toNat z) nov)) = 2 -> (0 <= z /\ z < 8) /\ okl (.i .u16) (List.getD (vwL v) (24 + Int.toNat z) nov) = true := fun z h => by
    obtain ⟨a, b⟩ := jj4o (jjj3 h).1; obtain ⟨k, rfl⟩ := Int.eq_ofNat_of_zero_le a; have := (jj16 v k (by omega)).2; simp only [Nat.mul_one, Int.ofNat_eq_natCast, Int.toNat_natCast] at this; simp only [Int.toNat_natCast]; exact ⟨⟨a, by omega⟩, this⟩
   have hin := hin (IntKind.wrap .i64 v.command); simp only [e1, hpw]; obtain ⟨lv, hlv⟩ : ∃ x, levZ (asI (List.getD (vwL v) (24 + Int.toNat (IntKind.wrap .i64 v.command)) nov)) = x := ⟨_, rfl⟩
   obtain ⟨hl, hhl⟩ : ∃ x, hlZ (headN c nq fq (IntKind.wrap .i64 v.command)) (asB (List.getD (vwL v) (Int.toNat (IntKind.wrap .i64 v.command)) nov)) (asI (List.getD (vwL v) (24 + Int.toNat (IntKind.wrap .i64 v.command)) nov)) = x := ⟨_, rfl⟩
   obtain ⟨m, hm⟩ : ∃ x, mA c nq fq (vwL v) = x := ⟨_, rfl⟩
   obtain ⟨b, hb⟩ : ∃ x, fitA c nq fq (vwL v) 0 = x := ⟨_, rfl⟩
   rw [hm, hb] at hfit; rw [hhl] at hin hm3; simp only [hlv, hhl, hm, hb]; clear hlv hhl hm1 hm2 hpw hR e1; have hneg : (Int.negSucc 0) = (-1 : Int) := rfl; by_cases hs : stayP hl lv
   . simp only [if_pos hs]
     unfold stayP at hs; by_cases hm0 : 0 < m
     . have hb8 := hfit hm0
       simp only [jjdn hb8, hneg]; clear hb hm hfit
       (repeat' (first | refine ⟨fun h => ?_, fun h => ?_⟩ | fail))
       all_goals (simp only [bne_iff_ne, ne_eq, bne_eq_false_iff_eq, beq_iff_eq, beq_eq_false_iff_ne, decide_eq_true_eq, decide_eq_false_iff_not, Int.ofNat_eq_natCast, gt_iff_lt, Int.cast_ofNat_Int] at *)
       all_goals (first | (exfalso; omega) | skip)
       all_goals (refine ⟨?_, (by first | (unfold lim; omega) | (dsimp only; unfold lim; omega)), ?_, by simp⟩)
       all_goals first
        | rfl
        | (simp [allT, jjj, jji, jj0, jj1, jj3, jjb, jj4, jj8, jj2, Vw.len, h8]; done)
        | (have q := hin (by omega); simp only [q.2]; simp [allT, jjj, jji, jj0, jj1, jj3, jjb, jj4, jj8, jj2, Vw.len, h8]; omega)
        | (simp [allT, jjj, jji, jj0, jj1, jj3, jjb, jj4, jj8, jj2, Vw.len, h8]; omega)
     . simp only [hneg]
       clear hb hm hfit
       (repeat' (first | refine ⟨fun h => ?_, fun h => ?_⟩ | fail))
       all_goals (simp only [bne_iff_ne, ne_eq, bne_eq_false_iff_eq, beq_iff_eq, beq_eq_false_iff_ne, decide_eq_true_eq, decide_eq_false_iff_not, Int.ofNat_eq_natCast, gt_iff_lt, Int.cast_ofNat_Int] at *)
       all_goals (first | (exfalso; omega) | skip)
       all_goals (refine ⟨?_, (by first | (unfold lim; omega) | (dsimp only; unfold lim; omega)), ?_, by simp⟩)
       all_goals first
        | rfl
        | (simp [allT, jjj, jji, jj0, jj1, jj3, jjb, jj4, jj8, jj2, Vw.len, h8]; done)
        | (have q := hin (by omega); simp only [q.2]; simp [allT, jjj, jji, jj0, jj1, jj3, jjb, jj4, jj8, jj2, Vw.len, h8]; omega)
        | (simp [allT, jjj, jji, jj0, jj1, jj3, jjb, jj4, jj8, jj2, Vw.len, h8]; omega)
   . simp only [if_neg hs]
     unfold stayP at hs; by_cases hm0 : 0 < m
     . have hb8 := hfit hm0
       simp only [jjdn hb8, hneg, if_pos hm0]; clear hb hm hfit
       (repeat' (first | refine ⟨fun h => ?_, fun h => ?_⟩ | fail))
       all_goals (simp only [bne_iff_ne, ne_eq, bne_eq_false_iff_eq, beq_iff_eq, beq_eq_false_iff_ne, decide_eq_true_eq, decide_eq_false_iff_not, Int.ofNat_eq_natCast, gt_iff_lt, Int.cast_ofNat_Int] at *)
       all_goals (first | (exfalso; omega) | skip)
       all_goals (refine ⟨?_, (by first | (unfold lim; omega) | (dsimp only; unfold lim; omega)), ?_, by simp⟩)
       all_goals first
        | rfl
        | (simp [allT, jjj, jji, jj0, jj1, jj3, jjb, jj4, jj8, jj2, Vw.len, h8]; done)
        | (have q := hin (by omega); simp only [q.2]; simp [allT, jjj, jji, jj0, jj1, jj3, jjb, jj4, jj8, jj2, Vw.len, h8]; omega)
        | (simp [allT, jjj, jji, jj0, jj1, jj3, jjb, jj4, jj8, jj2, Vw.len, h8]; omega)
     . simp only [hneg, if_neg hm0]
       clear hb hm hfit
       (repeat' (first | refine ⟨fun h => ?_, fun h => ?_⟩ | fail))
       all_goals (simp only [bne_iff_ne, ne_eq, bne_eq_false_iff_eq, beq_iff_eq, beq_eq_false_iff_ne, decide_eq_true_eq, decide_eq_false_iff_not, Int.ofNat_eq_natCast, gt_iff_lt, Int.cast_ofNat_Int] at *)
       all_goals (first | (exfalso; omega) | skip)
       all_goals (refine ⟨?_, (by first | (unfold lim; omega) | (dsimp only; unfold lim; omega)), ?_, by simp⟩)
       all_goals first
        | rfl
        | (simp [allT, jjj, jji, jj0, jj1, jj3, jjb, jj4, jj8, jj2, Vw.len, h8]; done)
        | (have q := hin (by omega); simp only [q.2]; simp [allT, jjj, jji, jj0, jj1, jj3, jjb, jj4, jj8, jj2, Vw.len, h8]; omega)
        | (simp [allT, jjj, jji, jj0, jj1, jj3, jjb, jj4, jj8, jj2, Vw.len, h8]; omega)
def wiR (P : Program) (x lo hi : Int) (path : List Dec) : Option VF := viewF [] (fCallF (E1 P) (fC (E1 P) 300) 41 [i64 x, i64 lo, i64 hi] 1000 nSt (stA [] path []))
theorem wi (x lo hi : Int) (Q : VF -> Prop) (H : (((decide (x > hi)) = true -> Q (.c (.v (.int .i64 (Int.ofNat 3))), [], 1005, [decide (x > hi) == true], [])) /\ ((decide (x > hi)) = false -> (((decide (x < lo)) = true -> Q (.c (.v (.int .i64 (Int.ofNat 1))), [], 1008, [decide (x < lo) == true, decide (x > hi) == false], [])) /\ ((decide (x < lo)) = false -> Q (.c (.v (.int .i64 (Int.ofNat 0))), [], 1008, [decide (x < lo) == false, decide (x > hi) == false], [])))))) :
 ∃ p r, wiR Tryz.prog x lo hi p = some r /\ Q r :=
 two H (fun g1 => ⟨pD 1 1, _, by kernel_rfl, g1⟩) (fun g1 => two g1 (fun g2 => ⟨pD 2 5, _, by kernel_rfl, g2⟩) (fun g2 => ⟨pD 2 8, _, by kernel_rfl, g2⟩))
def ctWithin : CtF
 | [.c (.v (.int .i64 x)), .c (.v (.int .i64 lo)), .c (.v (.int .i64 hi))], _, _ => some (i64 (withinF x lo hi), [], 0, [])
 | _, _, _ => none
def ENq (P : Program) : Env := ⟨P, [(41, ctWithin), (42, ctCfg (fun c => bo (pairs4 c)) okPr), (43, ctCfg (fun c => bo (slots4 c)) okSl)]⟩
abbrev nbV (k : Nat) : List AV := [.c (.ptr 1000 0 0), i64 (Int.ofNat k)]
def nbR (P : Program) (c : Cfg) (k : Nat) (path : List Dec) : Option VC :=
 view ([1, 4] ++ [2]) [2, 1000, 3] (fC (ENq P) 300 (loopAt P 8 0) 1000000000000000000000000000000000000000000 nSt (stH 125 [1, 4] [2, 1000, 3] (nbV k) [ints 3 c.nb c.fb, cfgB c, sts c.nt c.ft] path []))
theorem nbt (c : Cfg) (k : Nat) (Q : VC -> Prop) (H : let zI := fun z : Int => AC.v (Value.int .i64 z); let zN := Int.ofNat; let zz2 := (ABlk.mk false false 3 1 (yB c)); let zz0 := [some zz2, some (ABlk.mk true false 25 0 (Cs.lit [zI (Cfg.nodes c), AC.sl 0 0 0 (Cfg.np c) none, AC.sl 1 0 0 (Cfg.ns c) none, zI (Cfg.long c), AC.sl 2 0 0 (Cfg.nb c) none, AC.sl 3 0 0 (Cfg.nt c) none, zI (Cfg.miss c), zI (Cfg.good c), zI (Cfg.fresh c)])), some (ABlk.mk false false 51 3 (yT c))]; let zz1 := (withinF (Cfg.fb c (0 + Int.toNat (zN k))) (zN 0) (zN 4096) != zN 0); let zq0 : List Bool := [true]; let zq1 : List Bool := (ABlk.inb zz2 (0 + Int.toNat (zN k)) 1) :: true :: (decide (zN 0 <= zN k /\ zN k < ↑(c.nb))) :: true :: (decide (zN k < ↑(c.nb)) == true) :: zq0; (((decide (zN k < ↑(c.nb))) = true -> ((zz1 = true -> Q (Exit.ret, [some (lkA (List.zip [1, 4] (nbV k)) 1), some (lkA (List.zip [1, 4] (nbV k)) 4), some (.c (zI (withinF (c.fb (0 + Int.toNat (zN k))) (zN 0) (zN 4096))))], zz0, 125, 1000000000000000000000000000000000000000015, ((zz1 == true) :: zq1), [])) /\ (zz1 = false -> Q (Exit.normal, [some (lkA (List.zip [1, 4] (nbV k)) 1), some (.c (zI (IntKind.wrap .i64 (zN k + zN 1)))), some (lkA (List.zip [1, 4] (nbV k)) 2)], zz0, 125, 1000000000000000000000000000000000000000016, ((zz1 == false) :: zq1), [])))) /\ ((decide (zN k < ↑(c.nb))) = false -> Q (Exit.exit 0, [some (lkA (List.zip [1, 4] (nbV k)) 1), some (lkA (List.zip [1, 4] (nbV k)) 4), some (lkA (List.zip [1, 4] (nbV k)) 2)], zz0, 125, 1000000000000000000000000000000000000000005, ((decide (zN k < ↑(c.nb)) == false) :: zq0), [])))) :
 ∃ p r, nbR Tryz.prog c k p = some r /\ Q r :=
 two H (fun g1 => two g1 (fun g2 => ⟨pD 2 4, _, by kernel_rfl, g2⟩) (fun g2 => ⟨pD 2 7, _, by kernel_rfl, g2⟩)) (fun g1 => ⟨pD 1 2, _, by kernel_rfl, g1⟩)
def ntR (P : Program) (c : Cfg) (k : Nat) (path : List Dec) : Option VC :=
 view ([1, 5] ++ [2]) [3, 1000] (fC (ENq P) 300 (loopAt P 8 1) 1000000000000000000000000000000000000000000000000000 nSt (stH 125 [1, 5] [3, 1000] (nbV k) [sts c.nt c.ft, cfgB c] path []))
theorem ntt (c : Cfg) (k : Nat) (Q : VC -> Prop) (H : let zI := fun z : Int => AC.v (Value.int .i64 z); let zN := Int.ofNat; let zz1 := (ABlk.mk false false 51 3 (yT c)); let zz0 := [some zz1, some (ABlk.mk true false 25 0 (Cs.lit [zI (Cfg.nodes c), AC.sl 0 0 0 (Cfg.np c) none, AC.sl 1 0 0 (Cfg.ns c) none, zI (Cfg.long c), AC.sl 2 0 0 (Cfg.nb c) none, AC.sl 3 0 0 (Cfg.nt c) none, zI (Cfg.miss c), zI (Cfg.good c), zI (Cfg.fresh c)]))]; let zz2 := (withinF (Station.hold (c.10 (0 + Int.toNat (zN k)))) (zN 1) (zN 100) != zN 0); let zz3 := (Station.node (c.10 (0 + Int.toNat (zN k))) < zN 0); let zz4 := (Station.node (c.10 (0 + Int.toNat (zN k))) ≥ Cfg.nodes c); let zq0 : List Bool := [true]; let zq1 : List Bool := true :: true :: true :: (ABlk.inb zz1 (0 + Int.toNat (zN k)) 3) :: true :: true :: true :: (decide (zN 0 <= zN k /\ zN k < ↑(c.nt))) :: true :: (decide (zN k < ↑(c.nt)) == true) :: zq0; let zq2 : List Bool := true :: true :: true :: true :: (decide zz3 == false) :: zq1; let zq3 : List Bool := true :: true :: (decide zz4 == false) :: zq2; (((decide (zN k < ↑(c.nt))) = true -> (((decide zz3) = true -> Q (Exit.ret, [some (lkA (List.zip [1, 5] (nbV k)) 1), some (lkA (List.zip [1, 5] (nbV k)) 5), some (.c (zI (zN 1)))], zz0, 125, 1000000000000000000000000000000000000000000000000018, ((decide zz3 == true) :: zq1), [])) /\ ((decide zz3) = false -> (((decide zz4) = true -> Q (Exit.ret, [some (lkA (List.zip [1, 5] (nbV k)) 1), some (lkA (List.zip [1, 5] (nbV k)) 5), some (.c (zI (zN 1)))], zz0, 125, 1000000000000000000000000000000000000000000000000023, ((decide zz4 == true) :: zq2), [])) /\ ((decide zz4) = false -> ((zz2 = true -> Q (Exit.ret, [some (lkA (List.zip [1, 5] (nbV k)) 1), some (lkA (List.zip [1, 5] (nbV k)) 5), some (.c (zI (withinF (Station.hold (c.10 (0 + Int.toNat (zN k)))) (zN 1) (zN 100))))], zz0, 125, 1000000000000000000000000000000000000000000000000029, ((zz2 == true) :: zq3), [])) /\ (zz2 = false -> Q (Exit.normal, [some (lkA (List.zip [1, 5] (nbV k)) 1), some (.c (zI (IntKind.wrap .i64 (zN k + zN 1)))), some (lkA (List.zip [1, 5] (nbV k)) 2)], zz0, 125, 1000000000000000000000000000000000000000000000000030, ((zz2 == false) :: zq3), [])))))))) /\ ((decide (zN k < ↑(c.nt))) = false -> Q (Exit.exit 2, [some (lkA (List.zip [1, 5] (nbV k)) 1), some (lkA (List.zip [1, 5] (nbV k)) 5), some (lkA (List.zip [1, 5] (nbV k)) 2)], zz0, 125, 1000000000000000000000000000000000000000000000000005, ((decide (zN k < ↑(c.nt)) == false) :: zq0), [])))) :
 ∃ p r, ntR Tryz.prog c k p = some r /\ Q r :=
 two H (fun g1 => two g1 (fun g2 => ⟨pD 7 4, _, by kernel_rfl, g2⟩) (fun g2 => two g2 (fun g3 => ⟨pD 7 736, _, by kernel_rfl, g3⟩) (fun g3 => two g3 (fun g4 => ⟨pD 8 3652, _, by kernel_rfl, g4⟩) (fun g4 => ⟨pD 8 5839, _, by kernel_rfl, g4⟩)))) (fun g1 => ⟨pD 1 2, _, by kernel_rfl, g1⟩)
abbrev n4S1 (e : Exit) (l : List (Nat × AV)) (mF : AMem) : LSum := ⟨[1, 4], [2, 1000, 3], mkFr 125 l, mF, 100000000000000000000000000000000000000000000000000, e⟩
abbrev n4S2 (e : Exit) (l : List (Nat × AV)) (mF : AMem) : LSum := ⟨[1, 5], [3, 1000], mkFr 125 l, mF, 10000000000000000000000000000000000000000000000000000, e⟩
def n4R (P : Program) (c : Cfg) (lp : List (Option LSum)) (path : List Dec) : Option VF := viewF [] (fCallF (ENq P) (fC (ENq P) 300) 8 [.agg (cfgC c)] 1000 nSt (stA (cfgM c) path lp))
theorem n4A (c : Cfg) (v : Int) (Q : VF -> Prop) (H : let zI := fun z : Int => AC.v (Value.int .i64 z); let zN := Int.ofNat; let y3 := fun (l : List Bool) => true :: true :: true :: l; let zz0 := (if IntKind.wrap IntKind.i64 (Cfg.nodes c + zN 116) > IntKind.wrap IntKind.i64 (IntKind.wrap IntKind.i64 (zN 3 * Cfg.nodes c) + zN 1) then IntKind.wrap IntKind.i64 (Cfg.nodes c + zN 116) else IntKind.wrap IntKind.i64 (IntKind.wrap IntKind.i64 (zN 3 * Cfg.nodes c) + zN 1)); let zz1 := (withinF (Cfg.nodes c) (zN 4) (zN 16) != zN 0); let zz2 := (withinF (↑(Cfg.np c)) (zN 2) (zN 8) != zN 0); let zz3 := (withinF (↑(Cfg.ns c)) (zN 1) (zN 16) != zN 0); let zz4 := (withinF (Cfg.long c) zz0 (zN 4096) != zN 0); let zq0 : List Bool := [true, true]; let zq1 : List Bool := true :: (zz1 == false) :: zq0; let zq2 : List Bool := (cfgK c) :: (okPr c) :: y3 (y3 ((zz2 == false) :: zq1)); let zq3 : List Bool := true :: ((!pairs4 c) == false) :: zq2; let zq4 : List Bool := (cfgK c) :: (okSl c) :: y3 (y3 ((zz3 == false) :: zq3)); let zq5 : List Bool := y3 (y3 (((!slots4 c) == false) :: zq4)); let zq6 : List Bool := y3 ((zz4 == false) :: zq5); ((zz1 = true -> Q (.c (zI (withinF (c.nodes) (zN 4) (zN 16))), [], 1009, ((zz1 == true) :: zq0), [])) /\ (zz1 = false -> ((zz2 = true -> Q (.c (zI (withinF (↑(c.np)) (zN 2) (zN 8))), [], 1015, ((zz2 == true) :: zq1), [])) /\ (zz2 = false -> (((!pairs4 c) = true -> Q (.c (zI (zN 1)), [], 1016, (((!pairs4 c) == true) :: zq2), [])) /\ ((!pairs4 c) = false -> ((zz3 = true -> Q (.c (zI (withinF (↑(c.ns)) (zN 1) (zN 16))), [], 1023, ((zz3 == true) :: zq3), [])) /\ (zz3 = false -> (((!slots4 c) = true -> Q (.c (zI (zN 1)), [], 1024, (((!slots4 c) == true) :: zq4), [])) /\ ((!slots4 c) = false -> ((zz4 = true -> Q (.c (zI (withinF (c.long) zz0 (zN 4096))), [], 1038, ((zz4 == true) :: zq5), [])) /\ (zz4 = false -> (((↑(c.nb) != c.nodes) = true -> Q (.c (zI (zN 1)), [], 1043, (((↑(c.nb) != c.nodes) == true) :: zq6), [])) /\ ((↑(c.nb) != c.nodes) = false -> Q (.c (zI v), [], 100000000000000000000000000000000000000000000000000, (((↑(c.nb) != c.nodes) == false) :: zq6), [LoopV Tryz.prog (loopAt Tryz.prog 8 0) [1, 4] [2, 1000, 3] [some (.c (.ptr 1000 0 0)), some (.c (zI (zN 0)))] [some (ABlk.mk false false 3 1 (yB c)), some (ABlk.mk true false 25 0 (Cs.lit [zI (c.nodes), AC.sl 0 0 0 (c.np) none, AC.sl 1 0 0 (c.ns) none, zI (c.long), AC.sl 2 0 0 (c.nb) none, AC.sl 3 0 0 (c.nt) none, zI (c.miss), zI (c.good), zI (c.fresh)])), some (ABlk.mk false false 51 3 (yT c))] 125 1043 (mkFr 125 [(2, i64 v)]) [] 100000000000000000000000000000000000000000000000000 Exit.ret none])))))))))))))))) :
 ∃ p r, n4R Tryz.prog c [some (n4S1 .ret [(2, i64 v)] [])] p = some r /\ Q r :=
 two H (fun g1 => ⟨pD 1 1, _, by kernel_rfl, g1⟩) (fun g1 => two g1 (fun g2 => ⟨pD 2 5, _, by kernel_rfl, g2⟩) (fun g2 => two g2 (fun g3 => ⟨pD 3 17, _, by kernel_rfl, g3⟩) (fun g3 => two g3 (fun g4 => ⟨pD 4 53, _, by kernel_rfl, g4⟩) (fun g4 => two g4 (fun g5 => ⟨pD 5 161, _, by kernel_rfl, g5⟩) (fun g5 => two g5 (fun g6 => ⟨pD 6 485, _, by kernel_rfl, g6⟩) (fun g6 => two g6 (fun g7 => ⟨pD 7 1457, _, by kernel_rfl, g7⟩) (fun g7 => ⟨pD 7 2186, _, by kernel_rfl, g7⟩)))))))
theorem n4B (c : Cfg) (v : Int) (Q : VF -> Prop) (H : let zI := fun z : Int => AC.v (Value.int .i64 z); let zN := Int.ofNat; let y3 := fun (l : List Bool) => true :: true :: true :: l; let zz0 := (if IntKind.wrap IntKind.i64 (Cfg.nodes c + zN 116) > IntKind.wrap IntKind.i64 (IntKind.wrap IntKind.i64 (zN 3 * Cfg.nodes c) + zN 1) then IntKind.wrap IntKind.i64 (Cfg.nodes c + zN 116) else IntKind.wrap IntKind.i64 (IntKind.wrap IntKind.i64 (zN 3 * Cfg.nodes c) + zN 1)); let zz5 := (ABlk.mk true false 25 0 (Cs.lit [zI (Cfg.nodes c), AC.sl 0 0 0 (Cfg.np c) none, AC.sl 1 0 0 (Cfg.ns c) none, zI (Cfg.long c), AC.sl 2 0 0 (Cfg.nb c) none, AC.sl 3 0 0 (Cfg.nt c) none, zI (Cfg.miss c), zI (Cfg.good c), zI (Cfg.fresh c)])); let zz7 := (ABlk.mk false false 51 3 (yT c)); let zz1 := [some (ABlk.mk false false 3 1 (yB c)), some zz5, some zz7]; let zz2 := (withinF (Cfg.nodes c) (zN 4) (zN 16) != zN 0); let zz3 := (withinF (↑(Cfg.np c)) (zN 2) (zN 8) != zN 0); let zz4 := (withinF (↑(Cfg.ns c)) (zN 1) (zN 16) != zN 0); let zz6 := (withinF (Cfg.long c) zz0 (zN 4096) != zN 0); let zz8 := (withinF (↑(Cfg.nt c)) (zN 0) (zN 8) != zN 0); let zq0 : List Bool := [true, true]; let zq1 : List Bool := true :: (zz2 == false) :: zq0; let zq2 : List Bool := (cfgK c) :: (okPr c) :: y3 (y3 ((zz3 == false) :: zq1)); let zq3 : List Bool := true :: ((!pairs4 c) == false) :: zq2; let zq4 : List Bool := (cfgK c) :: (okSl c) :: y3 (y3 ((zz4 == false) :: zq3)); let zq5 : List Bool := y3 (y3 (((!slots4 c) == false) :: zq4)); let zq6 : List Bool := y3 ((zz6 == false) :: zq5); let zq7 : List Bool := true :: ((↑(c.nb) != c.nodes) == false) :: zq6; ((zz2 = true -> Q (.c (zI (withinF (c.nodes) (zN 4) (zN 16))), [], 1009, ((zz2 == true) :: zq0), [])) /\ (zz2 = false -> ((zz3 = true -> Q (.c (zI (withinF (↑(c.np)) (zN 2) (zN 8))), [], 1015, ((zz3 == true) :: zq1), [])) /\ (zz3 = false -> (((!pairs4 c) = true -> Q (.c (zI (zN 1)), [], 1016, (((!pairs4 c) == true) :: zq2), [])) /\ ((!pairs4 c) = false -> ((zz4 = true -> Q (.c (zI (withinF (↑(c.ns)) (zN 1) (zN 16))), [], 1023, ((zz4 == true) :: zq3), [])) /\ (zz4 = false -> (((!slots4 c) = true -> Q (.c (zI (zN 1)), [], 1024, (((!slots4 c) == true) :: zq4), [])) /\ ((!slots4 c) = false -> ((zz6 = true -> Q (.c (zI (withinF (c.long) zz0 (zN 4096))), [], 1038, ((zz6 == true) :: zq5), [])) /\ (zz6 = false -> (((↑(c.nb) != c.nodes) = true -> Q (.c (zI (zN 1)), [], 1043, (((↑(c.nb) != c.nodes) == true) :: zq6), [])) /\ ((↑(c.nb) != c.nodes) = false -> ((zz8 = true -> Q (.c (zI (withinF (↑(c.nt)) (zN 0) (zN 8))), [], 100000000000000000000000000000000000000000000000008, ((zz8 == true) :: zq7), [LoopV Tryz.prog (loopAt Tryz.prog 8 0) [1, 4] [2, 1000, 3] [some (.c (.ptr 1000 0 0)), some (.c (zI (zN 0)))] zz1 125 1043 (mkFr 125 [(1, .c (.ptr 1000 0 0))]) [(1000, cfgB c), (3, sts (c.nt) (c.ft))] 100000000000000000000000000000000000000000000000000 (Exit.exit 0) none])) /\ (zz8 = false -> Q (.c (zI v), [], 10000000000000000000000000000000000000000000000000000, ((zz8 == false) :: zq7), [LoopV Tryz.prog (loopAt Tryz.prog 8 1) [1, 5] [3, 1000] [some (.c (.ptr 1000 0 0)), some (.c (zI (zN 0)))] [some zz7, some zz5] 125 100000000000000000000000000000000000000000000000007 (mkFr 125 [(2, i64 v)]) [] 10000000000000000000000000000000000000000000000000000 Exit.ret none, LoopV Tryz.prog (loopAt Tryz.prog 8 0) [1, 4] [2, 1000, 3] [some (.c (.ptr 1000 0 0)), some (.c (zI (zN 0)))] zz1 125 1043 (mkFr 125 [(1, .c (.ptr 1000 0 0))]) [(1000, cfgB c), (3, sts (c.nt) (c.ft))] 100000000000000000000000000000000000000000000000000 (Exit.exit 0) none])))))))))))))))))) :
 ∃ p r, n4R Tryz.prog c [some (n4S1 (.exit 0) [(1, .c (.ptr 1000 0 0))] [(1000, cfgB c), (3, sts c.nt c.ft)]), some (n4S2 .ret [(2, i64 v)] [])] p = some r /\ Q r :=
 two H (fun g1 => ⟨pD 1 1, _, by kernel_rfl, g1⟩) (fun g1 => two g1 (fun g2 => ⟨pD 2 5, _, by kernel_rfl, g2⟩) (fun g2 => two g2 (fun g3 => ⟨pD 3 17, _, by kernel_rfl, g3⟩) (fun g3 => two g3 (fun g4 => ⟨pD 4 53, _, by kernel_rfl, g4⟩) (fun g4 => two g4 (fun g5 => ⟨pD 5 161, _, by kernel_rfl, g5⟩) (fun g5 => two g5 (fun g6 => ⟨pD 6 485, _, by kernel_rfl, g6⟩) (fun g6 => two g6 (fun g7 => ⟨pD 7 1457, _, by kernel_rfl, g7⟩) (fun g7 => two g7 (fun g8 => ⟨pD 8 4373, _, by kernel_rfl, g8⟩) (fun g8 => ⟨pD 8 6560, _, by kernel_rfl, g8⟩))))))))
end Go.Proofs.YtfohlkhfnogmdaaGreatDoor
end
