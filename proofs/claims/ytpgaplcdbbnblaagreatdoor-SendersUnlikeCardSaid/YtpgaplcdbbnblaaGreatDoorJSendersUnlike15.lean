/- Parts, one behind the other. Contract of configs.single; the rule of configs on pairs. -/
import Derived.Test.YtpgaplcdbbnblaaGreatDoorJSendersUnlike11
import Derived.Test.YtpgaplcdbbnblaaGreatDoorJSendersUnlike14
import Derived.Test.YtpgaplcdbbnblaaGreatDoorJSendersUnlike10
set_option linter.unusedSimpArgs false
set_option linter.unusedVariables false
/- Contract of configs.single; the rule of configs on pairs. -/
section
namespace Go.Proofs.YtpgaplcdbbnblaaGreatDoor
open Go.RowKit

def nodupF (f : Nat → Int) (n : Nat) : Bool := decide ((List.range n).map f).Nodup
def ctSingle : CtF
  | [.c a], m, _ => match slOf 1 m a with | some (n, F, b) => some (bo (nodupF (fA F) n), [], 0, [b, decide (1 ≤ n), decide (n ≤ 1000000), intsOk n F]) | none => none
  | _, _, _ => none
theorem ct_single : CtOk Tryz.prog 127 ctSingle := by
  refine ⟨⟨_, _, Tryz.func127, rfl⟩, fun C β m m2 w args ib r news k' ob vs hct ho hs hr hfree hlim hv => ?_⟩
  unfold ctSingle at hct
  split at hct
  · rename_i a
    split at hct
    · rename_i n F b hsl
      simp only [Option.some.injEq, Prod.mk.injEq] at hct
      obtain ⟨rfl, rfl, rfl, rfl⟩ := hct
      simp only [allT, List.forall_mem_cons, decide_eq_true_eq] at ho
      obtain ⟨rfl, o1, o2, o3, _⟩ := ho
      simp only [γt] at hv
      split at hv
      · rename_i v0 us hv0 hus
        cases hus
        cases hv
        obtain ⟨L, hk, hL2⟩ := blk_slice hr Nat.one_pos (slOf_sub hs hsl) hv0 3 (intsOk_eq o3) (fun _ => rfl) (loneC w) (fun _ => none) rfl
        have hL3 := hL2 (ext1 (fun _ => none) 0 L) 0 ext1_same
        have hcell : ∀ k, k < n → L.nil = false ∧ w.cell? ⟨L.b, L.o + k, none⟩ = some (.int .i64 (fA F k)) := by
          intro k hk'
          obtain ⟨g1, u, g2, _, g4⟩ := hk.cells k 0 (by simp [inb_arr, rBlk, hk'])
          have hs1 : L.s = 1 := hk.sz
          simp only [rBlk, Cs.get, γc, List.map_cons, List.map_nil, List.getD_cons_zero, Option.some.injEq] at g2
          subst g2
          rw [hs1, Nat.mul_one, Nat.add_zero] at g4
          exact ⟨g1, g4⟩
        obtain ⟨hnil, _⟩ := hcell 0 (by omega)
        simp only [γc, ext1_same, hnil, Bool.false_eq_true, if_false, Nat.zero_mul, Nat.zero_add, Nat.add_zero, Option.some.injEq] at hL3
        subst hL3
        have hz : ((List.range n).map (fA F)).length = n := by simp
        have hcs := single_w L.b L.o ((none : Option Nat).getD (L.cap - 0)) ((List.range n).map (fA F)) (by rw [hz]; exact o2) w (hk.lt hnil) (fun j hj => by rw [hz] at hj; rw [(hcell j hj).2]; simp [hj]) (by intro e; rw [e] at hz; simp at hz; omega)
        rw [hz] at hcs
        refine hcs.mono ?_
        rintro e w' ⟨rfl, hb⟩
        have hsv := single_val ((List.range n).map (fA F))
        rw [hz] at hsv
        rw [hsv]
        exact ⟨β, _, rfl, Ext.refl _, fun _ _ => rfl, rfl, by rw [List.append_nil]; exact hr.below hb⟩
      · cases hv
    · cases hct
  · cases hct
def ENr (P : Program) : Env := ⟨P, [(125, ctInside), (126, ctSorted), (127, ctSingle), (64, ctHalves)]⟩
theorem hENr : EnvOk (ENr Tryz.prog) := by
  refine envOk (fun f g h => ?_) (by kernel_rfl) (by kernel_rfl)
  simp only [ENr, List.mem_cons, Prod.mk.injEq, List.not_mem_nil, or_false] at h
  rcases h with ⟨rfl, rfl⟩ | ⟨rfl, rfl⟩ | ⟨rfl, rfl⟩ | ⟨rfl, rfl⟩
  · exact ct_inside
  · exact ct_sorted
  · exact ct_single
  · exact ct_halves
def ru3R (P : Program) (c : Cfg) (path : List Dec) : Option VF := viewF [] (fCallF (ENr P) (fC (ENr P) 300) 123 [.agg (cfgC c)] 1000 10000000000000000000000000000000000000000 (stA (cfgM c) path []))
theorem ru3 (c : Cfg) (Q : VF → Prop) (H : let zq0 : List Bool := (decide (0 + c.np ≤ c.np)) :: (decide (c.np ≤ 1000000)) :: (intsOk (c.np) fun k => List.map AC.v ((fun i => [Value.int .i64 (c.fp i)]) k)) :: true :: true :: true :: []; let zq1 : List Bool := (decide (0 + c.np ≤ c.np)) :: (decide (1 ≤ c.np)) :: (decide (c.np ≤ 1000000)) :: (intsOk (c.np) fun k => List.map AC.v ((fun i => [Value.int .i64 (c.fp i)]) k)) :: true :: (insideF (c.fp) (c.np) (c.nodes) == true) :: zq0; let zq2 : List Bool := (decide (0 + 2 * c.np ≤ 2 * c.np)) :: (decide (1 ≤ 2 * c.np)) :: (decide (2 * c.np ≤ 1000000)) :: (intsOk (2 * c.np) fun k => List.map AC.v ((fun i => [Value.int .i64 (halfF (Cfg.mk (c.nodes) (c.np) (fA (eltZ (ABlk.mk false false 3 1 (Cs.arr (c.np) fun k => List.map AC.v ((fun i => [Value.int .i64 (c.fp i)]) k))) 0 0 1)) (c.ns) (fA (eltZ (ABlk.mk false false 3 1 (Cs.arr (c.ns) fun k => List.map AC.v ((fun i => [Value.int .i64 (c.fs i)]) k))) 0 0 1)) (c.long) (c.nb) (fA (eltZ (ABlk.mk false false 3 1 (Cs.arr (c.nb) fun k => List.map AC.v ((fun i => [Value.int .i64 (c.fb i)]) k))) 0 0 1)) (c.nt) (stOf (eltZ (ABlk.mk false false 161 3 (Cs.arr (c.nt) fun k => List.map AC.v ((fun i => [Value.int .i64 (Station.node (c.ft i)), Value.int .u32 (Station.safe (c.ft i)), Value.int .i64 (Station.hold (c.ft i))]) k))) 0 0 3)) (c.miss) (c.good) (c.fresh)) i)]) k)) :: (decide (0 + c.np ≤ c.np) && (decide (0 + c.ns ≤ c.ns) && (decide (0 + c.nb ≤ c.nb) && (decide (0 + c.nt ≤ c.nt) && ((intsOk (c.np) fun k => List.map AC.v ((fun i => [Value.int .i64 (c.fp i)]) k)) && ((intsOk (c.ns) fun k => List.map AC.v ((fun i => [Value.int .i64 (c.fs i)]) k)) && ((intsOk (c.nb) fun k => List.map AC.v ((fun i => [Value.int .i64 (c.fb i)]) k)) && stsOk (c.nt) fun k => List.map AC.v ((fun i => [Value.int .i64 (Station.node (c.ft i)), Value.int .u32 (Station.safe (c.ft i)), Value.int .i64 (Station.hold (c.ft i))]) k)))))))) :: (decide (c.np ≤ 1000)) :: true :: true :: true :: true :: true :: true :: (sortedF (c.fp) (c.np) == true) :: zq1; (((insideF (c.fp) (c.np) (c.nodes)) = true → (((sortedF (c.fp) (c.np)) = true → (((!nodupF (halfF c) (2 * c.np)) = true → Q (.c (.v (.int .i64 (Int.ofNat 1))), [], 1019, (((!nodupF (halfF c) (2 * c.np)) == true) :: zq2), [])) ∧ ((!nodupF (halfF c) (2 * c.np)) = false → Q (.c (.v (.int .i64 (Int.ofNat 0))), [], 1019, (((!nodupF (halfF c) (2 * c.np)) == false) :: zq2), [])))) ∧ ((sortedF (c.fp) (c.np)) = false → Q (.c (.v (.int .i64 (Int.ofNat 1))), [], 1017, ((sortedF (c.fp) (c.np) == false) :: zq1), [])))) ∧ ((insideF (c.fp) (c.np) (c.nodes)) = false → Q (.c (.v (.int .i64 (Int.ofNat 1))), [], 1015, ((insideF (c.fp) (c.np) (c.nodes) == false) :: zq0), [])))) :
    ∃ p r, ru3R Tryz.prog c p = some r ∧ Q r :=
  two H
  (fun g1 => two g1
    (fun g2 => two g2
      (fun g3 => ⟨pD 7 757, _, by kernel_rfl, g3⟩)
      (fun g3 => ⟨pD 7 1486, _, by kernel_rfl, g3⟩))
    (fun g2 => ⟨pD 7 55, _, by kernel_rfl, g2⟩))
  (fun g1 => ⟨pD 7 2, _, by kernel_rfl, g1⟩)
end Go.Proofs.YtpgaplcdbbnblaaGreatDoor
end
/- The rule of configs on pairs: its contract. bits.Mul; slices.Repeat's round as the evaluator runs it. -/
section
namespace Go.Proofs.YtpgaplcdbbnblaaGreatDoor
open Go.RowKit

theorem stOf_sts {ty n : Nat} {f : Nat → Station} {o r : Bool} : stOf (elt ⟨o, r, ty, 3, .arr n fun k => List.map AC.v ((fun i => [Value.int .i64 (f i).node, .int .u32 (f i).safe, .int .i64 (f i).hold]) k)⟩ 0 0 3) = f := by
  funext i
  simp [stOf, elt, asI]
theorem stsOk_sts {n : Nat} {f : Nat → Station} : stsOk n (fun k => List.map AC.v ((fun i => [Value.int .i64 (f i).node, .int .u32 (f i).safe, .int .i64 (f i).hold]) k)) = true := by
  unfold stsOk
  exact List.all_eq_true.2 fun i _ => by simp [isSt]
theorem intsOk_s {n : Nat} {f : Nat → Int} : intsOk n (fun k => [AC.v (Value.int .i64 (f k))]) = true := intsOk_ints
theorem stsOk_s {n : Nat} {f : Nat → Station} : stsOk n (fun k => [AC.v (Value.int .i64 (f k).node), AC.v (Value.int .u32 (f k).safe), AC.v (Value.int .i64 (f k).hold)]) = true := stsOk_sts
theorem cfg_eta (c : Cfg) : Cfg.mk c.nodes c.np c.fp c.ns c.fs c.long c.nb c.fb c.nt c.ft c.miss c.good c.fresh = c := rfl
def rule3 (c : Cfg) : Int := if (insideF c.fp c.np c.nodes && (sortedF c.fp c.np && nodupF (halfF c) (2 * c.np))) = true then 0 else 1
theorem ct_ru3 : CtOk Tryz.prog 123 (ctCfg (fun c => i64 (rule3 c)) fun c => decide (1 ≤ c.np) && decide (c.np ≤ 1000)) := by
  refine ctCfg_of (E := ENr Tryz.prog) (fuel := 300) (str := 10000000000000000000000000000000000000000) hENr ⟨_, _, Tryz.func123, rfl⟩ (fun c => plain_i64 _) fun c hp => ?_
  simp only [Bool.and_eq_true, decide_eq_true_eq] at hp
  refine (?_ : (∃ p r, ru3R Tryz.prog c p = some r ∧ (r.1 = i64 (rule3 c) ∧ r.2.2.1 ≤ lim ∧ allT r.2.2.2.1 ∧ ∀ q ∈ r.2.2.2.2, q)) → _) (ru3 c _ ?_)
  · rintro ⟨p, r, h1, h2⟩
    exact ⟨p, [], r, h1, h2⟩
  · simp only [fA_ints, intsOk_ints, stOf_sts, stsOk_sts, cfg_eta]
    have h1 : c.np ≤ 1000000 := by omega
    have h2 : 1 ≤ 2 * c.np := by omega
    have h3 : 2 * c.np ≤ 1000000 := by omega
    repeat' (first | refine ⟨fun h => ?_, fun h => ?_⟩ | fail)
    all_goals (refine ⟨?_, (by first | (unfold lim; omega) | (dsimp only; unfold lim; omega)), ?_, by simp⟩)
    all_goals (simp_all [allT, rule3, i64])
    all_goals (try omega)
def ctMul : CtF
  | [.c (.v (.int .u64 x)), .c (.v (.int .u64 y))], _, _ => some (.tup [.c (.v (.int .u64 (x * y / 18446744073709551616))), .c (.v (.int .u64 (x * y % 18446744073709551616)))], [], 0, [decide (0 ≤ x ∧ x < 18446744073709551616), decide (0 ≤ y ∧ y < 18446744073709551616)])
  | _, _, _ => none
theorem ct_mul : CtOk Tryz.prog 141 ctMul := by
  refine ⟨⟨_, _, Tryz.func141, rfl⟩, fun C β m m2 w args ib r news k' ob vs hct ho hs hr hfree hlim hv => ?_⟩
  unfold ctMul at hct
  split at hct
  · rename_i x y
    simp only [Option.some.injEq, Prod.mk.injEq] at hct
    obtain ⟨rfl, rfl, rfl, rfl⟩ := hct
    simp only [allT, List.forall_mem_cons, decide_eq_true_eq] at ho
    obtain ⟨⟨x0, x1⟩, ⟨y0, y1⟩, _⟩ := ho
    cases hv
    obtain ⟨a, rfl⟩ := Int.eq_ofNat_of_zero_le x0
    obtain ⟨b, rfl⟩ := Int.eq_ofNat_of_zero_le y0
    refine (Tryz.bits_Mul a b (by omega) (by omega) w).mono ?_
    rintro e w' ⟨rfl, rfl⟩
    exact ⟨β, _, rfl, Ext.refl _, fun _ _ => rfl, by simp [γ, γt, γ1, γc], by rw [List.append_nil]; exact hr⟩
  · cases hct
def ENp (P : Program) : Env := ⟨P, [(141, ctMul)]⟩
theorem hENp : EnvOk (ENp Tryz.prog) := by
  refine envOk (fun f g h => ?_) (by kernel_rfl) (by kernel_rfl)
  simp only [ENp, List.mem_cons, Prod.mk.injEq, List.not_mem_nil, or_false] at h
  obtain ⟨rfl, rfl⟩ := h
  exact ct_mul
/-! slices.Repeat of one number: 'j' copies are there -/
abbrev repB (x : Int) (n j : Nat) : ABlk := wBlk 3 1 n fun i => [.int .i64 (if i < j then x else 0)]
abbrev repV (n j : Nat) : List AV := [.c (.sl 1021 0 0 n none), i64 (Int.ofNat j)]
def repR (P : Program) (x : Int) (n j : Nat) (path : List Dec) : Option VC :=
  view ([7, 8] ++ []) [1021] (fC (ENp P) 100 (loopAt P 63 0) 1000000000000000000000000000000000000000000 10000000000000000000000000000000000000000 (stH 48 [7, 8] [1021] (repV n j) [repB x n j] path []))
theorem rep (x : Int) (n j : Nat) (Q : VC → Prop) (H : (((decide (Int.ofNat j < ↑n)) = true → Q (Exit.normal, [some (lkA (List.zip [7, 8] (repV n j)) (0 + 1 + 1 + 1 + 1 + 1 + 1 + 1)), some (.c (.v (.int .i64 (IntKind.wrap .i64 (Int.ofNat j + ↑(min (Int.toNat (Option.getD none ↑n - Option.getD (some (Int.ofNat j)) (Int.ofNat 0))) (Int.toNat (Option.getD (some (Int.ofNat j)) ↑n - Int.ofNat 0))))))))], [some (ABlk.mk true true 3 1 (Cs.arr n fun p => if 0 + Int.toNat (Option.getD (some (Int.ofNat j)) (Int.ofNat 0)) ≤ p ∧ p < 0 + Int.toNat (Option.getD (some (Int.ofNat j)) (Int.ofNat 0)) + min (Int.toNat (Option.getD none ↑n - Option.getD (some (Int.ofNat j)) (Int.ofNat 0))) (Int.toNat (Option.getD (some (Int.ofNat j)) ↑n - Int.ofNat 0)) then elt (ABlk.mk true true 3 1 (Cs.arr n fun k => List.map AC.v ((fun i => [Value.int .i64 (if i < j then x else 0)]) k))) 0 0 1 (p - (0 + Int.toNat (Option.getD (some (Int.ofNat j)) (Int.ofNat 0)))) else List.map AC.v ((fun i => [Value.int .i64 (if i < j then x else 0)]) p)))], 48, 1100000000000000000000000000000000000000004, [decide (0 + min (Int.toNat (Option.getD none ↑n - Option.getD (some (Int.ofNat j)) (Int.ofNat 0))) (Int.toNat (Option.getD (some (Int.ofNat j)) ↑n - Int.ofNat 0)) ≤ n), decide (0 + Int.toNat (Option.getD (some (Int.ofNat j)) (Int.ofNat 0)) + min (Int.toNat (Option.getD none ↑n - Option.getD (some (Int.ofNat j)) (Int.ofNat 0))) (Int.toNat (Option.getD (some (Int.ofNat j)) ↑n - Int.ofNat 0)) ≤ n), true, decide (Int.ofNat 0 ≤ Int.ofNat 0 ∧ Int.ofNat 0 ≤ Option.getD (some (Int.ofNat j)) ↑n ∧ Option.getD (some (Int.ofNat j)) ↑n ≤ ↑(n - 0)), true, decide (n = 0 ∨ 0 < n), decide (Int.ofNat 0 ≤ Option.getD (some (Int.ofNat j)) (Int.ofNat 0) ∧ Option.getD (some (Int.ofNat j)) (Int.ofNat 0) ≤ Option.getD none ↑n ∧ Option.getD none ↑n ≤ slC none n none), decide (Option.getD (some (Int.ofNat j)) (Int.ofNat 0) = Int.ofNat 0 ∨ Option.getD (some (Int.ofNat j)) (Int.ofNat 0) < slC none n none), decide (slC none n none ≤ ↑(Option.getD none n)), true, slRow none (ABlk.mk true true 3 1 (Cs.arr n fun k => List.map AC.v ((fun i => [Value.int .i64 (if i < j then x else 0)]) k))) 0 n, decide (Int.ofNat j < ↑n) == true], [])) ∧ ((decide (Int.ofNat j < ↑n)) = false → Q (Exit.exit 0, [some (lkA (List.zip [7, 8] (repV n j)) (0 + 1 + 1 + 1 + 1 + 1 + 1 + 1)), some (lkA (List.zip [7, 8] (repV n j)) (0 + 1 + 1 + 1 + 1 + 1 + 1 + 1 + 1))], [some (ABlk.mk true true 3 1 (Cs.arr n fun k => List.map AC.v ((fun i => [Value.int .i64 (if i < j then x else 0)]) k)))], 48, 1000000000000000000000000000000000000000004, [decide (Int.ofNat j < ↑n) == false], [])))) :
    ∃ p r, repR Tryz.prog x n j p = some r ∧ Q r :=
  two H
  (fun g1 => ⟨pD 1 1, _, by kernel_rfl, g1⟩)
  (fun g1 => ⟨pD 1 2, _, by kernel_rfl, g1⟩)
def rep1 (P : Program) (f : Nat → Int) (n : Int) (path : List Dec) : Option VF := viewF [1021] (fCallF (ENp P) (fC (ENp P) 300) 63 [.c (.sl 0 0 0 1 none), i64 n] 1000 10000000000000000000000000000000000000000 (stA [(0, ints 3 1 f)] path [some ⟨[7, 8], [1021], mkFr 48 [(7, .c (.sl 1021 0 0 n.toNat none))], [(1021, repB (f 0) n.toNat n.toNat)], 100000000000000000000000000000000000000000000000000, .exit 0⟩]))
theorem reps (f : Nat → Int) (n : Int) (Q : VF → Prop) (H : (((decide (n < Int.ofNat 0)) = true → False) ∧ ((decide (n < Int.ofNat 0)) = false → (((decide (Int.ofNat 1 * IntKind.wrap .u64 n / Int.ofNat 18446744073709551616 > Int.ofNat 0)) = true → False) ∧ ((decide (Int.ofNat 1 * IntKind.wrap .u64 n / Int.ofNat 18446744073709551616 > Int.ofNat 0)) = false → (((decide (Int.ofNat 1 * IntKind.wrap .u64 n % Int.ofNat 18446744073709551616 > Int.ofNat 9223372036854775807)) = true → False) ∧ ((decide (Int.ofNat 1 * IntKind.wrap .u64 n % Int.ofNat 18446744073709551616 > Int.ofNat 9223372036854775807)) = false → Q (.c (.sl 1021 0 0 (Int.toNat n) none), [some (ABlk.mk true true 3 1 (Cs.arr (Int.toNat n) fun k => List.map AC.v ((fun i => [Value.int .i64 (if i < Int.toNat n then f 0 else 0)]) k)))], 100000000000000000000000000000000000000000000000002, [decide (0 + min (Int.toNat (IntKind.wrap .i64 (Int.ofNat 1 * IntKind.wrap .u64 n % Int.ofNat 18446744073709551616))) 1 ≤ 1), decide (0 + min (Int.toNat (IntKind.wrap .i64 (Int.ofNat 1 * IntKind.wrap .u64 n % Int.ofNat 18446744073709551616))) 1 ≤ Int.toNat (IntKind.wrap .i64 (Int.ofNat 1 * IntKind.wrap .u64 n % Int.ofNat 18446744073709551616))), decide (Int.ofNat 0 ≤ IntKind.wrap .i64 (Int.ofNat 1 * IntKind.wrap .u64 n % Int.ofNat 18446744073709551616) ∧ IntKind.wrap .i64 (Int.ofNat 1 * IntKind.wrap .u64 n % Int.ofNat 18446744073709551616) = IntKind.wrap .i64 (Int.ofNat 1 * IntKind.wrap .u64 n % Int.ofNat 18446744073709551616) ∧ IntKind.wrap .i64 (Int.ofNat 1 * IntKind.wrap .u64 n % Int.ofNat 18446744073709551616) * Int.ofNat 8 ≤ Int.ofNat 140737488355328), decide (Int.ofNat 1 * IntKind.wrap .u64 n % Int.ofNat 18446744073709551616 > Int.ofNat 9223372036854775807) == false, decide (Int.ofNat 1 * IntKind.wrap .u64 n / Int.ofNat 18446744073709551616 > Int.ofNat 0) == false, true, decide (Int.ofNat 0 ≤ IntKind.wrap .u64 n ∧ IntKind.wrap .u64 n < Int.ofNat 18446744073709551616), decide (n < Int.ofNat 0) == false], [LoopV Tryz.prog (loopAt Tryz.prog 63 0) [7, 8] [1021] [some (.c (.sl 1021 0 0 (Int.toNat (IntKind.wrap .i64 (Int.ofNat 1 * IntKind.wrap .u64 n % Int.ofNat 18446744073709551616))) none)), some (.c (.v (.int .i64 ↑(min (Int.toNat (IntKind.wrap .i64 (Int.ofNat 1 * IntKind.wrap .u64 n % Int.ofNat 18446744073709551616))) 1))))] [some (ABlk.mk true true 3 1 (Cs.arr (Int.toNat (IntKind.wrap .i64 (Int.ofNat 1 * IntKind.wrap .u64 n % Int.ofNat 18446744073709551616))) fun p => if 0 ≤ p ∧ p < 0 + min (Int.toNat (IntKind.wrap .i64 (Int.ofNat 1 * IntKind.wrap .u64 n % Int.ofNat 18446744073709551616))) 1 then elt (ABlk.mk false false 3 1 (Cs.arr 1 fun k => List.map AC.v ((fun i => [Value.int .i64 (f i)]) k))) 0 0 1 (p - 0) else List.map AC.v (Array.toList (Value.cells (Value.int .i64 0)))))] 48 1027 (mkFr 48 [(7, .c (.sl 1021 0 0 (Int.toNat n) none))]) [(1021, repB (f 0) (Int.toNat n) (Int.toNat n))] 100000000000000000000000000000000000000000000000000 (Exit.exit 0) none])))))))) :
    ∃ p r, rep1 Tryz.prog f n p = some r ∧ Q r :=
  two H
  (fun g1 => g1.elim)
  (fun g1 => two g1
    (fun g2 => g2.elim)
    (fun g2 => two g2
      (fun g3 => g3.elim)
      (fun g3 => ⟨pD 4 62, _, by kernel_rfl, g3⟩)))
end Go.Proofs.YtpgaplcdbbnblaaGreatDoor
end
/- Contract of slices.Repeat of one number. -/
section
namespace Go.Proofs.YtpgaplcdbbnblaaGreatDoor
open Go.RowKit

theorem rep_ob (x : Int) (n : Nat) (h1 : 1 ≤ n) (hn : n ≤ 1000000) {z : Nat} (hz : z = n) {y : Int} (hy : y = Int.ofNat 1) {eb : Option ABlk} (heb : BL [repB x n 1] [eb]) :
    LoopV Tryz.prog (loopAt Tryz.prog 63 0) [7, 8] [1021] [some (.c (.sl 1021 0 0 z none)), some (i64 y)] [eb] 48 1027 (mkFr 48 [(7, .c (.sl 1021 0 0 n none))]) [(1021, repB x n n)] 100000000000000000000000000000000000000000000000000 (.exit 0) none := by
  subst hz
  subst hy
  refine loop_viewE hENp (fuel := 100) (str := 10000000000000000000000000000000000000000) (nh := 1000000000000000000000000000000000000000000) (S := Nat) (fun j => 1 ≤ j ∧ j ≤ z) (fun j => z - j) [7, 8] [] [1021] (repV z) (fun j => [repB x z j]) (by decide) (by decide) (by unfold lim; omega) (s0 := 1) (by omega) (fun _ => ⟨rfl, rfl⟩) rfl heb ?_ ?_
  · intro j _
    refine ⟨rfl, fun b hb => ?_⟩
    rw [List.mem_singleton.1 hb]
    exact wBlk_low
  · intro j ⟨j1, j2⟩
    have e1 : min (Int.toNat (Option.getD none ((z : Nat) : Int) - Option.getD (some (Int.ofNat j)) (Int.ofNat 0))) (Int.toNat (Option.getD (some (Int.ofNat j)) ((z : Nat) : Int) - Int.ofNat 0)) = min (z - j) j := by
      first | (simp; done) | (simp; omega)
    have e2 : 0 + Int.toNat (Option.getD (some (Int.ofNat j)) (Int.ofNat 0)) = j := by simp
    refine (?_ : (∃ p r, repR Tryz.prog x z j p = some r ∧ _) → _) (rep x z j (StepV 1027 100000000000000000000000000000000000000000000000000 48 [7, 8] [] [1021] (fun j => 1 ≤ j ∧ j ≤ z) (fun j => z - j) (repV z) (fun j => [repB x z j]) (.exit 0) [(7, .c (.sl 1021 0 0 z none))] [(1021, repB x z z)] j) ?_)
    · rintro ⟨p, r, h1, h2⟩
      exact ⟨p, [], r, h1, h2⟩
    · simp only [e1, e2]
      refine ⟨fun c1 => ?_, fun c1 => ?_⟩
      · have hlt : j < z := by simpa using c1
        refine ⟨?_, rfl, by dsimp only; omega, rfl, .inl ⟨rfl, j + min (z - j) j, by omega, by show z - (j + min (z - j) j) < z - j; omega, ?_, ?_⟩⟩
        · simp only [allT, List.forall_mem_cons]
          simp [slC, slRow, hlt]
          omega
        · dsimp only
          rw [wrap_nat _ (by simp; omega) (by simp; omega)]
          simp [lkA, i64]
        · refine ⟨⟨rfl, rfl, rfl, rfl, .inr (.inl ⟨z, _, _, rfl, rfl, fun i hi => ?_⟩)⟩, trivial⟩
          by_cases h : j ≤ i ∧ i < j + min (z - j) j
          · rw [if_pos h]
            simp [elt, show i - j < j by omega, show i < j + min (z - j) j by omega]
          · rw [if_neg h]
            by_cases h2 : i < j
            · simp [h2, show i < j + min (z - j) j by omega]
            · simp [h2, show ¬ i < j + min (z - j) j by omega]
      · have hge : j = z := by simp at c1; omega
        subst hge
        refine ⟨by simp [allT], rfl, by dsimp only; omega, rfl, .inr ⟨by simp, rfl, fun q hq => ?_, fun p hp => ?_⟩⟩
        · rw [List.mem_singleton.1 hq]
          exact ⟨rfl, by simp [lkA]⟩
        · rw [List.mem_singleton.1 hp]
          exact ⟨rfl, wBlk_low, _, List.mem_cons_self .., BEq.refl _⟩
def ctRepeat : CtF
  | [.c a, .c (.v (.int .i64 n))], m, ib => match slOf 1 m a with | some (k, F, b) => some (.c (.sl ib 0 0 n.toNat none), [(ib, repB (fA F 0) n.toNat n.toNat)], 1, [b, decide (k = 1), decide (1 ≤ n), decide (n ≤ 1000000), intsOk k F]) | none => none
  | _, _, _ => none
theorem ct_repeat : CtOk Tryz.prog 63 ctRepeat := by
  refine ⟨⟨_, _, Tryz.func63, rfl⟩, fun C β m m2 w args ib r news k' ob vs hct ho hs hr hfree hlim hv => ?_⟩
  unfold ctRepeat at hct
  split at hct
  · rename_i a n
    split at hct
    · rename_i k F b hsl
      simp only [Option.some.injEq, Prod.mk.injEq] at hct
      obtain ⟨rfl, rfl, rfl, rfl⟩ := hct
      simp only [allT, List.forall_mem_cons, decide_eq_true_eq] at ho
      obtain ⟨rfl, rfl, o1, o2, o3, _⟩ := ho
      simp only [γt] at hv
      split at hv
      · rename_i v0 us hv0 hus
        cases hus
        cases hv
        obtain ⟨L0, hL1, hL2⟩ := rel_one hr (slOf_sub hs hsl) o3 (v0 := v0) hv0 3
        obtain ⟨q, hq⟩ : ∃ q : Nat, n = q := Int.eq_ofNat_of_zero_le (by omega)
        have hu : IntKind.wrap IntKind.u64 n = n := by subst hq; simp [IntKind.wrap, IntKind.bits, IntKind.signed]; omega
        have hm : Int.ofNat 1 * n % Int.ofNat 18446744073709551616 = n := by simp; omega
        have hd : Int.ofNat 1 * n / Int.ofNat 18446744073709551616 = 0 := by simp; omega
        obtain ⟨p, r, hrun, hvr, hbl, hn, hob, hpo⟩ : ∃ p r, rep1 Tryz.prog (fA F) n p = some r ∧ (r.1 = .c (.sl 1021 0 0 n.toNat none) ∧ r.2.1 = [some (repB (fA F 0) n.toNat n.toNat)] ∧ r.2.2.1 ≤ lim ∧ allT r.2.2.2.1 ∧ ∀ q ∈ r.2.2.2.2, q) := by
          refine reps (fA F) n _ ?_
          simp only [hu, hm, hd, wrap_nat n (by omega) (by omega)]
          refine ⟨fun h => by simp at h; omega, fun _ => ⟨fun h => by simp at h, fun _ => ⟨fun h => by simp at h; omega, fun _ => ?_⟩⟩⟩
          refine ⟨by first | trivial | rfl, by first | trivial | rfl, (by first | (unfold lim; omega) | (dsimp only; unfold lim; omega)), ?_, fun q hq => ?_⟩
          · simp [allT]; omega
          · rw [List.mem_singleton.1 hq]
            refine rep_ob (fA F 0) n.toNat (by omega) (by omega) rfl (by simp; omega) ⟨⟨rfl, rfl, rfl, rfl, .inr (.inl ⟨n.toNat, _, _, rfl, rfl, fun i hi => ?_⟩)⟩, trivial⟩
            by_cases h0 : i = 0
            · subst h0
              simp [elt]
              omega
            · have h1 : ¬ i < 1 := by omega
              have hc : ¬ i < min n.toNat 1 := by omega
              have hc2 : ¬ (0 ≤ i ∧ i < 0 + min n.toNat 1) := by omega
              rw [if_neg (by simpa using hc)]
              simp [h1]
              rfl
        obtain ⟨v, b', n', ob, po⟩ := r
        obtain ⟨s', r1, r2, r3, r4⟩ := viewF_out hrun
        have hn : n' ≤ lim := hn
        simp only at hvr hbl
        subst hvr
        subst hbl
        refine (calls_f hENp r1 ⟨by rw [r3]; exact hob, by rw [r4]; exact hpo⟩ (C := loneC w) (β := ext1 (fun _ => none) 0 L0) (w := w) (vs := [v0, .int .i64 n]) ?_ hL1 (fun id h1 _ => by unfold ext1; rw [if_neg (by omega)])).mono ?_
        · simp only [γt, i64, γ1, hL2]
          rfl
        · rintro e w' ⟨β', u, rfl, _, _, hu, hr'⟩
          simp only [List.map_cons, List.map_nil, List.cons.injEq, and_true] at r2
          obtain ⟨L, hL, hb⟩ := hr'.blk 1021 _ r2
          have hid : β ib = none := hfree ib (Nat.le_refl _) (by omega)
          refine ⟨ext1 β ib L, u, rfl, ext1_ext hid, fun id h => ?_, ?_, ?_⟩
          · unfold ext1
            rw [if_neg (by omega)]
          · simp only [γ, γ1, γc, hL] at hu
            simp only [γ, γ1, γc, ext1_same]
            exact hu
          · refine rel_fresh hr (below_lone hr') hid (not_gid (by omega)) hr' r2 rfl rfl (fun k j _ => ?_) hL
            match j with
            | 0 => exact ⟨_, rfl⟩
            | j + 1 => exact ⟨_, rfl⟩
      · cases hv
    · cases hct
  · cases hct
end Go.Proofs.YtpgaplcdbbnblaaGreatDoor
end
/- slices.Clone of stations as the evaluator runs it: of some, of none, of nil. -/
section
namespace Go.Proofs.YtpgaplcdbbnblaaGreatDoor
open Go.RowKit

def clnR (P : Program) (a : AV) (m : AMem) (path : List Dec) : Option VF := viewF [1003, 1005] (fCallF (E1 P) (fC (E1 P) 300) 140 [a] 1000 10000000000000000000000000000000000000000 (stA m path []))
theorem clnA (f : Nat → Station) (n : Nat) (Q : VF → Prop) (H : Q (.c (.sl 1005 0 0 (0 + n) none), [none, some (ABlk.mk true true 161 3 (Cs.arr (0 + n) fun i => if i < 0 then [] else elt (ABlk.mk false false 161 3 (Cs.arr n fun k => List.map AC.v ((fun i => [Value.int .i64 (Station.node (f i)), Value.int .u32 (Station.safe (f i)), Value.int .i64 (Station.hold (f i))]) k))) 0 0 3 (i - 0)))], 1007, [decide (0 + n ≤ n), true, true, decide ((0 + n) * 24 ≤ 140737488355328), ABlk.inb (ABlk.mk false false 161 3 (Cs.arr n fun k => List.map AC.v ((fun i => [Value.int .i64 (Station.node (f i)), Value.int .u32 (Station.safe (f i)), Value.int .i64 (Station.hold (f i))]) k))) 0 1], [])) :
    ∃ p r, clnR Tryz.prog (.c (.sl 0 0 0 n none)) [(0, sts n f)] p = some r ∧ Q r :=
  ⟨pD 1 0, _, by kernel_rfl, H⟩
theorem clnB  (Q : VF → Prop) (H : Q (.c (AC.v (Value.slice none 0 0)), [none, none], 1004, [], [])) :
    ∃ p r, clnR Tryz.prog (.c (.v (.slice none 0 0))) [] p = some r ∧ Q r :=
  ⟨pD 1 0, _, by kernel_rfl, H⟩
theorem clnC (b o cc : Nat) (Q : VF → Prop) (H : Q (.c (.sl 1003 0 0 0 none), [some (ABlk.mk true true 161 3 (Cs.arr 0 fun x => [])), none], 1007, [true, true, true], [])) :
    ∃ p r, clnR Tryz.prog (.c (.v (.slice (some ⟨b, o, none⟩) 0 cc))) [] p = some r ∧ Q r :=
  ⟨pD 1 0, _, by kernel_rfl, H⟩
end Go.Proofs.YtpgaplcdbbnblaaGreatDoor
end
/- Contract of slices.Clone of stations. -/
section
namespace Go.Proofs.YtpgaplcdbbnblaaGreatDoor
open Go.RowKit

abbrev stsW (n : Nat) (f : Nat → Station) : ABlk := wBlk 161 3 n fun i => [.int .i64 (f i).node, .int .u32 (f i).safe, .int .i64 (f i).hold]
def ctClnSt : CtF
  | [.c a], m, ib => match slOf 3 m a with | some (n, F, b) => some (.c (.sl ib 0 0 n none), [(ib, stsW n (stOf F))], 1, [b, decide (n ≤ 1000000), stsOk n F]) | none => none
  | _, _, _ => none
theorem ct_clnSt : CtOk Tryz.prog 140 ctClnSt := by
  refine ⟨⟨_, _, Tryz.func140, rfl⟩, fun C β m m2 w args ib r news k' ob vs hct ho hs hr hfree hlim hv => ?_⟩
  unfold ctClnSt at hct
  split at hct
  · rename_i a
    split at hct
    · rename_i n F b hsl
      simp only [Option.some.injEq, Prod.mk.injEq] at hct
      obtain ⟨rfl, rfl, rfl, rfl⟩ := hct
      simp only [allT, List.forall_mem_cons, decide_eq_true_eq] at ho
      obtain ⟨rfl, o2, o3, _⟩ := ho
      simp only [γt] at hv
      split at hv
      · rename_i v0 us hv0 hus
        cases hus
        cases hv
        have hid : β ib = none := hfree ib (Nat.le_refl _) (by omega)
        have hmid : look m2 ib = none := by
          cases e : look m2 ib with
          | none => rfl
          | some x => obtain ⟨L, hL, _⟩ := hr.blk ib x e; rw [hid] at hL; cases hL
        obtain ⟨L, hk, hL2⟩ := blk_slice hr (by omega : 0 < 3) (slOf_sub hs hsl) hv0 161 (stsOk_eq o3) (fun _ => rfl) (loneC w) (fun _ => none) rfl
        have hL3 := hL2 (ext1 (fun _ => none) 0 L) 0 ext1_same
        have hrel := (rel_add_ro (rel_nil w) (fun _ _ h => by cases h) (id := 0) rfl (fun g => by unfold gid; omega) rfl rfl hk).1
        rcases Nat.eq_zero_or_pos n with rfl | hpos
        · cases hnil : L.nil with
          | true =>
            simp only [γc, ext1_same, hnil, if_true] at hL3
            have hv1 : v0 = .slice none 0 0 := by simpa using hL3.symm
            subst hv1
            obtain ⟨p, ⟨v, b', n', ob, po⟩, hrun, hvr, hn, hob, hpo⟩ : ∃ p r, clnR Tryz.prog (.c (.v (.slice none 0 0))) [] p = some r ∧ (r.1 = .c (.v (.slice none 0 0)) ∧ r.2.2.1 ≤ lim ∧ allT r.2.2.2.1 ∧ ∀ q ∈ r.2.2.2.2, q) := clnB _ ⟨rfl, by dsimp only; unfold lim; omega, by simp [allT], by simp⟩
            obtain ⟨s', r1, r2, r3, r4⟩ := viewF_out hrun
            refine (calls_f hE1 r1 ⟨by rw [r3]; exact hob, by rw [r4]; exact hpo⟩ (C := loneC w) (β := fun _ => none) (w := w) (vs := [.slice none 0 0]) rfl (rel_nil w) (fun _ _ _ => rfl)).mono ?_
            rintro e w' ⟨β', u, rfl, _, _, hu, hr'⟩
            simp only at hvr
            subst hvr
            cases hu
            refine ⟨ext1 β ib ⟨0, 0, 3, 0, true⟩, _, rfl, ext1_ext hid, fun id h => by unfold ext1; rw [if_neg (by omega)], ?_, rel_add_nil (y := stsW 0 (stOf F)) (hr.below (below_lone hr')) hid (not_gid (by omega)) rfl⟩
            simp [γ, γ1, γc, ext1_same]
          | false =>
            simp only [γc, ext1_same, hnil, Bool.false_eq_true, if_false, Option.some.injEq] at hL3
            subst hL3
            obtain ⟨p, ⟨v, b', n', ob, po⟩, hrun, hvr, hbl, hn, hob, hpo⟩ : ∃ p r, clnR Tryz.prog (.c (.v (.slice (some ⟨L.b, L.o + (0 * L.s + 0), none⟩) 0 ((none : Option Nat).getD (L.cap - 0))))) [] p = some r ∧ (r.1 = .c (.sl 1003 0 0 0 none) ∧ r.2.1 = [some ⟨true, true, 161, 3, .arr 0 fun _ => []⟩, none] ∧ r.2.2.1 ≤ lim ∧ allT r.2.2.2.1 ∧ ∀ q ∈ r.2.2.2.2, q) := clnC _ _ _ _ ⟨rfl, rfl, by dsimp only; unfold lim; omega, by simp [allT], by simp⟩
            obtain ⟨s', r1, r2, r3, r4⟩ := viewF_out hrun
            have hn : n' ≤ lim := hn
            simp only at hvr hbl
            subst hvr
            subst hbl
            refine (calls_f hE1 r1 ⟨by rw [r3]; exact hob, by rw [r4]; exact hpo⟩ (C := loneC w) (β := fun _ => none) (w := w) (vs := [_]) rfl (rel_nil w) (fun _ _ _ => rfl)).mono ?_
            rintro e w' ⟨β', u, rfl, _, _, hu, hr'⟩
            simp only [List.map_cons, List.map_nil, List.cons.injEq, and_true] at r2
            obtain ⟨r2, _⟩ := r2
            obtain ⟨L', hL', hb'⟩ := hr'.blk 1003 _ r2
            refine ⟨ext1 β ib L', u, rfl, ext1_ext hid, fun id h => by unfold ext1; rw [if_neg (by omega)], ?_, ?_⟩
            · simp only [γ, γ1, γc, hL'] at hu
              simp only [γ, γ1, γc, ext1_same]
              exact hu
            · exact rel_swap0 (rel_fresh hr (below_lone hr') hid (not_gid (by omega)) hr' r2 rfl rfl (fun k j hi => by simp [ABlk.inb] at hi) hL') hmid rfl rfl
        · have hnil : L.nil = false := (hk.cells 0 0 (by simp [rBlk, ABlk.inb, hpos])).1
          obtain ⟨p, ⟨v, b', n', ob, po⟩, hrun, hvr, hbl, hn, hob, hpo⟩ : ∃ p r, clnR Tryz.prog (.c (.sl 0 0 0 n none)) [(0, sts n (stOf F))] p = some r ∧ (r.1 = .c (.sl 1005 0 0 n none) ∧ r.2.1 = [none, some (stsW n (stOf F))] ∧ r.2.2.1 ≤ lim ∧ allT r.2.2.2.1 ∧ ∀ q ∈ r.2.2.2.2, q) := by
            refine clnA _ _ _ ?_
            simp only [Nat.zero_add]
            refine ⟨?_, ?_, (by first | (unfold lim; omega) | (dsimp only; unfold lim; omega)), ?_, by simp⟩
            · first | trivial | rfl
            · simp [elt, wBlk]
            · simp [allT, inb_arr, hpos]; omega
          obtain ⟨s', r1, r2, r3, r4⟩ := viewF_out hrun
          have hn : n' ≤ lim := hn
          simp only at hvr hbl
          subst hvr
          subst hbl
          refine (calls_f hE1 r1 ⟨by rw [r3]; exact hob, by rw [r4]; exact hpo⟩ (C := loneC w) (β := ext1 (fun _ => none) 0 L) (w := w) (vs := [v0]) ?_ hrel (fun id h1 _ => by unfold ext1; rw [if_neg (by omega)])).mono ?_
          · simp only [γt, γ1, hL3]
          · rintro e w' ⟨β', u, rfl, _, _, hu, hr'⟩
            simp only [List.map_cons, List.map_nil, List.cons.injEq, and_true] at r2
            obtain ⟨_, r2⟩ := r2
            obtain ⟨L', hL', hb'⟩ := hr'.blk 1005 _ r2
            refine ⟨ext1 β ib L', u, rfl, ext1_ext hid, fun id h => by unfold ext1; rw [if_neg (by omega)], ?_, ?_⟩
            · simp only [γ, γ1, γc, hL'] at hu
              simp only [γ, γ1, γc, ext1_same]
              exact hu
            · refine rel_fresh hr (below_lone hr') hid (not_gid (by omega)) hr' r2 rfl rfl (fun k j _ => ?_) hL'
              match j with
              | 0 => exact ⟨_, rfl⟩
              | 1 => exact ⟨_, rfl⟩
              | 2 => exact ⟨_, rfl⟩
              | j + 3 => exact ⟨_, rfl⟩
      · cases hv
    · cases hct
  · cases hct
end Go.Proofs.YtpgaplcdbbnblaaGreatDoor
end
/- configs.New: the round of its last loop as the evaluator runs it. -/
section
namespace Go.Proofs.YtpgaplcdbbnblaaGreatDoor
open Go.RowKit

/-- of which pair a node is, by the first k halves (-1: of none) -/
def pairF (c : Cfg) (k : Nat) (i : Nat) : Int := match (List.range k).find? (fun q => halfF c q == Int.ofNat i) with | some q => Int.ofNat (q / 2) | none => -1
abbrev nwIds : List Nat := [70000000000000000000000000000000000001149, 90000000000000000000000000000000000001150, 50000000000000000000000000000000000001149, 10000000000000000000000000000000000001170, 10000000000000000000000000000000000001197, 10000000000000000000000000000000000001224, 10000000000000000000000000000000000001241]
abbrev netB (c : Cfg) : ABlk := ⟨true, false, 77, 0, .lit [.v (.int .i64 c.nodes), .sl 10000000000000000000000000000000000001170 0 0 c.np (some c.np), .sl 10000000000000000000000000000000000001197 0 0 c.ns (some c.ns), .v (.int .i64 c.long), .sl 10000000000000000000000000000000000001224 0 0 c.nb (some c.nb), .sl 10000000000000000000000000000000000001241 0 0 c.nt (some c.nt), .v (.int .i64 c.miss), .v (.int .i64 c.good), .v (.int .i64 c.fresh), .sl 50000000000000000000000000000000000001149 0 0 c.nodes.toNat none]⟩
abbrev intsW (n : Nat) (f : Nat → Int) : ABlk := wBlk 3 1 n fun i => [.int .i64 (f i)]
abbrev nwBk (c : Cfg) (k : Nat) : List ABlk := [netB c, intsW (2 * c.np) (halfF c), intsW c.nodes.toNat (pairF c k), intsW c.np c.fp, intsW c.ns c.fs, intsW c.nb c.fb, stsW c.nt c.ft]
abbrev nwV (c : Cfg) (k : Nat) : List AV := [.c (.ptr 70000000000000000000000000000000000001149 0 0), .c (.sl 90000000000000000000000000000000000001150 0 0 (2 * c.np) none), i64 (Int.ofNat (2 * c.np)), i64 (Int.ofNat k)]
def nwlR (P : Program) (c : Cfg) (k : Nat) (path : List Dec) : Option VC :=
  view ([7, 33, 34, 35] ++ []) nwIds (fC (E1 P) 300 (loopAt P 15 1) 1000000000000000000000000000000000000000000 10000000000000000000000000000000000000000 (stH 50 [7, 33, 34, 35] nwIds (nwV c k) (nwBk c k) path []))
theorem nwl (c : Cfg) (k : Nat) (Q : VC → Prop) (H : (((decide (Int.ofNat k < Int.ofNat (2 * c.np))) = true → Q (Exit.normal, [some (lkA (List.zip [7, 33, 34, 35] (nwV c k)) (0 + 1 + 1 + 1 + 1 + 1 + 1 + 1)), some (lkA (List.zip [7, 33, 34, 35] (nwV c k)) (0 + 1 + 1 + 1 + 1 + 1 + 1 + 1 + 1 + 1 + 1 + 1 + 1 + 1 + 1 + 1 + 1 + 1 + 1 + 1 + 1 + 1 + 1 + 1 + 1 + 1 + 1 + 1 + 1 + 1 + 1 + 1 + 1 + 1)), some (lkA (List.zip [7, 33, 34, 35] (nwV c k)) (0 + 1 + 1 + 1 + 1 + 1 + 1 + 1 + 1 + 1 + 1 + 1 + 1 + 1 + 1 + 1 + 1 + 1 + 1 + 1 + 1 + 1 + 1 + 1 + 1 + 1 + 1 + 1 + 1 + 1 + 1 + 1 + 1 + 1 + 1)), some (.c (.v (.int .i64 (IntKind.wrap .i64 (Int.ofNat k + Int.ofNat 1)))))], [some (ABlk.mk true false 77 0 (Cs.lit [.v (.int .i64 (c.nodes)), AC.sl 10000000000000000000000000000000000001170 0 0 (c.np) (some (c.np)), AC.sl 10000000000000000000000000000000000001197 0 0 (c.ns) (some (c.ns)), .v (.int .i64 (c.long)), AC.sl 10000000000000000000000000000000000001224 0 0 (c.nb) (some (c.nb)), AC.sl 10000000000000000000000000000000000001241 0 0 (c.nt) (some (c.nt)), .v (.int .i64 (c.miss)), .v (.int .i64 (c.good)), .v (.int .i64 (c.fresh)), AC.sl 50000000000000000000000000000000000001149 0 0 (Int.toNat (c.nodes)) none])), some (ABlk.mk true true 3 1 (Cs.arr (2 * c.np) fun k => List.map AC.v ((fun i => [Value.int .i64 (halfF c i)]) k))), some (ABlk.mk true true 3 1 (Cs.arr (Int.toNat (c.nodes)) fun i => if i = 0 + Int.toNat (halfF c (0 + Int.toNat (Int.ofNat k))) then setL ((fun k_1 => List.map AC.v ((fun i => [Value.int .i64 (pairF c k i)]) k_1)) i) 0 [.v (.int .i64 (IntKind.wrap .i64 (Int.tdiv (Int.ofNat k) (Int.ofNat 2))))] else List.map AC.v ((fun i => [Value.int .i64 (pairF c k i)]) i))), some (ABlk.mk true true 3 1 (Cs.arr (c.np) fun k => List.map AC.v ((fun i => [Value.int .i64 (c.fp i)]) k))), some (ABlk.mk true true 3 1 (Cs.arr (c.ns) fun k => List.map AC.v ((fun i => [Value.int .i64 (c.fs i)]) k))), some (ABlk.mk true true 3 1 (Cs.arr (c.nb) fun k => List.map AC.v ((fun i => [Value.int .i64 (c.fb i)]) k))), some (ABlk.mk true true 161 3 (Cs.arr (c.nt) fun k => List.map AC.v ((fun i => [Value.int .i64 (Station.node (c.ft i)), Value.int .u32 (Station.safe (c.ft i)), Value.int .i64 (Station.hold (c.ft i))]) k)))], 50, 1000000000000000000000000000000000000000017, [ABlk.inb (ABlk.mk true true 3 1 (Cs.arr (Int.toNat (c.nodes)) fun k_1 => List.map AC.v ((fun i => [Value.int .i64 (pairF c k i)]) k_1))) (0 + Int.toNat (halfF c (0 + Int.toNat (Int.ofNat k)))) 1, decide (Int.ofNat 0 ≤ halfF c (0 + Int.toNat (Int.ofNat k)) ∧ halfF c (0 + Int.toNat (Int.ofNat k)) < ↑(Int.toNat (c.nodes))), true, true, ABlk.inb (ABlk.mk true true 3 1 (Cs.arr (2 * c.np) fun k => List.map AC.v ((fun i => [Value.int .i64 (halfF c i)]) k))) (0 + Int.toNat (Int.ofNat k)) 1, true, decide (Int.ofNat 0 ≤ Int.ofNat k ∧ Int.ofNat k < ↑(2 * c.np)), decide (Int.ofNat k < Int.ofNat (2 * c.np)) == true], [])) ∧ ((decide (Int.ofNat k < Int.ofNat (2 * c.np))) = false → Q (Exit.exit 2, [some (lkA (List.zip [7, 33, 34, 35] (nwV c k)) (0 + 1 + 1 + 1 + 1 + 1 + 1 + 1)), some (lkA (List.zip [7, 33, 34, 35] (nwV c k)) (0 + 1 + 1 + 1 + 1 + 1 + 1 + 1 + 1 + 1 + 1 + 1 + 1 + 1 + 1 + 1 + 1 + 1 + 1 + 1 + 1 + 1 + 1 + 1 + 1 + 1 + 1 + 1 + 1 + 1 + 1 + 1 + 1 + 1)), some (lkA (List.zip [7, 33, 34, 35] (nwV c k)) (0 + 1 + 1 + 1 + 1 + 1 + 1 + 1 + 1 + 1 + 1 + 1 + 1 + 1 + 1 + 1 + 1 + 1 + 1 + 1 + 1 + 1 + 1 + 1 + 1 + 1 + 1 + 1 + 1 + 1 + 1 + 1 + 1 + 1 + 1)), some (lkA (List.zip [7, 33, 34, 35] (nwV c k)) (0 + 1 + 1 + 1 + 1 + 1 + 1 + 1 + 1 + 1 + 1 + 1 + 1 + 1 + 1 + 1 + 1 + 1 + 1 + 1 + 1 + 1 + 1 + 1 + 1 + 1 + 1 + 1 + 1 + 1 + 1 + 1 + 1 + 1 + 1 + 1))], [some (ABlk.mk true false 77 0 (Cs.lit [.v (.int .i64 (c.nodes)), AC.sl 10000000000000000000000000000000000001170 0 0 (c.np) (some (c.np)), AC.sl 10000000000000000000000000000000000001197 0 0 (c.ns) (some (c.ns)), .v (.int .i64 (c.long)), AC.sl 10000000000000000000000000000000000001224 0 0 (c.nb) (some (c.nb)), AC.sl 10000000000000000000000000000000000001241 0 0 (c.nt) (some (c.nt)), .v (.int .i64 (c.miss)), .v (.int .i64 (c.good)), .v (.int .i64 (c.fresh)), AC.sl 50000000000000000000000000000000000001149 0 0 (Int.toNat (c.nodes)) none])), some (ABlk.mk true true 3 1 (Cs.arr (2 * c.np) fun k => List.map AC.v ((fun i => [Value.int .i64 (halfF c i)]) k))), some (ABlk.mk true true 3 1 (Cs.arr (Int.toNat (c.nodes)) fun k_1 => List.map AC.v ((fun i => [Value.int .i64 (pairF c k i)]) k_1))), some (ABlk.mk true true 3 1 (Cs.arr (c.np) fun k => List.map AC.v ((fun i => [Value.int .i64 (c.fp i)]) k))), some (ABlk.mk true true 3 1 (Cs.arr (c.ns) fun k => List.map AC.v ((fun i => [Value.int .i64 (c.fs i)]) k))), some (ABlk.mk true true 3 1 (Cs.arr (c.nb) fun k => List.map AC.v ((fun i => [Value.int .i64 (c.fb i)]) k))), some (ABlk.mk true true 161 3 (Cs.arr (c.nt) fun k => List.map AC.v ((fun i => [Value.int .i64 (Station.node (c.ft i)), Value.int .u32 (Station.safe (c.ft i)), Value.int .i64 (Station.hold (c.ft i))]) k)))], 50, 1000000000000000000000000000000000000000001, [decide (Int.ofNat k < Int.ofNat (2 * c.np)) == false], [])))) :
    ∃ p r, nwlR Tryz.prog c k p = some r ∧ Q r :=
  two H
  (fun g1 => ⟨pD 1 1, _, by kernel_rfl, g1⟩)
  (fun g1 => ⟨pD 1 2, _, by kernel_rfl, g1⟩)
end Go.Proofs.YtpgaplcdbbnblaaGreatDoor
end
/- configs.New as the evaluator runs it. -/
section
namespace Go.Proofs.YtpgaplcdbbnblaaGreatDoor
open Go.RowKit

def ENn (P : Program) : Env := ⟨P, [(120, ctCfg (fun c => i64 (rule1 c)) fun _ => true), (122, ctCfg (fun c => i64 (rule2 c)) fun _ => true), (123, ctCfg (fun c => i64 (rule3 c)) fun c => decide (1 ≤ c.np) && decide (c.np ≤ 1000)),
  (128, ctCfg (fun c => i64 (rule4 c)) fun _ => true), (129, ctCfg (fun c => i64 (rule5 c)) fun c => decide (c.np ≤ 1000000) && decide (c.ns ≤ 1000000)), (131, ctCfg (fun c => i64 (rule6 c)) okNodes),
  (132, ctCfg (fun c => i64 (rule7 c)) fun c => decide (c.nb ≤ 9223372036854775807)), (135, ctCfg (fun c => i64 (rule8 c)) fun _ => true), (136, ctCfg (fun c => i64 (rule9 c)) fun c => decide (c.nt ≤ 1000000)), (137, ctCfg (fun c => i64 (rule10 c)) fun _ => true),
  (64, ctHalves), (63, ctRepeat), (140, ctClnSt)]⟩
theorem hENn : EnvOk (ENn Tryz.prog) := by
  refine envOk (fun f g h => ?_) (by kernel_rfl) (by kernel_rfl)
  simp only [ENn, List.mem_cons, Prod.mk.injEq, List.not_mem_nil, or_false] at h
  rcases h with ⟨rfl, rfl⟩ | ⟨rfl, rfl⟩ | ⟨rfl, rfl⟩ | ⟨rfl, rfl⟩ | ⟨rfl, rfl⟩ | ⟨rfl, rfl⟩ | ⟨rfl, rfl⟩ | ⟨rfl, rfl⟩ | ⟨rfl, rfl⟩ | ⟨rfl, rfl⟩ | ⟨rfl, rfl⟩ | ⟨rfl, rfl⟩ | ⟨rfl, rfl⟩
  · exact ct_ru1
  · exact ct_ru2
  · exact ct_ru3
  · exact ct_ru4
  · exact ct_ru5
  · exact ct_ru6
  · exact ct_ru7
  · exact ct_ru8
  · exact ct_ru9
  · exact ct_ru10
  · exact ct_halves
  · exact ct_repeat
  · exact ct_clnSt
/-- a config as it is read off the memory in which it lies -/
def cfgI (c : Cfg) : Cfg := Cfg.mk (Cfg.nodes c) (Cfg.np c) (fA (elt (ABlk.mk false false 3 1 (Cs.arr (Cfg.np c) fun k => List.map AC.v ((fun i => [Value.int IntKind.i64 (Cfg.fp c i)]) k))) 0 0 1)) (Cfg.ns c) (fA (elt (ABlk.mk false false 3 1 (Cs.arr (Cfg.ns c) fun k => List.map AC.v ((fun i => [Value.int IntKind.i64 (Cfg.fs c i)]) k))) 0 0 1)) (Cfg.long c) (Cfg.nb c) (fA (elt (ABlk.mk false false 3 1 (Cs.arr (Cfg.nb c) fun k => List.map AC.v ((fun i => [Value.int IntKind.i64 (Cfg.fb c i)]) k))) 0 0 1)) (Cfg.nt c) (stOf (elt (ABlk.mk false false 161 3 (Cs.arr (Cfg.nt c) fun k => List.map AC.v ((fun i => [Value.int IntKind.i64 (Station.node (Cfg.ft c i)), Value.int IntKind.u32 (Station.safe (Cfg.ft c i)), Value.int IntKind.i64 (Station.hold (Cfg.ft c i))]) k))) 0 0 3)) (Cfg.miss c) (Cfg.good c) (Cfg.fresh c)
theorem cfgI_eq (c : Cfg) : cfgI c = c := by
  unfold cfgI
  simp only [fA_ints, stOf_sts]
def nwR (P : Program) (c : Cfg) (path : List Dec) : Option VF := viewF nwIds (fCallF (ENn P) (fC (ENn P) 300) 15 [.agg (cfgC c)] 1000 10000000000000000000000000000000000000000 (stA (cfgM c) path [none, none, some ⟨[7, 33, 34, 35], nwIds, mkFr 50 [(7, .c (.ptr 70000000000000000000000000000000000001149 0 0))], nwIds.zip (nwBk c (2 * c.np)), 100000000000000000000000000000000000000000000000000, .exit 2⟩]))
set_option maxRecDepth 1000000
theorem nw (c : Cfg) (Q : VF → Prop) (H : let zz5 := (Cs.arr (Cfg.nt c) fun k => List.map AC.v ((fun i => [Value.int IntKind.i64 (Station.node (Cfg.ft c i)), Value.int IntKind.u32 (Station.safe (Cfg.ft c i)), Value.int IntKind.i64 (Station.hold (Cfg.ft c i))]) k)); let zz0 := (eltZ (ABlk.mk false false 161 3 zz5) 0 0 3); let zz1 := (Cs.arr (Cfg.np c) fun k => List.map AC.v ((fun i => [Value.int IntKind.i64 (Cfg.fp c i)]) k)); let zz2 := (Cs.arr (Cfg.ns c) fun k => List.map AC.v ((fun i => [Value.int IntKind.i64 (Cfg.fs c i)]) k)); let zz3 := (Cs.arr (Cfg.nb c) fun k => List.map AC.v ((fun i => [Value.int IntKind.i64 (Cfg.fb c i)]) k)); let zz4 := (ABlk.mk true true 161 3 (Cs.arr (Cfg.nt c) fun k => List.map AC.v ((fun i => [Value.int IntKind.i64 (Station.node (stOf zz0 i)), Value.int IntKind.u32 (Station.safe (stOf zz0 i)), Value.int IntKind.i64 (Station.hold (stOf zz0 i))]) k))); let zq0 : List Bool := (cfgK c) :: true :: true :: true :: true :: true :: true :: true :: true :: true :: true :: true :: []; let zq1 : List Bool := (cfgK c) :: true :: true :: true :: true :: true :: true :: true :: true :: true :: true :: true :: ((rule1 c != Int.ofNat 0) == false) :: zq0; let zq2 : List Bool := (cfgK c) :: (decide (1 ≤ c.np) && decide (c.np ≤ 1000)) :: true :: true :: true :: true :: true :: true :: true :: true :: true :: true :: ((rule2 c != Int.ofNat 0) == false) :: zq1; let zq3 : List Bool := (cfgK c) :: true :: true :: true :: true :: true :: true :: true :: true :: true :: true :: true :: ((rule3 c != Int.ofNat 0) == false) :: zq2; let zq4 : List Bool := (cfgK c) :: (decide (c.np ≤ 1000000) && decide (c.ns ≤ 1000000)) :: true :: true :: true :: true :: true :: true :: true :: true :: true :: true :: ((rule4 c != Int.ofNat 0) == false) :: zq3; let zq5 : List Bool := (cfgK c) :: (okNodes c) :: true :: true :: true :: true :: true :: true :: true :: true :: true :: true :: ((rule5 c != Int.ofNat 0) == false) :: zq4; let zq6 : List Bool := (cfgK c) :: (decide (c.nb ≤ 9223372036854775807)) :: true :: true :: true :: true :: true :: true :: true :: true :: true :: true :: ((rule6 c != Int.ofNat 0) == false) :: zq5; let zq7 : List Bool := (cfgK c) :: true :: true :: true :: true :: true :: true :: true :: true :: true :: true :: true :: ((rule7 c != Int.ofNat 0) == false) :: zq6; let zq8 : List Bool := (cfgK c) :: (decide (c.nt ≤ 1000000)) :: true :: true :: true :: true :: true :: true :: true :: true :: true :: true :: ((rule8 c != Int.ofNat 0) == false) :: zq7; let zq9 : List Bool := (cfgK c) :: true :: true :: true :: true :: true :: true :: true :: true :: true :: true :: true :: ((rule9 c != Int.ofNat 0) == false) :: zq8; (((rule1 c != Int.ofNat 0) = true → Q (.tup [.c (AC.v (Value.pointer none)), .c (.v (.int .i64 (rule1 c)))], [none, none, none, none, none, none, none], 1032, (((rule1 c != Int.ofNat 0) == true) :: zq0), [])) ∧ ((rule1 c != Int.ofNat 0) = false → (((rule2 c != Int.ofNat 0) = true → Q (.tup [.c (AC.v (Value.pointer none)), .c (.v (.int .i64 (rule2 c)))], [none, none, none, none, none, none, none], 1045, (((rule2 c != Int.ofNat 0) == true) :: zq1), [])) ∧ ((rule2 c != Int.ofNat 0) = false → (((rule3 c != Int.ofNat 0) = true → Q (.tup [.c (AC.v (Value.pointer none)), .c (.v (.int .i64 (rule3 c)))], [none, none, none, none, none, none, none], 1058, (((rule3 c != Int.ofNat 0) == true) :: zq2), [])) ∧ ((rule3 c != Int.ofNat 0) = false → (((rule4 c != Int.ofNat 0) = true → Q (.tup [.c (AC.v (Value.pointer none)), .c (.v (.int .i64 (rule4 c)))], [none, none, none, none, none, none, none], 1071, (((rule4 c != Int.ofNat 0) == true) :: zq3), [])) ∧ ((rule4 c != Int.ofNat 0) = false → (((rule5 c != Int.ofNat 0) = true → Q (.tup [.c (AC.v (Value.pointer none)), .c (.v (.int .i64 (rule5 c)))], [none, none, none, none, none, none, none], 1084, (((rule5 c != Int.ofNat 0) == true) :: zq4), [])) ∧ ((rule5 c != Int.ofNat 0) = false → (((rule6 c != Int.ofNat 0) = true → Q (.tup [.c (AC.v (Value.pointer none)), .c (.v (.int .i64 (rule6 c)))], [none, none, none, none, none, none, none], 1097, (((rule6 c != Int.ofNat 0) == true) :: zq5), [])) ∧ ((rule6 c != Int.ofNat 0) = false → (((rule7 c != Int.ofNat 0) = true → Q (.tup [.c (AC.v (Value.pointer none)), .c (.v (.int .i64 (rule7 c)))], [none, none, none, none, none, none, none], 1110, (((rule7 c != Int.ofNat 0) == true) :: zq6), [])) ∧ ((rule7 c != Int.ofNat 0) = false → (((rule8 c != Int.ofNat 0) = true → Q (.tup [.c (AC.v (Value.pointer none)), .c (.v (.int .i64 (rule8 c)))], [none, none, none, none, none, none, none], 1123, (((rule8 c != Int.ofNat 0) == true) :: zq7), [])) ∧ ((rule8 c != Int.ofNat 0) = false → (((rule9 c != Int.ofNat 0) = true → Q (.tup [.c (AC.v (Value.pointer none)), .c (.v (.int .i64 (rule9 c)))], [none, none, none, none, none, none, none], 1136, (((rule9 c != Int.ofNat 0) == true) :: zq8), [])) ∧ ((rule9 c != Int.ofNat 0) = false → (((rule10 c != Int.ofNat 0) = true → Q (.tup [.c (AC.v (Value.pointer none)), .c (.v (.int .i64 (rule10 c)))], [none, none, none, none, none, none, none], 1149, (((rule10 c != Int.ofNat 0) == true) :: zq9), [])) ∧ ((rule10 c != Int.ofNat 0) = false → Q (.tup [.c (.ptr 70000000000000000000000000000000000001149 0 0), .c (.v (.int .i64 (Int.ofNat 0)))], [some (ABlk.mk true false 77 0 (Cs.lit [.v (.int .i64 (c.nodes)), AC.sl 10000000000000000000000000000000000001170 0 0 (c.np) (some (c.np)), AC.sl 10000000000000000000000000000000000001197 0 0 (c.ns) (some (c.ns)), .v (.int .i64 (c.long)), AC.sl 10000000000000000000000000000000000001224 0 0 (c.nb) (some (c.nb)), AC.sl 10000000000000000000000000000000000001241 0 0 (c.nt) (some (c.nt)), .v (.int .i64 (c.miss)), .v (.int .i64 (c.good)), .v (.int .i64 (c.fresh)), AC.sl 50000000000000000000000000000000000001149 0 0 (Int.toNat (c.nodes)) none])), some (ABlk.mk true true 3 1 (Cs.arr (2 * c.np) fun k => List.map AC.v ((fun i => [Value.int .i64 (halfF c i)]) k))), some (ABlk.mk true true 3 1 (Cs.arr (Int.toNat (c.nodes)) fun k => List.map AC.v ((fun i => [Value.int .i64 (pairF c (2 * c.np) i)]) k))), some (ABlk.mk true true 3 1 zz1), some (ABlk.mk true true 3 1 zz2), some (ABlk.mk true true 3 1 zz3), some (ABlk.mk true true 161 3 zz5)], 100000000000000000000000000000000000000000000000003, ((cfgK c) :: (decide (c.np ≤ 1000)) :: true :: true :: true :: true :: true :: true :: true :: true :: (decide (Int.ofNat 1 ≤ c.nodes)) :: (decide (c.nodes ≤ Int.ofNat 1000000)) :: true :: true :: true :: true :: true :: true :: true :: true :: true :: true :: true :: true :: true :: true :: true :: true :: true :: (decide (Int.ofNat 0 ≤ Int.ofNat 0 ∧ Int.ofNat 0 ≤ Option.getD (some ↑(c.nt)) ↑(c.nt) ∧ Option.getD (some ↑(c.nt)) ↑(c.nt) ≤ slC none (c.nt) (some ↑(c.nt)))) :: true :: (decide (slC none (c.nt) (some ↑(c.nt)) ≤ ↑(Option.getD none (c.nt)))) :: true :: (slRow none zz4 0 (c.nt)) :: (decide (0 + c.nt ≤ c.nt)) :: (decide (c.nt ≤ 1000000)) :: (stsOk (c.nt) fun k => List.map AC.v ((fun i => [Value.int .i64 (Station.node (c.ft i)), Value.int .u32 (Station.safe (c.ft i)), Value.int .i64 (Station.hold (c.ft i))]) k)) :: true :: true :: (decide (Int.ofNat 0 ≤ Int.ofNat 0 ∧ Int.ofNat 0 ≤ Option.getD (some ↑(0 + c.nb)) ↑(0 + c.nb) ∧ Option.getD (some ↑(0 + c.nb)) ↑(0 + c.nb) ≤ slC none (0 + c.nb) (some ↑(0 + c.nb)))) :: true :: (decide (slC none (0 + c.nb) (some ↑(0 + c.nb)) ≤ ↑(Option.getD none (0 + c.nb)))) :: true :: (slRow none (ABlk.mk true true 3 1 (Cs.arr (0 + c.nb) fun i => if i < 0 then [] else elt (ABlk.mk false false 3 1 zz3) 0 0 1 (i - 0))) 0 (0 + c.nb)) :: (decide (0 + c.nb ≤ c.nb)) :: true :: true :: (decide ((0 + c.nb) * 8 ≤ 140737488355328)) :: (ABlk.inb (ABlk.mk false false 3 1 zz3) 0 1) :: true :: true :: true :: true :: (decide (Int.ofNat 0 ≤ Int.ofNat 0 ∧ Int.ofNat 0 ≤ Option.getD (some ↑(0 + c.ns)) ↑(0 + c.ns) ∧ Option.getD (some ↑(0 + c.ns)) ↑(0 + c.ns) ≤ slC none (0 + c.ns) (some ↑(0 + c.ns)))) :: true :: (decide (slC none (0 + c.ns) (some ↑(0 + c.ns)) ≤ ↑(Option.getD none (0 + c.ns)))) :: true :: (slRow none (ABlk.mk true true 3 1 (Cs.arr (0 + c.ns) fun i => if i < 0 then [] else elt (ABlk.mk false false 3 1 zz2) 0 0 1 (i - 0))) 0 (0 + c.ns)) :: (decide (0 + c.ns ≤ c.ns)) :: true :: true :: (decide ((0 + c.ns) * 8 ≤ 140737488355328)) :: (ABlk.inb (ABlk.mk false false 3 1 zz2) 0 1) :: true :: true :: true :: true :: (decide (Int.ofNat 0 ≤ Int.ofNat 0 ∧ Int.ofNat 0 ≤ Option.getD (some ↑(0 + c.np)) ↑(0 + c.np) ∧ Option.getD (some ↑(0 + c.np)) ↑(0 + c.np) ≤ slC none (0 + c.np) (some ↑(0 + c.np)))) :: true :: (decide (slC none (0 + c.np) (some ↑(0 + c.np)) ≤ ↑(Option.getD none (0 + c.np)))) :: true :: (slRow none (ABlk.mk true true 3 1 (Cs.arr (0 + c.np) fun i => if i < 0 then [] else elt (ABlk.mk false false 3 1 zz1) 0 0 1 (i - 0))) 0 (0 + c.np)) :: (decide (0 + c.np ≤ c.np)) :: true :: true :: (decide ((0 + c.np) * 8 ≤ 140737488355328)) :: (ABlk.inb (ABlk.mk false false 3 1 zz1) 0 1) :: true :: true :: true :: true :: true :: true :: true :: true :: true :: ((rule10 c != Int.ofNat 0) == false) :: zq9), [LoopV Tryz.prog (loopAt Tryz.prog 15 1) [7, 33, 34, 35] nwIds [some (.c (.ptr 70000000000000000000000000000000000001149 0 0)), some (.c (.sl 90000000000000000000000000000000000001150 0 0 (2 * c.np) none)), some (.c (.v (.int .i64 ↑(2 * c.np)))), some (.c (.v (.int .i64 (Int.ofNat 0))))] [some (ABlk.mk true false 77 0 (Cs.lit [.v (.int .i64 (c.nodes)), AC.sl 10000000000000000000000000000000000001170 0 0 (Int.toNat (Option.getD (some ↑(0 + c.np)) ↑(0 + c.np) - Int.ofNat 0)) (some (Int.toNat (↑(0 + c.np) - Int.ofNat 0))), AC.sl 10000000000000000000000000000000000001197 0 0 (Int.toNat (Option.getD (some ↑(0 + c.ns)) ↑(0 + c.ns) - Int.ofNat 0)) (some (Int.toNat (↑(0 + c.ns) - Int.ofNat 0))), .v (.int .i64 (c.long)), AC.sl 10000000000000000000000000000000000001224 0 0 (Int.toNat (Option.getD (some ↑(0 + c.nb)) ↑(0 + c.nb) - Int.ofNat 0)) (some (Int.toNat (↑(0 + c.nb) - Int.ofNat 0))), AC.sl 10000000000000000000000000000000000001241 0 0 (Int.toNat (Option.getD (some ↑(c.nt)) ↑(c.nt) - Int.ofNat 0)) (some (Int.toNat (↑(c.nt) - Int.ofNat 0))), .v (.int .i64 (c.miss)), .v (.int .i64 (c.good)), .v (.int .i64 (c.fresh)), AC.sl 50000000000000000000000000000000000001149 0 0 (Int.toNat (c.nodes)) none])), some (ABlk.mk true true 3 1 (Cs.arr (2 * c.np) fun k => List.map AC.v ((fun i => [Value.int .i64 (halfF (Cfg.mk (c.nodes) (c.np) (fA (eltZ (ABlk.mk false false 3 1 zz1) 0 0 1)) (c.ns) (fA (eltZ (ABlk.mk false false 3 1 zz2) 0 0 1)) (c.long) (c.nb) (fA (eltZ (ABlk.mk false false 3 1 zz3) 0 0 1)) (c.nt) (stOf zz0) (c.miss) (c.good) (c.fresh)) i)]) k))), some (ABlk.mk true true 3 1 (Cs.arr (Int.toNat (c.nodes)) fun k => List.map AC.v ((fun i => [Value.int .i64 (if i < Int.toNat (c.nodes) then fA (eltZ (ABlk.mk true false 3 0 (Cs.lit [.v (.int .i64 (Int.negSucc 0))])) 0 0 1) 0 else 0)]) k))), some (ABlk.mk true true 3 1 (Cs.arr (0 + c.np) fun i => if i < 0 then [] else elt (ABlk.mk false false 3 1 zz1) 0 0 1 (i - 0))), some (ABlk.mk true true 3 1 (Cs.arr (0 + c.ns) fun i => if i < 0 then [] else elt (ABlk.mk false false 3 1 zz2) 0 0 1 (i - 0))), some (ABlk.mk true true 3 1 (Cs.arr (0 + c.nb) fun i => if i < 0 then [] else elt (ABlk.mk false false 3 1 zz3) 0 0 1 (i - 0))), some zz4] 50 90000000000000000000000000000000000001153 (mkFr 50 [(7, .c (.ptr 70000000000000000000000000000000000001149 0 0))]) (List.zip nwIds (nwBk c (2 * c.np))) 100000000000000000000000000000000000000000000000000 (Exit.exit 2) none])))))))))))))))))))))) :
    ∃ p r, nwR Tryz.prog c p = some r ∧ Q r :=
  two H
  (fun g1 => ⟨pD 2 3, _, by kernel_rfl, g1⟩)
  (fun g1 => two g1
    (fun g2 => ⟨pD 4 33, _, by kernel_rfl, g2⟩)
    (fun g2 => two g2
      (fun g3 => ⟨pD 6 303, _, by kernel_rfl, g3⟩)
      (fun g3 => two g3
        (fun g4 => ⟨pD 8 2733, _, by kernel_rfl, g4⟩)
        (fun g4 => two g4
          (fun g5 => ⟨pD 10 24603, _, by kernel_rfl, g5⟩)
          (fun g5 => two g5
            (fun g6 => ⟨pD 12 221433, _, by kernel_rfl, g6⟩)
            (fun g6 => two g6
              (fun g7 => ⟨pD 14 1992903, _, by kernel_rfl, g7⟩)
              (fun g7 => two g7
                (fun g8 => ⟨pD 16 17936133, _, by kernel_rfl, g8⟩)
                (fun g8 => two g8
                  (fun g9 => ⟨pD 18 161425203, _, by kernel_rfl, g9⟩)
                  (fun g9 => two g9
                    (fun g10 => ⟨pD 20 1452826833, _, by kernel_rfl, g10⟩)
                    (fun g10 => ⟨pD 28 2615088300, _, by kernel_rfl, g10⟩))))))))))
end Go.Proofs.YtpgaplcdbbnblaaGreatDoor
end
/- configs.New: the sum of its last loop; what it answers. -/
section
namespace Go.Proofs.YtpgaplcdbbnblaaGreatDoor
open Go.RowKit

theorem withinF_zero {x lo hi : Int} (h : withinF x lo hi = 0) : lo ≤ x ∧ x ≤ hi := by
  unfold withinF at h
  split at h
  · omega
  · split at h <;> omega
theorem pairF_succ (c : Cfg) (k : Nat) (hnd : ∀ q, q < k → halfF c q ≠ halfF c k) (i : Nat) : pairF c (k + 1) i = if halfF c k = Int.ofNat i then Int.ofNat (k / 2) else pairF c k i := by
  unfold pairF
  rw [List.range_succ, List.find?_append]
  cases e : (List.range k).find? (fun q => halfF c q == Int.ofNat i) with
  | some q =>
    have h1 : halfF c q = Int.ofNat i := by simpa using List.find?_some e
    have h2 : q < k := by simpa using List.mem_of_find?_eq_some e
    rw [if_neg (fun h => hnd q h2 (by rw [h1, h]))]
    rfl
  | none =>
    by_cases h : halfF c k = Int.ofNat i
    · rw [if_pos h]; simp [h]
    · rw [if_neg h]
      have : (halfF c k == Int.ofNat i) = false := by simpa using h
      simp only [List.find?_cons, this, List.find?_nil, Option.none_or]
theorem nwBk_low {c : Cfg} {k : Nat} : ∀ b ∈ nwBk c k, lowB 90000000000000000000000000000000000001153 b := by
  intro b hb
  simp only [List.mem_cons, List.not_mem_nil, or_false] at hb
  rcases hb with rfl | rfl | rfl | rfl | rfl | rfl | rfl
  · exact low_lit rfl
  all_goals exact wBlk_low
theorem nw_sum (c : Cfg) (h4 : 4 ≤ c.nodes) (h16 : c.nodes ≤ 16) (hp : c.np ≤ 8) (hr : ∀ q, q < 2 * c.np → 0 ≤ halfF c q ∧ halfF c q < c.nodes) (hnd : ∀ q q', q < q' → q' < 2 * c.np → halfF c q ≠ halfF c q') {eblks : List (Option ABlk)} (heb : BL (nwBk c 0) eblks) :
    LoopV Tryz.prog (loopAt Tryz.prog 15 1) [7, 33, 34, 35] nwIds ((nwV c 0).map some) eblks 50 90000000000000000000000000000000000001153 (mkFr 50 [(7, .c (.ptr 70000000000000000000000000000000000001149 0 0))]) (nwIds.zip (nwBk c (2 * c.np))) 100000000000000000000000000000000000000000000000000 (.exit 2) none := by
  refine loop_viewE hE1 (fuel := 300) (str := 10000000000000000000000000000000000000000) (nh := 1000000000000000000000000000000000000000000) (S := Nat) (fun k => k ≤ 2 * c.np) (fun k => 2 * c.np - k) [7, 33, 34, 35] [] nwIds (nwV c) (nwBk c) (by decide) (by decide) (by unfold lim; omega) (s0 := 0) (by omega) (fun _ => ⟨rfl, rfl⟩) (by kernel_rfl) heb (fun k _ => ⟨rfl, nwBk_low⟩) ?_
  intro k hk
  have e0 : 0 + Int.toNat (Int.ofNat k) = k := by simp
  refine (?_ : (∃ p r, nwlR Tryz.prog c k p = some r ∧ _) → _) (nwl c k (StepV 90000000000000000000000000000000000001153 100000000000000000000000000000000000000000000000000 50 [7, 33, 34, 35] [] nwIds (fun k => k ≤ 2 * c.np) (fun k => 2 * c.np - k) (nwV c) (nwBk c) (.exit 2) [(7, .c (.ptr 70000000000000000000000000000000000001149 0 0))] (nwIds.zip (nwBk c (2 * c.np))) k) ?_)
  · rintro ⟨p, r, h1, h2⟩
    exact ⟨p, [], r, h1, h2⟩
  · simp only [e0]
    refine ⟨fun c1 => ?_, fun c1 => ?_⟩
    · have hlt : k < 2 * c.np := by simp at c1; omega
      obtain ⟨q1, q2⟩ := hr k hlt
      refine ⟨?_, rfl, by dsimp only; omega, rfl, .inl ⟨rfl, k + 1, by omega, by show 2 * c.np - (k + 1) < 2 * c.np - k; omega, ?_, BEq.refl _, BEq.refl _, ?_, BEq.refl _, BEq.refl _, BEq.refl _, BEq.refl _, trivial⟩⟩
      · simp only [allT, List.forall_mem_cons, e0]
        simp [inb_arr, inb_lit, hlt, q1, q2]
        omega
      · dsimp only
        rw [wrap_nat _ (by simp; omega) (by simp; omega)]
        rfl
      · refine ⟨rfl, rfl, rfl, rfl, .inr (.inl ⟨c.nodes.toNat, _, _, rfl, rfl, fun i hi => ?_⟩)⟩
        have hv : IntKind.wrap IntKind.i64 (Int.tdiv (Int.ofNat k) (Int.ofNat 2)) = Int.ofNat (k / 2) := by
          rw [wrap_nat _ (by simp; omega) (by simp; omega)]; simp
        show _ = List.map AC.v [Value.int .i64 (pairF c (k + 1) i)]
        rw [pairF_succ c k (fun q hq => hnd q k hq hlt) i, hv]
        by_cases h : halfF c k = Int.ofNat i
        · have hi' : i = 0 + Int.toNat (halfF c k) := by rw [h]; simp
          rw [if_pos hi', if_pos h]; rfl
        · have hi' : ¬ i = 0 + Int.toNat (halfF c k) := fun e => h (by rw [e]; simp; omega)
          rw [if_neg hi', if_neg h]
    · have hge : k = 2 * c.np := by simp at c1; omega
      subst hge
      refine ⟨by simp [allT], rfl, by dsimp only; omega, rfl, .inr ⟨by simp, rfl, fun q hq => ?_, fun p hpp => ?_⟩⟩
      · rw [List.mem_singleton.1 hq]
        exact ⟨rfl, List.mem_cons_self ..⟩
      · exact ⟨List.all_eq_true.1 (zip_fst_all (f := keptB 90000000000000000000000000000000000001153 100000000000000000000000000000000000000000000000000) (ids := nwIds) (bs := nwBk c (2 * c.np)) (by kernel_rfl)) p hpp, nwBk_low _ (List.of_mem_zip hpp).2, p.2, zip_some_mem hpp, BEq.refl _⟩
/-- what is wrong with a config (0: nothing) -/
def cfgErr (c : Cfg) : Int :=
  if rule1 c ≠ 0 then rule1 c else if rule2 c ≠ 0 then rule2 c else if rule3 c ≠ 0 then rule3 c else if rule4 c ≠ 0 then rule4 c else if rule5 c ≠ 0 then rule5 c else if rule6 c ≠ 0 then rule6 c else if rule7 c ≠ 0 then rule7 c else if rule8 c ≠ 0 then rule8 c else if rule9 c ≠ 0 then rule9 c else rule10 c
theorem cfg_facts {c : Cfg} (r1 : rule1 c = 0) (r3 : rule3 c = 0) : (4 ≤ c.nodes ∧ c.nodes ≤ 16) ∧ (∀ q, q < 2 * c.np → 0 ≤ halfF c q ∧ halfF c q < c.nodes) ∧ (∀ q q', q < q' → q' < 2 * c.np → halfF c q ≠ halfF c q') := by
  have hn := withinF_zero r1
  unfold rule3 at r3
  split at r3
  · rename_i h
    simp only [Bool.and_eq_true] at h
    obtain ⟨hi, _, hd⟩ := h
    have hin : ∀ i, i < c.np → 0 ≤ c.fp i ∧ c.fp i < c.nodes := fun i h => by
      have := List.all_eq_true.1 hi i (by simpa using h)
      simpa using this
    refine ⟨hn, fun q hq => ?_, fun q q' h1 h2 => ?_⟩
    · obtain ⟨a, b⟩ := hin (q / 2) (by omega)
      unfold halfF ringF
      split
      · exact ⟨a, b⟩
      · rw [if_pos ⟨hn.1, hn.2, a, b⟩]
        exact ⟨Int.emod_nonneg _ (by omega), Int.emod_lt_of_pos _ (by omega)⟩
    · have hd := of_decide_eq_true hd
      rw [List.Nodup, List.pairwise_map] at hd
      have := List.pairwise_iff_getElem.1 hd q q' (by simp; omega) (by simpa using h2) h1
      simpa using this
  · cases r3
end Go.Proofs.YtpgaplcdbbnblaaGreatDoor
end
/- configs.New: what it answers. -/
section
namespace Go.Proofs.YtpgaplcdbbnblaaGreatDoor
open Go.RowKit

def netV (c : Cfg) (r : VF) : Prop := r.2.2.1 ≤ lim ∧ allT r.2.2.2.1 ∧ (∀ q ∈ r.2.2.2.2, q) ∧
  ((cfgErr c = 0 ∧ r.1 = .tup [.c (.ptr 70000000000000000000000000000000000001149 0 0), i64 0] ∧ r.2.1 = (nwBk c (2 * c.np)).map some) ∨ (cfgErr c ≠ 0 ∧ r.1 = .tup [.c (.v (.pointer none)), i64 (cfgErr c)]))
set_option maxRecDepth 4000 in
theorem new_run (c : Cfg) (hb : c.nb ≤ 9223372036854775807) : ∃ p r, nwR Tryz.prog c p = some r ∧ netV c r := by
  refine nw c _ ?_
  simp only [cfgI_eq, cfgK_t, fA_ints, intsOk_ints, stOf_sts, stsOk_sts]
  have f2 : rule2 c = 0 → 2 ≤ c.np ∧ c.np ≤ 8 := fun h => by have := withinF_zero h; omega
  have f4 : rule4 c = 0 → 1 ≤ c.ns ∧ c.ns ≤ 16 := fun h => by have := withinF_zero h; omega
  have f8 : rule8 c = 0 → c.nt ≤ 8 := fun h => by have := withinF_zero h; omega
  have f1 : rule1 c = 0 → 4 ≤ c.nodes ∧ c.nodes ≤ 16 := fun h => withinF_zero h
  have f7 : rule7 c = 0 → (c.nb : Int) = c.nodes := fun h => by unfold rule7 at h; split at h; assumption; cases h
  have f13 := fun a b => @cfg_facts c a b
  have t1 : ∀ n : Nat, ((some ((0 + n : Nat) : Int)).getD ((0 + n : Nat) : Int) - Int.ofNat 0).toNat = n := fun n => by simp
  have t2 : ∀ n : Nat, (((0 + n : Nat) : Int) - Int.ofNat 0).toNat = n := fun n => by simp
  have t3 : ∀ n : Nat, ((some ((n : Nat) : Int)).getD ((n : Nat) : Int) - Int.ofNat 0).toNat = n := fun n => by simp
  have t4 : ∀ n : Nat, (((n : Nat) : Int) - Int.ofNat 0).toNat = n := fun n => by simp

  simp only [t1, t2, t3, t4]
  repeat' (first | refine ⟨fun h => ?_, fun h => ?_⟩ | fail)
  all_goals (simp only [bne_iff_ne, ne_eq, bne_eq_false_iff_eq, show (Int.ofNat 0) = (0 : Int) from rfl] at *)
  iterate 10 (rotate_left)
  · -- a net

    rename_i e1 e2 e3 e4 e5 e6 e7 e8 e9
    have e10 := h
    obtain ⟨⟨n4, n16⟩, hr, hnd⟩ := f13 e1 e3
    have g2 := f2 e2
    have g4 := f4 e4
    have g7 := f7 e7
    have g8 := f8 e8
    have hz : cfgErr c = 0 := by simp [cfgErr, e1, e2, e3, e4, e5, e6, e7, e8, e9, e10]
    refine ⟨(by first | (unfold lim; omega) | (dsimp only; unfold lim; omega)), ?_, fun q hq => ?_, .inl ⟨hz, rfl, rfl⟩⟩
    · clear f1 f2 f4 f7 f8 f13 hr hnd
      simp [allT, cfgK_t, okNodes, e1, e2, e3, e4, e5, e6, e7, e8, e9, e10, intsOk_ints, stsOk_sts, inb_arr, inb_lit, eltZ, elt, isI64, intsOk, slC, slRow, hb]
      omega
    · rw [List.mem_singleton.1 hq]
      refine nw_sum c n4 n16 g2.2 hr hnd ⟨BEq.refl _, BEq.refl _, ⟨rfl, rfl, rfl, rfl, .inr (.inl ⟨_, _, _, rfl, rfl, fun i hi => ?_⟩)⟩, ⟨rfl, rfl, rfl, rfl, .inr (.inl ⟨c.np, _, _, by rw [Nat.zero_add], rfl, fun i hi => ?_⟩)⟩, ⟨rfl, rfl, rfl, rfl, .inr (.inl ⟨c.ns, _, _, by rw [Nat.zero_add], rfl, fun i hi => ?_⟩)⟩, ⟨rfl, rfl, rfl, rfl, .inr (.inl ⟨c.nb, _, _, by rw [Nat.zero_add], rfl, fun i hi => ?_⟩)⟩, BEq.refl _, trivial⟩
      · simp [hi, pairF, fA, eltZ, elt, asI]
      · simp [elt]
      · simp [elt]
      · simp [elt]
  all_goals
    clear f13
    refine ⟨(by first | (unfold lim; omega) | (dsimp only; unfold lim; omega)), ?_, (by simp), .inr ⟨?_, ?_⟩⟩
    rotate_left
    · simp_all [cfgErr]
    · simp_all [cfgErr, i64]
    · simp_all [allT, cfgK_t, okNodes, intsOk_ints, stsOk_sts, inb_arr, inb_lit, eltZ, elt, isI64, intsOk, slC, slRow]
      try omega
end Go.Proofs.YtpgaplcdbbnblaaGreatDoor
end
/- Contracts of configs.New: a config that is right, and one that is not. -/
section
namespace Go.Proofs.YtpgaplcdbbnblaaGreatDoor
open Go.RowKit

abbrev netC (ib : Nat) (c : Cfg) : List AC := [.v (.int .i64 c.nodes), .sl (ib + 2) 0 0 c.np (some c.np), .sl (ib + 3) 0 0 c.ns (some c.ns), .v (.int .i64 c.long), .sl (ib + 4) 0 0 c.nb (some c.nb), .sl (ib + 5) 0 0 c.nt (some c.nt), .v (.int .i64 c.miss), .v (.int .i64 c.good), .v (.int .i64 c.fresh), .sl (ib + 1) 0 0 c.nodes.toNat none]
abbrev netY (ib : Nat) (c : Cfg) : ABlk := ⟨true, false, 77, 0, .lit (netC ib c)⟩
abbrev nwN (ib : Nat) (c : Cfg) : List (Nat × Nat × ABlk) := [(ib, 70000000000000000000000000000000000001149, netY ib c), (ib + 1, 50000000000000000000000000000000000001149, intsW c.nodes.toNat (pairF c (2 * c.np))), (ib + 2, 10000000000000000000000000000000000001170, intsW c.np c.fp), (ib + 3, 10000000000000000000000000000000000001197, intsW c.ns c.fs), (ib + 4, 10000000000000000000000000000000000001224, intsW c.nb c.fb), (ib + 5, 10000000000000000000000000000000000001241, stsW c.nt c.ft)]
abbrev nwM (ib : Nat) (c : Cfg) : AMem := [(ib, netY ib c), (ib + 1, intsW c.nodes.toNat (pairF c (2 * c.np))), (ib + 2, intsW c.np c.fp), (ib + 3, intsW c.ns c.fs), (ib + 4, intsW c.nb c.fb), (ib + 5, stsW c.nt c.ft)]
def ctNew : CtF
  | [.agg l], m, ib =>
    match cfgOf l m, subB mS m with
    | some (c, b), true => some (.tup [.c (.ptr ib 0 0), i64 0], nwM ib c, 6, [b, decide (c.nb ≤ 9223372036854775807), decide (cfgErr c = 0)])
    | _, _ => none
  | _, _, _ => none
def ctNewE : CtF
  | [.agg l], m, _ =>
    match cfgOf l m, subB mS m with
    | some (c, b), true => some (.tup [.c (.v (.pointer none)), i64 (cfgErr c)], [], 0, [b, decide (c.nb ≤ 9223372036854775807), decide (cfgErr c ≠ 0)])
    | _, _ => none
  | _, _, _ => none
theorem ad_same {β β' : Nm} {i i' : Nat} (h : β' i' = β i) (k j : Nat) : ad β' i' k j = ad β i k j := by unfold ad; rw [h]
theorem vals_of {β β' : Nm} (L : List Value) (j : Nat) : ∀ u, γc β ((L.map AC.v).getD j nov) = some u → γc β' ((L.map AC.v).getD j nov) = some u := by
  intro u hu
  simp only [List.getD, List.getElem?_map] at hu ⊢
  cases e : L[j]? with
  | none => rw [e] at hu; simp only [Option.map_none, Option.getD_none] at hu ⊢; exact hu
  | some v => rw [e] at hu; simp only [Option.map_some, Option.getD_some] at hu ⊢; exact hu
theorem out_w {β1 β' : Nm} {m1 : AMem} {o ty s n : Nat} {F : Nat → List Value} (h : look m1 o = some (wBlk ty s n F)) : OutOk β1 β' m1 o (wBlk ty s n F) (wBlk ty s n F) :=
  ⟨h, rfl, rfl, rfl, rfl, rfl, rfl, .inr ⟨_, _, rfl, rfl⟩, fun k j _ u hu => vals_of (F k) j u hu⟩
theorem ct_newE : CtOk Tryz.prog 15 ctNewE := by
  refine ⟨⟨_, _, Tryz.func15, rfl⟩, fun C β m m2 w args ib r news k' ob vs hct ho hs hr hfree hlim hv => ?_⟩
  unfold ctNewE at hct
  split at hct
  · rename_i l
    split at hct
    · rename_i c b hc hg
      simp only [Option.some.injEq, Prod.mk.injEq] at hct
      obtain ⟨rfl, rfl, rfl, rfl⟩ := hct
      simp only [allT, List.forall_mem_cons, decide_eq_true_eq] at ho
      obtain ⟨rfl, o2, o3, _⟩ := ho
      obtain ⟨p, ⟨v, b', n', ob, po⟩, hrun, hn, hob, hpo, hvr⟩ := new_run c o2
      obtain ⟨s', r1, r2, r3, r4⟩ := viewF_out hrun
      have hn : n' ≤ lim := hn
      rcases hvr with ⟨h0, _⟩ | ⟨_, hvr⟩
      · exact absurd h0 o3
      simp only [γt, γ1] at hv
      split at hv
      · rename_i v0 us hv0 hus
        split at hv0
        · rename_i cs hcs
          cases hv0
          cases hus
          cases hv
          obtain ⟨β1, q1, q2, q3⟩ := rel_cfg hs hr hc hg hcs
          refine (calls_f hENn r1 ⟨by rw [r3]; exact hob, by rw [r4]; exact hpo⟩ (C := loneC w) (β := β1) (w := w) (vs := [.agg cs.toArray]) ?_ q1 (fun id h1 h2 => q3 id h1 (by omega))).mono ?_
          · simp only [γt, γ1, q2]
          · rintro e w' ⟨β', u, rfl, _, _, hu, hr'⟩
            simp only at hvr
            subst hvr
            exact ⟨β, u, rfl, Ext.refl _, fun _ _ => rfl, hu, by rw [List.append_nil]; exact hr.below (below_lone hr')⟩
        · cases hv0
      · cases hv
    · cases hct
  · cases hct
theorem ct_new : CtOk Tryz.prog 15 ctNew := by
  refine ⟨⟨_, _, Tryz.func15, rfl⟩, fun C β m m2 w args ib r news k' ob vs hct ho hs hr hfree hlim hv => ?_⟩
  unfold ctNew at hct
  split at hct
  · rename_i l
    split at hct
    · rename_i c b hc hg
      simp only [Option.some.injEq, Prod.mk.injEq] at hct
      obtain ⟨rfl, rfl, rfl, rfl⟩ := hct
      simp only [allT, List.forall_mem_cons, decide_eq_true_eq] at ho
      obtain ⟨rfl, o2, o3, _⟩ := ho
      obtain ⟨p, ⟨v, b', n', ob, po⟩, hrun, hn, hob, hpo, hvr⟩ := new_run c o2
      obtain ⟨s', r1, r2, r3, r4⟩ := viewF_out hrun
      have hn : n' ≤ lim := hn
      rcases hvr with ⟨_, hvr, hbl⟩ | ⟨h0, _⟩
      rotate_left
      · exact absurd o3 h0
      simp only [γt, γ1] at hv
      split at hv
      · rename_i v0 us hv0 hus
        split at hv0
        · rename_i cs hcs
          cases hv0
          cases hus
          cases hv
          obtain ⟨β1, q1, q2, q3⟩ := rel_cfg hs hr hc hg hcs
          refine (calls_f hENn r1 ⟨by rw [r3]; exact hob, by rw [r4]; exact hpo⟩ (C := loneC w) (β := β1) (w := w) (vs := [.agg cs.toArray]) ?_ q1 (fun id h1 h2 => q3 id h1 (by omega))).mono ?_
          · simp only [γt, γ1, q2]
          · rintro e w' ⟨β2, u, rfl, _, _, hu, hr'⟩
            simp only at hvr hbl
            subst hvr
            subst hbl
            simp only [List.map_cons, List.map_nil, List.cons.injEq, and_true] at r2
            obtain ⟨k0, _, k1, k2, k3, k4, k5⟩ := r2
            have hnd : ((nwN ib c).map (·.1)).Nodup := by simp
            have hnd2 : ∀ p ∈ nwN ib c, ∀ q ∈ nwN ib c, p.2.1 = q.2.1 → p.1 = q.1 := by
              intro p hp q hq e
              simp only [List.mem_cons, List.not_mem_nil, or_false] at hp hq
              rcases hp with rfl | rfl | rfl | rfl | rfl | rfl <;> rcases hq with rfl | rfl | rfl | rfl | rfl | rfl <;> first | rfl | (exact absurd e (by dsimp only; omega))
            have hj := rel_join hr (below_lone hr') hr' hnd hnd2 (fun p hp => ?_) ?_
            · refine ⟨_, u, rfl, hj.2, fun id h => addN_not fun p hp => ?_, ?_, hj.1⟩
              · simp only [List.mem_cons, List.not_mem_nil, or_false] at hp
                rcases hp with rfl | rfl | rfl | rfl | rfl | rfl <;> dsimp only <;> omega
              · have e0 : addN β β2 (nwN ib c) ib = β2 70000000000000000000000000000000000001149 := addN_mem hnd (p := (ib, _, _)) (List.mem_cons_self ..)
                simp only [γ, γt, γ1, γc, ad_same e0] at hu ⊢
                exact hu
            · simp only [List.mem_cons, List.not_mem_nil, or_false] at hp
              rcases hp with rfl | rfl | rfl | rfl | rfl | rfl <;> exact ⟨hfree _ (by dsimp only; omega) (by dsimp only; omega), not_gid (by dsimp only; omega)⟩
            · have e1 : addN β β2 (nwN ib c) (ib + 1) = β2 50000000000000000000000000000000000001149 := addN_mem hnd (p := (ib + 1, _, _)) (List.mem_cons_of_mem _ (List.mem_cons_self ..))
              have e2 : addN β β2 (nwN ib c) (ib + 2) = β2 10000000000000000000000000000000000001170 := addN_mem hnd (p := (ib + 2, _, _)) (List.mem_cons_of_mem _ (List.mem_cons_of_mem _ (List.mem_cons_self ..)))
              have e3 : addN β β2 (nwN ib c) (ib + 3) = β2 10000000000000000000000000000000000001197 := addN_mem hnd (p := (ib + 3, _, _)) (List.mem_cons_of_mem _ (List.mem_cons_of_mem _ (List.mem_cons_of_mem _ (List.mem_cons_self ..))))
              have e4 : addN β β2 (nwN ib c) (ib + 4) = β2 10000000000000000000000000000000000001224 := addN_mem hnd (p := (ib + 4, _, _)) (List.mem_cons_of_mem _ (List.mem_cons_of_mem _ (List.mem_cons_of_mem _ (List.mem_cons_of_mem _ (List.mem_cons_self ..)))))
              have e5 : addN β β2 (nwN ib c) (ib + 5) = β2 10000000000000000000000000000000000001241 := addN_mem hnd (p := (ib + 5, _, _)) (List.mem_cons_of_mem _ (List.mem_cons_of_mem _ (List.mem_cons_of_mem _ (List.mem_cons_of_mem _ (List.mem_cons_of_mem _ (List.mem_cons_self ..))))))
              intro p hp
              simp only [List.mem_cons, List.not_mem_nil, or_false] at hp
              rcases hp with rfl | rfl | rfl | rfl | rfl | rfl
              · refine ⟨_, k0, rfl, rfl, rfl, rfl, rfl, rfl, .inl ⟨_, _, rfl, rfl, rfl⟩, fun k j hi u hu => ?_⟩
                match j with
                | 0 => exact hu
                | 1 => simp only [Cs.get, List.getD, List.getElem?_cons_succ, List.getElem?_cons_zero, Option.getD_some, γc, e2] at hu ⊢; exact hu
                | 2 => simp only [Cs.get, List.getD, List.getElem?_cons_succ, List.getElem?_cons_zero, Option.getD_some, γc, e3] at hu ⊢; exact hu
                | 3 => exact hu
                | 4 => simp only [Cs.get, List.getD, List.getElem?_cons_succ, List.getElem?_cons_zero, Option.getD_some, γc, e4] at hu ⊢; exact hu
                | 5 => simp only [Cs.get, List.getD, List.getElem?_cons_succ, List.getElem?_cons_zero, Option.getD_some, γc, e5] at hu ⊢; exact hu
                | 6 => exact hu
                | 7 => exact hu
                | 8 => exact hu
                | 9 => simp only [Cs.get, List.getD, List.getElem?_cons_succ, List.getElem?_cons_zero, Option.getD_some, γc, e1] at hu ⊢; exact hu
                | j + 10 => exact hu
              · exact ⟨_, out_w k1⟩
              · exact ⟨_, out_w k2⟩
              · exact ⟨_, out_w k3⟩
              · exact ⟨_, out_w k4⟩
              · exact ⟨_, out_w k5⟩
        · cases hv0
      · cases hv
    · cases hct
  · cases hct
end Go.Proofs.YtpgaplcdbbnblaaGreatDoor
end
/- Nets as the evaluator reads them; contracts of functions of a net that write nothing. -/
section
namespace Go.Proofs.YtpgaplcdbbnblaaGreatDoor
open Go.RowKit

/-- the cells of a net whose lists are named 0 to 4 -/
abbrev netC0 (c : Cfg) (nq : Nat) : List AC := [.v (.int .i64 c.nodes), .sl 0 0 0 c.np none, .sl 1 0 0 c.ns none, .v (.int .i64 c.long), .sl 2 0 0 c.nb none, .sl 3 0 0 c.nt none, .v (.int .i64 c.miss), .v (.int .i64 c.good), .v (.int .i64 c.fresh), .sl 4 0 0 nq none]
abbrev netL (c : Cfg) (nq : Nat) (fq : Nat → Int) : AMem := [(0, ints 3 c.np c.fp), (1, ints 3 c.ns c.fs), (2, ints 3 c.nb c.fb), (3, sts c.nt c.ft), (4, ints 3 nq fq), (5, ⟨false, false, 77, 0, .lit (netC0 c nq)⟩)]
abbrev netM (c : Cfg) (nq : Nat) (fq : Nat → Int) : AMem := [(gid 2, signB), (0, ints 3 c.np c.fp), (1, ints 3 c.ns c.fs), (2, ints 3 c.nb c.fb), (3, sts c.nt c.ft), (4, ints 3 nq fq), (5, ⟨false, false, 77, 0, .lit (netC0 c nq)⟩)]
def netOf (l : List AC) (m : AMem) : Option (Cfg × Nat × (Nat → Int) × Bool) :=
  match l with
  | [.v (.int .i64 nodes), p, s, .v (.int .i64 long), b, t, .v (.int .i64 miss), .v (.int .i64 good), .v (.int .i64 fresh), q] =>
    match slOf 1 m p, slOf 1 m s, slOf 1 m b, slOf 3 m t, slOf 1 m q with
    | some (np, P, b1), some (ns, S, b2), some (nb, B, b3), some (nt, T, b4), some (nq, Q, b5) => some (⟨nodes, np, fA P, ns, fA S, long, nb, fA B, nt, stOf T, miss, good, fresh⟩, nq, fA Q, b1 && (b2 && (b3 && (b4 && (b5 && (intsOk np P && (intsOk ns S && (intsOk nb B && (stsOk nt T && intsOk nq Q)))))))))
    | _, _, _, _, _ => none
  | _ => none
theorem subB_ro {G m : AMem} (hg : subB G m = true) : ∀ id x, look G id = some x → x.own = false ∧ isO x = false := by
  intro id x hx
  have h1 := List.all_eq_true.1 hg _ (look_mem hx)
  simp only at h1
  split at h1
  · simp only [Bool.and_eq_true, Bool.not_eq_true'] at h1
    refine ⟨h1.1, ?_⟩
    have h3 := h1.2
    unfold eqBk at h3
    split at h3
    · rename_i l q _ hq; simp [isO, hq]
    · cases h3
  · cases h1
theorem rel_netG {G : AMem} (hG : (G.all fun p => Nat.ble lim p.1) = true) {C : Ctx} {β : Nm} {m m2 : AMem} {w : World} (hs : Sub m m2) (hr : Rel C β m2 w) {l : List AC} {id0 : Nat} {x0 : ABlk} (hx0 : look m id0 = some x0) (hc0 : x0.cs = .lit l) {c : Cfg} {nq : Nat} {fq : Nat → Int} (h : netOf l m = some (c, nq, fq, true)) (hg : subB G m = true) {v0 : Value} (hv : γc β (.ptr id0 0 0) = some v0) :
    ∃ β', Rel (loneC w) β' (G ++ netL c nq fq) w ∧ γc β' (.ptr 5 0 0) = some v0 ∧ ∀ id, 1000 ≤ id → id < lim → β' id = none := by
  obtain ⟨LN, hLN, hkN⟩ := hr.blk id0 x0 (hs _ _ hx0)
  have hsz := hkN.lit l hc0
  unfold netOf at h
  split at h
  · rename_i nodes p s long b t miss good fresh q
    split at h
    · rename_i np P b1 ns S b2 nb B b3 nt T b4 nq' Q b5 hp hsl hb ht hq
      simp only [Option.some.injEq, Prod.mk.injEq, Bool.and_eq_true] at h
      obtain ⟨rfl, rfl, rfl, rfl, rfl, rfl, rfl, rfl, i1, i2, i3, i4, i5⟩ := h
      have cell : ∀ j, j < 10 → LN.nil = false ∧ ∃ u, γc β ((Cs.lit [.v (.int .i64 nodes), p, s, .v (.int .i64 long), b, t, .v (.int .i64 miss), .v (.int .i64 good), .v (.int .i64 fresh), q]).get 0 j) = some u ∧ u.oneCell' = true ∧ w.cell? ⟨LN.b, LN.o + j, none⟩ = some u := by
        intro j hj
        obtain ⟨g1, u, g2, g3, g4⟩ := hkN.cells 0 j (by simp only [ABlk.inb, hc0, hsz]; simp; omega)
        rw [hc0] at g2
        rw [Nat.zero_mul, Nat.zero_add] at g4
        exact ⟨g1, u, g2, g3, g4⟩
      have hnil := (cell 0 (by omega)).1
      obtain ⟨v1, g1⟩ : ∃ v, γc β p = some v := by obtain ⟨_, u, g2, _⟩ := cell 1 (by omega); exact ⟨u, g2⟩
      obtain ⟨v2, g2⟩ : ∃ v, γc β s = some v := by obtain ⟨_, u, g2, _⟩ := cell 2 (by omega); exact ⟨u, g2⟩
      obtain ⟨v4, g4⟩ : ∃ v, γc β b = some v := by obtain ⟨_, u, g2, _⟩ := cell 4 (by omega); exact ⟨u, g2⟩
      obtain ⟨v5, g5⟩ : ∃ v, γc β t = some v := by obtain ⟨_, u, g2, _⟩ := cell 5 (by omega); exact ⟨u, g2⟩
      obtain ⟨v9, g9⟩ : ∃ v, γc β q = some v := by obtain ⟨_, u, g2, _⟩ := cell 9 (by omega); exact ⟨u, g2⟩
      have r0 := rel_glob hr hs hg hG
      have n0 := subB_ro hg
      have hlo : ∀ id, id < lim → nmG β id = none := fun id h => by unfold nmG; rw [if_neg (by omega)]
      have hgi : ∀ (id : Nat), id < lim → ∀ g, id ≠ gid g := fun id h => not_gid h
      obtain ⟨L0, k0, z0⟩ := blk_slice hr Nat.one_pos (slOf_sub hs hp) g1 3 (intsOk_eq i1) (fun _ => rfl) (loneC w) (nmG β) rfl
      obtain ⟨r1, n1⟩ := rel_add_ro r0 n0 (id := 0) (hlo 0 (by unfold lim; omega)) (hgi 0 (by unfold lim; omega)) rfl rfl k0
      obtain ⟨L1, k1, z1⟩ := blk_slice hr Nat.one_pos (slOf_sub hs hsl) g2 3 (intsOk_eq i2) (fun _ => rfl) (loneC w) (ext1 (nmG β) 0 L0) rfl
      obtain ⟨r2, n2⟩ := rel_add_ro r1 n1 (id := 1) (by simp [ext1, hlo 1 (by unfold lim; omega)]) (hgi 1 (by unfold lim; omega)) rfl rfl k1
      obtain ⟨L2, k2, z2⟩ := blk_slice hr Nat.one_pos (slOf_sub hs hb) g4 3 (intsOk_eq i3) (fun _ => rfl) (loneC w) (ext1 (ext1 (nmG β) 0 L0) 1 L1) rfl
      obtain ⟨r3, n3⟩ := rel_add_ro r2 n2 (id := 2) (by simp [ext1, hlo 2 (by unfold lim; omega)]) (hgi 2 (by unfold lim; omega)) rfl rfl k2
      obtain ⟨L3, k3, z3⟩ := blk_slice hr (by omega : 0 < 3) (slOf_sub hs ht) g5 161 (stsOk_eq i4) (fun _ => rfl) (loneC w) (ext1 (ext1 (ext1 (nmG β) 0 L0) 1 L1) 2 L2) rfl
      obtain ⟨r4, n4⟩ := rel_add_ro r3 n3 (id := 3) (by simp [ext1, hlo 3 (by unfold lim; omega)]) (hgi 3 (by unfold lim; omega)) rfl rfl k3
      obtain ⟨L4, k4, z4⟩ := blk_slice hr Nat.one_pos (slOf_sub hs hq) g9 3 (intsOk_eq i5) (fun _ => rfl) (loneC w) (ext1 (ext1 (ext1 (ext1 (nmG β) 0 L0) 1 L1) 2 L2) 3 L3) rfl
      obtain ⟨r5, n5⟩ := rel_add_ro r4 n4 (id := 4) (by simp [ext1, hlo 4 (by unfold lim; omega)]) (hgi 4 (by unfold lim; omega)) rfl rfl k4
      obtain ⟨β5, hβ5⟩ : ∃ β5, β5 = ext1 (ext1 (ext1 (ext1 (ext1 (nmG β) 0 L0) 1 L1) 2 L2) 3 L3) 4 L4 := ⟨_, rfl⟩
      rw [← hβ5] at r5
      have y0 := z0 β5 0 (by rw [hβ5]; simp [ext1])
      have y1 := z1 β5 1 (by rw [hβ5]; simp [ext1])
      have y2 := z2 β5 2 (by rw [hβ5]; simp [ext1])
      have y3 := z3 β5 3 (by rw [hβ5]; simp [ext1])
      have y4 := z4 β5 4 (by rw [hβ5]; simp [ext1])
      have h5 : ∀ id, 5 ≤ id → id < lim → β5 id = none := fun id h1 h2 => by
        rw [hβ5]
        simp [ext1, hlo id h2, show id ≠ 0 by omega, show id ≠ 1 by omega, show id ≠ 2 by omega, show id ≠ 3 by omega, show id ≠ 4 by omega]
      have hkn : BlkOk (loneC w) β5 w ⟨LN.b, LN.o, 0, LN.cap, LN.nil⟩ ⟨false, false, 77, 0, .lit (netC0 ⟨nodes, np, fA P, ns, fA S, long, nb, fA B, nt, stOf T, miss, good, fresh⟩ nq')⟩ := by
        refine ⟨rfl, fun _ _ => rfl, fun k j hi => ?_, hkN.lt, fun ho => (by cases ho), fun n f hf => (by cases hf), fun ho => (by cases ho)⟩
        have hj : j < 10 := by simp [ABlk.inb] at hi; omega
        obtain ⟨_, u, e2, e3, e4⟩ := cell j hj
        refine ⟨hnil, u, ?_, e3, by rw [Nat.mul_zero, Nat.zero_add]; exact e4⟩
        match j, hj with
        | 0, _ => exact e2
        | 1, _ => exact y0.trans (g1.symm.trans e2)
        | 2, _ => exact y1.trans (g2.symm.trans e2)
        | 3, _ => exact e2
        | 4, _ => exact y2.trans (g4.symm.trans e2)
        | 5, _ => exact y3.trans (g5.symm.trans e2)
        | 6, _ => exact e2
        | 7, _ => exact e2
        | 8, _ => exact e2
        | 9, _ => exact y4.trans (g9.symm.trans e2)
      obtain ⟨r6, _⟩ := rel_add_ro r5 n5 (id := 5) (h5 5 (by omega) (by unfold lim; omega)) (hgi 5 (by unfold lim; omega)) rfl rfl hkn
      simp only [List.append_assoc, List.cons_append, List.nil_append] at r6
      refine ⟨_, r6, ?_, fun id h1 h2 => ?_⟩
      · simp only [γc, ad, hLN, hnil, Bool.false_eq_true, if_false, Nat.zero_mul, Nat.add_zero, Option.some.injEq] at hv
        simp only [γc, ad, ext1_same, hnil, Bool.false_eq_true, if_false, Nat.zero_mul, Nat.add_zero, Option.some.injEq]
        exact hv
      · unfold ext1
        rw [if_neg (by omega)]
        exact h5 id (by omega) h2
    · cases h
  · cases h
theorem rel_net {C : Ctx} {β : Nm} {m m2 : AMem} {w : World} (hs : Sub m m2) (hr : Rel C β m2 w) {l : List AC} {id0 : Nat} {x0 : ABlk} (hx0 : look m id0 = some x0) (hc0 : x0.cs = .lit l) {c : Cfg} {nq : Nat} {fq : Nat → Int} (h : netOf l m = some (c, nq, fq, true)) (hg : subB mS m = true) {v0 : Value} (hv : γc β (.ptr id0 0 0) = some v0) :
    ∃ β', Rel (loneC w) β' (netM c nq fq) w ∧ γc β' (.ptr 5 0 0) = some v0 ∧ ∀ id, 1000 ≤ id → id < lim → β' id = none := rel_netG (G := mS) (by kernel_rfl) hs hr hx0 hc0 h hg hv
def netK (c : Cfg) (nq : Nat) (fq : Nat → Int) : Bool := decide (0 + Cfg.np c ≤ Cfg.np c) && (decide (0 + Cfg.ns c ≤ Cfg.ns c) && (decide (0 + Cfg.nb c ≤ Cfg.nb c) && (decide (0 + Cfg.nt c ≤ Cfg.nt c) && (decide (0 + nq ≤ nq) && ((intsOk (Cfg.np c) fun k => List.map AC.v ((fun i => [Value.int IntKind.i64 (Cfg.fp c i)]) k)) && ((intsOk (Cfg.ns c) fun k => List.map AC.v ((fun i => [Value.int IntKind.i64 (Cfg.fs c i)]) k)) && ((intsOk (Cfg.nb c) fun k => List.map AC.v ((fun i => [Value.int IntKind.i64 (Cfg.fb c i)]) k)) && ((stsOk (Cfg.nt c) fun k => List.map AC.v ((fun i => [Value.int IntKind.i64 (Station.node (Cfg.ft c i)), Value.int IntKind.u32 (Station.safe (Cfg.ft c i)), Value.int IntKind.i64 (Station.hold (Cfg.ft c i))]) k)) && intsOk nq fun k => List.map AC.v ((fun i => [Value.int IntKind.i64 (fq i)]) k)))))))))
theorem netK_t (c : Cfg) (nq : Nat) (fq : Nat → Int) : netK c nq fq = true := by simp [netK, intsOk, isI64, stsOk, isSt]
def intsA : List AV → Option (List Int)
  | [] => some []
  | .c (.v (.int .i64 z)) :: r => match intsA r with | some zs => some (z :: zs) | none => none
  | _ => none
abbrev argsI (zs : List Int) : List AV := zs.map fun z => .c (.v (.int .i64 z))
theorem intsA_eq : ∀ {l : List AV} {zs : List Int}, intsA l = some zs → l = argsI zs := by
  intro l
  induction l with
  | nil => intro zs h; cases h; rfl
  | cons a r ih =>
    intro zs h
    unfold intsA at h
    split at h
    · rename_i e; cases e
    · rename_i z r' e
      cases e
      cases e2 : intsA r with
      | none => rw [e2] at h; cases h
      | some zs' => rw [e2] at h; cases h; rw [ih e2]; rfl
    · cases h
/-- a contract of a function of a net, and of numbers, that writes nothing and answers by plain values -/
def ctNet (R : Cfg → Nat → (Nat → Int) → List Int → AV) (pre : Cfg → Nat → (Nat → Int) → List Int → Bool) : CtF
  | .c (.ptr id 0 0) :: rest, m, _ =>
    match look m id, intsA rest, subB mS m with
    | some ⟨_, _, _, _, .lit l⟩, some zs, true => match netOf l m with | some (c, nq, fq, b) => some (R c nq fq zs, [], 0, [b, pre c nq fq zs]) | none => none
    | _, _, _ => none
  | _, _, _ => none
theorem ctNet_of {P : Program} {f : FuncId} {R : Cfg → Nat → (Nat → Int) → List Int → AV} {pre : Cfg → Nat → (Nat → Int) → List Int → Bool} (hf : ∃ (fn : Func) (c : Code), P.funcs[f]? = some fn ∧ fn.body = some c) (hres : ∀ c nq fq zs (β1 β2 : Nm) u, γ β1 (R c nq fq zs) = some u → γ β2 (R c nq fq zs) = some u) (many : Nat)
    (run : ∀ c nq fq zs, pre c nq fq zs = true → zs.length = many → ∃ (E : Env) (fuel str : Nat), E.P = P ∧ EnvOk E ∧ ∃ p lp r, viewF [] (fCallF E (fC E fuel) f (.c (.ptr 5 0 0) :: argsI zs) 1000 str (stA (netM c nq fq) p lp)) = some r ∧ r.1 = R c nq fq zs ∧ r.2.2.1 ≤ lim ∧ allT r.2.2.2.1 ∧ ∀ q ∈ r.2.2.2.2, q) : CtOk P f (ctNet R fun c nq fq zs => pre c nq fq zs && decide (zs.length = many)) := by
  refine ⟨hf, fun C β m m2 w args ib r news k' ob vs hct ho hs hr hfree hlim hv => ?_⟩
  unfold ctNet at hct
  split at hct
  · rename_i id rest
    split at hct
    · rename_i o1 r1' t1 s1 l zs hlk hzs hg
      split at hct
      · rename_i c nq fq b hc
        simp only [Option.some.injEq, Prod.mk.injEq] at hct
        obtain ⟨rfl, rfl, rfl, rfl⟩ := hct
        simp only [allT, List.forall_mem_cons, Bool.and_eq_true, decide_eq_true_eq] at ho
        obtain ⟨rfl, ⟨o2, o3⟩, _⟩ := ho
        obtain ⟨E, fuel, str, rfl, hE, p, lp, ⟨v, b', n', ob, po⟩, hrun, hvr, hn, hob, hpo⟩ := run c nq fq zs o2 o3
        obtain ⟨s', r1, r2, r3, r4⟩ := viewF_out hrun
        have hn : n' ≤ lim := hn
        obtain rfl := intsA_eq hzs
        simp only [γt] at hv
        split at hv
        · rename_i v0 us hv0 hus
          cases hv
          obtain ⟨β1, q1, q2, q3⟩ := rel_net hs hr hlk rfl hc hg hv0
          refine (calls_f hE r1 ⟨by rw [r3]; exact hob, by rw [r4]; exact hpo⟩ (C := loneC w) (β := β1) (w := w) (vs := v0 :: us) ?_ q1 (fun id h1 h2 => q3 id h1 (by omega))).mono ?_
          · have hus' := γt_valsI (zs.map fun z => Value.int .i64 z) (restA := argsI zs) (by simp [argsI]) β β1 us hus
            simp only [γt, γ1, q2, hus']
          · rintro e w' ⟨β', u, rfl, _, _, hu, hr'⟩
            simp only at hvr
            subst hvr
            exact ⟨β, u, rfl, Ext.refl _, fun _ _ => rfl, hres _ _ _ _ _ _ _ hu, by rw [List.append_nil]; exact hr.below (below_lone hr')⟩
        · cases hv
      · cases hct
    · cases hct
  · cases hct
def netR (P : Program) (f : FuncId) (c : Cfg) (nq : Nat) (fq : Nat → Int) (zs : List Int) (path : List Dec) : Option VF := viewF [] (fCallF (E1 P) (fC (E1 P) 300) f (.c (.ptr 5 0 0) :: argsI zs) 1000 10000000000000000000000000000000000000000 (stA (netM c nq fq) path []))
end Go.Proofs.YtpgaplcdbbnblaaGreatDoor
end
/- sennitref03.Distance: its loop's round as the evaluator runs it; the function. -/
section
namespace Go.Proofs.YtpgaplcdbbnblaaGreatDoor
open Go.RowKit

abbrev rdV (n d b x : Int) (k : Nat) : List AV := [i64 n, u8A d, i64 x, i64 b, i64 (Int.ofNat k)]
def rdR (P : Program) (n d b x : Int) (k : Nat) (path : List Dec) : Option VC :=
  view ([0, 1, 2, 3, 9] ++ []) [] (fC (E1 P) 100 (loopAt P 248 0) 1000000000000000000000000000000000000000000 10000000000000000000000000000000000000000 (stH 42 [0, 1, 2, 3, 9] [] (rdV n d b x k) [] path []))
theorem rd3 (n d b x : Int) (k : Nat) (Q : VC → Prop) (H : (((x != b) = true → (((d == Int.ofNat 0) = true → (((x == IntKind.wrap .i64 (n - Int.ofNat 1)) = true → Q (Exit.normal, [some (lkA (List.zip [0, 1, 2, 3, 9] (rdV n d b x k)) 0), some (lkA (List.zip [0, 1, 2, 3, 9] (rdV n d b x k)) (0 + 1)), some (.c (.v (.int .i64 (Int.ofNat 0)))), some (lkA (List.zip [0, 1, 2, 3, 9] (rdV n d b x k)) (0 + 1 + 1 + 1)), some (.c (.v (.int .i64 (IntKind.wrap .i64 (Int.ofNat k + Int.ofNat 1)))))], [], 42, 1000000000000000000000000000000000000000018, [(x == IntKind.wrap .i64 (n - Int.ofNat 1)) == true, (d == Int.ofNat 0) == true, (x != b) == true], [])) ∧ ((x == IntKind.wrap .i64 (n - Int.ofNat 1)) = false → Q (Exit.normal, [some (lkA (List.zip [0, 1, 2, 3, 9] (rdV n d b x k)) 0), some (lkA (List.zip [0, 1, 2, 3, 9] (rdV n d b x k)) (0 + 1)), some (.c (.v (.int .i64 (IntKind.wrap .i64 (x + Int.ofNat 1))))), some (lkA (List.zip [0, 1, 2, 3, 9] (rdV n d b x k)) (0 + 1 + 1 + 1)), some (.c (.v (.int .i64 (IntKind.wrap .i64 (Int.ofNat k + Int.ofNat 1)))))], [], 42, 1000000000000000000000000000000000000000020, [(x == IntKind.wrap .i64 (n - Int.ofNat 1)) == false, (d == Int.ofNat 0) == true, (x != b) == true], [])))) ∧ ((d == Int.ofNat 0) = false → (((x == Int.ofNat 0) = true → Q (Exit.normal, [some (lkA (List.zip [0, 1, 2, 3, 9] (rdV n d b x k)) 0), some (lkA (List.zip [0, 1, 2, 3, 9] (rdV n d b x k)) (0 + 1)), some (.c (.v (.int .i64 (IntKind.wrap .i64 (n - Int.ofNat 1))))), some (lkA (List.zip [0, 1, 2, 3, 9] (rdV n d b x k)) (0 + 1 + 1 + 1)), some (.c (.v (.int .i64 (IntKind.wrap .i64 (Int.ofNat k + Int.ofNat 1)))))], [], 42, 1000000000000000000000000000000000000000018, [(x == Int.ofNat 0) == true, (d == Int.ofNat 0) == false, (x != b) == true], [])) ∧ ((x == Int.ofNat 0) = false → Q (Exit.normal, [some (lkA (List.zip [0, 1, 2, 3, 9] (rdV n d b x k)) 0), some (lkA (List.zip [0, 1, 2, 3, 9] (rdV n d b x k)) (0 + 1)), some (.c (.v (.int .i64 (IntKind.wrap .i64 (x - Int.ofNat 1))))), some (lkA (List.zip [0, 1, 2, 3, 9] (rdV n d b x k)) (0 + 1 + 1 + 1)), some (.c (.v (.int .i64 (IntKind.wrap .i64 (Int.ofNat k + Int.ofNat 1)))))], [], 42, 1000000000000000000000000000000000000000018, [(x == Int.ofNat 0) == false, (d == Int.ofNat 0) == false, (x != b) == true], [])))))) ∧ ((x != b) = false → Q (Exit.exit 0, [some (lkA (List.zip [0, 1, 2, 3, 9] (rdV n d b x k)) 0), some (lkA (List.zip [0, 1, 2, 3, 9] (rdV n d b x k)) (0 + 1)), some (lkA (List.zip [0, 1, 2, 3, 9] (rdV n d b x k)) (0 + 1 + 1)), some (lkA (List.zip [0, 1, 2, 3, 9] (rdV n d b x k)) (0 + 1 + 1 + 1)), some (lkA (List.zip [0, 1, 2, 3, 9] (rdV n d b x k)) (0 + 1 + 1 + 1 + 1 + 1 + 1 + 1 + 1 + 1))], [], 42, 1000000000000000000000000000000000000000003, [(x != b) == false], [])))) :
    ∃ p r, rdR Tryz.prog n d b x k p = some r ∧ Q r :=
  two H
  (fun g1 => two g1
    (fun g2 => two g2
      (fun g3 => ⟨pD 3 13, _, by kernel_rfl, g3⟩)
      (fun g3 => ⟨pD 3 22, _, by kernel_rfl, g3⟩))
    (fun g2 => two g2
      (fun g3 => ⟨pD 3 16, _, by kernel_rfl, g3⟩)
      (fun g3 => ⟨pD 3 25, _, by kernel_rfl, g3⟩)))
  (fun g1 => ⟨pD 1 2, _, by kernel_rfl, g1⟩)
def rdF (P : Program) (n d a b : Int) (j : Nat) (path : List Dec) : Option VF := viewF [] (fCallF (E1 P) (fC (E1 P) 300) 248 [i64 n, u8A d, i64 a, i64 b] 1000 10000000000000000000000000000000000000000 (stA [] path [some ⟨[0, 1, 2, 3, 9], [], mkFr 42 [(9, i64 (Int.ofNat j))], [], 100000000000000000000000000000000000000000000000000, .exit 0⟩]))
theorem rd3F (n d a b : Int) (j : Nat) (Q : VF → Prop) (H : (((decide (n ≥ Int.ofNat 4)) = true → (((decide (n ≤ Int.ofNat 16)) = true → (((!decide (d < Int.ofNat 2)) = true → Q (.c (.v (.int .i64 (Int.negSucc 0))), [], 1025, [(!decide (d < Int.ofNat 2)) == true, decide (n ≤ Int.ofNat 16) == true, decide (n ≥ Int.ofNat 4) == true], [])) ∧ ((!decide (d < Int.ofNat 2)) = false → (((decide (a < Int.ofNat 0)) = true → Q (.c (.v (.int .i64 (Int.negSucc 0))), [], 1027, [decide (a < Int.ofNat 0) == true, (!decide (d < Int.ofNat 2)) == false, decide (n ≤ Int.ofNat 16) == true, decide (n ≥ Int.ofNat 4) == true], [])) ∧ ((decide (a < Int.ofNat 0)) = false → (((decide (a ≥ n)) = true → Q (.c (.v (.int .i64 (Int.negSucc 0))), [], 1030, [decide (a ≥ n) == true, decide (a < Int.ofNat 0) == false, (!decide (d < Int.ofNat 2)) == false, decide (n ≤ Int.ofNat 16) == true, decide (n ≥ Int.ofNat 4) == true], [])) ∧ ((decide (a ≥ n)) = false → (((decide (b < Int.ofNat 0)) = true → Q (.c (.v (.int .i64 (Int.negSucc 0))), [], 1032, [decide (b < Int.ofNat 0) == true, decide (a ≥ n) == false, decide (a < Int.ofNat 0) == false, (!decide (d < Int.ofNat 2)) == false, decide (n ≤ Int.ofNat 16) == true, decide (n ≥ Int.ofNat 4) == true], [])) ∧ ((decide (b < Int.ofNat 0)) = false → (((decide (b ≥ n)) = true → Q (.c (.v (.int .i64 (Int.negSucc 0))), [], 1035, [decide (b ≥ n) == true, decide (b < Int.ofNat 0) == false, decide (a ≥ n) == false, decide (a < Int.ofNat 0) == false, (!decide (d < Int.ofNat 2)) == false, decide (n ≤ Int.ofNat 16) == true, decide (n ≥ Int.ofNat 4) == true], [])) ∧ ((decide (b ≥ n)) = false → Q (.c (.v (.int .i64 (Int.ofNat j))), [], 100000000000000000000000000000000000000000000000002, [decide (b ≥ n) == false, decide (b < Int.ofNat 0) == false, decide (a ≥ n) == false, decide (a < Int.ofNat 0) == false, (!decide (d < Int.ofNat 2)) == false, decide (n ≤ Int.ofNat 16) == true, decide (n ≥ Int.ofNat 4) == true], [LoopV Tryz.prog (loopAt Tryz.prog 248 0) [0, 1, 2, 3, 9] [] [some (.c (.v (.int .i64 n))), some (.c (.v (.int .u8 d))), some (.c (.v (.int .i64 a))), some (.c (.v (.int .i64 b))), some (.c (.v (.int .i64 (Int.ofNat 0))))] [] 42 1035 (mkFr 42 [(9, i64 (Int.ofNat j))]) [] 100000000000000000000000000000000000000000000000000 (Exit.exit 0) none])))))))))))) ∧ ((decide (n ≤ Int.ofNat 16)) = false → Q (.c (.v (.int .i64 (Int.negSucc 0))), [], 1023, [decide (n ≤ Int.ofNat 16) == false, decide (n ≥ Int.ofNat 4) == true], [])))) ∧ ((decide (n ≥ Int.ofNat 4)) = false → Q (.c (.v (.int .i64 (Int.negSucc 0))), [], 1021, [decide (n ≥ Int.ofNat 4) == false], [])))) :
    ∃ p r, rdF Tryz.prog n d a b j p = some r ∧ Q r :=
  two H
  (fun g1 => two g1
    (fun g2 => two g2
      (fun g3 => ⟨pD 15 91, _, by kernel_rfl, g3⟩)
      (fun g3 => two g3
        (fun g4 => ⟨pD 15 901, _, by kernel_rfl, g4⟩)
        (fun g4 => two g4
          (fun g5 => ⟨pD 15 21313, _, by kernel_rfl, g5⟩)
          (fun g5 => two g5
            (fun g6 => ⟨pD 15 218143, _, by kernel_rfl, g6⟩)
            (fun g6 => two g6
              (fun g7 => ⟨pD 15 5178259, _, by kernel_rfl, g7⟩)
              (fun g7 => ⟨pD 15 9961228, _, by kernel_rfl, g7⟩))))))
    (fun g2 => ⟨pD 15 19, _, by kernel_rfl, g2⟩))
  (fun g1 => ⟨pD 15 2, _, by kernel_rfl, g1⟩)
end Go.Proofs.YtpgaplcdbbnblaaGreatDoor
end
/- What functions of a net, or of a config, and of plain values, read. -/
section
namespace Go.Proofs.YtpgaplcdbbnblaaGreatDoor
open Go.RowKit

structure NetS where
  c : Cfg
  nq : Nat
  fq : Nat → Int
  rest : List AV
def netRdG (G : AMem) (hG : (G.all fun p => Nat.ble lim p.1) = true) : Rd NetS where
  dec := fun xs m =>
    match xs with
    | .c (.ptr id 0 0) :: rest =>
      match look m id, plainL rest, subB G m with
      | some ⟨_, _, _, _, .lit l⟩, true, true => match netOf l m with | some (c, nq, fq, b) => some (⟨c, nq, fq, rest⟩, b) | none => none
      | _, _, _ => none
    | _ => none
  args := fun s => .c (.ptr 5 0 0) :: s.rest
  mem := fun s => G ++ netL s.c s.nq s.fq
  ok := by
    intro C β m m2 w xs s vs hs hr hd hv
    split at hd
    · rename_i id rest
      split at hd
      · rename_i o1 r1' t1 s1 l hlk hpl hg
        split at hd
        · rename_i c nq fq b hc
          simp only [Option.some.injEq, Prod.mk.injEq] at hd
          obtain ⟨rfl, rfl⟩ := hd
          simp only [γt] at hv
          split at hv
          · rename_i v0 us hv0 hus
            cases hv
            obtain ⟨β1, q1, q2, q3⟩ := rel_netG hG hs hr hlk rfl hc hg hv0
            refine ⟨β1, q1, ?_, q3⟩
            simp only [γt, γ1, q2, plainL_γ hpl hus]
          · cases hv
        · cases hd
      · cases hd
    · cases hd
end Go.Proofs.YtpgaplcdbbnblaaGreatDoor
end
/- What a net answers, First, as the evaluator runs it. -/
section
namespace Go.Proofs.YtpgaplcdbbnblaaGreatDoor
open Go.RowKit

theorem nFirst (c : Cfg) (nq : Nat) (fq : Nat → Int) (z : Int) (Q : VF → Prop) (H : (((!decide (↑nq > Int.ofNat 0)) = true → Q (.c (.v (.int .i64 (Int.negSucc 0))), [], 1016, [(!decide (↑nq > Int.ofNat 0)) == true, true], [])) ∧ ((!decide (↑nq > Int.ofNat 0)) = false → (((decide (z < Int.ofNat 0)) = true → Q (.c (.v (.int .i64 (Int.negSucc 0))), [], 1028, [decide (z < Int.ofNat 0) == true, true, (!decide (↑nq > Int.ofNat 0)) == false, true], [])) ∧ ((decide (z < Int.ofNat 0)) = false → (((decide (z ≥ ↑(c.np))) = true → Q (.c (.v (.int .i64 (Int.negSucc 0))), [], 1032, [decide (z ≥ ↑(c.np)) == true, decide (z < Int.ofNat 0) == false, true, (!decide (↑nq > Int.ofNat 0)) == false, true], [])) ∧ ((decide (z ≥ ↑(c.np))) = false → Q (.c (.v (.int .i64 (c.fp (0 + Int.toNat z)))), [], 1036, [ABlk.inb (ABlk.mk false false 3 1 (Cs.arr (c.np) fun k => List.map AC.v ((fun i => [Value.int .i64 (c.fp i)]) k))) (0 + Int.toNat z) 1, true, decide (Int.ofNat 0 ≤ z ∧ z < ↑(c.np)), decide (z ≥ ↑(c.np)) == false, decide (z < Int.ofNat 0) == false, true, (!decide (↑nq > Int.ofNat 0)) == false, true], [])))))))) :
    ∃ p r, netR Tryz.prog 71 c nq fq [z] p = some r ∧ Q r :=
  two H
  (fun g1 => ⟨pD 7 729, _, by kernel_rfl, g1⟩)
  (fun g1 => two g1
    (fun g2 => ⟨pD 12 3645, _, by kernel_rfl, g2⟩)
    (fun g2 => two g2
      (fun g3 => ⟨pD 12 182979, _, by kernel_rfl, g3⟩)
      (fun g3 => ⟨pD 12 360126, _, by kernel_rfl, g3⟩)))
end Go.Proofs.YtpgaplcdbbnblaaGreatDoor
end
/- A function of a config whose calls are told by contracts that hang on the config; configs.New either way. -/
section
namespace Go.Proofs.YtpgaplcdbbnblaaGreatDoor
open Go.RowKit

/-- the same, by whatever tells what is wrong (a name in the explorer: the kernel shall not look into it) -/
def ctNew0 (err : Cfg → Int) : CtF
  | [.agg l], m, ib =>
    match cfgOf l m, subB mS m with
    | some (c, b), true => some (.tup [.c (.ptr ib 0 0), i64 0], nwM ib c, 6, [b, decide (c.nb ≤ 9223372036854775807), decide (err c = 0)])
    | _, _ => none
  | _, _, _ => none
def ctNew1 (err : Cfg → Int) : CtF
  | [.agg l], m, _ =>
    match cfgOf l m, subB mS m with
    | some (c, b), true => some (.tup [.c (.v (.pointer none)), i64 (err c)], [], 0, [b, decide (c.nb ≤ 9223372036854775807), decide (err c ≠ 0)])
    | _, _ => none
  | _, _, _ => none
theorem ct_new0 : CtOk Tryz.prog 15 (ctNew0 cfgErr) := ct_new
theorem ct_new1 : CtOk Tryz.prog 15 (ctNew1 cfgErr) := ct_newE
end Go.Proofs.YtpgaplcdbbnblaaGreatDoor
end
/- What a net answers: plain definitions; functions of a net, of a config. -/
section
namespace Go.Proofs.YtpgaplcdbbnblaaGreatDoor
open Go.RowKit

/-- the element at a place, or -1 -/
def atF (f : Nat → Int) (n : Nat) (z : Int) : Int := if 0 ≤ z ∧ z < n then f z.toNat else -1
def roundN (c : Cfg) (nq : Nat) : Int := if nq = 0 then 0 else IntKind.wrap .i64 (c.ns * c.long)
def ctNet1 (R : Cfg → Nat → (Nat → Int) → Int → Int) : CtF := ctNet (fun c nq fq zs => i64 (R c nq fq (zs.headD 0))) fun c nq fq zs => true && decide (zs.length = 1)
def ctRoundN : CtF := ctNet (fun c nq _ _ => i64 (roundN c nq)) fun c nq fq zs => true && decide (zs.length = 0)
/-- a round's length, of a net that may be -/
def ckPre (c : Cfg) (nq : Nat) : Bool := decide (0 < nq) && (decide (1 ≤ c.ns) && (decide (c.ns ≤ 16) && (decide (1 ≤ c.long) && decide (c.long ≤ 4096))))
theorem mul_le_mul_of {a b x y : Int} (h0 : 0 ≤ a) (h1 : a ≤ x) (h2 : 0 ≤ b) (h3 : b ≤ y) : a * b ≤ x * y := Int.mul_le_mul h1 h3 h2 (by omega)
theorem ck_round {c : Cfg} {nq : Nat} (h : ckPre c nq = true) : roundN c nq = c.ns * c.long ∧ 1 ≤ (c.ns : Int) * c.long ∧ (c.ns : Int) * c.long ≤ 65536 ∧ 0 < nq ∧ 1 ≤ c.ns ∧ c.ns ≤ 16 ∧ 1 ≤ c.long ∧ c.long ≤ 4096 := by
  simp only [ckPre, Bool.and_eq_true, decide_eq_true_eq] at h
  obtain ⟨h1, h2, h3, h4, h5⟩ := h
  have e1 : (c.ns : Int) * c.long ≤ 16 * 4096 := mul_le_mul_of (by omega) (by omega) (by omega) (by omega)
  have e2 : (1 : Int) * 1 ≤ c.ns * c.long := mul_le_mul_of (by omega) (by omega) (by omega) (by omega)
  refine ⟨?_, by omega, by omega, h1, h2, h3, h4, h5⟩
  unfold roundN
  rw [if_neg (by omega), wrap_nat _ (by omega) (by omega)]
end Go.Proofs.YtpgaplcdbbnblaaGreatDoor
end
/- Contract of what a net answers: First. -/
section
namespace Go.Proofs.YtpgaplcdbbnblaaGreatDoor
open Go.RowKit

def headN (c : Cfg) (nq : Nat) (_ : Nat → Int) (z : Int) : Int := if nq = 0 then -1 else atF c.fp c.np z
theorem ct_first : CtOk Tryz.prog 71 (ctNet (fun c nq fq zs => i64 (headN c nq fq (zs.headD 0))) fun c nq fq zs => true && decide (zs.length = 1)) := by
  refine ctNet_of ⟨_, _, Tryz.func71, rfl⟩ (fun c nq fq zs => plain_i64 _) 1 fun c nq fq zs _ hz => ?_
  obtain ⟨z, rfl⟩ := List.length_eq_one_iff.1 hz
  refine (?_ : (∃ p r, netR Tryz.prog 71 c nq fq [z] p = some r ∧ (r.1 = i64 (headN c nq fq z) ∧ r.2.2.1 ≤ lim ∧ allT r.2.2.2.1 ∧ ∀ q ∈ r.2.2.2.2, q)) → _) (nFirst c nq fq z _ ?_)
  · rintro ⟨p, r, h1, h2⟩
    exact ⟨E1 Tryz.prog, 300, 10000000000000000000000000000000000000000, rfl, hE1, p, [], r, h1, h2⟩
  · repeat' (first | refine ⟨fun h => ?_, fun h => ?_⟩ | fail)
    all_goals (refine ⟨?_, (by first | (unfold lim; omega) | (dsimp only; unfold lim; omega)), ?_, by simp⟩)
    all_goals (simp only [Int.ofNat_eq_natCast] at *)
    all_goals (first
      | (show i64 _ = i64 _; unfold headN atF; simp at *; first | (rw [if_pos (by omega)]; done) | (rw [if_neg (by omega), if_neg (by omega)]; done) | (rw [if_neg (by omega), if_pos (by omega)]; done) | (intros; omega) | (split <;> first | rfl | omega))
      | (simp at *; simp [allT, inb_arr]; omega))
end Go.Proofs.YtpgaplcdbbnblaaGreatDoor
end
/- Functions of a net and a view: what they read. -/
section
namespace Go.Proofs.YtpgaplcdbbnblaaGreatDoor
open Go.RowKit

def ctFirst : CtF := ctNet (fun c nq fq zs => i64 (headN c nq fq (zs.headD 0))) fun c nq fq zs => true && decide (zs.length = 1)
def ENf (P : Program) : Env := ⟨P, [(71, ctFirst)]⟩
/-- has a net such a pair? is it in? -/
def hasB (c : Cfg) (nq : Nat) (fq : Nat → Int) (p : Nat) : Bool := decide (0 ≤ headN c nq fq (Int.ofNat p))
def inB (c : Cfg) (nq : Nat) (fq : Nat → Int) (v : Vw) (p : Nat) : Bool := hasB c nq fq p && v.inn p
abbrev vwB (v : Vw) : ABlk := ⟨true, false, 32, 0, .lit (v.cells.map .v)⟩
abbrev netY0 (c : Cfg) (nq : Nat) : ABlk := ⟨false, false, 77, 0, .lit (netC0 c nq)⟩
abbrev netIds : List Nat := [gid 2, 0, 1, 2, 3, 4, 5]
abbrev netBk (c : Cfg) (nq : Nat) (fq : Nat → Int) : List ABlk := [signB, ints 3 c.np c.fp, ints 3 c.ns c.fs, ints 3 c.nb c.fb, sts c.nt c.ft, ints 3 nq fq, netY0 c nq]
theorem wrap_nat1 (k : Nat) (h : k ≤ 1000000) : IntKind.wrap IntKind.i64 (Int.ofNat k + Int.ofNat 1) = Int.ofNat (k + 1) := by rw [wrap_nat _ (by simp; omega) (by simp; omega)]; simp
end Go.Proofs.YtpgaplcdbbnblaaGreatDoor
end
/- modes.in: its loop's round as the evaluator runs it. -/
section
namespace Go.Proofs.YtpgaplcdbbnblaaGreatDoor
open Go.RowKit

abbrev mdV (c : Cfg) (nq : Nat) (fq : Nat → Int) (v : Vw) (k : Nat) : List AV := [.c (.ptr 5 0 0), .c (.ptr 1000 0 0), i64 (Int.ofNat (cntF (inB c nq fq v) k)), i64 (Int.ofNat (cntF (hasB c nq fq) k)), i64 (Int.ofNat k)]
def mdR (P : Program) (c : Cfg) (nq : Nat) (fq : Nat → Int) (v : Vw) (k : Nat) (path : List Dec) : Option VC :=
  view ([0, 3, 4, 5, 7] ++ []) (netIds ++ [1000]) (fC (ENf P) 100 (loopAt P 238 0) 1000000000000000000000000000000000000000000 10000000000000000000000000000000000000000 (stH 25 [0, 3, 4, 5, 7] (netIds ++ [1000]) (mdV c nq fq v k) (netBk c nq fq ++ [vwB v]) path []))
theorem md (c : Cfg) (nq : Nat) (fq : Nat → Int) (v : Vw) (k : Nat) (Q : VC → Prop) (H : (((decide (Int.ofNat k < Int.ofNat 8)) = true → (((decide (headN c nq fq (List.headD [Int.ofNat k] (Int.ofNat 0)) < Int.ofNat 0)) = true → Q (Exit.normal, [some (lkA (List.zip [0, 3, 4, 5, 7] (mdV c nq fq v k)) 0), some (lkA (List.zip [0, 3, 4, 5, 7] (mdV c nq fq v k)) (0 + 1 + 1 + 1)), some (lkA (List.zip [0, 3, 4, 5, 7] (mdV c nq fq v k)) (0 + 1 + 1 + 1 + 1)), some (lkA (List.zip [0, 3, 4, 5, 7] (mdV c nq fq v k)) (0 + 1 + 1 + 1 + 1 + 1)), some (.c (.v (.int .i64 (IntKind.wrap .i64 (Int.ofNat k + Int.ofNat 1)))))], [some (ABlk.mk false false 131 0 (Cs.lit [.v (.int .i64 (Int.ofNat 1)), .v (.int .i64 (Int.negSucc 0))])), some (ABlk.mk false false 3 1 (Cs.arr (c.np) fun k => List.map AC.v ((fun i => [Value.int .i64 (c.fp i)]) k))), some (ABlk.mk false false 3 1 (Cs.arr (c.ns) fun k => List.map AC.v ((fun i => [Value.int .i64 (c.fs i)]) k))), some (ABlk.mk false false 3 1 (Cs.arr (c.nb) fun k => List.map AC.v ((fun i => [Value.int .i64 (c.fb i)]) k))), some (ABlk.mk false false 161 3 (Cs.arr (c.nt) fun k => List.map AC.v ((fun i => [Value.int .i64 (Station.node (c.ft i)), Value.int .u32 (Station.safe (c.ft i)), Value.int .i64 (Station.hold (c.ft i))]) k))), some (ABlk.mk false false 3 1 (Cs.arr nq fun k => List.map AC.v ((fun i => [Value.int .i64 (fq i)]) k))), some (ABlk.mk false false 77 0 (Cs.lit [.v (.int .i64 (c.nodes)), AC.sl 0 0 0 (c.np) none, AC.sl 1 0 0 (c.ns) none, .v (.int .i64 (c.long)), AC.sl 2 0 0 (c.nb) none, AC.sl 3 0 0 (c.nt) none, .v (.int .i64 (c.miss)), .v (.int .i64 (c.good)), .v (.int .i64 (c.fresh)), AC.sl 4 0 0 nq none])), some (ABlk.mk true false 32 0 (Cs.lit (vwL v)))], 25, 1000000000000000000000000000000000000000008, [decide (headN c nq fq (List.headD [Int.ofNat k] (Int.ofNat 0)) < Int.ofNat 0) == true, netK c nq fq, true, decide (Int.ofNat k < Int.ofNat 8) == true], [])) ∧ ((decide (headN c nq fq (List.headD [Int.ofNat k] (Int.ofNat 0)) < Int.ofNat 0)) = false → (((asB (List.getD (vwL v) (0 + Int.toNat (Int.ofNat k) * 1) nov)) = true → Q (Exit.normal, [some (lkA (List.zip [0, 3, 4, 5, 7] (mdV c nq fq v k)) 0), some (lkA (List.zip [0, 3, 4, 5, 7] (mdV c nq fq v k)) (0 + 1 + 1 + 1)), some (.c (.v (.int .i64 (IntKind.wrap .i64 (Int.ofNat (cntF (inB c nq fq v) k) + Int.ofNat 1))))), some (.c (.v (.int .i64 (IntKind.wrap .i64 (Int.ofNat (cntF (hasB c nq fq) k) + Int.ofNat 1))))), some (.c (.v (.int .i64 (IntKind.wrap .i64 (Int.ofNat k + Int.ofNat 1)))))], [some (ABlk.mk false false 131 0 (Cs.lit [.v (.int .i64 (Int.ofNat 1)), .v (.int .i64 (Int.negSucc 0))])), some (ABlk.mk false false 3 1 (Cs.arr (c.np) fun k => List.map AC.v ((fun i => [Value.int .i64 (c.fp i)]) k))), some (ABlk.mk false false 3 1 (Cs.arr (c.ns) fun k => List.map AC.v ((fun i => [Value.int .i64 (c.fs i)]) k))), some (ABlk.mk false false 3 1 (Cs.arr (c.nb) fun k => List.map AC.v ((fun i => [Value.int .i64 (c.fb i)]) k))), some (ABlk.mk false false 161 3 (Cs.arr (c.nt) fun k => List.map AC.v ((fun i => [Value.int .i64 (Station.node (c.ft i)), Value.int .u32 (Station.safe (c.ft i)), Value.int .i64 (Station.hold (c.ft i))]) k))), some (ABlk.mk false false 3 1 (Cs.arr nq fun k => List.map AC.v ((fun i => [Value.int .i64 (fq i)]) k))), some (ABlk.mk false false 77 0 (Cs.lit [.v (.int .i64 (c.nodes)), AC.sl 0 0 0 (c.np) none, AC.sl 1 0 0 (c.ns) none, .v (.int .i64 (c.long)), AC.sl 2 0 0 (c.nb) none, AC.sl 3 0 0 (c.nt) none, .v (.int .i64 (c.miss)), .v (.int .i64 (c.good)), .v (.int .i64 (c.fresh)), AC.sl 4 0 0 nq none])), some (ABlk.mk true false 32 0 (Cs.lit (vwL v)))], 25, 1000000000000000000000000000000000000000018, [asB (List.getD (vwL v) (0 + Int.toNat (Int.ofNat k) * 1) nov) == true, ABlk.inb (ABlk.mk true false 32 0 (Cs.lit (vwL v))) 0 (0 + Int.toNat (Int.ofNat k) * 1 + 1), okl Kd.b (List.getD (vwL v) (0 + Int.toNat (Int.ofNat k) * 1) nov), decide (Int.ofNat 0 ≤ Int.ofNat k ∧ Int.ofNat k < Int.ofNat 8), decide (headN c nq fq (List.headD [Int.ofNat k] (Int.ofNat 0)) < Int.ofNat 0) == false, netK c nq fq, true, decide (Int.ofNat k < Int.ofNat 8) == true], [])) ∧ ((asB (List.getD (vwL v) (0 + Int.toNat (Int.ofNat k) * 1) nov)) = false → Q (Exit.normal, [some (lkA (List.zip [0, 3, 4, 5, 7] (mdV c nq fq v k)) 0), some (lkA (List.zip [0, 3, 4, 5, 7] (mdV c nq fq v k)) (0 + 1 + 1 + 1)), some (lkA (List.zip [0, 3, 4, 5, 7] (mdV c nq fq v k)) (0 + 1 + 1 + 1 + 1)), some (.c (.v (.int .i64 (IntKind.wrap .i64 (Int.ofNat (cntF (hasB c nq fq) k) + Int.ofNat 1))))), some (.c (.v (.int .i64 (IntKind.wrap .i64 (Int.ofNat k + Int.ofNat 1)))))], [some (ABlk.mk false false 131 0 (Cs.lit [.v (.int .i64 (Int.ofNat 1)), .v (.int .i64 (Int.negSucc 0))])), some (ABlk.mk false false 3 1 (Cs.arr (c.np) fun k => List.map AC.v ((fun i => [Value.int .i64 (c.fp i)]) k))), some (ABlk.mk false false 3 1 (Cs.arr (c.ns) fun k => List.map AC.v ((fun i => [Value.int .i64 (c.fs i)]) k))), some (ABlk.mk false false 3 1 (Cs.arr (c.nb) fun k => List.map AC.v ((fun i => [Value.int .i64 (c.fb i)]) k))), some (ABlk.mk false false 161 3 (Cs.arr (c.nt) fun k => List.map AC.v ((fun i => [Value.int .i64 (Station.node (c.ft i)), Value.int .u32 (Station.safe (c.ft i)), Value.int .i64 (Station.hold (c.ft i))]) k))), some (ABlk.mk false false 3 1 (Cs.arr nq fun k => List.map AC.v ((fun i => [Value.int .i64 (fq i)]) k))), some (ABlk.mk false false 77 0 (Cs.lit [.v (.int .i64 (c.nodes)), AC.sl 0 0 0 (c.np) none, AC.sl 1 0 0 (c.ns) none, .v (.int .i64 (c.long)), AC.sl 2 0 0 (c.nb) none, AC.sl 3 0 0 (c.nt) none, .v (.int .i64 (c.miss)), .v (.int .i64 (c.good)), .v (.int .i64 (c.fresh)), AC.sl 4 0 0 nq none])), some (ABlk.mk true false 32 0 (Cs.lit (vwL v)))], 25, 1000000000000000000000000000000000000000015, [asB (List.getD (vwL v) (0 + Int.toNat (Int.ofNat k) * 1) nov) == false, ABlk.inb (ABlk.mk true false 32 0 (Cs.lit (vwL v))) 0 (0 + Int.toNat (Int.ofNat k) * 1 + 1), okl Kd.b (List.getD (vwL v) (0 + Int.toNat (Int.ofNat k) * 1) nov), decide (Int.ofNat 0 ≤ Int.ofNat k ∧ Int.ofNat k < Int.ofNat 8), decide (headN c nq fq (List.headD [Int.ofNat k] (Int.ofNat 0)) < Int.ofNat 0) == false, netK c nq fq, true, decide (Int.ofNat k < Int.ofNat 8) == true], [])))))) ∧ ((decide (Int.ofNat k < Int.ofNat 8)) = false → Q (Exit.exit 0, [some (lkA (List.zip [0, 3, 4, 5, 7] (mdV c nq fq v k)) 0), some (lkA (List.zip [0, 3, 4, 5, 7] (mdV c nq fq v k)) (0 + 1 + 1 + 1)), some (lkA (List.zip [0, 3, 4, 5, 7] (mdV c nq fq v k)) (0 + 1 + 1 + 1 + 1)), some (lkA (List.zip [0, 3, 4, 5, 7] (mdV c nq fq v k)) (0 + 1 + 1 + 1 + 1 + 1)), some (lkA (List.zip [0, 3, 4, 5, 7] (mdV c nq fq v k)) (0 + 1 + 1 + 1 + 1 + 1 + 1 + 1))], [some (ABlk.mk false false 131 0 (Cs.lit [.v (.int .i64 (Int.ofNat 1)), .v (.int .i64 (Int.negSucc 0))])), some (ABlk.mk false false 3 1 (Cs.arr (c.np) fun k => List.map AC.v ((fun i => [Value.int .i64 (c.fp i)]) k))), some (ABlk.mk false false 3 1 (Cs.arr (c.ns) fun k => List.map AC.v ((fun i => [Value.int .i64 (c.fs i)]) k))), some (ABlk.mk false false 3 1 (Cs.arr (c.nb) fun k => List.map AC.v ((fun i => [Value.int .i64 (c.fb i)]) k))), some (ABlk.mk false false 161 3 (Cs.arr (c.nt) fun k => List.map AC.v ((fun i => [Value.int .i64 (Station.node (c.ft i)), Value.int .u32 (Station.safe (c.ft i)), Value.int .i64 (Station.hold (c.ft i))]) k))), some (ABlk.mk false false 3 1 (Cs.arr nq fun k => List.map AC.v ((fun i => [Value.int .i64 (fq i)]) k))), some (ABlk.mk false false 77 0 (Cs.lit [.v (.int .i64 (c.nodes)), AC.sl 0 0 0 (c.np) none, AC.sl 1 0 0 (c.ns) none, .v (.int .i64 (c.long)), AC.sl 2 0 0 (c.nb) none, AC.sl 3 0 0 (c.nt) none, .v (.int .i64 (c.miss)), .v (.int .i64 (c.good)), .v (.int .i64 (c.fresh)), AC.sl 4 0 0 nq none])), some (ABlk.mk true false 32 0 (Cs.lit (vwL v)))], 25, 1000000000000000000000000000000000000000001, [decide (Int.ofNat k < Int.ofNat 8) == false], [])))) :
    ∃ p r, mdR Tryz.prog c nq fq v k p = some r ∧ Q r :=
  two H
  (fun g1 => two g1
    (fun g2 => ⟨pD 2 4, _, by kernel_rfl, g2⟩)
    (fun g2 => two g2
      (fun g3 => ⟨pD 3 16, _, by kernel_rfl, g3⟩)
      (fun g3 => ⟨pD 3 25, _, by kernel_rfl, g3⟩)))
  (fun g1 => ⟨pD 1 2, _, by kernel_rfl, g1⟩)
end Go.Proofs.YtpgaplcdbbnblaaGreatDoor
end
/- Contracts of sennitref03.Distance, and of both Places. -/
section
namespace Go.Proofs.YtpgaplcdbbnblaaGreatDoor
open Go.RowKit

theorem succ_mod {n x : Int} (hn : 0 < n) : (x + 1) % n = if x % n = n - 1 then 0 else x % n + 1 := by
  have h1 := Int.emod_nonneg x (show n ≠ 0 by omega)
  have h2 := Int.emod_lt_of_pos x hn
  have e : (x + 1) % n = (x % n + 1) % n := by rw [Int.emod_add_emod]
  rw [e]
  split
  · rename_i h
    rw [h, show n - 1 + 1 = n by omega, Int.emod_self]
  · exact Int.emod_eq_of_lt (by omega) (by omega)
theorem pred_mod {n x : Int} (hn : 0 < n) : (x - 1) % n = if x % n = 0 then n - 1 else x % n - 1 := by
  have h1 := Int.emod_nonneg x (show n ≠ 0 by omega)
  have h2 := Int.emod_lt_of_pos x hn
  have e : (x - 1) % n = (x % n - 1) % n := by rw [Int.emod_sub_emod]
  rw [e]
  split
  · rename_i h
    rw [h, show (0 : Int) - 1 = (n - 1) - n by omega, Int.sub_emod_right]
    exact Int.emod_eq_of_lt (by omega) (by omega)
  · exact Int.emod_eq_of_lt (by omega) (by omega)
/-- the place behind so many steps -/
def goF (n d a : Int) (k : Nat) : Int := if d = 0 then (a + k) % n else (a - k) % n
theorem goF_in {n d a : Int} (hn : 0 < n) (k : Nat) : 0 ≤ goF n d a k ∧ goF n d a k < n := by
  unfold goF
  split <;> exact ⟨Int.emod_nonneg _ (by omega), Int.emod_lt_of_pos _ hn⟩
theorem goF_succ {n d a : Int} (hn : 0 < n) (k : Nat) : goF n d a (k + 1) = if d = 0 then (if goF n d a k = n - 1 then 0 else goF n d a k + 1) else (if goF n d a k = 0 then n - 1 else goF n d a k - 1) := by
  unfold goF
  split
  · rw [show a + ((k + 1 : Nat) : Int) = a + k + 1 by omega]
    exact succ_mod hn
  · rw [show a - ((k + 1 : Nat) : Int) = a - k - 1 by omega]
    exact pred_mod hn
/-- one is reached behind so many steps as it is far -/
theorem goF_hit {n d a b : Int} (hn : 0 < n) (hb : 0 ≤ b ∧ b < n) {k : Nat} {z : Int} (hz : z = if d = 0 then (b - a) % n else (a - b) % n) (hk : (k : Int) ≤ z) : goF n d a k = b ↔ (k : Int) = z := by
  have hz1 : 0 ≤ z ∧ z < n := by rw [hz]; split <;> exact ⟨Int.emod_nonneg _ (by omega), Int.emod_lt_of_pos _ hn⟩
  unfold goF
  by_cases hd : d = 0
  · rw [if_pos hd] at hz ⊢
    constructor
    · intro h
      have e : (a + k - b) % n = 0 := by rw [Int.sub_emod, h, Int.emod_eq_of_lt hb.1 hb.2, Int.sub_self, Int.zero_emod]
      have e2 : (k - z) % n = 0 := by
        rw [hz, Int.sub_emod, Int.emod_emod_of_dvd _ (Int.dvd_refl n), ← Int.sub_emod, show (k : Int) - (b - a) = a + k - b by omega]
        exact e
      have := Int.emod_eq_of_lt (a := z - k) (b := n) (by omega) (by omega)
      have e3 : (z - k) % n = 0 := by
        have := Int.emod_eq_zero_of_dvd ((Int.dvd_neg).2 (Int.dvd_of_emod_eq_zero e2))
        rwa [Int.neg_sub] at this
      omega
    · intro h
      rw [h, hz, Int.add_emod, Int.emod_emod_of_dvd _ (Int.dvd_refl n), ← Int.add_emod, show a + (b - a) = b by omega]
      exact Int.emod_eq_of_lt hb.1 hb.2
  · rw [if_neg hd] at hz ⊢
    constructor
    · intro h
      have e : (a - k - b) % n = 0 := by rw [Int.sub_emod, h, Int.emod_eq_of_lt hb.1 hb.2, Int.sub_self, Int.zero_emod]
      have e2 : (z - k) % n = 0 := by
        rw [hz, Int.sub_emod, Int.emod_emod_of_dvd _ (Int.dvd_refl n), ← Int.sub_emod, show a - b - (k : Int) = a - k - b by omega]
        exact e
      have := Int.emod_eq_of_lt (a := z - k) (b := n) (by omega) (by omega)
      omega
    · intro h
      rw [h, hz, Int.sub_emod, Int.emod_emod_of_dvd _ (Int.dvd_refl n), ← Int.sub_emod, show a - (a - b) = b by omega]
      exact Int.emod_eq_of_lt hb.1 hb.2
theorem dist_in {n d a b : Int} (h : (ringB n d && (nodeB n a && nodeB n b)) = true) : distF n d a b = (if d = 0 then (b - a) % n else (a - b) % n) ∧ 0 ≤ distF n d a b ∧ distF n d a b < n := by
  have e : distF n d a b = (if d = 0 then (b - a) % n else (a - b) % n) := by unfold distF; rw [if_pos h]
  simp [ringB, nodeB] at h
  refine ⟨e, ?_⟩
  rw [e]
  split <;> exact ⟨Int.emod_nonneg _ (by omega), Int.emod_lt_of_pos _ (by omega)⟩
theorem rd_sum (n d a b : Int) (hd : 0 ≤ d) (h : (ringB n d && (nodeB n a && nodeB n b)) = true) :
    LoopV Tryz.prog (loopAt Tryz.prog 248 0) [0, 1, 2, 3, 9] [] ((rdV n d b a 0).map some) [] 42 1035 (mkFr 42 [(9, i64 (distF n d a b))]) [] 100000000000000000000000000000000000000000000000000 (.exit 0) none := by
  obtain ⟨e1, e2, e3⟩ := dist_in h
  generalize hz : distF n d a b = z at *
  obtain ⟨j, rfl⟩ := Int.eq_ofNat_of_zero_le e2
  simp [ringB, nodeB] at h
  have hg0 : goF n d a 0 = a := by unfold goF; split <;> simp <;> exact Int.emod_eq_of_lt (by omega) (by omega)
  have hn : 0 < n := by omega
  rw [show rdV n d b a 0 = rdV n d b (goF n d a 0) 0 by rw [hg0]]
  refine loop_view hE1 (fuel := 100) (str := 10000000000000000000000000000000000000000) (nh := 1000000000000000000000000000000000000000000) (n := 1035) (n' := 100000000000000000000000000000000000000000000000000) (S := Nat) (fun k => k ≤ j) (fun k => j - k) [0, 1, 2, 3, 9] [] [] (fun k => rdV n d b (goF n d a k) k) (fun _ => []) (by decide) (by decide) (by unfold lim; omega) (s0 := 0) (by omega) (fun _ => ⟨rfl, rfl⟩) (by kernel_rfl) (fun k _ => ⟨rfl, fun b hb => by cases hb⟩) ?_
  intro k hk
  refine (?_ : (∃ p r, rdR Tryz.prog n d b (goF n d a k) k p = some r ∧ _) → _) (rd3 n d b (goF n d a k) k (StepV 1035 100000000000000000000000000000000000000000000000000 42 [0, 1, 2, 3, 9] [] [] (fun k => k ≤ j) (fun k => j - k) (fun k => rdV n d b (goF n d a k) k) (fun _ => []) (.exit 0) [(9, i64 (j : Int))] [] k) ?_)
  · rintro ⟨p, r, h1, h2⟩
    exact ⟨p, [], r, h1, h2⟩
  · have hit := goF_hit hn ⟨h.2.2.1, h.2.2.2⟩ e1 (k := k) (by omega)
    have hin := goF_in (d := d) (a := a) hn k
    have hs := goF_succ (d := d) (a := a) hn k
    generalize hx : goF n d a k = x at *
    have w1 : IntKind.wrap IntKind.i64 (n - Int.ofNat 1) = n - 1 := wrap_nat _ (by simp; omega) (by simp; omega)
    have w2 : IntKind.wrap IntKind.i64 (x + Int.ofNat 1) = x + 1 := wrap_nat _ (by simp; omega) (by simp; omega)
    have w3 : IntKind.wrap IntKind.i64 (x - Int.ofNat 1) = x - 1 := wrap_nat _ (by simp; omega) (by simp; omega)
    have w4 := wrap_nat1 k (by omega)
    simp only [w1, w2, w3, w4]
    (repeat' (first | refine ⟨fun h => ?_, fun h => ?_⟩ | fail))
    all_goals (simp only [bne_iff_ne, ne_eq, beq_iff_eq, Bool.not_eq_true', beq_eq_false_iff_ne, bne_eq_false_iff_eq, Int.ofNat_eq_natCast, Int.cast_ofNat_Int] at *)
    all_goals (first
      | (refine ⟨(by simp_all [allT]), rfl, (by dsimp only; omega), rfl, .inl ⟨rfl, k + 1, (by omega), (by show j - (k + 1) < j - k; omega), ?_, trivial⟩⟩
         simp_all [rdV, lkA, i64])
      | (refine ⟨(by simp_all [allT]), rfl, (by dsimp only; omega), rfl, .inr ⟨by simp, rfl, (fun q hq => ?_), fun p hpp => (by cases hpp)⟩⟩
         rw [List.mem_singleton.1 hq]
         have : k = j := by omega
         subst this
         exact ⟨rfl, by simp [lkA]⟩))
end Go.Proofs.YtpgaplcdbbnblaaGreatDoor
end
/- Contract of sennitref03.Distance; both Places as the evaluator runs them. -/
section
namespace Go.Proofs.YtpgaplcdbbnblaaGreatDoor
open Go.RowKit

def ctRDist : CtF := ctRd (pureRd [] rfl) (fun | [.c (.v (.int .i64 n)), .c (.v (.int .u8 d)), .c (.v (.int .i64 a)), .c (.v (.int .i64 k))] => i64 (distF n d a k) | _ => i64 0) okN4
set_option maxRecDepth 100000 in
theorem ct_rdist : CtOk Tryz.prog 248 ctRDist := by
  refine ctRd_ofE (E := E1 Tryz.prog) hE1 (pureRd [] rfl) (fuel := 300) (str := 10000000000000000000000000000000000000000) ⟨_, _, Tryz.func248, rfl⟩ (fun s => by split <;> rfl) fun s hs => ?_
  unfold okN4 at hs
  split at hs
  · rename_i n d a b
    have hd := of_decide_eq_true hs
    refine (?_ : (∃ p q, rdF Tryz.prog n d a b (distF n d a b).toNat p = some q ∧ GoodF (i64 (distF n d a b)) q) → _) (rd3F n d a b (distF n d a b).toNat _ ?_)
    · rintro ⟨p, q, h1, h2⟩
      exact ⟨p, [some ⟨[0, 1, 2, 3, 9], [], mkFr 42 [(9, i64 (Int.ofNat (distF n d a b).toNat))], [], 100000000000000000000000000000000000000000000000000, .exit 0⟩], q, h1, h2⟩
    · by_cases hm : (ringB n d && (nodeB n a && nodeB n b)) = true
      · obtain ⟨_, e2, e3⟩ := dist_in hm
        have hsum := rd_sum n d a b hd hm
        have et : Int.ofNat (distF n d a b).toNat = distF n d a b := Int.toNat_of_nonneg e2
        rw [et]
        simp [ringB, nodeB] at hm
        (repeat' (first | refine ⟨fun h => ?_, fun h => ?_⟩ | fail))
        all_goals (simp only [decide_eq_true_eq, decide_eq_false_iff_not, Bool.not_eq_true', Bool.not_eq_false', Int.ofNat_eq_natCast, Int.cast_ofNat_Int, gt_iff_lt, ge_iff_le] at *)
        all_goals (first | (exfalso; omega) | skip)
        refine ⟨rfl, (by first | (unfold lim; omega) | (dsimp only; unfold lim; omega)), ?_, fun q hq => ?_⟩
        · (simp only [allT, List.forall_mem_cons, List.not_mem_nil, false_implies, implies_true, and_true, true_and, cfgK_t, netK_t, intsOk_ints, stsOk_sts, intsOk_s, stsOk_s, beq_iff_eq, decide_eq_true_eq, decide_eq_false_iff_not, beq_eq_false_iff_ne, bne_iff_ne, bne_eq_false_iff_eq, Bool.not_eq_true', Bool.not_eq_false', ne_eq, Int.ofNat_eq_natCast, Int.cast_ofNat_Int, gt_iff_lt, ge_iff_le]; omega)
        · rw [List.mem_singleton.1 hq]
          exact hsum
      · have hv : distF n d a b = -1 := by unfold distF; rw [if_neg hm]
        rw [hv]
        simp [ringB, nodeB] at hm
        (repeat' (first | refine ⟨fun h => ?_, fun h => ?_⟩ | fail))
        all_goals (simp only [decide_eq_true_eq, decide_eq_false_iff_not, Bool.not_eq_true', Bool.not_eq_false', Int.ofNat_eq_natCast, Int.cast_ofNat_Int, gt_iff_lt, ge_iff_le] at *)
        all_goals (first | (exfalso; omega) | skip)
        all_goals (refine ⟨rfl, (by first | (unfold lim; omega) | (dsimp only; unfold lim; omega)), ?_, by simp⟩)
        all_goals (simp only [allT, List.forall_mem_cons, List.not_mem_nil, false_implies, implies_true, and_true, true_and, cfgK_t, netK_t, intsOk_ints, stsOk_sts, intsOk_s, stsOk_s, beq_iff_eq, decide_eq_true_eq, decide_eq_false_iff_not, beq_eq_false_iff_ne, bne_iff_ne, bne_eq_false_iff_eq, Bool.not_eq_true', Bool.not_eq_false', ne_eq, Int.ofNat_eq_natCast, Int.cast_ofNat_Int, gt_iff_lt, ge_iff_le]; omega)
  · cases hs
def ctsRg : List (FuncId × CtF) := [(142, ctStepD), (212, ctDistD), (248, ctRDist)]
theorem ctsRg_ok : ∀ f g, (f, g) ∈ ctsRg → CtOk Tryz.prog f g := by
  intro f g h
  simp only [ctsRg, List.mem_cons, Prod.mk.injEq, List.not_mem_nil, or_false] at h
  rcases h with ⟨rfl, rfl⟩ | ⟨rfl, rfl⟩ | ⟨rfl, rfl⟩
  · exact ct_stepD
  · exact ct_distD
  · exact ct_rdist
def ENrg (P : Program) : Env := ⟨P, ctsRg⟩
theorem hENrg : EnvOk (ENrg Tryz.prog) := envOk ctsRg_ok (by kernel_rfl) (by kernel_rfl)
def plR (P : Program) (f : FuncId) (n d a b : Int) (path : List Dec) : Option VF := viewF [] (fCallF (ENrg P) (fC (ENrg P) 300) f [i64 n, u8A d, i64 a, i64 b] 1000 10000000000000000000000000000000000000000 (stA mS path []))
theorem plc (n d a b : Int) (Q : VF → Prop) (H : (((d == Int.ofNat 1) = true → Q (.c (.v (.int .i64 (distF n d (turnF n (Int.ofNat 0) a (Int.ofNat 1)) b))), [], 1011, [true, okN4 [.c (.v (.int .i64 n)), .c (.v (.int .u8 d)), .c (.v (.int .i64 (turnF n (Int.ofNat 0) a (Int.ofNat 1)))), .c (.v (.int .i64 b))], true, true, (d == Int.ofNat 1) == true], [])) ∧ ((d == Int.ofNat 1) = false → Q (.c (.v (.int .i64 (distF n d a b))), [], 1008, [true, okN4 [.c (.v (.int .i64 n)), .c (.v (.int .u8 d)), .c (.v (.int .i64 a)), .c (.v (.int .i64 b))], (d == Int.ofNat 1) == false], [])))) :
    ∃ p r, plR Tryz.prog 151 n d a b p = some r ∧ Q r :=
  two H
  (fun g1 => ⟨pD 1 1, _, by kernel_rfl, g1⟩)
  (fun g1 => ⟨pD 1 2, _, by kernel_rfl, g1⟩)
end Go.Proofs.YtpgaplcdbbnblaaGreatDoor
end
/- Contracts of both Places. -/
section
namespace Go.Proofs.YtpgaplcdbbnblaaGreatDoor
open Go.RowKit

/-- a node's place -/
def placeF (n d a b : Int) : Int := if (ringB n d && (nodeB n a && nodeB n b)) = true then (if d = 0 then (b - a) % n else (a + 1 - b) % n) else -1
def plF : List AV → AV
  | [.c (.v (.int .i64 n)), .c (.v (.int .u8 d)), .c (.v (.int .i64 a)), .c (.v (.int .i64 b))] => i64 (placeF n d a b)
  | _ => i64 0
def ctPlace : CtF := ctRd (pureRd mS (by kernel_rfl)) plF okN4
theorem place0 (n a b : Int) : distF n 0 a b = placeF n 0 a b := by unfold distF placeF; rfl
theorem place1 {n a b x : Int} (hx : x = if (ringB n 0 && nodeB n a) = true then (a + 1) % n else -1) : distF n 1 x b = placeF n 1 a b := by
  unfold placeF
  by_cases h : (ringB n 1 && (nodeB n a && nodeB n b)) = true
  · rw [if_pos h]
    have h' := h
    simp [ringB, nodeB] at h'
    rw [if_pos (by simp [ringB, nodeB]; omega)] at hx
    have m1 := Int.emod_nonneg (a + 1) (show n ≠ 0 by omega)
    have m2 := Int.emod_lt_of_pos (a + 1) (show 0 < n by omega)
    unfold distF
    rw [if_pos (by simp [ringB, nodeB]; omega), if_neg (by decide), if_neg (by decide), hx, Int.emod_sub_emod]
  · rw [if_neg h]
    unfold distF
    refine if_neg ?_
    intro g
    refine h ?_
    simp [ringB, nodeB] at g ⊢
    by_cases hm : (ringB n 0 && nodeB n a) = true
    · simp [ringB, nodeB] at hm
      omega
    · rw [if_neg hm] at hx
      omega
theorem place2 {n d a b x : Int} (hd : 2 ≤ d) : distF n d x b = placeF n d a b := by
  unfold placeF distF
  rw [if_neg (by simp [ringB]; omega), if_neg (by simp [ringB]; omega)]
set_option maxRecDepth 100000 in
theorem ct_place : CtOk Tryz.prog 151 ctPlace := by
  refine ctRd_ofE (E := ENrg Tryz.prog) hENrg (pureRd mS (by kernel_rfl)) (fuel := 300) (str := 10000000000000000000000000000000000000000) ⟨_, _, Tryz.func151, rfl⟩ (fun s => by unfold plF; split <;> rfl) fun s hs => ?_
  unfold okN4 at hs
  split at hs
  · rename_i n d a b
    have hd := of_decide_eq_true hs
    refine (?_ : (∃ p q, plR Tryz.prog 151 n d a b p = some q ∧ GoodF (i64 (placeF n d a b)) q) → _) (plc n d a b _ ?_)
    · rintro ⟨p, q, h1, h2⟩
      exact ⟨p, [], q, h1, h2⟩
    · (repeat' (first | refine ⟨fun h => ?_, fun h => ?_⟩ | fail))
      all_goals (refine ⟨?_, (by first | (unfold lim; omega) | (dsimp only; unfold lim; omega)), ?_, by simp⟩)
      · have hd1 : d = 1 := by simpa using h
        subst hd1
        refine congrArg i64 (place1 ?_)
        unfold turnF
        rfl
      · simp [allT, okN4_eq, hd]; simpa using h

      · rcases dir_cases hd with rfl | rfl | h2
        · exact congrArg i64 (place0 n a b)
        · exact absurd h (by simp)
        · exact congrArg i64 (place2 h2)
      · simp [allT, okN4_eq, hd]; simpa using h
  · cases hs
end Go.Proofs.YtpgaplcdbbnblaaGreatDoor
end
/- What a net answers, Round, as the evaluator runs it. -/
section
namespace Go.Proofs.YtpgaplcdbbnblaaGreatDoor
open Go.RowKit

theorem nRound (c : Cfg) (nq : Nat) (fq : Nat → Int) (Q : VF → Prop) (H : (((!decide (↑nq > Int.ofNat 0)) = true → Q (.c (.v (.int .i64 (Int.ofNat 0))), [], 1016, [(!decide (↑nq > Int.ofNat 0)) == true, true], [])) ∧ ((!decide (↑nq > Int.ofNat 0)) = false → Q (.c (.v (.int .i64 (IntKind.wrap .i64 (↑(c.ns) * c.long)))), [], 130000000000000000000000000000000000001015, [true, true, true, (!decide (↑nq > Int.ofNat 0)) == false, true], [])))) :
    ∃ p r, netR Tryz.prog 72 c nq fq [] p = some r ∧ Q r :=
  two H
  (fun g1 => ⟨pD 7 729, _, by kernel_rfl, g1⟩)
  (fun g1 => ⟨pD 7 1458, _, by kernel_rfl, g1⟩)
end Go.Proofs.YtpgaplcdbbnblaaGreatDoor
end
/- Contract of what a net answers: Round. -/
section
namespace Go.Proofs.YtpgaplcdbbnblaaGreatDoor
open Go.RowKit

theorem ct_round : CtOk Tryz.prog 72 (ctNet (fun c nq _ _ => i64 (roundN c nq)) fun c nq fq zs => true && decide (zs.length = 0)) := by
  refine ctNet_of ⟨_, _, Tryz.func72, rfl⟩ (fun c nq fq zs => plain_i64 _) 0 fun c nq fq zs _ hz => ?_
  obtain rfl := List.length_eq_zero_iff.1 hz
  refine (?_ : (∃ p r, netR Tryz.prog 72 c nq fq [] p = some r ∧ (r.1 = i64 (roundN c nq) ∧ r.2.2.1 ≤ lim ∧ allT r.2.2.2.1 ∧ ∀ q ∈ r.2.2.2.2, q)) → _) (nRound c nq fq _ ?_)
  · rintro ⟨p, r, h1, h2⟩
    exact ⟨E1 Tryz.prog, 300, 10000000000000000000000000000000000000000, rfl, hE1, p, [], r, h1, h2⟩
  · refine ⟨fun h => ?_, fun h => ?_⟩
    · refine ⟨?_, (by first | (unfold lim; omega) | (dsimp only; unfold lim; omega)), ?_, by simp⟩
      · show i64 _ = i64 _
        simp at h
        simp [roundN, h]
      · simp at h
        simp [allT, h]
    · refine ⟨?_, (by first | (unfold lim; omega) | (dsimp only; unfold lim; omega)), ?_, by simp⟩
      · show i64 _ = i64 _
        simp at h
        unfold roundN
        rw [if_neg (by omega)]
      · simp at h
        simp [allT]
        omega
end Go.Proofs.YtpgaplcdbbnblaaGreatDoor
end
/- windows.Of as the evaluator runs it. -/
section
namespace Go.Proofs.YtpgaplcdbbnblaaGreatDoor
open Go.RowKit

def ctsWi : List (FuncId × CtF) := [(71, ctNet1 headN), (72, ctRoundN), (151, ctPlace)]
theorem ctsWi_ok : ∀ f g, (f, g) ∈ ctsWi → CtOk Tryz.prog f g := by
  intro f g h
  simp only [ctsWi, List.mem_cons, Prod.mk.injEq, List.not_mem_nil, or_false] at h
  rcases h with ⟨rfl, rfl⟩ | ⟨rfl, rfl⟩ | ⟨rfl, rfl⟩
  · exact ct_first
  · exact ct_round
  · exact ct_place
def ENwi (P : Program) : Env := ⟨P, ctsWi⟩
theorem hENwi : EnvOk (ENwi Tryz.prog) := envOk ctsWi_ok (by kernel_rfl) (by kernel_rfl)
/-- a function of a net and plain values, with these variables -/
def ntGE (G : AMem) (E : Env) (f : FuncId) (c : Cfg) (nq : Nat) (fq : Nat → Int) (r : List AV) (path : List Dec) (lp : List (Option LSum)) : Option VF := viewF [] (fCallF E (fC E 300) f (.c (.ptr 5 0 0) :: r) 1000 10000000000000000000000000000000000000000 (stA (G ++ netL c nq fq) path lp))
def wiOfE (P : Program) (c : Cfg) (nq : Nat) (fq : Nat → Int) (d o k : Int) (path : List Dec) : Option VF := ntGE mSR (ENwi P) 86 c nq fq [u8A d, i64 o, i64 k] path []
theorem wiOf (c : Cfg) (nq : Nat) (fq : Nat → Int) (d o k : Int) (Q : VF → Prop) (H : let zq0 : List Bool := true :: (okN4 [.c (.v (.int .i64 (c.nodes))), .c (.v (.int .u8 d)), .c (.v (.int .i64 (headN c nq fq (List.headD [o] (Int.ofNat 0))))), .c (.v (.int .i64 k))]) :: (netK c nq fq) :: true :: true :: true :: ((roundN c nq == Int.ofNat 0) == false) :: (netK c nq fq) :: true :: []; let zq1 : List Bool := true :: (decide (placeF (c.nodes) d (headN c nq fq (List.headD [o] (Int.ofNat 0))) k < Int.ofNat 0) == false) :: zq0; (((decide (placeF (c.nodes) d (headN c nq fq (List.headD [o] (Int.ofNat 0))) k < Int.ofNat 0)) = true → Q (.tup [.agg [.v (.int .u8 (Int.ofNat 0)), .v (.int .i64 (Int.ofNat 0)), .v (.int .i64 (Int.ofNat 0)), .v (.int .i64 (Int.ofNat 0))], .c (.v (.int .i64 (Int.ofNat 1)))], [], 120000000000000000000000000000000000001009, (true :: true :: true :: true :: true :: true :: (decide (placeF (c.nodes) d (headN c nq fq (List.headD [o] (Int.ofNat 0))) k < Int.ofNat 0) == true) :: zq0), [])) ∧ ((decide (placeF (c.nodes) d (headN c nq fq (List.headD [o] (Int.ofNat 0))) k < Int.ofNat 0)) = false → (((decide (placeF (c.nodes) d (headN c nq fq (List.headD [o] (Int.ofNat 0))) k < Int.ofNat 3)) = true → Q (.tup [.agg [.v (.int .u8 (asI (List.getD [.v (.int .u8 (Int.ofNat 1)), .v (.int .u8 (Int.ofNat 1)), .v (.int .u8 (Int.ofNat 2))] (0 + Int.toNat (placeF (c.nodes) d (headN c nq fq (List.headD [o] (Int.ofNat 0))) k) * 1) nov))), .v (.int .i64 (placeF (c.nodes) d (headN c nq fq (List.headD [o] (Int.ofNat 0))) k)), .v (.int .i64 (IntKind.wrap .i64 (Int.ofNat 1 + placeF (c.nodes) d (headN c nq fq (List.headD [o] (Int.ofNat 0))) k))), .v (.int .i64 (IntKind.wrap .i64 (IntKind.wrap .i64 (Int.ofNat 1 + placeF (c.nodes) d (headN c nq fq (List.headD [o] (Int.ofNat 0))) k) + Int.ofNat 114)))], .c (.v (.int .i64 (Int.ofNat 0)))], [], 120000000000000000000000000000000000001025, (true :: true :: true :: true :: true :: true :: true :: true :: true :: true :: true :: true :: (ABlk.inb (ABlk.mk false false 262 0 (Cs.lit [.v (.int .u8 (Int.ofNat 1)), .v (.int .u8 (Int.ofNat 1)), .v (.int .u8 (Int.ofNat 2))])) 0 (0 + Int.toNat (placeF (c.nodes) d (headN c nq fq (List.headD [o] (Int.ofNat 0))) k) * 1 + 1)) :: (okl (Kd.i .u8) (List.getD [.v (.int .u8 (Int.ofNat 1)), .v (.int .u8 (Int.ofNat 1)), .v (.int .u8 (Int.ofNat 2))] (0 + Int.toNat (placeF (c.nodes) d (headN c nq fq (List.headD [o] (Int.ofNat 0))) k) * 1) nov)) :: (decide (Int.ofNat 0 ≤ placeF (c.nodes) d (headN c nq fq (List.headD [o] (Int.ofNat 0))) k ∧ placeF (c.nodes) d (headN c nq fq (List.headD [o] (Int.ofNat 0))) k < Int.ofNat 3)) :: (decide (placeF (c.nodes) d (headN c nq fq (List.headD [o] (Int.ofNat 0))) k < Int.ofNat 3) == true) :: zq1), [])) ∧ ((decide (placeF (c.nodes) d (headN c nq fq (List.headD [o] (Int.ofNat 0))) k < Int.ofNat 3)) = false → Q (.tup [.agg [.v (.int .u8 (Int.ofNat 3)), .v (.int .i64 (placeF (c.nodes) d (headN c nq fq (List.headD [o] (Int.ofNat 0))) k)), .v (.int .i64 (IntKind.wrap .i64 (Int.ofNat 1 + placeF (c.nodes) d (headN c nq fq (List.headD [o] (Int.ofNat 0))) k))), .v (.int .i64 (IntKind.wrap .i64 (IntKind.wrap .i64 (Int.ofNat 1 + placeF (c.nodes) d (headN c nq fq (List.headD [o] (Int.ofNat 0))) k) + Int.ofNat 114)))], .c (.v (.int .i64 (Int.ofNat 0)))], [], 120000000000000000000000000000000000001020, (true :: true :: true :: true :: true :: true :: true :: true :: true :: true :: true :: (decide (placeF (c.nodes) d (headN c nq fq (List.headD [o] (Int.ofNat 0))) k < Int.ofNat 3) == false) :: zq1), [])))))) :
    ∃ p r, wiOfE Tryz.prog c nq fq d o k p = some r ∧ Q r :=
  two H
  (fun g1 => ⟨pD 2 5, _, by kernel_rfl, g1⟩)
  (fun g1 => two g1
    (fun g2 => ⟨pD 3 17, _, by kernel_rfl, g2⟩)
    (fun g2 => ⟨pD 3 26, _, by kernel_rfl, g2⟩))
abbrev winA (k : IntKind) (r p b e : Int) : AV := .agg [.v (.int k r), .v (.int .i64 p), .v (.int .i64 b), .v (.int .i64 e)]
end Go.Proofs.YtpgaplcdbbnblaaGreatDoor
end
/- The contract of windows.Of. -/
section
namespace Go.Proofs.YtpgaplcdbbnblaaGreatDoor
open Go.RowKit

/-- a node's place in an owner's slot; -1: none -/
def wiP (c : Cfg) (d o k : Int) : Int := placeF c.nodes d (atF c.fp c.np o) k
def wE (p : Int) : Int := if p < 0 then 1 else 0
def wR (p : Int) : Int := if p < 0 then 0 else if p < 2 then 1 else if p = 2 then 2 else 3
def wP (p : Int) : Int := if p < 0 then 0 else p
def wB (p : Int) : Int := if p < 0 then 0 else 1 + p
def wN (p : Int) : Int := if p < 0 then 0 else 115 + p
def headsOk (c : Cfg) : Bool := decide (4 ≤ c.nodes) && (decide (c.nodes ≤ 16) && (List.range c.np).all fun i => decide (0 ≤ c.fp i ∧ c.fp i < c.nodes))
def wiPre (c : Cfg) (nq : Nat) : Bool := ckPre c nq && headsOk c
theorem place_in {n d a b : Int} : -1 ≤ placeF n d a b ∧ placeF n d a b < 16 ∧ (placeF n d a b < 0 ∨ placeF n d a b < n) := by
  unfold placeF
  split
  · rename_i h
    simp [ringB, nodeB] at h
    have m1 := Int.emod_nonneg (b - a) (show n ≠ 0 by omega)
    have m2 := Int.emod_lt_of_pos (b - a) (show 0 < n by omega)
    have m3 := Int.emod_nonneg (a + 1 - b) (show n ≠ 0 by omega)
    have m4 := Int.emod_lt_of_pos (a + 1 - b) (show 0 < n by omega)
    split <;> omega
  · omega
theorem head_at {c : Cfg} {nq : Nat} {fq : Nat → Int} (h : 0 < nq) (o : Int) : headN c nq fq o = atF c.fp c.np o := by
  unfold headN
  rw [if_neg (by omega)]
def wnR : NetS → AV
  | ⟨c, _, _, [.c (.v (.int .u8 d)), .c (.v (.int .i64 o)), .c (.v (.int .i64 k))]⟩ => .tup [winA .u8 (wR (wiP c d o k)) (wP (wiP c d o k)) (wB (wiP c d o k)) (wN (wiP c d o k)), i64 (wE (wiP c d o k))]
  | _ => i64 0
def wnQ : NetS → Bool
  | ⟨c, nq, _, [.c (.v (.int .u8 d)), .c (.v (.int .i64 _)), .c (.v (.int .i64 _))]⟩ => wiPre c nq && decide (0 ≤ d)
  | _ => false
theorem wnQ_eq (c : Cfg) (nq : Nat) (fq : Nat → Int) (d o k : Int) : wnQ ⟨c, nq, fq, [.c (.v (.int .u8 d)), .c (.v (.int .i64 o)), .c (.v (.int .i64 k))]⟩ = (wiPre c nq && decide (0 ≤ d)) := rfl
theorem mSR_g : (mSR.all fun p => Nat.ble lim p.1) = true := by kernel_rfl
def ctWiOf : CtF := ctRd (netRdG mSR mSR_g) wnR wnQ
theorem roles_at {p : Int} (h0 : 0 ≤ p) (h1 : p < 3) : (List.getD [AC.v (Value.int IntKind.u8 1), AC.v (Value.int IntKind.u8 1), AC.v (Value.int IntKind.u8 2)] (0 + Int.toNat p * 1) nov) = .v (.int .u8 (wR p)) := by
  have h : p = 0 ∨ p = 1 ∨ p = 2 := by omega
  rcases h with rfl | rfl | rfl <;> rfl
set_option maxRecDepth 100000 in
theorem ct_wiOf : CtOk Tryz.prog 86 ctWiOf := by
  refine ctRd_ofE (E := ENwi Tryz.prog) hENwi (netRdG mSR mSR_g) (fuel := 300) (str := 10000000000000000000000000000000000000000) ⟨_, _, Tryz.func86, rfl⟩ (fun s => by unfold wnR; split <;> rfl) fun s hs => ?_
  unfold wnQ at hs
  split at hs
  · rename_i c nq fq d o k
    simp only [wiPre, Bool.and_eq_true] at hs
    obtain ⟨⟨h1, h2⟩, h3⟩ := hs
    refine (?_ : (∃ p q, wiOfE Tryz.prog c nq fq d o k p = some q ∧ GoodF (.tup [winA .u8 (wR (wiP c d o k)) (wP (wiP c d o k)) (wB (wiP c d o k)) (wN (wiP c d o k)), i64 (wE (wiP c d o k))]) q) → _) (wiOf c nq fq d o k _ ?_)
    · rintro ⟨p, q, h1, h2⟩
      exact ⟨p, [], q, h1, h2⟩
    · obtain ⟨e, r1, r2, q1, q2, q3, q4, q5⟩ := ck_round h1
      rw [e]
      simp only [List.headD_cons, head_at q1, okN4_eq]
      have hP : placeF c.nodes d (atF c.fp c.np o) k = wiP c d o k := rfl
      obtain ⟨b1, b2, b3⟩ := place_in (n := c.nodes) (d := d) (a := atF c.fp c.np o) (b := k)
      rw [hP] at b1 b2 b3
      simp only [hP]
      obtain ⟨p, hp⟩ : ∃ p, wiP c d o k = p := ⟨_, rfl⟩
      rw [hp] at b1 b2 b3
      simp only [hp]
      obtain ⟨R, hR⟩ : ∃ R : Int, (c.ns : Int) * c.long = R := ⟨_, rfl⟩
      rw [hR] at r1 r2
      simp only [hR]
      have w1 : IntKind.wrap IntKind.i64 (Int.ofNat 1 + p) = 1 + p := by rw [wrap_nat _ (by simp; omega) (by simp; omega)]; simp
      have w2 : IntKind.wrap IntKind.i64 (1 + p + Int.ofNat 114) = 115 + p := by rw [wrap_nat _ (by simp; omega) (by simp; omega)]; simp; omega
      simp only [w1, w2]
      (repeat' (first | refine ⟨fun h => ?_, fun h => ?_⟩ | fail))
      all_goals (simp only [decide_eq_true_eq, decide_eq_false_iff_not, Int.ofNat_eq_natCast, Int.cast_ofNat_Int, gt_iff_lt, ge_iff_le] at *)
      all_goals (refine ⟨?_, (by first | (unfold lim; omega) | (dsimp only; unfold lim; omega)), ?_, by simp⟩)
      all_goals first
        | (simp [wR, wP, wB, wN, wE, i64, show p < 0 by omega]; done)
        | (have hh := roles_at (p := p) (by omega) (by omega)
           simp only [wP, wB, wN, wE, i64, if_neg (show ¬ p < 0 by omega), hh]; rfl)
        | (simp [wR, wP, wB, wN, wE, i64, show ¬ p < 0 by omega, show ¬ p < 2 by omega, show ¬ p = 2 by omega]; done)
        | (simp only [allT, List.forall_mem_cons, List.not_mem_nil, false_implies, implies_true, and_true, true_and, cfgK_t, netK_t, intsOk_ints, stsOk_sts, intsOk_s, stsOk_s, beq_iff_eq, decide_eq_true_eq, decide_eq_false_iff_not, beq_eq_false_iff_ne, bne_iff_ne, bne_eq_false_iff_eq, Bool.not_eq_true', Bool.not_eq_false', ne_eq, Int.ofNat_eq_natCast, Int.cast_ofNat_Int, gt_iff_lt, ge_iff_le]; omega)
        | (have hh := roles_at (p := p) (by omega) (by omega)
           simp only [allT, List.forall_mem_cons, hh, inb_lit, okl]
           simp [netK_t]
           omega)
  · cases hs
end Go.Proofs.YtpgaplcdbbnblaaGreatDoor
end
/- What a net answers, Pair, as the evaluator runs it. -/
section
namespace Go.Proofs.YtpgaplcdbbnblaaGreatDoor
open Go.RowKit

theorem nPair (c : Cfg) (nq : Nat) (fq : Nat → Int) (z : Int) (Q : VF → Prop) (H : (((!decide (↑nq > Int.ofNat 0)) = true → Q (.c (.v (.int .i64 (Int.negSucc 0))), [], 1016, [(!decide (↑nq > Int.ofNat 0)) == true, true], [])) ∧ ((!decide (↑nq > Int.ofNat 0)) = false → (((decide (z < Int.ofNat 0)) = true → Q (.c (.v (.int .i64 (Int.negSucc 0))), [], 1027, [decide (z < Int.ofNat 0) == true, true, (!decide (↑nq > Int.ofNat 0)) == false, true], [])) ∧ ((decide (z < Int.ofNat 0)) = false → (((decide (z ≥ ↑nq)) = true → Q (.c (.v (.int .i64 (Int.negSucc 0))), [], 1031, [decide (z ≥ ↑nq) == true, decide (z < Int.ofNat 0) == false, true, (!decide (↑nq > Int.ofNat 0)) == false, true], [])) ∧ ((decide (z ≥ ↑nq)) = false → Q (.c (.v (.int .i64 (fq (0 + Int.toNat z)))), [], 1035, [ABlk.inb (ABlk.mk false false 3 1 (Cs.arr nq fun k => List.map AC.v ((fun i => [Value.int .i64 (fq i)]) k))) (0 + Int.toNat z) 1, true, decide (Int.ofNat 0 ≤ z ∧ z < ↑nq), decide (z ≥ ↑nq) == false, decide (z < Int.ofNat 0) == false, true, (!decide (↑nq > Int.ofNat 0)) == false, true], [])))))))) :
    ∃ p r, netR Tryz.prog 35 c nq fq [z] p = some r ∧ Q r :=
  two H
  (fun g1 => ⟨pD 7 729, _, by kernel_rfl, g1⟩)
  (fun g1 => two g1
    (fun g2 => ⟨pD 12 3645, _, by kernel_rfl, g2⟩)
    (fun g2 => two g2
      (fun g3 => ⟨pD 12 182979, _, by kernel_rfl, g3⟩)
      (fun g3 => ⟨pD 12 360126, _, by kernel_rfl, g3⟩)))
end Go.Proofs.YtpgaplcdbbnblaaGreatDoor
end
/- Contract of what a net answers: Pair. -/
section
namespace Go.Proofs.YtpgaplcdbbnblaaGreatDoor
open Go.RowKit

def pairN (_ : Cfg) (nq : Nat) (fq : Nat → Int) (z : Int) : Int := if nq = 0 then -1 else atF fq nq z
theorem ct_pair : CtOk Tryz.prog 35 (ctNet (fun c nq fq zs => i64 (pairN c nq fq (zs.headD 0))) fun c nq fq zs => true && decide (zs.length = 1)) := by
  refine ctNet_of ⟨_, _, Tryz.func35, rfl⟩ (fun c nq fq zs => plain_i64 _) 1 fun c nq fq zs _ hz => ?_
  obtain ⟨z, rfl⟩ := List.length_eq_one_iff.1 hz
  refine (?_ : (∃ p r, netR Tryz.prog 35 c nq fq [z] p = some r ∧ (r.1 = i64 (pairN c nq fq z) ∧ r.2.2.1 ≤ lim ∧ allT r.2.2.2.1 ∧ ∀ q ∈ r.2.2.2.2, q)) → _) (nPair c nq fq z _ ?_)
  · rintro ⟨p, r, h1, h2⟩
    exact ⟨E1 Tryz.prog, 300, 10000000000000000000000000000000000000000, rfl, hE1, p, [], r, h1, h2⟩
  · repeat' (first | refine ⟨fun h => ?_, fun h => ?_⟩ | fail)
    all_goals (refine ⟨?_, (by first | (unfold lim; omega) | (dsimp only; unfold lim; omega)), ?_, by simp⟩)
    all_goals (simp only [Int.ofNat_eq_natCast] at *)
    all_goals (first
      | (show i64 _ = i64 _; unfold pairN atF; simp at *; first | (rw [if_pos (by omega)]; done) | (rw [if_neg (by omega), if_neg (by omega)]; done) | (rw [if_neg (by omega), if_pos (by omega)]; done) | (intros; omega) | (split <;> first | rfl | omega))
      | (simp at *; simp [allT, inb_arr]; omega))
end Go.Proofs.YtpgaplcdbbnblaaGreatDoor
end
/- sennitref04.Within: contract; New's loops as the evaluator runs them. -/
section
namespace Go.Proofs.YtpgaplcdbbnblaaGreatDoor
open Go.RowKit

def wiR (P : Program) (x lo hi : Int) (path : List Dec) : Option VF := viewF [] (fCallF (E1 P) (fC (E1 P) 300) 65 [i64 x, i64 lo, i64 hi] 1000 10000000000000000000000000000000000000000 (stA [] path []))
theorem wi (x lo hi : Int) (Q : VF → Prop) (H : (((decide (x > hi)) = true → Q (.c (.v (.int .i64 (Int.ofNat 3))), [], 1005, [decide (x > hi) == true], [])) ∧ ((decide (x > hi)) = false → (((decide (x < lo)) = true → Q (.c (.v (.int .i64 (Int.ofNat 1))), [], 1008, [decide (x < lo) == true, decide (x > hi) == false], [])) ∧ ((decide (x < lo)) = false → Q (.c (.v (.int .i64 (Int.ofNat 0))), [], 1008, [decide (x < lo) == false, decide (x > hi) == false], [])))))) :
    ∃ p r, wiR Tryz.prog x lo hi p = some r ∧ Q r :=
  two H
  (fun g1 => ⟨pD 1 1, _, by kernel_rfl, g1⟩)
  (fun g1 => two g1
    (fun g2 => ⟨pD 2 5, _, by kernel_rfl, g2⟩)
    (fun g2 => ⟨pD 2 8, _, by kernel_rfl, g2⟩))
def ctWithin : CtF
  | [.c (.v (.int .i64 x)), .c (.v (.int .i64 lo)), .c (.v (.int .i64 hi))], _, _ => some (i64 (withinF x lo hi), [], 0, [])
  | _, _, _ => none
def ENq (P : Program) : Env := ⟨P, [(65, ctWithin), (66, ctCfg (fun c => bo (pairs4 c)) okPr), (67, ctCfg (fun c => bo (slots4 c)) okSl)]⟩
abbrev nbV (k : Nat) : List AV := [.c (.ptr 1000 0 0), i64 (Int.ofNat k)]
def nbR (P : Program) (c : Cfg) (k : Nat) (path : List Dec) : Option VC :=
  view ([1, 4] ++ [2]) [2, 1000, 3] (fC (ENq P) 300 (loopAt P 16 0) 1000000000000000000000000000000000000000000 10000000000000000000000000000000000000000 (stH 125 [1, 4] [2, 1000, 3] (nbV k) [ints 3 c.nb c.fb, cfgB c, sts c.nt c.ft] path []))
theorem nbt (c : Cfg) (k : Nat) (Q : VC → Prop) (H : let zz2 := (ABlk.mk false false 3 1 (Cs.arr (Cfg.nb c) fun k => List.map AC.v ((fun i => [Value.int IntKind.i64 (Cfg.fb c i)]) k))); let zz0 := [some zz2, some (ABlk.mk true false 25 0 (Cs.lit [AC.v (Value.int IntKind.i64 (Cfg.nodes c)), AC.sl 0 0 0 (Cfg.np c) none, AC.sl 1 0 0 (Cfg.ns c) none, AC.v (Value.int IntKind.i64 (Cfg.long c)), AC.sl 2 0 0 (Cfg.nb c) none, AC.sl 3 0 0 (Cfg.nt c) none, AC.v (Value.int IntKind.i64 (Cfg.miss c)), AC.v (Value.int IntKind.i64 (Cfg.good c)), AC.v (Value.int IntKind.i64 (Cfg.fresh c))])), some (ABlk.mk false false 161 3 (Cs.arr (Cfg.nt c) fun k => List.map AC.v ((fun i => [Value.int IntKind.i64 (Station.node (Cfg.ft c i)), Value.int IntKind.u32 (Station.safe (Cfg.ft c i)), Value.int IntKind.i64 (Station.hold (Cfg.ft c i))]) k)))]; let zz1 := (withinF (Cfg.fb c (0 + Int.toNat (Int.ofNat k))) (Int.ofNat 0) (Int.ofNat 4096) != Int.ofNat 0); (((decide (Int.ofNat k < ↑(c.nb))) = true → ((zz1 = true → Q (Exit.ret, [some (lkA (List.zip [1, 4] (nbV k)) 1), some (lkA (List.zip [1, 4] (nbV k)) 4), some (.c (.v (.int .i64 (withinF (c.fb (0 + Int.toNat (Int.ofNat k))) (Int.ofNat 0) (Int.ofNat 4096)))))], zz0, 125, 1000000000000000000000000000000000000000015, [zz1 == true, ABlk.inb zz2 (0 + Int.toNat (Int.ofNat k)) 1, true, decide (Int.ofNat 0 ≤ Int.ofNat k ∧ Int.ofNat k < ↑(c.nb)), true, decide (Int.ofNat k < ↑(c.nb)) == true, true], [])) ∧ (zz1 = false → Q (Exit.normal, [some (lkA (List.zip [1, 4] (nbV k)) 1), some (.c (.v (.int .i64 (IntKind.wrap .i64 (Int.ofNat k + Int.ofNat 1))))), some (lkA (List.zip [1, 4] (nbV k)) 2)], zz0, 125, 1000000000000000000000000000000000000000016, [zz1 == false, ABlk.inb zz2 (0 + Int.toNat (Int.ofNat k)) 1, true, decide (Int.ofNat 0 ≤ Int.ofNat k ∧ Int.ofNat k < ↑(c.nb)), true, decide (Int.ofNat k < ↑(c.nb)) == true, true], [])))) ∧ ((decide (Int.ofNat k < ↑(c.nb))) = false → Q (Exit.exit 0, [some (lkA (List.zip [1, 4] (nbV k)) 1), some (lkA (List.zip [1, 4] (nbV k)) 4), some (lkA (List.zip [1, 4] (nbV k)) 2)], zz0, 125, 1000000000000000000000000000000000000000005, [decide (Int.ofNat k < ↑(c.nb)) == false, true], [])))) :
    ∃ p r, nbR Tryz.prog c k p = some r ∧ Q r :=
  two H
  (fun g1 => two g1
    (fun g2 => ⟨pD 2 4, _, by kernel_rfl, g2⟩)
    (fun g2 => ⟨pD 2 7, _, by kernel_rfl, g2⟩))
  (fun g1 => ⟨pD 1 2, _, by kernel_rfl, g1⟩)
def ntR (P : Program) (c : Cfg) (k : Nat) (path : List Dec) : Option VC :=
  view ([1, 5] ++ [2]) [3, 1000] (fC (ENq P) 300 (loopAt P 16 1) 1000000000000000000000000000000000000000000000000000 10000000000000000000000000000000000000000 (stH 125 [1, 5] [3, 1000] (nbV k) [sts c.nt c.ft, cfgB c] path []))
theorem ntt (c : Cfg) (k : Nat) (Q : VC → Prop) (H : let zz1 := (ABlk.mk false false 161 3 (Cs.arr (Cfg.nt c) fun k => List.map AC.v ((fun i => [Value.int IntKind.i64 (Station.node (Cfg.ft c i)), Value.int IntKind.u32 (Station.safe (Cfg.ft c i)), Value.int IntKind.i64 (Station.hold (Cfg.ft c i))]) k))); let zz0 := [some zz1, some (ABlk.mk true false 25 0 (Cs.lit [AC.v (Value.int IntKind.i64 (Cfg.nodes c)), AC.sl 0 0 0 (Cfg.np c) none, AC.sl 1 0 0 (Cfg.ns c) none, AC.v (Value.int IntKind.i64 (Cfg.long c)), AC.sl 2 0 0 (Cfg.nb c) none, AC.sl 3 0 0 (Cfg.nt c) none, AC.v (Value.int IntKind.i64 (Cfg.miss c)), AC.v (Value.int IntKind.i64 (Cfg.good c)), AC.v (Value.int IntKind.i64 (Cfg.fresh c))]))]; let zz2 := (withinF (Station.hold (c.10 (0 + Int.toNat (Int.ofNat k)))) (Int.ofNat 1) (Int.ofNat 100) != Int.ofNat 0); let zz3 := (Station.node (c.10 (0 + Int.toNat (Int.ofNat k))) < Int.ofNat 0); let zz4 := (Station.node (c.10 (0 + Int.toNat (Int.ofNat k))) ≥ Cfg.nodes c); let zq0 : List Bool := true :: []; let zq1 : List Bool := true :: true :: true :: (ABlk.inb zz1 (0 + Int.toNat (Int.ofNat k)) 3) :: true :: true :: true :: (decide (Int.ofNat 0 ≤ Int.ofNat k ∧ Int.ofNat k < ↑(c.nt))) :: true :: (decide (Int.ofNat k < ↑(c.nt)) == true) :: zq0; let zq2 : List Bool := true :: true :: true :: true :: (decide zz3 == false) :: zq1; let zq3 : List Bool := true :: true :: (decide zz4 == false) :: zq2; (((decide (Int.ofNat k < ↑(c.nt))) = true → (((decide zz3) = true → Q (Exit.ret, [some (lkA (List.zip [1, 5] (nbV k)) 1), some (lkA (List.zip [1, 5] (nbV k)) 5), some (.c (.v (.int .i64 (Int.ofNat 1))))], zz0, 125, 1000000000000000000000000000000000000000000000000018, ((decide zz3 == true) :: zq1), [])) ∧ ((decide zz3) = false → (((decide zz4) = true → Q (Exit.ret, [some (lkA (List.zip [1, 5] (nbV k)) 1), some (lkA (List.zip [1, 5] (nbV k)) 5), some (.c (.v (.int .i64 (Int.ofNat 1))))], zz0, 125, 1000000000000000000000000000000000000000000000000023, ((decide zz4 == true) :: zq2), [])) ∧ ((decide zz4) = false → ((zz2 = true → Q (Exit.ret, [some (lkA (List.zip [1, 5] (nbV k)) 1), some (lkA (List.zip [1, 5] (nbV k)) 5), some (.c (.v (.int .i64 (withinF (Station.hold (c.10 (0 + Int.toNat (Int.ofNat k)))) (Int.ofNat 1) (Int.ofNat 100)))))], zz0, 125, 1000000000000000000000000000000000000000000000000029, ((zz2 == true) :: zq3), [])) ∧ (zz2 = false → Q (Exit.normal, [some (lkA (List.zip [1, 5] (nbV k)) 1), some (.c (.v (.int .i64 (IntKind.wrap .i64 (Int.ofNat k + Int.ofNat 1))))), some (lkA (List.zip [1, 5] (nbV k)) 2)], zz0, 125, 1000000000000000000000000000000000000000000000000030, ((zz2 == false) :: zq3), [])))))))) ∧ ((decide (Int.ofNat k < ↑(c.nt))) = false → Q (Exit.exit 2, [some (lkA (List.zip [1, 5] (nbV k)) 1), some (lkA (List.zip [1, 5] (nbV k)) 5), some (lkA (List.zip [1, 5] (nbV k)) 2)], zz0, 125, 1000000000000000000000000000000000000000000000000005, ((decide (Int.ofNat k < ↑(c.nt)) == false) :: zq0), [])))) :
    ∃ p r, ntR Tryz.prog c k p = some r ∧ Q r :=
  two H
  (fun g1 => two g1
    (fun g2 => ⟨pD 7 4, _, by kernel_rfl, g2⟩)
    (fun g2 => two g2
      (fun g3 => ⟨pD 7 736, _, by kernel_rfl, g3⟩)
      (fun g3 => two g3
        (fun g4 => ⟨pD 8 3652, _, by kernel_rfl, g4⟩)
        (fun g4 => ⟨pD 8 5839, _, by kernel_rfl, g4⟩))))
  (fun g1 => ⟨pD 1 2, _, by kernel_rfl, g1⟩)
end Go.Proofs.YtpgaplcdbbnblaaGreatDoor
end
/- sennitref04.New as the evaluator runs it: a boot, or a station, is wrong. -/
section
namespace Go.Proofs.YtpgaplcdbbnblaaGreatDoor
open Go.RowKit

abbrev n4S1 (e : Exit) (l : List (Nat × AV)) (mF : AMem) : LSum := ⟨[1, 4], [2, 1000, 3], mkFr 125 l, mF, 100000000000000000000000000000000000000000000000000, e⟩
abbrev n4S2 (e : Exit) (l : List (Nat × AV)) (mF : AMem) : LSum := ⟨[1, 5], [3, 1000], mkFr 125 l, mF, 10000000000000000000000000000000000000000000000000000, e⟩
def n4R (P : Program) (c : Cfg) (lp : List (Option LSum)) (path : List Dec) : Option VF := viewF [] (fCallF (ENq P) (fC (ENq P) 300) 16 [.agg (cfgC c)] 1000 10000000000000000000000000000000000000000 (stA (cfgM c) path lp))
theorem n4A (c : Cfg) (v : Int) (Q : VF → Prop) (H : let zz0 := (if IntKind.wrap IntKind.i64 (Cfg.nodes c + Int.ofNat 116) > IntKind.wrap IntKind.i64 (IntKind.wrap IntKind.i64 (Int.ofNat 3 * Cfg.nodes c) + Int.ofNat 1) then IntKind.wrap IntKind.i64 (Cfg.nodes c + Int.ofNat 116) else IntKind.wrap IntKind.i64 (IntKind.wrap IntKind.i64 (Int.ofNat 3 * Cfg.nodes c) + Int.ofNat 1)); let zz1 := (withinF (Cfg.nodes c) (Int.ofNat 4) (Int.ofNat 16) != Int.ofNat 0); let zz2 := (withinF (↑(Cfg.np c)) (Int.ofNat 2) (Int.ofNat 8) != Int.ofNat 0); let zz3 := (withinF (↑(Cfg.ns c)) (Int.ofNat 1) (Int.ofNat 16) != Int.ofNat 0); let zz4 := (withinF (Cfg.long c) zz0 (Int.ofNat 4096) != Int.ofNat 0); let zq0 : List Bool := true :: true :: []; let zq1 : List Bool := true :: (zz1 == false) :: zq0; let zq2 : List Bool := (cfgK c) :: (okPr c) :: true :: true :: true :: true :: true :: true :: (zz2 == false) :: zq1; let zq3 : List Bool := true :: ((!pairs4 c) == false) :: zq2; let zq4 : List Bool := (cfgK c) :: (okSl c) :: true :: true :: true :: true :: true :: true :: (zz3 == false) :: zq3; let zq5 : List Bool := true :: true :: true :: true :: true :: true :: ((!slots4 c) == false) :: zq4; let zq6 : List Bool := true :: true :: true :: (zz4 == false) :: zq5; ((zz1 = true → Q (.c (.v (.int .i64 (withinF (c.nodes) (Int.ofNat 4) (Int.ofNat 16)))), [], 1009, ((zz1 == true) :: zq0), [])) ∧ (zz1 = false → ((zz2 = true → Q (.c (.v (.int .i64 (withinF (↑(c.np)) (Int.ofNat 2) (Int.ofNat 8)))), [], 1015, ((zz2 == true) :: zq1), [])) ∧ (zz2 = false → (((!pairs4 c) = true → Q (.c (.v (.int .i64 (Int.ofNat 1))), [], 1016, (((!pairs4 c) == true) :: zq2), [])) ∧ ((!pairs4 c) = false → ((zz3 = true → Q (.c (.v (.int .i64 (withinF (↑(c.ns)) (Int.ofNat 1) (Int.ofNat 16)))), [], 1023, ((zz3 == true) :: zq3), [])) ∧ (zz3 = false → (((!slots4 c) = true → Q (.c (.v (.int .i64 (Int.ofNat 1))), [], 1024, (((!slots4 c) == true) :: zq4), [])) ∧ ((!slots4 c) = false → ((zz4 = true → Q (.c (.v (.int .i64 (withinF (c.long) zz0 (Int.ofNat 4096)))), [], 1038, ((zz4 == true) :: zq5), [])) ∧ (zz4 = false → (((↑(c.nb) != c.nodes) = true → Q (.c (.v (.int .i64 (Int.ofNat 1))), [], 1043, (((↑(c.nb) != c.nodes) == true) :: zq6), [])) ∧ ((↑(c.nb) != c.nodes) = false → Q (.c (.v (.int .i64 v)), [], 100000000000000000000000000000000000000000000000000, (((↑(c.nb) != c.nodes) == false) :: zq6), [LoopV Tryz.prog (loopAt Tryz.prog 16 0) [1, 4] [2, 1000, 3] [some (.c (.ptr 1000 0 0)), some (.c (.v (.int .i64 (Int.ofNat 0))))] [some (ABlk.mk false false 3 1 (Cs.arr (c.nb) fun k => List.map AC.v ((fun i => [Value.int .i64 (c.fb i)]) k))), some (ABlk.mk true false 25 0 (Cs.lit [.v (.int .i64 (c.nodes)), AC.sl 0 0 0 (c.np) none, AC.sl 1 0 0 (c.ns) none, .v (.int .i64 (c.long)), AC.sl 2 0 0 (c.nb) none, AC.sl 3 0 0 (c.nt) none, .v (.int .i64 (c.miss)), .v (.int .i64 (c.good)), .v (.int .i64 (c.fresh))])), some (ABlk.mk false false 161 3 (Cs.arr (c.nt) fun k => List.map AC.v ((fun i => [Value.int .i64 (Station.node (c.ft i)), Value.int .u32 (Station.safe (c.ft i)), Value.int .i64 (Station.hold (c.ft i))]) k)))] 125 1043 (mkFr 125 [(2, i64 v)]) [] 100000000000000000000000000000000000000000000000000 Exit.ret none])))))))))))))))) :
    ∃ p r, n4R Tryz.prog c [some (n4S1 .ret [(2, i64 v)] [])] p = some r ∧ Q r :=
  two H
  (fun g1 => ⟨pD 1 1, _, by kernel_rfl, g1⟩)
  (fun g1 => two g1
    (fun g2 => ⟨pD 2 5, _, by kernel_rfl, g2⟩)
    (fun g2 => two g2
      (fun g3 => ⟨pD 3 17, _, by kernel_rfl, g3⟩)
      (fun g3 => two g3
        (fun g4 => ⟨pD 4 53, _, by kernel_rfl, g4⟩)
        (fun g4 => two g4
          (fun g5 => ⟨pD 5 161, _, by kernel_rfl, g5⟩)
          (fun g5 => two g5
            (fun g6 => ⟨pD 6 485, _, by kernel_rfl, g6⟩)
            (fun g6 => two g6
              (fun g7 => ⟨pD 7 1457, _, by kernel_rfl, g7⟩)
              (fun g7 => ⟨pD 7 2186, _, by kernel_rfl, g7⟩)))))))
theorem n4B (c : Cfg) (v : Int) (Q : VF → Prop) (H : let zz0 := (if IntKind.wrap IntKind.i64 (Cfg.nodes c + Int.ofNat 116) > IntKind.wrap IntKind.i64 (IntKind.wrap IntKind.i64 (Int.ofNat 3 * Cfg.nodes c) + Int.ofNat 1) then IntKind.wrap IntKind.i64 (Cfg.nodes c + Int.ofNat 116) else IntKind.wrap IntKind.i64 (IntKind.wrap IntKind.i64 (Int.ofNat 3 * Cfg.nodes c) + Int.ofNat 1)); let zz5 := (ABlk.mk true false 25 0 (Cs.lit [AC.v (Value.int IntKind.i64 (Cfg.nodes c)), AC.sl 0 0 0 (Cfg.np c) none, AC.sl 1 0 0 (Cfg.ns c) none, AC.v (Value.int IntKind.i64 (Cfg.long c)), AC.sl 2 0 0 (Cfg.nb c) none, AC.sl 3 0 0 (Cfg.nt c) none, AC.v (Value.int IntKind.i64 (Cfg.miss c)), AC.v (Value.int IntKind.i64 (Cfg.good c)), AC.v (Value.int IntKind.i64 (Cfg.fresh c))])); let zz7 := (ABlk.mk false false 161 3 (Cs.arr (Cfg.nt c) fun k => List.map AC.v ((fun i => [Value.int IntKind.i64 (Station.node (Cfg.ft c i)), Value.int IntKind.u32 (Station.safe (Cfg.ft c i)), Value.int IntKind.i64 (Station.hold (Cfg.ft c i))]) k))); let zz1 := [some (ABlk.mk false false 3 1 (Cs.arr (Cfg.nb c) fun k => List.map AC.v ((fun i => [Value.int IntKind.i64 (Cfg.fb c i)]) k))), some zz5, some zz7]; let zz2 := (withinF (Cfg.nodes c) (Int.ofNat 4) (Int.ofNat 16) != Int.ofNat 0); let zz3 := (withinF (↑(Cfg.np c)) (Int.ofNat 2) (Int.ofNat 8) != Int.ofNat 0); let zz4 := (withinF (↑(Cfg.ns c)) (Int.ofNat 1) (Int.ofNat 16) != Int.ofNat 0); let zz6 := (withinF (Cfg.long c) zz0 (Int.ofNat 4096) != Int.ofNat 0); let zz8 := (withinF (↑(Cfg.nt c)) (Int.ofNat 0) (Int.ofNat 8) != Int.ofNat 0); let zq0 : List Bool := true :: true :: []; let zq1 : List Bool := true :: (zz2 == false) :: zq0; let zq2 : List Bool := (cfgK c) :: (okPr c) :: true :: true :: true :: true :: true :: true :: (zz3 == false) :: zq1; let zq3 : List Bool := true :: ((!pairs4 c) == false) :: zq2; let zq4 : List Bool := (cfgK c) :: (okSl c) :: true :: true :: true :: true :: true :: true :: (zz4 == false) :: zq3; let zq5 : List Bool := true :: true :: true :: true :: true :: true :: ((!slots4 c) == false) :: zq4; let zq6 : List Bool := true :: true :: true :: (zz6 == false) :: zq5; let zq7 : List Bool := true :: ((↑(c.nb) != c.nodes) == false) :: zq6; ((zz2 = true → Q (.c (.v (.int .i64 (withinF (c.nodes) (Int.ofNat 4) (Int.ofNat 16)))), [], 1009, ((zz2 == true) :: zq0), [])) ∧ (zz2 = false → ((zz3 = true → Q (.c (.v (.int .i64 (withinF (↑(c.np)) (Int.ofNat 2) (Int.ofNat 8)))), [], 1015, ((zz3 == true) :: zq1), [])) ∧ (zz3 = false → (((!pairs4 c) = true → Q (.c (.v (.int .i64 (Int.ofNat 1))), [], 1016, (((!pairs4 c) == true) :: zq2), [])) ∧ ((!pairs4 c) = false → ((zz4 = true → Q (.c (.v (.int .i64 (withinF (↑(c.ns)) (Int.ofNat 1) (Int.ofNat 16)))), [], 1023, ((zz4 == true) :: zq3), [])) ∧ (zz4 = false → (((!slots4 c) = true → Q (.c (.v (.int .i64 (Int.ofNat 1))), [], 1024, (((!slots4 c) == true) :: zq4), [])) ∧ ((!slots4 c) = false → ((zz6 = true → Q (.c (.v (.int .i64 (withinF (c.long) zz0 (Int.ofNat 4096)))), [], 1038, ((zz6 == true) :: zq5), [])) ∧ (zz6 = false → (((↑(c.nb) != c.nodes) = true → Q (.c (.v (.int .i64 (Int.ofNat 1))), [], 1043, (((↑(c.nb) != c.nodes) == true) :: zq6), [])) ∧ ((↑(c.nb) != c.nodes) = false → ((zz8 = true → Q (.c (.v (.int .i64 (withinF (↑(c.nt)) (Int.ofNat 0) (Int.ofNat 8)))), [], 100000000000000000000000000000000000000000000000008, ((zz8 == true) :: zq7), [LoopV Tryz.prog (loopAt Tryz.prog 16 0) [1, 4] [2, 1000, 3] [some (.c (.ptr 1000 0 0)), some (.c (.v (.int .i64 (Int.ofNat 0))))] zz1 125 1043 (mkFr 125 [(1, .c (.ptr 1000 0 0))]) [(1000, cfgB c), (3, sts (c.nt) (c.ft))] 100000000000000000000000000000000000000000000000000 (Exit.exit 0) none])) ∧ (zz8 = false → Q (.c (.v (.int .i64 v)), [], 10000000000000000000000000000000000000000000000000000, ((zz8 == false) :: zq7), [LoopV Tryz.prog (loopAt Tryz.prog 16 1) [1, 5] [3, 1000] [some (.c (.ptr 1000 0 0)), some (.c (.v (.int .i64 (Int.ofNat 0))))] [some zz7, some zz5] 125 100000000000000000000000000000000000000000000000007 (mkFr 125 [(2, i64 v)]) [] 10000000000000000000000000000000000000000000000000000 Exit.ret none, LoopV Tryz.prog (loopAt Tryz.prog 16 0) [1, 4] [2, 1000, 3] [some (.c (.ptr 1000 0 0)), some (.c (.v (.int .i64 (Int.ofNat 0))))] zz1 125 1043 (mkFr 125 [(1, .c (.ptr 1000 0 0))]) [(1000, cfgB c), (3, sts (c.nt) (c.ft))] 100000000000000000000000000000000000000000000000000 (Exit.exit 0) none])))))))))))))))))) :
    ∃ p r, n4R Tryz.prog c [some (n4S1 (.exit 0) [(1, .c (.ptr 1000 0 0))] [(1000, cfgB c), (3, sts c.nt c.ft)]), some (n4S2 .ret [(2, i64 v)] [])] p = some r ∧ Q r :=
  two H
  (fun g1 => ⟨pD 1 1, _, by kernel_rfl, g1⟩)
  (fun g1 => two g1
    (fun g2 => ⟨pD 2 5, _, by kernel_rfl, g2⟩)
    (fun g2 => two g2
      (fun g3 => ⟨pD 3 17, _, by kernel_rfl, g3⟩)
      (fun g3 => two g3
        (fun g4 => ⟨pD 4 53, _, by kernel_rfl, g4⟩)
        (fun g4 => two g4
          (fun g5 => ⟨pD 5 161, _, by kernel_rfl, g5⟩)
          (fun g5 => two g5
            (fun g6 => ⟨pD 6 485, _, by kernel_rfl, g6⟩)
            (fun g6 => two g6
              (fun g7 => ⟨pD 7 1457, _, by kernel_rfl, g7⟩)
              (fun g7 => two g7
                (fun g8 => ⟨pD 8 4373, _, by kernel_rfl, g8⟩)
                (fun g8 => ⟨pD 8 6560, _, by kernel_rfl, g8⟩))))))))
end Go.Proofs.YtpgaplcdbbnblaaGreatDoor
end
/- sennitref04.New as the evaluator runs it: neither. -/
section
namespace Go.Proofs.YtpgaplcdbbnblaaGreatDoor
open Go.RowKit

theorem n4C (c : Cfg) (Q : VF → Prop) (H : let zz11 := (ABlk.mk false false 161 3 (Cs.arr (Cfg.nt c) fun k => List.map AC.v ((fun i => [Value.int IntKind.i64 (Station.node (Cfg.ft c i)), Value.int IntKind.u32 (Station.safe (Cfg.ft c i)), Value.int IntKind.i64 (Station.hold (Cfg.ft c i))]) k))); let zz6 := (ABlk.mk true false 25 0 (Cs.lit [AC.v (Value.int IntKind.i64 (Cfg.nodes c)), AC.sl 0 0 0 (Cfg.np c) none, AC.sl 1 0 0 (Cfg.ns c) none, AC.v (Value.int IntKind.i64 (Cfg.long c)), AC.sl 2 0 0 (Cfg.nb c) none, AC.sl 3 0 0 (Cfg.nt c) none, AC.v (Value.int IntKind.i64 (Cfg.miss c)), AC.v (Value.int IntKind.i64 (Cfg.good c)), AC.v (Value.int IntKind.i64 (Cfg.fresh c))])); let zz3 := [some (ABlk.mk false false 3 1 (Cs.arr (Cfg.nb c) fun k => List.map AC.v ((fun i => [Value.int IntKind.i64 (Cfg.fb c i)]) k))), some zz6, some zz11]; let zz0 := [LoopV Tryz.prog (loopAt Tryz.prog 16 1) [1, 5] [3, 1000] [some (AV.c (AC.ptr 1000 0 0)), some (AV.c (AC.v (Value.int IntKind.i64 (Int.ofNat 0))))] [some zz11, some zz6] 125 100000000000000000000000000000000000000000000000007 (mkFr 125 [(1, AV.c (AC.ptr 1000 0 0))]) [(1000, cfgB c)] 10000000000000000000000000000000000000000000000000000 (Exit.exit 2) none, LoopV Tryz.prog (loopAt Tryz.prog 16 0) [1, 4] [2, 1000, 3] [some (AV.c (AC.ptr 1000 0 0)), some (AV.c (AC.v (Value.int IntKind.i64 (Int.ofNat 0))))] zz3 125 1043 (mkFr 125 [(1, AV.c (AC.ptr 1000 0 0))]) [(1000, cfgB c), (3, sts (Cfg.nt c) (Cfg.ft c))] 100000000000000000000000000000000000000000000000000 (Exit.exit 0) none]; let zz8 := (if IntKind.wrap IntKind.i64 (Cfg.nodes c + Int.ofNat 116) > IntKind.wrap IntKind.i64 (IntKind.wrap IntKind.i64 (Int.ofNat 3 * Cfg.nodes c) + Int.ofNat 1) then IntKind.wrap IntKind.i64 (Cfg.nodes c + Int.ofNat 116) else IntKind.wrap IntKind.i64 (IntKind.wrap IntKind.i64 (Int.ofNat 3 * Cfg.nodes c) + Int.ofNat 1)); let zz1 := (withinF (Cfg.long c) zz8 (Int.ofNat 4096) != Int.ofNat 0); let zz2 := (withinF (Cfg.nodes c) (Int.ofNat 4) (Int.ofNat 16) != Int.ofNat 0); let zz4 := (withinF (↑(Cfg.np c)) (Int.ofNat 2) (Int.ofNat 8) != Int.ofNat 0); let zz5 := (withinF (↑(Cfg.ns c)) (Int.ofNat 1) (Int.ofNat 16) != Int.ofNat 0); let zz7 := (withinF (↑(Cfg.nt c)) (Int.ofNat 0) (Int.ofNat 8) != Int.ofNat 0); let zz9 := (withinF (Cfg.miss c) (Int.ofNat 1) (Int.ofNat 100) != Int.ofNat 0); let zz10 := (withinF (Cfg.good c) (Int.ofNat 1) (Int.ofNat 100) != Int.ofNat 0); let zz12 := (withinF (Cfg.fresh c) (Int.ofNat 1) (Int.ofNat 100) != Int.ofNat 0); let zq0 : List Bool := true :: true :: []; let zq1 : List Bool := true :: (zz2 == false) :: zq0; let zq2 : List Bool := (cfgK c) :: (okPr c) :: true :: true :: true :: true :: true :: true :: (zz4 == false) :: zq1; let zq3 : List Bool := true :: ((!pairs4 c) == false) :: zq2; let zq4 : List Bool := (cfgK c) :: (okSl c) :: true :: true :: true :: true :: true :: true :: (zz5 == false) :: zq3; let zq5 : List Bool := true :: true :: true :: true :: true :: true :: ((!slots4 c) == false) :: zq4; let zq6 : List Bool := true :: true :: true :: (zz1 == false) :: zq5; let zq7 : List Bool := true :: ((↑(c.nb) != c.nodes) == false) :: zq6; let zq8 : List Bool := true :: true :: true :: true :: true :: true :: true :: true :: true :: (zz7 == false) :: zq7; let zq9 : List Bool := true :: true :: true :: (zz9 == false) :: zq8; let zq10 : List Bool := true :: true :: true :: (zz10 == false) :: zq9; ((zz2 = true → Q (.c (.v (.int .i64 (withinF (c.nodes) (Int.ofNat 4) (Int.ofNat 16)))), [], 1009, ((zz2 == true) :: zq0), [])) ∧ (zz2 = false → ((zz4 = true → Q (.c (.v (.int .i64 (withinF (↑(c.np)) (Int.ofNat 2) (Int.ofNat 8)))), [], 1015, ((zz4 == true) :: zq1), [])) ∧ (zz4 = false → (((!pairs4 c) = true → Q (.c (.v (.int .i64 (Int.ofNat 1))), [], 1016, (((!pairs4 c) == true) :: zq2), [])) ∧ ((!pairs4 c) = false → ((zz5 = true → Q (.c (.v (.int .i64 (withinF (↑(c.ns)) (Int.ofNat 1) (Int.ofNat 16)))), [], 1023, ((zz5 == true) :: zq3), [])) ∧ (zz5 = false → (((!slots4 c) = true → Q (.c (.v (.int .i64 (Int.ofNat 1))), [], 1024, (((!slots4 c) == true) :: zq4), [])) ∧ ((!slots4 c) = false → ((zz1 = true → Q (.c (.v (.int .i64 (withinF (c.long) zz8 (Int.ofNat 4096)))), [], 1038, ((zz1 == true) :: zq5), [])) ∧ (zz1 = false → (((↑(c.nb) != c.nodes) = true → Q (.c (.v (.int .i64 (Int.ofNat 1))), [], 1043, (((↑(c.nb) != c.nodes) == true) :: zq6), [])) ∧ ((↑(c.nb) != c.nodes) = false → ((zz7 = true → Q (.c (.v (.int .i64 (withinF (↑(c.nt)) (Int.ofNat 0) (Int.ofNat 8)))), [], 100000000000000000000000000000000000000000000000008, ((zz7 == true) :: zq7), [LoopV Tryz.prog (loopAt Tryz.prog 16 0) [1, 4] [2, 1000, 3] [some (.c (.ptr 1000 0 0)), some (.c (.v (.int .i64 (Int.ofNat 0))))] zz3 125 1043 (mkFr 125 [(1, .c (.ptr 1000 0 0))]) [(1000, cfgB c), (3, sts (c.nt) (c.ft))] 100000000000000000000000000000000000000000000000000 (Exit.exit 0) none])) ∧ (zz7 = false → ((zz9 = true → Q (.c (.v (.int .i64 (withinF (c.miss) (Int.ofNat 1) (Int.ofNat 100)))), [], 10000000000000000000000000000000000000000000000000020, ((zz9 == true) :: zq8), zz0)) ∧ (zz9 = false → ((zz10 = true → Q (.c (.v (.int .i64 (withinF (c.good) (Int.ofNat 1) (Int.ofNat 100)))), [], 10000000000000000000000000000000000000000000000000032, ((zz10 == true) :: zq9), zz0)) ∧ (zz10 = false → ((zz12 = true → Q (.c (.v (.int .i64 (withinF (c.fresh) (Int.ofNat 1) (Int.ofNat 100)))), [], 10000000000000000000000000000000000000000000000000044, ((zz12 == true) :: zq10), zz0)) ∧ (zz12 = false → Q (.c (.v (.int .i64 (Int.ofNat 0))), [], 10000000000000000000000000000000000000000000000000048, ((zz12 == false) :: zq10), zz0)))))))))))))))))))))))) :
    ∃ p r, n4R Tryz.prog c [some (n4S1 (.exit 0) [(1, .c (.ptr 1000 0 0))] [(1000, cfgB c), (3, sts c.nt c.ft)]), some (n4S2 (.exit 2) [(1, .c (.ptr 1000 0 0))] [(1000, cfgB c)])] p = some r ∧ Q r :=
  two H
  (fun g1 => ⟨pD 1 1, _, by kernel_rfl, g1⟩)
  (fun g1 => two g1
    (fun g2 => ⟨pD 2 5, _, by kernel_rfl, g2⟩)
    (fun g2 => two g2
      (fun g3 => ⟨pD 3 17, _, by kernel_rfl, g3⟩)
      (fun g3 => two g3
        (fun g4 => ⟨pD 4 53, _, by kernel_rfl, g4⟩)
        (fun g4 => two g4
          (fun g5 => ⟨pD 5 161, _, by kernel_rfl, g5⟩)
          (fun g5 => two g5
            (fun g6 => ⟨pD 6 485, _, by kernel_rfl, g6⟩)
            (fun g6 => two g6
              (fun g7 => ⟨pD 7 1457, _, by kernel_rfl, g7⟩)
              (fun g7 => two g7
                (fun g8 => ⟨pD 8 4373, _, by kernel_rfl, g8⟩)
                (fun g8 => two g8
                  (fun g9 => ⟨pD 10 26243, _, by kernel_rfl, g9⟩)
                  (fun g9 => two g9
                    (fun g10 => ⟨pD 12 223073, _, by kernel_rfl, g10⟩)
                    (fun g10 => two g10
                      (fun g11 => ⟨pD 14 1994543, _, by kernel_rfl, g11⟩)
                      (fun g11 => ⟨pD 15 3588866, _, by kernel_rfl, g11⟩)))))))))))
end Go.Proofs.YtpgaplcdbbnblaaGreatDoor
end
/- sennitref04.New: its loops' sums. -/
section
namespace Go.Proofs.YtpgaplcdbbnblaaGreatDoor
open Go.RowKit

theorem ct_within : CtOk Tryz.prog 65 ctWithin := by
  refine ⟨⟨_, _, Tryz.func65, rfl⟩, fun C β m m2 w args ib r news k' ob vs hct ho hs hr hfree hlim hv => ?_⟩
  unfold ctWithin at hct
  split at hct
  · rename_i x lo hi
    simp only [Option.some.injEq, Prod.mk.injEq] at hct
    obtain ⟨rfl, rfl, rfl, rfl⟩ := hct
    cases hv
    have run : ∃ p r, wiR Tryz.prog x lo hi p = some r ∧ (r.1 = i64 (withinF x lo hi) ∧ r.2.2.1 ≤ lim ∧ allT r.2.2.2.1 ∧ ∀ q ∈ r.2.2.2.2, q) := by
      refine wi x lo hi _ ?_
      repeat' (first | refine ⟨fun h => ?_, fun h => ?_⟩ | fail)
      all_goals (refine ⟨?_, (by first | (unfold lim; omega) | (dsimp only; unfold lim; omega)), ?_, by simp⟩)
      all_goals (simp_all [allT, withinF, i64])
      all_goals (try omega)
      all_goals (rw [if_neg (by omega), if_neg (by omega)])
    obtain ⟨p, ⟨v, b', n', ob, po⟩, hrun, hvr, hn, hob, hpo⟩ := run
    obtain ⟨s', r1, r2, r3, r4⟩ := viewF_out hrun
    have hn : n' ≤ lim := hn
    refine (calls_f hE1 r1 ⟨by rw [r3]; exact hob, by rw [r4]; exact hpo⟩ (C := loneC w) (β := fun _ => none) (w := w) (vs := [.int .i64 x, .int .i64 lo, .int .i64 hi]) rfl (rel_nil w) (fun _ _ _ => rfl)).mono ?_
    rintro e w' ⟨β', u, rfl, _, _, hu, hr'⟩
    simp only at hvr
    subst hvr
    cases hu
    exact ⟨β, _, rfl, Ext.refl _, fun _ _ => rfl, rfl, by rw [List.append_nil]; exact hr.below (below_lone hr')⟩
  · cases hct
theorem hENq : EnvOk (ENq Tryz.prog) := by
  refine envOk (fun f g h => ?_) (by kernel_rfl) (by kernel_rfl)
  simp only [ENq, List.mem_cons, Prod.mk.injEq, List.not_mem_nil, or_false] at h
  rcases h with ⟨rfl, rfl⟩ | ⟨rfl, rfl⟩ | ⟨rfl, rfl⟩
  · exact ct_within
  · exact ct_pairs4
  · exact ct_slots4
theorem nb_sum (c : Cfg) (N : Nat) (hN : 1001 ≤ N) (hN2 : N ≤ 1000000000000000000000000000000000000000000) (hn : c.nb ≤ 1000000) (j : Nat) (hj : j ≤ c.nb) (hmin : ∀ i, i < j → withinF (c.fb i) 0 4096 = 0) (hyes : j < c.nb → withinF (c.fb j) 0 4096 ≠ 0) {e : Exit} {out : List (Nat × AV)} {mF : AMem}
    (hF : (j < c.nb → e = .ret ∧ out = [(2, i64 (withinF (c.fb j) 0 4096))] ∧ mF = []) ∧ (j = c.nb → e = .exit 0 ∧ out = [(1, .c (.ptr 1000 0 0))] ∧ mF = [(1000, cfgB c), (3, sts c.nt c.ft)])) :
    LoopV Tryz.prog (loopAt Tryz.prog 16 0) [1, 4] [2, 1000, 3] ((nbV 0).map some) ([ints 3 c.nb c.fb, cfgB c, sts c.nt c.ft].map some) 125 N (mkFr 125 out) mF 100000000000000000000000000000000000000000000000000 e none := by
  refine scan_ob hENq (fuel := 300) (str := 10000000000000000000000000000000000000000) (nh := 1000000000000000000000000000000000000000000) [1, 4] [2] [2, 1000, 3] nbV [ints 3 c.nb c.fb, cfgB c, sts c.nt c.ft] j hN2 (by decide) (by unfold lim; omega) ?_ (fun _ => ⟨rfl, rfl⟩) ?_ ?_ ?_ ?_ ?_
  · rcases Nat.lt_or_ge j c.nb with h | h
    · rw [(hF.1 h).1]; simp
    · rw [(hF.2 (by omega)).1]; simp
  · simp [keptB]; omega
  · intro k _
    simp [okV, lowV, lowC, notAny, i64]; omega
  · intro b hb
    simp only [List.mem_cons, List.not_mem_nil, or_false] at hb
    rcases hb with rfl | rfl | rfl
    · exact ints_low
    · exact cfgB_low (by omega)
    · exact rBlk_low
  · intro k hk
    have hm := hmin k hk
    have hw : IntKind.wrap IntKind.i64 (Int.ofNat k + Int.ofNat 1) = Int.ofNat (k + 1) := by rw [wrap_nat _ (by simp; omega) (by simp; omega)]; rfl
    have ek : 0 + Int.toNat (Int.ofNat k) = k := by simp
    refine nbt c k _ ?_
    simp only [ek]
    refine ⟨fun c1 => ⟨fun c2 => ?_, fun c2 => ?_⟩, fun c1 => ?_⟩
    · exfalso; simp [hm] at c2
    · refine ⟨⟨?_, rfl, by dsimp only; omega, rfl⟩, rfl, ?_, BL.refl _⟩
      · simp only [allT, List.forall_mem_cons, inb_arr, inb_lit]
        simp [hm]; omega
      · dsimp only; rw [hw]; rfl
    · exfalso; simp at c1; omega
  · have ek : 0 + Int.toNat (Int.ofNat j) = j := by simp
    refine nbt c j _ ?_
    simp only [ek]
    refine ⟨fun c1 => ⟨fun c2 => ?_, fun c2 => ?_⟩, fun c1 => ?_⟩
    · have hlt : j < c.nb := by simpa using c1
      obtain ⟨rfl, rfl, rfl⟩ := hF.1 hlt
      refine EndV_one ⟨?_, rfl, by dsimp only; omega, rfl⟩ rfl rfl (by simp [i64])
      have hy := hyes hlt
      simp [allT, inb_arr, inb_lit, hlt, hy]
    · have hlt : j < c.nb := by simpa using c1
      exfalso
      simp [hyes hlt] at c2
    · have hlt : ¬ j < c.nb := by simpa using c1
      obtain ⟨rfl, rfl, rfl⟩ := hF.2 (by omega)
      refine ⟨⟨?_, rfl, by dsimp only; omega, rfl⟩, rfl, fun q hq => ?_, fun p hpp => ?_⟩
      · simp [allT]; omega
      · rw [List.mem_singleton.1 hq]
        exact ⟨by simp [okV, lowV, lowC, notAny]; omega, by simp [lkA]⟩
      · simp only [List.mem_cons, List.not_mem_nil, or_false] at hpp
        rcases hpp with rfl | rfl
        · exact ⟨by simp [keptB]; omega, cfgB_low (by omega), cfgB c, by dsimp only [List.zip, List.zipWith]; exact List.mem_cons_of_mem _ (List.mem_cons_self ..), BEq.refl _⟩
        · exact ⟨by simp [keptB]; omega, rBlk_low, sts c.nt c.ft, by dsimp only [List.zip, List.zipWith]; exact List.mem_cons_of_mem _ (List.mem_cons_of_mem _ (List.mem_cons_self ..)), BEq.refl _⟩
theorem nt_sum (c : Cfg) (N : Nat) (hN : 1001 ≤ N) (hN2 : N ≤ 1000000000000000000000000000000000000000000000000000) (hn : c.nt ≤ 1000000) (j : Nat) (hj : j ≤ c.nt) (hmin : ∀ i, i < j → ruleSt c i = 0) (hyes : j < c.nt → ruleSt c j ≠ 0) {e : Exit} {out : List (Nat × AV)} {mF : AMem}
    (hF : (j < c.nt → e = .ret ∧ out = [(2, i64 (ruleSt c j))] ∧ mF = []) ∧ (j = c.nt → e = .exit 2 ∧ out = [(1, .c (.ptr 1000 0 0))] ∧ mF = [(1000, cfgB c)])) :
    LoopV Tryz.prog (loopAt Tryz.prog 16 1) [1, 5] [3, 1000] ((nbV 0).map some) ([sts c.nt c.ft, cfgB c].map some) 125 N (mkFr 125 out) mF 10000000000000000000000000000000000000000000000000000 e none := by
  refine scan_ob hENq (fuel := 300) (str := 10000000000000000000000000000000000000000) (nh := 1000000000000000000000000000000000000000000000000000) [1, 5] [2] [3, 1000] nbV [sts c.nt c.ft, cfgB c] j hN2 (by decide) (by unfold lim; omega) ?_ (fun _ => ⟨rfl, rfl⟩) ?_ ?_ ?_ ?_ ?_
  · rcases Nat.lt_or_ge j c.nt with h | h
    · rw [(hF.1 h).1]; simp
    · rw [(hF.2 (by omega)).1]; simp
  · simp [keptB]; omega
  · intro k _
    simp [okV, lowV, lowC, notAny, i64]; omega
  · intro b hb
    simp only [List.mem_cons, List.not_mem_nil, or_false] at hb
    rcases hb with rfl | rfl
    · exact rBlk_low
    · exact cfgB_low (by omega)
  · intro k hk
    have hm := hmin k hk
    have hlt : k < c.nt := by omega
    have hw : IntKind.wrap IntKind.i64 (Int.ofNat k + Int.ofNat 1) = Int.ofNat (k + 1) := by rw [wrap_nat _ (by simp; omega) (by simp; omega)]; rfl
    have ek : 0 + Int.toNat (Int.ofNat k) = k := by simp
    have hb : 0 ≤ (c.ft k).node ∧ (c.ft k).node < c.nodes := by
      unfold ruleSt at hm
      split at hm
      · assumption
      · cases hm
    have hh : withinF (c.ft k).hold 1 100 = 0 := by unfold ruleSt at hm; rw [if_pos hb] at hm; exact hm
    refine ntt c k _ ?_
    simp only [ek]
    repeat' (first | refine ⟨fun h => ?_, fun h => ?_⟩ | fail)
    all_goals (first | (exfalso; simp at *; omega) | (exfalso; simp [hh] at h; done) | skip)
    refine ⟨⟨?_, rfl, by dsimp only; omega, rfl⟩, rfl, ?_, BL.refl _⟩
    · simp only [allT, List.forall_mem_cons, inb_arr, inb_lit]
      simp [hh]; omega
    · dsimp only; rw [hw]; rfl
  · have ek : 0 + Int.toNat (Int.ofNat j) = j := by simp
    refine ntt c j _ ?_
    simp only [ek]
    rcases Nat.lt_or_ge j c.nt with hlt | hge
    · obtain ⟨rfl, rfl, rfl⟩ := hF.1 hlt
      have hy := hyes hlt
      unfold ruleSt at hy ⊢
      by_cases hb : 0 ≤ (c.ft j).node ∧ (c.ft j).node < c.nodes
      · rw [if_pos hb] at hy ⊢
        repeat' (first | refine ⟨fun h => ?_, fun h => ?_⟩ | fail)
        all_goals (first | (exfalso; simp at *; omega) | (exfalso; simp [hy] at h; done) | skip)
        refine EndV_one ⟨?_, rfl, by dsimp only; omega, rfl⟩ rfl rfl (by simp [i64])
        simp only [allT, List.forall_mem_cons, inb_arr, inb_lit]
        simp [hy]; omega
      · rw [if_neg hb] at hy ⊢
        repeat' (first | refine ⟨fun h => ?_, fun h => ?_⟩ | fail)
        all_goals (first | (exfalso; simp at *; omega) | skip)
        all_goals (refine EndV_one ⟨?_, rfl, by dsimp only; omega, rfl⟩ rfl rfl (by simp [i64]))
        all_goals (simp only [allT, List.forall_mem_cons, inb_arr, inb_lit]; simp at *; omega)
    · obtain rfl : j = c.nt := by omega
      obtain ⟨rfl, rfl, rfl⟩ := hF.2 rfl
      repeat' (first | refine ⟨fun h => ?_, fun h => ?_⟩ | fail)
      all_goals (first | (exfalso; simp at *; done) | skip)
      refine ⟨⟨?_, rfl, by dsimp only; omega, rfl⟩, rfl, fun q hq => ?_, fun p hpp => ?_⟩
      · simp [allT]
      · rw [List.mem_singleton.1 hq]
        exact ⟨by simp [okV, lowV, lowC, notAny]; omega, by simp [lkA]⟩
      · rw [List.mem_singleton.1 hpp]
        exact ⟨by simp [keptB]; omega, cfgB_low (by omega), cfgB c, by dsimp only [List.zip, List.zipWith]; exact List.mem_cons_of_mem _ (List.mem_cons_self ..), BEq.refl _⟩
end Go.Proofs.YtpgaplcdbbnblaaGreatDoor
end
/- sennitref04.New: contract. -/
section
namespace Go.Proofs.YtpgaplcdbbnblaaGreatDoor
open Go.RowKit

def ref4 (c : Cfg) : Int :=
  if rule1 c ≠ 0 then rule1 c else if rule2 c ≠ 0 then rule2 c else if pairs4 c = false then 1 else if rule4 c ≠ 0 then rule4 c else if slots4 c = false then 1 else if rule6 c ≠ 0 then rule6 c else if rule7 c ≠ 0 then rule7 c else if rule8 c ≠ 0 then rule8 c else if rule9 c ≠ 0 then rule9 c else rule10 c
def n4V (c : Cfg) (r : VF) : Prop := r.1 = i64 (ref4 c) ∧ r.2.2.1 ≤ lim ∧ allT r.2.2.2.1 ∧ ∀ q ∈ r.2.2.2.2, q
theorem max_if {n : Int} (h4 : 4 ≤ n) (h16 : n ≤ 16) : (if IntKind.wrap IntKind.i64 (n + Int.ofNat 116) > IntKind.wrap IntKind.i64 (IntKind.wrap IntKind.i64 (Int.ofNat 3 * n) + Int.ofNat 1) then IntKind.wrap IntKind.i64 (n + Int.ofNat 116) else IntKind.wrap IntKind.i64 (IntKind.wrap IntKind.i64 (Int.ofNat 3 * n) + Int.ofNat 1)) = max (3 * n + 1) (n + 116) := by
  have w1 : IntKind.wrap IntKind.i64 (n + Int.ofNat 116) = n + 116 := by
    rw [wrap_nat _ (by simp; omega) (by simp; omega)]; simp
  have w2 : IntKind.wrap IntKind.i64 (IntKind.wrap IntKind.i64 (Int.ofNat 3 * n) + Int.ofNat 1) = 3 * n + 1 := by
    rw [wrap_nat (Int.ofNat 3 * n) (by simp; omega) (by simp; omega), wrap_nat _ (by simp; omega) (by simp; omega)]; simp
  rw [w1, w2]
  split <;> omega
theorem each_stop {f : Nat → Int} {n j : Nat} {lo hi : Int} (hmin : ∀ i, i < j → withinF (f i) lo hi = 0) (hj : j < n) (hy : withinF (f j) lo hi ≠ 0) : eachF f n lo hi = withinF (f j) lo hi := by
  unfold eachF
  rw [find_first (j := j) (fun i hi => by simp [hmin i hi]) (Nat.le_of_lt hj) (fun _ => by simp [hy]), if_pos hj]
theorem each_end {f : Nat → Int} {n : Nat} {lo hi : Int} (hmin : ∀ i, i < n → withinF (f i) lo hi = 0) : eachF f n lo hi = 0 := by
  unfold eachF
  rw [find_first (j := n) (fun i hi => by simp [hmin i hi]) (Nat.le_refl _) (fun h => absurd h (Nat.lt_irrefl _)), if_neg (Nat.lt_irrefl _)]
theorem rule9_stop {c : Cfg} {j : Nat} (hmin : ∀ i, i < j → ruleSt c i = 0) (hj : j < c.nt) (hy : ruleSt c j ≠ 0) : rule9 c = ruleSt c j := by
  unfold rule9
  rw [find_first (j := j) (fun i hi => by simp [hmin i hi]) (Nat.le_of_lt hj) (fun _ => by simp [hy]), if_pos hj]
theorem rule9_end {c : Cfg} (hmin : ∀ i, i < c.nt → ruleSt c i = 0) : rule9 c = 0 := by
  unfold rule9
  rw [find_first (j := c.nt) (fun i hi => by simp [hmin i hi]) (Nat.le_refl _) (fun h => absurd h (Nat.lt_irrefl _)), if_neg (Nat.lt_irrefl _)]
theorem ref4_run (c : Cfg) : ∃ p lp r, n4R Tryz.prog c lp p = some r ∧ n4V c r := by
  have f2 : rule2 c = 0 → 2 ≤ c.np ∧ c.np ≤ 8 := fun h => by have := withinF_zero h; omega
  have f4 : rule4 c = 0 → 1 ≤ c.ns ∧ c.ns ≤ 16 := fun h => by have := withinF_zero h; omega
  have f8 : rule8 c = 0 → c.nt ≤ 8 := fun h => by have := withinF_zero h; omega
  have f1 : rule1 c = 0 → 4 ≤ c.nodes ∧ c.nodes ≤ 16 := fun h => withinF_zero h
  obtain ⟨j, hj, hmin, hyes⟩ := first_stopP c.nb fun i => withinF (c.fb i) 0 4096 ≠ 0
  simp only [ne_eq, Decidable.not_not] at hmin
  obtain ⟨i, hi, him, hiy⟩ := first_stopP c.nt fun i => ruleSt c i ≠ 0
  simp only [ne_eq, Decidable.not_not] at him
  have r1 : withinF (Cfg.nodes c) (Int.ofNat 4) (Int.ofNat 16) = rule1 c := rfl
  have r2 : withinF (↑(Cfg.np c)) (Int.ofNat 2) (Int.ofNat 8) = rule2 c := rfl
  have r4 : withinF (↑(Cfg.ns c)) (Int.ofNat 1) (Int.ofNat 16) = rule4 c := rfl
  have r6 : withinF (Cfg.long c) (max (3 * Cfg.nodes c + 1) (Cfg.nodes c + 116)) (Int.ofNat 4096) = rule6 c := rfl
  have r8 : withinF (↑(Cfg.nt c)) (Int.ofNat 0) (Int.ofNat 8) = rule8 c := rfl
  have z1 : Int.ofNat 1 = 1 := rfl
  have z0 : Int.ofNat 0 = 0 := rfl
  have z100 : Int.ofNat 100 = 100 := rfl
  by_cases h1 : rule1 c = 0
  · obtain ⟨g4, g16⟩ := f1 h1
    have hmx := max_if g4 g16
    rcases Nat.lt_or_ge j c.nb with hlt | hge
    · have hy := hyes hlt
      have e7 : (c.nb : Int) = c.nodes → rule7 c = withinF (c.fb j) 0 4096 := fun h => by unfold rule7; rw [if_pos h, each_stop hmin hlt hy]
      have e7' : ¬ (c.nb : Int) = c.nodes → rule7 c = 1 := fun h => by unfold rule7; rw [if_neg h]
      refine (?_ : (∃ p r, n4R Tryz.prog c [some (n4S1 .ret [(2, i64 (withinF (c.fb j) 0 4096))] [])] p = some r ∧ n4V c r) → _) (n4A c (withinF (c.fb j) 0 4096) (n4V c) ?_)
      · rintro ⟨p, r, q1, q2⟩
        exact ⟨p, _, r, q1, q2⟩
      simp only [cfgI_eq, cfgK_t, intsOk_ints, stsOk_sts, r1, r2, r4, hmx, r6, r8]
      repeat' (first | refine ⟨fun h => ?_, fun h => ?_⟩ | fail)
      all_goals (simp only [bne_iff_ne, ne_eq, bne_eq_false_iff_eq, Bool.not_eq_true', Bool.not_eq_false', z0, z1] at *)
      all_goals (refine ⟨?_, (by first | (unfold lim; omega) | (dsimp only; unfold lim; omega)), ?_, ?_⟩)
      all_goals (first
        | (intro q hq; cases hq; done)
        | (intro q hq
           rw [List.mem_singleton.1 hq]
           exact nb_sum c _ (by omega) (by omega) (by omega) j hj hmin (fun _ => hy) ⟨fun _ => ⟨rfl, rfl, rfl⟩, fun h => by omega⟩)
        | (simp_all [ref4, i64]; done)
        | (simp_all [allT, okPr, okSl]; done)
        | (simp_all [allT, okPr, okSl]; omega)
        | fail)
    · obtain rfl : j = c.nb := by omega
      have e7 : (c.nb : Int) = c.nodes → rule7 c = 0 := fun h => by unfold rule7; rw [if_pos h, each_end hmin]
      have e7' : ¬ (c.nb : Int) = c.nodes → rule7 c = 1 := fun h => by unfold rule7; rw [if_neg h]
      have r10a : withinF (Cfg.miss c) (Int.ofNat 1) (Int.ofNat 100) = withinF c.miss 1 100 := rfl
      have r10b : withinF (Cfg.good c) (Int.ofNat 1) (Int.ofNat 100) = withinF c.good 1 100 := rfl
      have r10c : withinF (Cfg.fresh c) (Int.ofNat 1) (Int.ofNat 100) = withinF c.fresh 1 100 := rfl
      rcases Nat.lt_or_ge i c.nt with hlt | hge
      · have hy := hiy hlt
        have e9 : rule9 c = ruleSt c i := rule9_stop him hlt hy
        refine (?_ : (∃ p r, n4R Tryz.prog c [some (n4S1 (.exit 0) [(1, .c (.ptr 1000 0 0))] [(1000, cfgB c), (3, sts c.nt c.ft)]), some (n4S2 .ret [(2, i64 (ruleSt c i))] [])] p = some r ∧ n4V c r) → _) (n4B c (ruleSt c i) (n4V c) ?_)
        · rintro ⟨p, r, q1, q2⟩
          exact ⟨p, _, r, q1, q2⟩
        simp only [cfgI_eq, cfgK_t, intsOk_ints, stsOk_sts, r1, r2, r4, hmx, r6, r8, r10a, r10b, r10c]
        repeat' (first | refine ⟨fun h => ?_, fun h => ?_⟩ | fail)
        all_goals (simp only [bne_iff_ne, ne_eq, bne_eq_false_iff_eq, Bool.not_eq_true', Bool.not_eq_false', z0, z1] at *)
        all_goals (refine ⟨?_, (by first | (unfold lim; omega) | (dsimp only; unfold lim; omega)), ?_, ?_⟩)
        all_goals (first
          | (intro q hq; cases hq; done)
          | (intro q hq
             rw [List.mem_singleton.1 hq]
             exact nb_sum c _ (by omega) (by omega) (by omega) c.nb (Nat.le_refl _) hmin (fun h => by omega) ⟨fun h => by omega, fun _ => ⟨rfl, rfl, rfl⟩⟩)
          | (intro q hq
             simp only [List.mem_cons, List.not_mem_nil, or_false] at hq
             rcases hq with rfl | rfl
             · exact nt_sum c _ (by omega) (by omega) (by omega) i hi him (fun _ => hy) ⟨fun _ => ⟨rfl, rfl, rfl⟩, fun h => by omega⟩
             · exact nb_sum c _ (by omega) (by omega) (by omega) c.nb (Nat.le_refl _) hmin (fun h => by omega) ⟨fun h => by omega, fun _ => ⟨rfl, rfl, rfl⟩⟩)
          | (simp_all [ref4, i64, rule10]; done)
          | (simp_all [allT, okPr, okSl]; done)
          | (simp_all [allT, okPr, okSl]; omega)
          | fail)
      · obtain rfl : i = c.nt := by omega
        have e9 : rule9 c = 0 := rule9_end him
        refine (?_ : (∃ p r, n4R Tryz.prog c [some (n4S1 (.exit 0) [(1, .c (.ptr 1000 0 0))] [(1000, cfgB c), (3, sts c.nt c.ft)]), some (n4S2 (.exit 2) [(1, .c (.ptr 1000 0 0))] [(1000, cfgB c)])] p = some r ∧ n4V c r) → _) (n4C c (n4V c) ?_)
        · rintro ⟨p, r, q1, q2⟩
          exact ⟨p, _, r, q1, q2⟩
        simp only [cfgI_eq, cfgK_t, intsOk_ints, stsOk_sts, r1, r2, r4, hmx, r6, r8, r10a, r10b, r10c]
        repeat' (first | refine ⟨fun h => ?_, fun h => ?_⟩ | fail)
        all_goals (simp only [bne_iff_ne, ne_eq, bne_eq_false_iff_eq, Bool.not_eq_true', Bool.not_eq_false', z0, z1] at *)
        all_goals (refine ⟨?_, (by first | (unfold lim; omega) | (dsimp only; unfold lim; omega)), ?_, ?_⟩)
        all_goals (first
          | (intro q hq; cases hq; done)
          | (intro q hq
             rw [List.mem_singleton.1 hq]
             exact nb_sum c _ (by omega) (by omega) (by omega) c.nb (Nat.le_refl _) hmin (fun h => by omega) ⟨fun h => by omega, fun _ => ⟨rfl, rfl, rfl⟩⟩)
          | (intro q hq
             simp only [List.mem_cons, List.not_mem_nil, or_false] at hq
             rcases hq with rfl | rfl
             · exact nt_sum c _ (by omega) (by omega) (by omega) c.nt (Nat.le_refl _) him (fun h => by omega) ⟨fun h => by omega, fun _ => ⟨rfl, rfl, rfl⟩⟩
             · exact nb_sum c _ (by omega) (by omega) (by omega) c.nb (Nat.le_refl _) hmin (fun h => by omega) ⟨fun h => by omega, fun _ => ⟨rfl, rfl, rfl⟩⟩)
          | (simp_all [ref4, i64, rule10]; done)
          | (simp_all [allT, okPr, okSl]; done)
          | (simp_all [allT, okPr, okSl]; omega)
          | fail)
  · refine (?_ : (∃ p r, n4R Tryz.prog c [some (n4S1 .ret [(2, i64 0)] [])] p = some r ∧ n4V c r) → _) (n4A c 0 (n4V c) ?_)
    · rintro ⟨p, r, q1, q2⟩
      exact ⟨p, _, r, q1, q2⟩
    simp only [r1]
    refine ⟨fun h => ⟨?_, (by first | (unfold lim; omega) | (dsimp only; unfold lim; omega)), ?_, fun q hq => (by cases hq)⟩, fun h => ?_⟩
    · show i64 (rule1 c) = i64 (ref4 c)
      unfold ref4
      rw [if_pos h1]
    · simp [allT]
      exact h1
    · exfalso
      simp at h
      exact h1 h
end Go.Proofs.YtpgaplcdbbnblaaGreatDoor
end
/- What the document says is wrong with a config is what configs.New says. No Go text is in sight. -/
section
namespace Go.Proofs.YtpgaplcdbbnblaaGreatDoor
open Go.RowKit

theorem slots_eq (c : Cfg) : slots4 c = all5 c c.np := by
  have hin : ((List.range c.ns).all fun k => decide (¬ BadS c k)) = insideF c.fs c.ns c.np := by
    unfold insideF BadS
    congr 1
    funext k
    simp only [decide_eq_decide]
    omega
  unfold slots4 all5
  rw [hin]
  cases hi : insideF c.fs c.ns c.np with
  | false => rfl
  | true =>
    have h0 : ∀ k, k < c.ns → 0 ≤ c.fs k := fun k hk => by
      have := List.all_eq_true.1 hi k (by simpa using hk)
      simp at this
      exact this.1
    rw [Bool.true_and, Bool.true_and]
    congr 1
    funext i
    unfold hasQ hasF
    rw [Bool.eq_iff_iff]
    simp only [Bool.not_eq_false, decide_eq_true_eq, List.any_eq_true, List.mem_range, beq_iff_eq]
    constructor
    · rintro ⟨p, h1, h2⟩
      exact ⟨p, h1, by have := h0 p h1; simp; omega⟩
    · rintro ⟨p, h1, h2⟩
      exact ⟨p, h1, by have := h0 p h1; simp at h2; omega⟩
theorem used_iff (c : Cfg) (k i : Nat) : usedF c k i = true ↔ ∃ p, p < k ∧ (i = (c.fp p).toNat ∨ i = (nxt4 c p).toNat) := by
  unfold usedF
  simp [List.any_eq_true]
def Fair (c : Cfg) : Prop := (∀ i, i < c.np → 0 ≤ c.fp i ∧ c.fp i < c.nodes) ∧ (∀ i, i + 1 < c.np → c.fp i ≤ c.fp (i + 1)) ∧ (∀ p q, p < q → q < c.np → c.fp p ≠ c.fp q ∧ c.fp p ≠ nxt4 c q ∧ nxt4 c p ≠ c.fp q ∧ nxt4 c p ≠ nxt4 c q)
theorem nxt4_ne (c : Cfg) (p : Nat) (h4 : 4 ≤ c.nodes) (h0 : 0 ≤ c.fp p) (h1 : c.fp p < c.nodes) : c.fp p ≠ nxt4 c p := by
  unfold nxt4
  rw [Int.tmod_eq_emod_of_nonneg (by omega)]
  rcases (by omega : c.fp p + 1 < c.nodes ∨ c.fp p + 1 = c.nodes) with h | h
  · rw [Int.emod_eq_of_lt (by omega) h]; omega
  · rw [h, Int.emod_self]; omega
theorem pairs_fair (c : Cfg) (h4 : 4 ≤ c.nodes) : pairs4 c = true ↔ Fair c := by
  have hp : pairs4 c = true ↔ ∀ k, k < c.np → ¬ BadP c k := by
    unfold pairs4
    simp [List.all_eq_true]
  rw [hp]
  constructor
  · intro h
    have hin : ∀ i, i < c.np → 0 ≤ c.fp i ∧ c.fp i < c.nodes := fun i hi => by
      have := h i hi
      unfold BadP at this
      omega
    refine ⟨hin, fun i hi => ?_, fun p q hpq hq => ?_⟩
    · have := h (i + 1) hi
      unfold BadP at this
      simp only [not_or, not_and, Nat.add_sub_cancel] at this
      have := this.2.2.1 (by omega)
      omega
    · have hq' := h q hq
      unfold BadP at hq'
      simp only [not_or, used_iff] at hq'
      obtain ⟨_, _, _, u1, u2⟩ := hq'
      obtain ⟨a0, a1⟩ := hin p (by omega)
      obtain ⟨b0, b1⟩ := hin q hq
      obtain ⟨n0, _⟩ := nxt4_in c p h4 a0
      obtain ⟨m0, _⟩ := nxt4_in c q h4 b0
      refine ⟨fun e => u1 ⟨p, hpq, .inl (by rw [e])⟩, fun e => u2 ⟨p, hpq, .inl (by rw [e])⟩, fun e => u1 ⟨p, hpq, .inr (by rw [e])⟩, fun e => u2 ⟨p, hpq, .inr (by rw [e])⟩⟩
  · rintro ⟨hin, hs, hd⟩ k hk
    obtain ⟨b0, b1⟩ := hin k hk
    obtain ⟨m0, _⟩ := nxt4_in c k h4 b0
    unfold BadP
    simp only [not_or, used_iff]
    refine ⟨by omega, by omega, ?_, ?_, ?_⟩
    · rintro ⟨h0, h1⟩
      have h2 := hs (k - 1) (by omega)
      rw [show k - 1 + 1 = k by omega] at h2
      exact (hd (k - 1) k (by omega) hk).1 (by omega)
    · rintro ⟨p, hpk, e⟩
      obtain ⟨a0, a1⟩ := hin p (by omega)
      obtain ⟨n0, _⟩ := nxt4_in c p h4 a0
      obtain ⟨d1, d2, d3, d4⟩ := hd p k hpk hk
      rcases e with e | e <;> omega
    · rintro ⟨p, hpk, e⟩
      obtain ⟨a0, a1⟩ := hin p (by omega)
      obtain ⟨n0, _⟩ := nxt4_in c p h4 a0
      obtain ⟨d1, d2, d3, d4⟩ := hd p k hpk hk
      rcases e with e | e <;> omega
theorem rule3_fair (c : Cfg) (h4 : 4 ≤ c.nodes) (h16 : c.nodes ≤ 16) : rule3 c = 0 ↔ Fair c := by
  have h3 : rule3 c = 0 ↔ (insideF c.fp c.np c.nodes = true ∧ sortedF c.fp c.np = true ∧ nodupF (halfF c) (2 * c.np) = true) := by
    unfold rule3
    simp only [Bool.and_eq_true]
    split <;> simp_all
  have hi : insideF c.fp c.np c.nodes = true ↔ ∀ i, i < c.np → 0 ≤ c.fp i ∧ c.fp i < c.nodes := by
    unfold insideF
    simp [List.all_eq_true]
  have hs : sortedF c.fp c.np = true ↔ ∀ i, i + 1 < c.np → c.fp i ≤ c.fp (i + 1) := by
    unfold sortedF
    simp only [List.all_eq_true, List.mem_range, decide_eq_true_eq]
    exact ⟨fun h i hi => h i (by omega), fun h i hi => h i (by omega)⟩
  have hn : nodupF (halfF c) (2 * c.np) = true ↔ ∀ q q', q < q' → q' < 2 * c.np → halfF c q ≠ halfF c q' := by
    unfold nodupF
    rw [decide_eq_true_eq, List.Nodup, List.pairwise_map, List.pairwise_iff_getElem]
    simp only [List.length_range, List.getElem_range]
    exact ⟨fun h q q' h1 h2 => h q q' (by omega) h2 h1, fun h q q' _ h2 h1 => h q q' h1 h2⟩
  rw [h3, hi, hs, hn]
  unfold Fair
  refine and_congr_right fun hin => and_congr_right fun _ => ?_
  have he : ∀ p, halfF c (2 * p) = c.fp p := fun p => by unfold halfF; rw [if_pos (by omega), show 2 * p / 2 = p by omega]
  have ho : ∀ p, p < c.np → halfF c (2 * p + 1) = nxt4 c p := fun p hp => by
    obtain ⟨a0, a1⟩ := hin p hp
    unfold halfF ringF nxt4
    rw [if_neg (by omega), show (2 * p + 1) / 2 = p by omega, if_pos ⟨h4, h16, a0, a1⟩, Int.tmod_eq_emod_of_nonneg (by omega)]
  constructor
  · intro h p q hpq hq
    refine ⟨?_, ?_, ?_, ?_⟩
    · have := h (2 * p) (2 * q) (by omega) (by omega); rwa [he, he] at this
    · have := h (2 * p) (2 * q + 1) (by omega) (by omega); rwa [he, ho q hq] at this
    · have := h (2 * p + 1) (2 * q) (by omega) (by omega); rwa [he, ho p (by omega)] at this
    · have := h (2 * p + 1) (2 * q + 1) (by omega) (by omega); rwa [ho p (by omega), ho q hq] at this
  · intro h q q' h1 h2
    obtain ⟨x, hx⟩ : ∃ x, x = q / 2 := ⟨_, rfl⟩
    obtain ⟨y, hy⟩ : ∃ y, y = q' / 2 := ⟨_, rfl⟩
    have hyn : y < c.np := by omega
    rcases Nat.lt_or_ge x y with hxy | hxy
    · obtain ⟨d1, d2, d3, d4⟩ := h x y hxy hyn
      rcases (by omega : q = 2 * x ∨ q = 2 * x + 1) with rfl | rfl <;> rcases (by omega : q' = 2 * y ∨ q' = 2 * y + 1) with rfl | rfl
      · rw [he, he]; exact d1
      · rw [he, ho y hyn]; exact d2
      · rw [he, ho x (by omega)]; exact d3
      · rw [ho x (by omega), ho y hyn]; exact d4
    · obtain rfl : x = y := by omega
      obtain rfl : q = 2 * x := by omega
      obtain rfl : q' = 2 * x + 1 := by omega
      obtain ⟨a0, a1⟩ := hin x hyn
      rw [he, ho x hyn]
      exact nxt4_ne c x h4 a0 a1
theorem ref4_eq (c : Cfg) : ref4 c = cfgErr c := by
  unfold ref4 cfgErr
  by_cases h1 : rule1 c = 0
  · obtain ⟨g4, g16⟩ := withinF_zero h1
    have hp : pairs4 c = false ↔ rule3 c ≠ 0 := by
      rw [← Bool.not_eq_true, pairs_fair c g4, ← rule3_fair c g4 g16]
    have h3 : rule3 c ≠ 0 → rule3 c = 1 := by
      unfold rule3
      split
      · intro h; exact absurd rfl h
      · intro _; rfl
    have h5 : slots4 c = false ↔ rule5 c ≠ 0 := by
      rw [slots_eq]
      unfold rule5
      cases all5 c c.np <;> simp
    have h5' : rule5 c ≠ 0 → rule5 c = 1 := by
      unfold rule5
      split
      · intro h; exact absurd rfl h
      · intro _; rfl
    by_cases e3 : rule3 c = 0
    · by_cases e5 : rule5 c = 0
      · simp [h1, hp, h5, e3, e5]
      · simp [h1, hp, h5, e3, e5, h5' e5]
    · simp [h1, hp, e3, h3 e3]
  · simp [h1]
end Go.Proofs.YtpgaplcdbbnblaaGreatDoor
end
/- sennitref04.New: contract. -/
section
namespace Go.Proofs.YtpgaplcdbbnblaaGreatDoor
open Go.RowKit

theorem ct_ref4 : CtOk Tryz.prog 16 (ctCfg (fun c => i64 (cfgErr c)) fun _ => true) := by
  refine ctCfg_of (E := ENq Tryz.prog) (fuel := 300) (str := 10000000000000000000000000000000000000000) hENq ⟨_, _, Tryz.func16, rfl⟩ (fun c => plain_i64 _) fun c _ => ?_
  obtain ⟨p, lp, r, h1, h2⟩ := ref4_run c
  unfold n4V at h2
  rw [ref4_eq] at h2
  exact ⟨p, lp, r, h1, h2⟩
end Go.Proofs.YtpgaplcdbbnblaaGreatDoor
end
