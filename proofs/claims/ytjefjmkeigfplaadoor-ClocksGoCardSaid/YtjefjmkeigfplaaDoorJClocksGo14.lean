/- Parts, one behind the other. Contract of configs.single; the rule of configs on pairs. -/
import Derived.Test.YtjefjmkeigfplaaDoorJClocksGo10
import Derived.Test.YtjefjmkeigfplaaDoorJClocksGo13
import Derived.Test.YtjefjmkeigfplaaDoorJClocksGo9
set_option linter.unusedSimpArgs false
set_option linter.unusedVariables false
/- Contract of configs.single; the rule of configs on pairs. -/
section
namespace Go.Proofs.YtjefjmkeigfplaaDoor
open Go.RowKit

def nodupF (f : Nat → Int) (n : Nat) : Bool := decide ((List.range n).map f).Nodup
def ctSingle : CtF
  | [.c a], m, _ => match slOf 1 m a with | some (n, F, b) => some (bo (nodupF (fA F) n), [], 0, [b, decide (1 ≤ n), decide (n ≤ 1000000), intsOk n F]) | none => none
  | _, _, _ => none
theorem ct_single : CtOk Tryd.prog 35 ctSingle := by
  refine ⟨⟨_, _, Tryd.func35, rfl⟩, fun C β m m2 w args ib r news k' ob vs hct ho hs hr hfree hlim hv => ?_⟩
  unfold ctSingle at hct
  split at hct
  · rename_i a
    split at hct
    · rename_i n F b hsl
      simp only [Option.some.injEq, Prod.mk.injEq] at hct
      obtain ⟨rfl, rfl, rfl, rfl⟩ := hct
      simp only [allT, List.forall_mem_cons, decide_eq_true_eq] at ho
      obtain ⟨rfl, o1, o2, o3, _⟩ := ho
      simp only [γt] at hv
      split at hv
      · rename_i v0 us hv0 hus
        cases hus
        cases hv
        obtain ⟨L, hk, hL2⟩ := blk_slice hr Nat.one_pos (slOf_sub hs hsl) hv0 3 (intsOk_eq o3) (fun _ => rfl) (loneC w) (fun _ => none) rfl
        have hL3 := hL2 (ext1 (fun _ => none) 0 L) 0 ext1_same
        have hcell : ∀ k, k < n → L.nil = false ∧ w.cell? ⟨L.b, L.o + k, none⟩ = some (.int .i64 (fA F k)) := by
          intro k hk'
          obtain ⟨g1, u, g2, _, g4⟩ := hk.cells k 0 (by simp [inb_arr, rBlk, hk'])
          have hs1 : L.s = 1 := hk.sz
          simp only [rBlk, Cs.get, γc, List.map_cons, List.map_nil, List.getD_cons_zero, Option.some.injEq] at g2
          subst g2
          rw [hs1, Nat.mul_one, Nat.add_zero] at g4
          exact ⟨g1, g4⟩
        obtain ⟨hnil, _⟩ := hcell 0 (by omega)
        simp only [γc, ext1_same, hnil, Bool.false_eq_true, if_false, Nat.zero_mul, Nat.zero_add, Nat.add_zero, Option.some.injEq] at hL3
        subst hL3
        have hz : ((List.range n).map (fA F)).length = n := by simp
        have hcs := single_w L.b L.o ((none : Option Nat).getD (L.cap - 0)) ((List.range n).map (fA F)) (by rw [hz]; exact o2) w (hk.lt hnil) (fun j hj => by rw [hz] at hj; rw [(hcell j hj).2]; simp [hj]) (by intro e; rw [e] at hz; simp at hz; omega)
        rw [hz] at hcs
        refine hcs.mono ?_
        rintro e w' ⟨rfl, hb⟩
        have hsv := single_val ((List.range n).map (fA F))
        rw [hz] at hsv
        rw [hsv]
        exact ⟨β, _, rfl, Ext.refl _, fun _ _ => rfl, rfl, by rw [List.append_nil]; exact hr.below hb⟩
      · cases hv
    · cases hct
  · cases hct
def ENr (P : Program) : Env := ⟨P, [(33, ctInside), (34, ctSorted), (35, ctSingle), (25, ctHalves)]⟩
theorem hENr : EnvOk (ENr Tryd.prog) := by
  refine envOk (fun f g h => ?_) (by kernel_rfl) (by kernel_rfl)
  simp only [ENr, List.mem_cons, Prod.mk.injEq, List.not_mem_nil, or_false] at h
  rcases h with ⟨rfl, rfl⟩ | ⟨rfl, rfl⟩ | ⟨rfl, rfl⟩ | ⟨rfl, rfl⟩
  · exact ct_inside
  · exact ct_sorted
  · exact ct_single
  · exact ct_halves
def ru3R (P : Program) (c : Cfg) (path : List Dec) : Option VF := viewF [] (fCallF (ENr P) (fC (ENr P) 300) 31 [.agg (cfgC c)] 1000 10000000000000000000000000000000000000000 (stA (cfgM c) path []))
theorem ru3 (c : Cfg) (Q : VF → Prop) (H : (((insideF (c.fp) (c.np) (c.nodes)) = true → (((sortedF (c.fp) (c.np)) = true → (((!nodupF (halfF c) (2 * c.np)) = true → Q (.c (.v (.int .i64 (Int.ofNat 1))), [], 1019, [(!nodupF (halfF c) (2 * c.np)) == true, decide (0 + 2 * c.np ≤ 2 * c.np), decide (1 ≤ 2 * c.np), decide (2 * c.np ≤ 1000000), intsOk (2 * c.np) fun k => List.map AC.v ((fun i => [Value.int .i64 (halfF (Cfg.mk (c.nodes) (c.np) (fA (eltZ (ABlk.mk false false 3 1 (Cs.arr (c.np) fun k => List.map AC.v ((fun i => [Value.int .i64 (c.fp i)]) k))) 0 0 1)) (c.ns) (fA (eltZ (ABlk.mk false false 3 1 (Cs.arr (c.ns) fun k => List.map AC.v ((fun i => [Value.int .i64 (c.fs i)]) k))) 0 0 1)) (c.long) (c.nb) (fA (eltZ (ABlk.mk false false 3 1 (Cs.arr (c.nb) fun k => List.map AC.v ((fun i => [Value.int .i64 (c.fb i)]) k))) 0 0 1)) (c.nt) (stOf (eltZ (ABlk.mk false false 64 3 (Cs.arr (c.nt) fun k => List.map AC.v ((fun i => [Value.int .i64 (Station.node (c.ft i)), Value.int .u32 (Station.safe (c.ft i)), Value.int .i64 (Station.hold (c.ft i))]) k))) 0 0 3)) (c.miss) (c.good) (c.fresh)) i)]) k), decide (0 + c.np ≤ c.np) && (decide (0 + c.ns ≤ c.ns) && (decide (0 + c.nb ≤ c.nb) && (decide (0 + c.nt ≤ c.nt) && ((intsOk (c.np) fun k => List.map AC.v ((fun i => [Value.int .i64 (c.fp i)]) k)) && ((intsOk (c.ns) fun k => List.map AC.v ((fun i => [Value.int .i64 (c.fs i)]) k)) && ((intsOk (c.nb) fun k => List.map AC.v ((fun i => [Value.int .i64 (c.fb i)]) k)) && stsOk (c.nt) fun k => List.map AC.v ((fun i => [Value.int .i64 (Station.node (c.ft i)), Value.int .u32 (Station.safe (c.ft i)), Value.int .i64 (Station.hold (c.ft i))]) k))))))), decide (c.np ≤ 1000), true, true, true, true, true, true, sortedF (c.fp) (c.np) == true, decide (0 + c.np ≤ c.np), decide (1 ≤ c.np), decide (c.np ≤ 1000000), intsOk (c.np) fun k => List.map AC.v ((fun i => [Value.int .i64 (c.fp i)]) k), true, insideF (c.fp) (c.np) (c.nodes) == true, decide (0 + c.np ≤ c.np), decide (c.np ≤ 1000000), intsOk (c.np) fun k => List.map AC.v ((fun i => [Value.int .i64 (c.fp i)]) k), true, true, true], [])) ∧ ((!nodupF (halfF c) (2 * c.np)) = false → Q (.c (.v (.int .i64 (Int.ofNat 0))), [], 1019, [(!nodupF (halfF c) (2 * c.np)) == false, decide (0 + 2 * c.np ≤ 2 * c.np), decide (1 ≤ 2 * c.np), decide (2 * c.np ≤ 1000000), intsOk (2 * c.np) fun k => List.map AC.v ((fun i => [Value.int .i64 (halfF (Cfg.mk (c.nodes) (c.np) (fA (eltZ (ABlk.mk false false 3 1 (Cs.arr (c.np) fun k => List.map AC.v ((fun i => [Value.int .i64 (c.fp i)]) k))) 0 0 1)) (c.ns) (fA (eltZ (ABlk.mk false false 3 1 (Cs.arr (c.ns) fun k => List.map AC.v ((fun i => [Value.int .i64 (c.fs i)]) k))) 0 0 1)) (c.long) (c.nb) (fA (eltZ (ABlk.mk false false 3 1 (Cs.arr (c.nb) fun k => List.map AC.v ((fun i => [Value.int .i64 (c.fb i)]) k))) 0 0 1)) (c.nt) (stOf (eltZ (ABlk.mk false false 64 3 (Cs.arr (c.nt) fun k => List.map AC.v ((fun i => [Value.int .i64 (Station.node (c.ft i)), Value.int .u32 (Station.safe (c.ft i)), Value.int .i64 (Station.hold (c.ft i))]) k))) 0 0 3)) (c.miss) (c.good) (c.fresh)) i)]) k), decide (0 + c.np ≤ c.np) && (decide (0 + c.ns ≤ c.ns) && (decide (0 + c.nb ≤ c.nb) && (decide (0 + c.nt ≤ c.nt) && ((intsOk (c.np) fun k => List.map AC.v ((fun i => [Value.int .i64 (c.fp i)]) k)) && ((intsOk (c.ns) fun k => List.map AC.v ((fun i => [Value.int .i64 (c.fs i)]) k)) && ((intsOk (c.nb) fun k => List.map AC.v ((fun i => [Value.int .i64 (c.fb i)]) k)) && stsOk (c.nt) fun k => List.map AC.v ((fun i => [Value.int .i64 (Station.node (c.ft i)), Value.int .u32 (Station.safe (c.ft i)), Value.int .i64 (Station.hold (c.ft i))]) k))))))), decide (c.np ≤ 1000), true, true, true, true, true, true, sortedF (c.fp) (c.np) == true, decide (0 + c.np ≤ c.np), decide (1 ≤ c.np), decide (c.np ≤ 1000000), intsOk (c.np) fun k => List.map AC.v ((fun i => [Value.int .i64 (c.fp i)]) k), true, insideF (c.fp) (c.np) (c.nodes) == true, decide (0 + c.np ≤ c.np), decide (c.np ≤ 1000000), intsOk (c.np) fun k => List.map AC.v ((fun i => [Value.int .i64 (c.fp i)]) k), true, true, true], [])))) ∧ ((sortedF (c.fp) (c.np)) = false → Q (.c (.v (.int .i64 (Int.ofNat 1))), [], 1017, [sortedF (c.fp) (c.np) == false, decide (0 + c.np ≤ c.np), decide (1 ≤ c.np), decide (c.np ≤ 1000000), intsOk (c.np) fun k => List.map AC.v ((fun i => [Value.int .i64 (c.fp i)]) k), true, insideF (c.fp) (c.np) (c.nodes) == true, decide (0 + c.np ≤ c.np), decide (c.np ≤ 1000000), intsOk (c.np) fun k => List.map AC.v ((fun i => [Value.int .i64 (c.fp i)]) k), true, true, true], [])))) ∧ ((insideF (c.fp) (c.np) (c.nodes)) = false → Q (.c (.v (.int .i64 (Int.ofNat 1))), [], 1015, [insideF (c.fp) (c.np) (c.nodes) == false, decide (0 + c.np ≤ c.np), decide (c.np ≤ 1000000), intsOk (c.np) fun k => List.map AC.v ((fun i => [Value.int .i64 (c.fp i)]) k), true, true, true], [])))) :
    ∃ p r, ru3R Tryd.prog c p = some r ∧ Q r := by
  rcases Bool.eq_false_or_eq_true (insideF (c.fp) (c.np) (c.nodes)) with h2 | h2
  · have g2 := H.1 h2
    rcases Bool.eq_false_or_eq_true (sortedF (c.fp) (c.np)) with h4 | h4
    · have g4 := g2.1 h4
      rcases Bool.eq_false_or_eq_true (!nodupF (halfF c) (2 * c.np)) with h6 | h6
      · have g6 := g4.1 h6
        exact ⟨([.b true, .a, .a, .b true, .a, .a, .b true] : List Dec), _, by kernel_rfl, g6⟩
      · have g6 := g4.2 h6
        exact ⟨([.b true, .a, .a, .b true, .a, .a, .b false] : List Dec), _, by kernel_rfl, g6⟩
    · have g4 := g2.2 h4
      exact ⟨([.b true, .a, .a, .b false, .a, .a, .a] : List Dec), _, by kernel_rfl, g4⟩
  · have g2 := H.2 h2
    exact ⟨([.b false, .a, .a, .a, .a, .a, .a] : List Dec), _, by kernel_rfl, g2⟩
end Go.Proofs.YtjefjmkeigfplaaDoor
end
/- The rule of configs on pairs: its contract. bits.Mul; slices.Repeat's round as the evaluator runs it. -/
section
namespace Go.Proofs.YtjefjmkeigfplaaDoor
open Go.RowKit

theorem stOf_sts {ty n : Nat} {f : Nat → Station} {o r : Bool} : stOf (elt ⟨o, r, ty, 3, .arr n fun k => List.map AC.v ((fun i => [Value.int .i64 (f i).node, .int .u32 (f i).safe, .int .i64 (f i).hold]) k)⟩ 0 0 3) = f := by
  funext i
  simp [stOf, elt, asI]
theorem stsOk_sts {n : Nat} {f : Nat → Station} : stsOk n (fun k => List.map AC.v ((fun i => [Value.int .i64 (f i).node, .int .u32 (f i).safe, .int .i64 (f i).hold]) k)) = true := by
  unfold stsOk
  exact List.all_eq_true.2 fun i _ => by simp [isSt]
theorem intsOk_s {n : Nat} {f : Nat → Int} : intsOk n (fun k => [AC.v (Value.int .i64 (f k))]) = true := intsOk_ints
theorem stsOk_s {n : Nat} {f : Nat → Station} : stsOk n (fun k => [AC.v (Value.int .i64 (f k).node), AC.v (Value.int .u32 (f k).safe), AC.v (Value.int .i64 (f k).hold)]) = true := stsOk_sts
theorem cfg_eta (c : Cfg) : Cfg.mk c.nodes c.np c.fp c.ns c.fs c.long c.nb c.fb c.nt c.ft c.miss c.good c.fresh = c := rfl
def rule3 (c : Cfg) : Int := if (insideF c.fp c.np c.nodes && (sortedF c.fp c.np && nodupF (halfF c) (2 * c.np))) = true then 0 else 1
theorem ct_ru3 : CtOk Tryd.prog 31 (ctCfg (fun c => i64 (rule3 c)) fun c => decide (1 ≤ c.np) && decide (c.np ≤ 1000)) := by
  refine ctCfg_of (E := ENr Tryd.prog) (fuel := 300) (str := 10000000000000000000000000000000000000000) hENr ⟨_, _, Tryd.func31, rfl⟩ (fun c => plain_i64 _) fun c hp => ?_
  simp only [Bool.and_eq_true, decide_eq_true_eq] at hp
  refine (?_ : (∃ p r, ru3R Tryd.prog c p = some r ∧ (r.1 = i64 (rule3 c) ∧ r.2.2.1 ≤ lim ∧ allT r.2.2.2.1 ∧ ∀ q ∈ r.2.2.2.2, q)) → _) (ru3 c _ ?_)
  · rintro ⟨p, r, h1, h2⟩
    exact ⟨p, [], r, h1, h2⟩
  · simp only [fA_ints, intsOk_ints, stOf_sts, stsOk_sts, cfg_eta]
    have h1 : c.np ≤ 1000000 := by omega
    have h2 : 1 ≤ 2 * c.np := by omega
    have h3 : 2 * c.np ≤ 1000000 := by omega
    repeat' (first | refine ⟨fun h => ?_, fun h => ?_⟩ | fail)
    all_goals (refine ⟨?_, (by first | (unfold lim; omega) | (dsimp only; unfold lim; omega)), ?_, by simp⟩)
    all_goals (simp_all [allT, rule3, i64])
    all_goals (try omega)
def ctMul : CtF
  | [.c (.v (.int .u64 x)), .c (.v (.int .u64 y))], _, _ => some (.tup [.c (.v (.int .u64 (x * y / 18446744073709551616))), .c (.v (.int .u64 (x * y % 18446744073709551616)))], [], 0, [decide (0 ≤ x ∧ x < 18446744073709551616), decide (0 ≤ y ∧ y < 18446744073709551616)])
  | _, _, _ => none
theorem ct_mul : CtOk Tryd.prog 50 ctMul := by
  refine ⟨⟨_, _, Tryd.func50, rfl⟩, fun C β m m2 w args ib r news k' ob vs hct ho hs hr hfree hlim hv => ?_⟩
  unfold ctMul at hct
  split at hct
  · rename_i x y
    simp only [Option.some.injEq, Prod.mk.injEq] at hct
    obtain ⟨rfl, rfl, rfl, rfl⟩ := hct
    simp only [allT, List.forall_mem_cons, decide_eq_true_eq] at ho
    obtain ⟨⟨x0, x1⟩, ⟨y0, y1⟩, _⟩ := ho
    cases hv
    obtain ⟨a, rfl⟩ := Int.eq_ofNat_of_zero_le x0
    obtain ⟨b, rfl⟩ := Int.eq_ofNat_of_zero_le y0
    refine (Tryd.bits_Mul a b (by omega) (by omega) w).mono ?_
    rintro e w' ⟨rfl, rfl⟩
    exact ⟨β, _, rfl, Ext.refl _, fun _ _ => rfl, by simp [γ, γt, γ1, γc], by rw [List.append_nil]; exact hr⟩
  · cases hct
def ENp (P : Program) : Env := ⟨P, [(50, ctMul)]⟩
theorem hENp : EnvOk (ENp Tryd.prog) := by
  refine envOk (fun f g h => ?_) (by kernel_rfl) (by kernel_rfl)
  simp only [ENp, List.mem_cons, Prod.mk.injEq, List.not_mem_nil, or_false] at h
  obtain ⟨rfl, rfl⟩ := h
  exact ct_mul
/-! slices.Repeat of one number: 'j' copies are there -/
abbrev repB (x : Int) (n j : Nat) : ABlk := wBlk 3 1 n fun i => [.int .i64 (if i < j then x else 0)]
abbrev repV (n j : Nat) : List AV := [.c (.sl 1021 0 0 n none), i64 (Int.ofNat j)]
def repR (P : Program) (x : Int) (n j : Nat) (path : List Dec) : Option VC :=
  view ([7, 8] ++ []) [1021] (fC (ENp P) 100 (loopAt P 24 0) 1000000000000000000000000000000000000000000 10000000000000000000000000000000000000000 (stH 48 [7, 8] [1021] (repV n j) [repB x n j] path []))
theorem rep (x : Int) (n j : Nat) (Q : VC → Prop) (H : (((decide (Int.ofNat j < ↑n)) = true → Q (Exit.normal, [some (lkA (List.zip [7, 8] (repV n j)) (0 + 1 + 1 + 1 + 1 + 1 + 1 + 1)), some (.c (.v (.int .i64 (IntKind.wrap .i64 (Int.ofNat j + ↑(min (Int.toNat (Option.getD none ↑n - Option.getD (some (Int.ofNat j)) (Int.ofNat 0))) (Int.toNat (Option.getD (some (Int.ofNat j)) ↑n - Int.ofNat 0))))))))], [some (ABlk.mk true true 3 1 (Cs.arr n fun p => if 0 + Int.toNat (Option.getD (some (Int.ofNat j)) (Int.ofNat 0)) ≤ p ∧ p < 0 + Int.toNat (Option.getD (some (Int.ofNat j)) (Int.ofNat 0)) + min (Int.toNat (Option.getD none ↑n - Option.getD (some (Int.ofNat j)) (Int.ofNat 0))) (Int.toNat (Option.getD (some (Int.ofNat j)) ↑n - Int.ofNat 0)) then elt (ABlk.mk true true 3 1 (Cs.arr n fun k => List.map AC.v ((fun i => [Value.int .i64 (if i < j then x else 0)]) k))) 0 0 1 (p - (0 + Int.toNat (Option.getD (some (Int.ofNat j)) (Int.ofNat 0)))) else List.map AC.v ((fun i => [Value.int .i64 (if i < j then x else 0)]) p)))], 48, 1100000000000000000000000000000000000000004, [decide (0 + min (Int.toNat (Option.getD none ↑n - Option.getD (some (Int.ofNat j)) (Int.ofNat 0))) (Int.toNat (Option.getD (some (Int.ofNat j)) ↑n - Int.ofNat 0)) ≤ n), decide (0 + Int.toNat (Option.getD (some (Int.ofNat j)) (Int.ofNat 0)) + min (Int.toNat (Option.getD none ↑n - Option.getD (some (Int.ofNat j)) (Int.ofNat 0))) (Int.toNat (Option.getD (some (Int.ofNat j)) ↑n - Int.ofNat 0)) ≤ n), decide (Int.ofNat 0 ≤ Int.ofNat 0 ∧ Int.ofNat 0 ≤ Option.getD (some (Int.ofNat j)) ↑n ∧ Option.getD (some (Int.ofNat j)) ↑n ≤ slC none n none), true, decide (slC none n none ≤ ↑(Option.getD none n)), true, slRow none (ABlk.mk true true 3 1 (Cs.arr n fun k => List.map AC.v ((fun i => [Value.int .i64 (if i < j then x else 0)]) k))) 0 n, decide (Int.ofNat 0 ≤ Option.getD (some (Int.ofNat j)) (Int.ofNat 0) ∧ Option.getD (some (Int.ofNat j)) (Int.ofNat 0) ≤ Option.getD none ↑n ∧ Option.getD none ↑n ≤ slC none n none), decide (Option.getD (some (Int.ofNat j)) (Int.ofNat 0) = Int.ofNat 0 ∨ Option.getD (some (Int.ofNat j)) (Int.ofNat 0) < slC none n none), decide (slC none n none ≤ ↑(Option.getD none n)), true, slRow none (ABlk.mk true true 3 1 (Cs.arr n fun k => List.map AC.v ((fun i => [Value.int .i64 (if i < j then x else 0)]) k))) 0 n, decide (Int.ofNat j < ↑n) == true], [])) ∧ ((decide (Int.ofNat j < ↑n)) = false → Q (Exit.exit 0, [some (lkA (List.zip [7, 8] (repV n j)) (0 + 1 + 1 + 1 + 1 + 1 + 1 + 1)), some (lkA (List.zip [7, 8] (repV n j)) (0 + 1 + 1 + 1 + 1 + 1 + 1 + 1 + 1))], [some (ABlk.mk true true 3 1 (Cs.arr n fun k => List.map AC.v ((fun i => [Value.int .i64 (if i < j then x else 0)]) k)))], 48, 1000000000000000000000000000000000000000004, [decide (Int.ofNat j < ↑n) == false], [])))) :
    ∃ p r, repR Tryd.prog x n j p = some r ∧ Q r := by
  rcases Bool.eq_false_or_eq_true (decide (Int.ofNat j < ↑n)) with h2 | h2
  · have g2 := H.1 h2
    exact ⟨([.b true] : List Dec), _, by kernel_rfl, g2⟩
  · have g2 := H.2 h2
    exact ⟨([.b false] : List Dec), _, by kernel_rfl, g2⟩
def rep1 (P : Program) (f : Nat → Int) (n : Int) (path : List Dec) : Option VF := viewF [1021] (fCallF (ENp P) (fC (ENp P) 300) 24 [.c (.sl 0 0 0 1 none), i64 n] 1000 10000000000000000000000000000000000000000 (stA [(0, ints 3 1 f)] path [some ⟨[7, 8], [1021], mkFr 48 [(7, .c (.sl 1021 0 0 n.toNat none))], [(1021, repB (f 0) n.toNat n.toNat)], 100000000000000000000000000000000000000000000000000, .exit 0⟩]))
theorem reps (f : Nat → Int) (n : Int) (Q : VF → Prop) (H : (((decide (n < Int.ofNat 0)) = true → False) ∧ ((decide (n < Int.ofNat 0)) = false → (((decide (Int.ofNat 1 * IntKind.wrap .u64 n / Int.ofNat 18446744073709551616 > Int.ofNat 0)) = true → False) ∧ ((decide (Int.ofNat 1 * IntKind.wrap .u64 n / Int.ofNat 18446744073709551616 > Int.ofNat 0)) = false → (((decide (Int.ofNat 1 * IntKind.wrap .u64 n % Int.ofNat 18446744073709551616 > Int.ofNat 9223372036854775807)) = true → False) ∧ ((decide (Int.ofNat 1 * IntKind.wrap .u64 n % Int.ofNat 18446744073709551616 > Int.ofNat 9223372036854775807)) = false → Q (.c (.sl 1021 0 0 (Int.toNat n) none), [some (ABlk.mk true true 3 1 (Cs.arr (Int.toNat n) fun k => List.map AC.v ((fun i => [Value.int .i64 (if i < Int.toNat n then f 0 else 0)]) k)))], 100000000000000000000000000000000000000000000000002, [decide (0 + min (Int.toNat (IntKind.wrap .i64 (Int.ofNat 1 * IntKind.wrap .u64 n % Int.ofNat 18446744073709551616))) 1 ≤ 1), decide (0 + min (Int.toNat (IntKind.wrap .i64 (Int.ofNat 1 * IntKind.wrap .u64 n % Int.ofNat 18446744073709551616))) 1 ≤ Int.toNat (IntKind.wrap .i64 (Int.ofNat 1 * IntKind.wrap .u64 n % Int.ofNat 18446744073709551616))), decide (Int.ofNat 0 ≤ IntKind.wrap .i64 (Int.ofNat 1 * IntKind.wrap .u64 n % Int.ofNat 18446744073709551616) ∧ IntKind.wrap .i64 (Int.ofNat 1 * IntKind.wrap .u64 n % Int.ofNat 18446744073709551616) = IntKind.wrap .i64 (Int.ofNat 1 * IntKind.wrap .u64 n % Int.ofNat 18446744073709551616) ∧ IntKind.wrap .i64 (Int.ofNat 1 * IntKind.wrap .u64 n % Int.ofNat 18446744073709551616) * Int.ofNat 8 ≤ Int.ofNat 140737488355328), decide (Int.ofNat 1 * IntKind.wrap .u64 n % Int.ofNat 18446744073709551616 > Int.ofNat 9223372036854775807) == false, decide (Int.ofNat 1 * IntKind.wrap .u64 n / Int.ofNat 18446744073709551616 > Int.ofNat 0) == false, true, decide (Int.ofNat 0 ≤ IntKind.wrap .u64 n ∧ IntKind.wrap .u64 n < Int.ofNat 18446744073709551616), decide (n < Int.ofNat 0) == false], [LoopV Tryd.prog (loopAt Tryd.prog 24 0) [7, 8] [1021] [some (.c (.sl 1021 0 0 (Int.toNat (IntKind.wrap .i64 (Int.ofNat 1 * IntKind.wrap .u64 n % Int.ofNat 18446744073709551616))) none)), some (.c (.v (.int .i64 ↑(min (Int.toNat (IntKind.wrap .i64 (Int.ofNat 1 * IntKind.wrap .u64 n % Int.ofNat 18446744073709551616))) 1))))] [some (ABlk.mk true true 3 1 (Cs.arr (Int.toNat (IntKind.wrap .i64 (Int.ofNat 1 * IntKind.wrap .u64 n % Int.ofNat 18446744073709551616))) fun p => if 0 ≤ p ∧ p < 0 + min (Int.toNat (IntKind.wrap .i64 (Int.ofNat 1 * IntKind.wrap .u64 n % Int.ofNat 18446744073709551616))) 1 then elt (ABlk.mk false false 3 1 (Cs.arr 1 fun k => List.map AC.v ((fun i => [Value.int .i64 (f i)]) k))) 0 0 1 (p - 0) else List.map AC.v (Array.toList (Value.cells (Value.int .i64 0)))))] 48 1027 (mkFr 48 [(7, .c (.sl 1021 0 0 (Int.toNat n) none))]) [(1021, repB (f 0) (Int.toNat n) (Int.toNat n))] 100000000000000000000000000000000000000000000000000 (Exit.exit 0) none])))))))) :
    ∃ p r, rep1 Tryd.prog f n p = some r ∧ Q r := by
  rcases Bool.eq_false_or_eq_true (decide (n < Int.ofNat 0)) with h2 | h2
  · have g2 := H.1 h2
    exact g2.elim
  · have g2 := H.2 h2
    rcases Bool.eq_false_or_eq_true (decide (Int.ofNat 1 * IntKind.wrap .u64 n / Int.ofNat 18446744073709551616 > Int.ofNat 0)) with h4 | h4
    · have g4 := g2.1 h4
      exact g4.elim
    · have g4 := g2.2 h4
      rcases Bool.eq_false_or_eq_true (decide (Int.ofNat 1 * IntKind.wrap .u64 n % Int.ofNat 18446744073709551616 > Int.ofNat 9223372036854775807)) with h6 | h6
      · have g6 := g4.1 h6
        exact g6.elim
      · have g6 := g4.2 h6
        exact ⟨([.b false, .b false, .a, .b false] : List Dec), _, by kernel_rfl, g6⟩
end Go.Proofs.YtjefjmkeigfplaaDoor
end
/- Contract of slices.Repeat of one number. -/
section
namespace Go.Proofs.YtjefjmkeigfplaaDoor
open Go.RowKit

theorem rep_ob (x : Int) (n : Nat) (h1 : 1 ≤ n) (hn : n ≤ 1000000) {z : Nat} (hz : z = n) {y : Int} (hy : y = Int.ofNat 1) {eb : Option ABlk} (heb : BL [repB x n 1] [eb]) :
    LoopV Tryd.prog (loopAt Tryd.prog 24 0) [7, 8] [1021] [some (.c (.sl 1021 0 0 z none)), some (i64 y)] [eb] 48 1027 (mkFr 48 [(7, .c (.sl 1021 0 0 n none))]) [(1021, repB x n n)] 100000000000000000000000000000000000000000000000000 (.exit 0) none := by
  subst hz
  subst hy
  refine loop_viewE hENp (fuel := 100) (str := 10000000000000000000000000000000000000000) (nh := 1000000000000000000000000000000000000000000) (S := Nat) (fun j => 1 ≤ j ∧ j ≤ z) (fun j => z - j) [7, 8] [] [1021] (repV z) (fun j => [repB x z j]) (by decide) (by decide) (by unfold lim; omega) (s0 := 1) (by omega) (fun _ => ⟨rfl, rfl⟩) rfl heb ?_ ?_
  · intro j _
    refine ⟨rfl, fun b hb => ?_⟩
    rw [List.mem_singleton.1 hb]
    exact wBlk_low
  · intro j ⟨j1, j2⟩
    have e1 : min (Int.toNat (Option.getD none ((z : Nat) : Int) - Option.getD (some (Int.ofNat j)) (Int.ofNat 0))) (Int.toNat (Option.getD (some (Int.ofNat j)) ((z : Nat) : Int) - Int.ofNat 0)) = min (z - j) j := by
      first | (simp; done) | (simp; omega)
    have e2 : 0 + Int.toNat (Option.getD (some (Int.ofNat j)) (Int.ofNat 0)) = j := by simp
    refine (?_ : (∃ p r, repR Tryd.prog x z j p = some r ∧ _) → _) (rep x z j (StepV 1027 100000000000000000000000000000000000000000000000000 48 [7, 8] [] [1021] (fun j => 1 ≤ j ∧ j ≤ z) (fun j => z - j) (repV z) (fun j => [repB x z j]) (.exit 0) [(7, .c (.sl 1021 0 0 z none))] [(1021, repB x z z)] j) ?_)
    · rintro ⟨p, r, h1, h2⟩
      exact ⟨p, [], r, h1, h2⟩
    · simp only [e1, e2]
      refine ⟨fun c1 => ?_, fun c1 => ?_⟩
      · have hlt : j < z := by simpa using c1
        refine ⟨?_, rfl, by dsimp only; omega, rfl, .inl ⟨rfl, j + min (z - j) j, by omega, by show z - (j + min (z - j) j) < z - j; omega, ?_, ?_⟩⟩
        · simp only [allT, List.forall_mem_cons]
          simp [slC, slRow, hlt]
          omega
        · dsimp only
          rw [wrap_nat _ (by simp; omega) (by simp; omega)]
          simp [lkA, i64]
        · refine ⟨⟨rfl, rfl, rfl, rfl, .inr (.inl ⟨z, _, _, rfl, rfl, fun i hi => ?_⟩)⟩, trivial⟩
          by_cases h : j ≤ i ∧ i < j + min (z - j) j
          · rw [if_pos h]
            simp [elt, show i - j < j by omega, show i < j + min (z - j) j by omega]
          · rw [if_neg h]
            by_cases h2 : i < j
            · simp [h2, show i < j + min (z - j) j by omega]
            · simp [h2, show ¬ i < j + min (z - j) j by omega]
      · have hge : j = z := by simp at c1; omega
        subst hge
        refine ⟨by simp [allT], rfl, by dsimp only; omega, rfl, .inr ⟨by simp, rfl, fun q hq => ?_, fun p hp => ?_⟩⟩
        · rw [List.mem_singleton.1 hq]
          exact ⟨rfl, by simp [lkA]⟩
        · rw [List.mem_singleton.1 hp]
          exact ⟨rfl, wBlk_low, _, List.mem_cons_self .., BEq.refl _⟩
def ctRepeat : CtF
  | [.c a, .c (.v (.int .i64 n))], m, ib => match slOf 1 m a with | some (k, F, b) => some (.c (.sl ib 0 0 n.toNat none), [(ib, repB (fA F 0) n.toNat n.toNat)], 1, [b, decide (k = 1), decide (1 ≤ n), decide (n ≤ 1000000), intsOk k F]) | none => none
  | _, _, _ => none
theorem ct_repeat : CtOk Tryd.prog 24 ctRepeat := by
  refine ⟨⟨_, _, Tryd.func24, rfl⟩, fun C β m m2 w args ib r news k' ob vs hct ho hs hr hfree hlim hv => ?_⟩
  unfold ctRepeat at hct
  split at hct
  · rename_i a n
    split at hct
    · rename_i k F b hsl
      simp only [Option.some.injEq, Prod.mk.injEq] at hct
      obtain ⟨rfl, rfl, rfl, rfl⟩ := hct
      simp only [allT, List.forall_mem_cons, decide_eq_true_eq] at ho
      obtain ⟨rfl, rfl, o1, o2, o3, _⟩ := ho
      simp only [γt] at hv
      split at hv
      · rename_i v0 us hv0 hus
        cases hus
        cases hv
        obtain ⟨L0, hL1, hL2⟩ := rel_one hr (slOf_sub hs hsl) o3 (v0 := v0) hv0 3
        obtain ⟨q, hq⟩ : ∃ q : Nat, n = q := Int.eq_ofNat_of_zero_le (by omega)
        have hu : IntKind.wrap IntKind.u64 n = n := by subst hq; simp [IntKind.wrap, IntKind.bits, IntKind.signed]; omega
        have hm : Int.ofNat 1 * n % Int.ofNat 18446744073709551616 = n := by simp; omega
        have hd : Int.ofNat 1 * n / Int.ofNat 18446744073709551616 = 0 := by simp; omega
        obtain ⟨p, r, hrun, hvr, hbl, hn, hob, hpo⟩ : ∃ p r, rep1 Tryd.prog (fA F) n p = some r ∧ (r.1 = .c (.sl 1021 0 0 n.toNat none) ∧ r.2.1 = [some (repB (fA F 0) n.toNat n.toNat)] ∧ r.2.2.1 ≤ lim ∧ allT r.2.2.2.1 ∧ ∀ q ∈ r.2.2.2.2, q) := by
          refine reps (fA F) n _ ?_
          simp only [hu, hm, hd, wrap_nat n (by omega) (by omega)]
          refine ⟨fun h => by simp at h; omega, fun _ => ⟨fun h => by simp at h, fun _ => ⟨fun h => by simp at h; omega, fun _ => ?_⟩⟩⟩
          refine ⟨by first | trivial | rfl, by first | trivial | rfl, (by first | (unfold lim; omega) | (dsimp only; unfold lim; omega)), ?_, fun q hq => ?_⟩
          · simp [allT]; omega
          · rw [List.mem_singleton.1 hq]
            refine rep_ob (fA F 0) n.toNat (by omega) (by omega) rfl (by simp; omega) ⟨⟨rfl, rfl, rfl, rfl, .inr (.inl ⟨n.toNat, _, _, rfl, rfl, fun i hi => ?_⟩)⟩, trivial⟩
            by_cases h0 : i = 0
            · subst h0
              simp [elt]
              omega
            · have h1 : ¬ i < 1 := by omega
              have hc : ¬ i < min n.toNat 1 := by omega
              have hc2 : ¬ (0 ≤ i ∧ i < 0 + min n.toNat 1) := by omega
              rw [if_neg (by simpa using hc)]
              simp [h1]
              rfl
        obtain ⟨v, b', n', ob, po⟩ := r
        obtain ⟨s', r1, r2, r3, r4⟩ := viewF_out hrun
        have hn : n' ≤ lim := hn
        simp only at hvr hbl
        subst hvr
        subst hbl
        refine (calls_f hENp r1 ⟨by rw [r3]; exact hob, by rw [r4]; exact hpo⟩ (C := loneC w) (β := ext1 (fun _ => none) 0 L0) (w := w) (vs := [v0, .int .i64 n]) ?_ hL1 (fun id h1 _ => by unfold ext1; rw [if_neg (by omega)])).mono ?_
        · simp only [γt, i64, γ1, hL2]
          rfl
        · rintro e w' ⟨β', u, rfl, _, _, hu, hr'⟩
          simp only [List.map_cons, List.map_nil, List.cons.injEq, and_true] at r2
          obtain ⟨L, hL, hb⟩ := hr'.blk 1021 _ r2
          have hid : β ib = none := hfree ib (Nat.le_refl _) (by omega)
          refine ⟨ext1 β ib L, u, rfl, ext1_ext hid, fun id h => ?_, ?_, ?_⟩
          · unfold ext1
            rw [if_neg (by omega)]
          · simp only [γ, γ1, γc, hL] at hu
            simp only [γ, γ1, γc, ext1_same]
            exact hu
          · refine rel_fresh hr (below_lone hr') hid (not_gid (by omega)) hr' r2 rfl rfl (fun k j _ => ?_) hL
            match j with
            | 0 => exact ⟨_, rfl⟩
            | j + 1 => exact ⟨_, rfl⟩
      · cases hv
    · cases hct
  · cases hct
end Go.Proofs.YtjefjmkeigfplaaDoor
end
/- slices.Clone of stations as the evaluator runs it: of some, of none, of nil. -/
section
namespace Go.Proofs.YtjefjmkeigfplaaDoor
open Go.RowKit

def clnR (P : Program) (a : AV) (m : AMem) (path : List Dec) : Option VF := viewF [1003, 1005] (fCallF (E1 P) (fC (E1 P) 300) 49 [a] 1000 10000000000000000000000000000000000000000 (stA m path []))
theorem clnA (f : Nat → Station) (n : Nat) (Q : VF → Prop) (H : Q (.c (.sl 1005 0 0 (0 + n) none), [none, some (ABlk.mk true true 64 3 (Cs.arr (0 + n) fun i => if i < 0 then [] else elt (ABlk.mk false false 64 3 (Cs.arr n fun k => List.map AC.v ((fun i => [Value.int .i64 (Station.node (f i)), Value.int .u32 (Station.safe (f i)), Value.int .i64 (Station.hold (f i))]) k))) 0 0 3 (i - 0)))], 1007, [decide (0 + n ≤ n), true, true, decide ((0 + n) * 24 ≤ 140737488355328), ABlk.inb (ABlk.mk false false 64 3 (Cs.arr n fun k => List.map AC.v ((fun i => [Value.int .i64 (Station.node (f i)), Value.int .u32 (Station.safe (f i)), Value.int .i64 (Station.hold (f i))]) k))) 0 1], [])) :
    ∃ p r, clnR Tryd.prog (.c (.sl 0 0 0 n none)) [(0, sts n f)] p = some r ∧ Q r := by
  exact ⟨([.a] : List Dec), _, by kernel_rfl, H⟩
theorem clnB  (Q : VF → Prop) (H : Q (.c (AC.v (Value.slice none 0 0)), [none, none], 1004, [], [])) :
    ∃ p r, clnR Tryd.prog (.c (.v (.slice none 0 0))) [] p = some r ∧ Q r := by
  exact ⟨([.a] : List Dec), _, by kernel_rfl, H⟩
theorem clnC (b o cc : Nat) (Q : VF → Prop) (H : Q (.c (.sl 1003 0 0 0 none), [some (ABlk.mk true true 64 3 (Cs.arr 0 fun x => [])), none], 1007, [true, true, true], [])) :
    ∃ p r, clnR Tryd.prog (.c (.v (.slice (some ⟨b, o, none⟩) 0 cc))) [] p = some r ∧ Q r := by
  exact ⟨([.a] : List Dec), _, by kernel_rfl, H⟩
end Go.Proofs.YtjefjmkeigfplaaDoor
end
/- Contract of slices.Clone of stations. -/
section
namespace Go.Proofs.YtjefjmkeigfplaaDoor
open Go.RowKit

abbrev stsW (n : Nat) (f : Nat → Station) : ABlk := wBlk 64 3 n fun i => [.int .i64 (f i).node, .int .u32 (f i).safe, .int .i64 (f i).hold]
def ctClnSt : CtF
  | [.c a], m, ib => match slOf 3 m a with | some (n, F, b) => some (.c (.sl ib 0 0 n none), [(ib, stsW n (stOf F))], 1, [b, decide (n ≤ 1000000), stsOk n F]) | none => none
  | _, _, _ => none
theorem ct_clnSt : CtOk Tryd.prog 49 ctClnSt := by
  refine ⟨⟨_, _, Tryd.func49, rfl⟩, fun C β m m2 w args ib r news k' ob vs hct ho hs hr hfree hlim hv => ?_⟩
  unfold ctClnSt at hct
  split at hct
  · rename_i a
    split at hct
    · rename_i n F b hsl
      simp only [Option.some.injEq, Prod.mk.injEq] at hct
      obtain ⟨rfl, rfl, rfl, rfl⟩ := hct
      simp only [allT, List.forall_mem_cons, decide_eq_true_eq] at ho
      obtain ⟨rfl, o2, o3, _⟩ := ho
      simp only [γt] at hv
      split at hv
      · rename_i v0 us hv0 hus
        cases hus
        cases hv
        have hid : β ib = none := hfree ib (Nat.le_refl _) (by omega)
        have hmid : look m2 ib = none := by
          cases e : look m2 ib with
          | none => rfl
          | some x => obtain ⟨L, hL, _⟩ := hr.blk ib x e; rw [hid] at hL; cases hL
        obtain ⟨L, hk, hL2⟩ := blk_slice hr (by omega : 0 < 3) (slOf_sub hs hsl) hv0 64 (stsOk_eq o3) (fun _ => rfl) (loneC w) (fun _ => none) rfl
        have hL3 := hL2 (ext1 (fun _ => none) 0 L) 0 ext1_same
        have hrel := (rel_add_ro (rel_nil w) (fun _ _ h => by cases h) (id := 0) rfl (fun g => by unfold gid; omega) rfl rfl hk).1
        rcases Nat.eq_zero_or_pos n with rfl | hpos
        · cases hnil : L.nil with
          | true =>
            simp only [γc, ext1_same, hnil, if_true] at hL3
            have hv1 : v0 = .slice none 0 0 := by simpa using hL3.symm
            subst hv1
            obtain ⟨p, ⟨v, b', n', ob, po⟩, hrun, hvr, hn, hob, hpo⟩ : ∃ p r, clnR Tryd.prog (.c (.v (.slice none 0 0))) [] p = some r ∧ (r.1 = .c (.v (.slice none 0 0)) ∧ r.2.2.1 ≤ lim ∧ allT r.2.2.2.1 ∧ ∀ q ∈ r.2.2.2.2, q) := clnB _ ⟨rfl, by dsimp only; unfold lim; omega, by simp [allT], by simp⟩
            obtain ⟨s', r1, r2, r3, r4⟩ := viewF_out hrun
            refine (calls_f hE1 r1 ⟨by rw [r3]; exact hob, by rw [r4]; exact hpo⟩ (C := loneC w) (β := fun _ => none) (w := w) (vs := [.slice none 0 0]) rfl (rel_nil w) (fun _ _ _ => rfl)).mono ?_
            rintro e w' ⟨β', u, rfl, _, _, hu, hr'⟩
            simp only at hvr
            subst hvr
            cases hu
            refine ⟨ext1 β ib ⟨0, 0, 3, 0, true⟩, _, rfl, ext1_ext hid, fun id h => by unfold ext1; rw [if_neg (by omega)], ?_, rel_add_nil (y := stsW 0 (stOf F)) (hr.below (below_lone hr')) hid (not_gid (by omega)) rfl⟩
            simp [γ, γ1, γc, ext1_same]
          | false =>
            simp only [γc, ext1_same, hnil, Bool.false_eq_true, if_false, Option.some.injEq] at hL3
            subst hL3
            obtain ⟨p, ⟨v, b', n', ob, po⟩, hrun, hvr, hbl, hn, hob, hpo⟩ : ∃ p r, clnR Tryd.prog (.c (.v (.slice (some ⟨L.b, L.o + (0 * L.s + 0), none⟩) 0 ((none : Option Nat).getD (L.cap - 0))))) [] p = some r ∧ (r.1 = .c (.sl 1003 0 0 0 none) ∧ r.2.1 = [some ⟨true, true, 64, 3, .arr 0 fun _ => []⟩, none] ∧ r.2.2.1 ≤ lim ∧ allT r.2.2.2.1 ∧ ∀ q ∈ r.2.2.2.2, q) := clnC _ _ _ _ ⟨rfl, rfl, by dsimp only; unfold lim; omega, by simp [allT], by simp⟩
            obtain ⟨s', r1, r2, r3, r4⟩ := viewF_out hrun
            have hn : n' ≤ lim := hn
            simp only at hvr hbl
            subst hvr
            subst hbl
            refine (calls_f hE1 r1 ⟨by rw [r3]; exact hob, by rw [r4]; exact hpo⟩ (C := loneC w) (β := fun _ => none) (w := w) (vs := [_]) rfl (rel_nil w) (fun _ _ _ => rfl)).mono ?_
            rintro e w' ⟨β', u, rfl, _, _, hu, hr'⟩
            simp only [List.map_cons, List.map_nil, List.cons.injEq, and_true] at r2
            obtain ⟨r2, _⟩ := r2
            obtain ⟨L', hL', hb'⟩ := hr'.blk 1003 _ r2
            refine ⟨ext1 β ib L', u, rfl, ext1_ext hid, fun id h => by unfold ext1; rw [if_neg (by omega)], ?_, ?_⟩
            · simp only [γ, γ1, γc, hL'] at hu
              simp only [γ, γ1, γc, ext1_same]
              exact hu
            · exact rel_swap0 (rel_fresh hr (below_lone hr') hid (not_gid (by omega)) hr' r2 rfl rfl (fun k j hi => by simp [ABlk.inb] at hi) hL') hmid rfl rfl
        · have hnil : L.nil = false := (hk.cells 0 0 (by simp [rBlk, ABlk.inb, hpos])).1
          obtain ⟨p, ⟨v, b', n', ob, po⟩, hrun, hvr, hbl, hn, hob, hpo⟩ : ∃ p r, clnR Tryd.prog (.c (.sl 0 0 0 n none)) [(0, sts n (stOf F))] p = some r ∧ (r.1 = .c (.sl 1005 0 0 n none) ∧ r.2.1 = [none, some (stsW n (stOf F))] ∧ r.2.2.1 ≤ lim ∧ allT r.2.2.2.1 ∧ ∀ q ∈ r.2.2.2.2, q) := by
            refine clnA _ _ _ ?_
            simp only [Nat.zero_add]
            refine ⟨?_, ?_, (by first | (unfold lim; omega) | (dsimp only; unfold lim; omega)), ?_, by simp⟩
            · first | trivial | rfl
            · simp [elt, wBlk]
            · simp [allT, inb_arr, hpos]; omega
          obtain ⟨s', r1, r2, r3, r4⟩ := viewF_out hrun
          have hn : n' ≤ lim := hn
          simp only at hvr hbl
          subst hvr
          subst hbl
          refine (calls_f hE1 r1 ⟨by rw [r3]; exact hob, by rw [r4]; exact hpo⟩ (C := loneC w) (β := ext1 (fun _ => none) 0 L) (w := w) (vs := [v0]) ?_ hrel (fun id h1 _ => by unfold ext1; rw [if_neg (by omega)])).mono ?_
          · simp only [γt, γ1, hL3]
          · rintro e w' ⟨β', u, rfl, _, _, hu, hr'⟩
            simp only [List.map_cons, List.map_nil, List.cons.injEq, and_true] at r2
            obtain ⟨_, r2⟩ := r2
            obtain ⟨L', hL', hb'⟩ := hr'.blk 1005 _ r2
            refine ⟨ext1 β ib L', u, rfl, ext1_ext hid, fun id h => by unfold ext1; rw [if_neg (by omega)], ?_, ?_⟩
            · simp only [γ, γ1, γc, hL'] at hu
              simp only [γ, γ1, γc, ext1_same]
              exact hu
            · refine rel_fresh hr (below_lone hr') hid (not_gid (by omega)) hr' r2 rfl rfl (fun k j _ => ?_) hL'
              match j with
              | 0 => exact ⟨_, rfl⟩
              | 1 => exact ⟨_, rfl⟩
              | 2 => exact ⟨_, rfl⟩
              | j + 3 => exact ⟨_, rfl⟩
      · cases hv
    · cases hct
  · cases hct
end Go.Proofs.YtjefjmkeigfplaaDoor
end
/- configs.New: the round of its last loop as the evaluator runs it. -/
section
namespace Go.Proofs.YtjefjmkeigfplaaDoor
open Go.RowKit

/-- of which pair a node is, by the first k halves (-1: of none) -/
def pairF (c : Cfg) (k : Nat) (i : Nat) : Int := match (List.range k).find? (fun q => halfF c q == Int.ofNat i) with | some q => Int.ofNat (q / 2) | none => -1
abbrev nwIds : List Nat := [70000000000000000000000000000000000001149, 90000000000000000000000000000000000001150, 50000000000000000000000000000000000001149, 10000000000000000000000000000000000001170, 10000000000000000000000000000000000001197, 10000000000000000000000000000000000001224, 10000000000000000000000000000000000001241]
abbrev netB (c : Cfg) : ABlk := ⟨true, false, 56, 0, .lit [.v (.int .i64 c.nodes), .sl 10000000000000000000000000000000000001170 0 0 c.np (some c.np), .sl 10000000000000000000000000000000000001197 0 0 c.ns (some c.ns), .v (.int .i64 c.long), .sl 10000000000000000000000000000000000001224 0 0 c.nb (some c.nb), .sl 10000000000000000000000000000000000001241 0 0 c.nt (some c.nt), .v (.int .i64 c.miss), .v (.int .i64 c.good), .v (.int .i64 c.fresh), .sl 50000000000000000000000000000000000001149 0 0 c.nodes.toNat none]⟩
abbrev intsW (n : Nat) (f : Nat → Int) : ABlk := wBlk 3 1 n fun i => [.int .i64 (f i)]
abbrev nwBk (c : Cfg) (k : Nat) : List ABlk := [netB c, intsW (2 * c.np) (halfF c), intsW c.nodes.toNat (pairF c k), intsW c.np c.fp, intsW c.ns c.fs, intsW c.nb c.fb, stsW c.nt c.ft]
abbrev nwV (c : Cfg) (k : Nat) : List AV := [.c (.ptr 70000000000000000000000000000000000001149 0 0), .c (.sl 90000000000000000000000000000000000001150 0 0 (2 * c.np) none), i64 (Int.ofNat (2 * c.np)), i64 (Int.ofNat k)]
def nwlR (P : Program) (c : Cfg) (k : Nat) (path : List Dec) : Option VC :=
  view ([7, 33, 34, 35] ++ []) nwIds (fC (E1 P) 300 (loopAt P 14 1) 1000000000000000000000000000000000000000000 10000000000000000000000000000000000000000 (stH 50 [7, 33, 34, 35] nwIds (nwV c k) (nwBk c k) path []))
theorem nwl (c : Cfg) (k : Nat) (Q : VC → Prop) (H : (((decide (Int.ofNat k < Int.ofNat (2 * c.np))) = true → Q (Exit.normal, [some (lkA (List.zip [7, 33, 34, 35] (nwV c k)) (0 + 1 + 1 + 1 + 1 + 1 + 1 + 1)), some (lkA (List.zip [7, 33, 34, 35] (nwV c k)) (0 + 1 + 1 + 1 + 1 + 1 + 1 + 1 + 1 + 1 + 1 + 1 + 1 + 1 + 1 + 1 + 1 + 1 + 1 + 1 + 1 + 1 + 1 + 1 + 1 + 1 + 1 + 1 + 1 + 1 + 1 + 1 + 1 + 1)), some (lkA (List.zip [7, 33, 34, 35] (nwV c k)) (0 + 1 + 1 + 1 + 1 + 1 + 1 + 1 + 1 + 1 + 1 + 1 + 1 + 1 + 1 + 1 + 1 + 1 + 1 + 1 + 1 + 1 + 1 + 1 + 1 + 1 + 1 + 1 + 1 + 1 + 1 + 1 + 1 + 1 + 1)), some (.c (.v (.int .i64 (IntKind.wrap .i64 (Int.ofNat k + Int.ofNat 1)))))], [some (ABlk.mk true false 56 0 (Cs.lit [.v (.int .i64 (c.nodes)), AC.sl 10000000000000000000000000000000000001170 0 0 (c.np) (some (c.np)), AC.sl 10000000000000000000000000000000000001197 0 0 (c.ns) (some (c.ns)), .v (.int .i64 (c.long)), AC.sl 10000000000000000000000000000000000001224 0 0 (c.nb) (some (c.nb)), AC.sl 10000000000000000000000000000000000001241 0 0 (c.nt) (some (c.nt)), .v (.int .i64 (c.miss)), .v (.int .i64 (c.good)), .v (.int .i64 (c.fresh)), AC.sl 50000000000000000000000000000000000001149 0 0 (Int.toNat (c.nodes)) none])), some (ABlk.mk true true 3 1 (Cs.arr (2 * c.np) fun k => List.map AC.v ((fun i => [Value.int .i64 (halfF c i)]) k))), some (ABlk.mk true true 3 1 (Cs.arr (Int.toNat (c.nodes)) fun i => if i = 0 + Int.toNat (halfF c (0 + Int.toNat (Int.ofNat k))) then setL ((fun k_1 => List.map AC.v ((fun i => [Value.int .i64 (pairF c k i)]) k_1)) i) 0 [.v (.int .i64 (IntKind.wrap .i64 (Int.tdiv (Int.ofNat k) (Int.ofNat 2))))] else List.map AC.v ((fun i => [Value.int .i64 (pairF c k i)]) i))), some (ABlk.mk true true 3 1 (Cs.arr (c.np) fun k => List.map AC.v ((fun i => [Value.int .i64 (c.fp i)]) k))), some (ABlk.mk true true 3 1 (Cs.arr (c.ns) fun k => List.map AC.v ((fun i => [Value.int .i64 (c.fs i)]) k))), some (ABlk.mk true true 3 1 (Cs.arr (c.nb) fun k => List.map AC.v ((fun i => [Value.int .i64 (c.fb i)]) k))), some (ABlk.mk true true 64 3 (Cs.arr (c.nt) fun k => List.map AC.v ((fun i => [Value.int .i64 (Station.node (c.ft i)), Value.int .u32 (Station.safe (c.ft i)), Value.int .i64 (Station.hold (c.ft i))]) k)))], 50, 1000000000000000000000000000000000000000017, [ABlk.inb (ABlk.mk true true 3 1 (Cs.arr (Int.toNat (c.nodes)) fun k_1 => List.map AC.v ((fun i => [Value.int .i64 (pairF c k i)]) k_1))) (0 + Int.toNat (halfF c (0 + Int.toNat (Int.ofNat k)))) 1, decide (Int.ofNat 0 ≤ halfF c (0 + Int.toNat (Int.ofNat k)) ∧ halfF c (0 + Int.toNat (Int.ofNat k)) < ↑(Int.toNat (c.nodes))), true, true, ABlk.inb (ABlk.mk true true 3 1 (Cs.arr (2 * c.np) fun k => List.map AC.v ((fun i => [Value.int .i64 (halfF c i)]) k))) (0 + Int.toNat (Int.ofNat k)) 1, true, decide (Int.ofNat 0 ≤ Int.ofNat k ∧ Int.ofNat k < ↑(2 * c.np)), decide (Int.ofNat k < Int.ofNat (2 * c.np)) == true], [])) ∧ ((decide (Int.ofNat k < Int.ofNat (2 * c.np))) = false → Q (Exit.exit 2, [some (lkA (List.zip [7, 33, 34, 35] (nwV c k)) (0 + 1 + 1 + 1 + 1 + 1 + 1 + 1)), some (lkA (List.zip [7, 33, 34, 35] (nwV c k)) (0 + 1 + 1 + 1 + 1 + 1 + 1 + 1 + 1 + 1 + 1 + 1 + 1 + 1 + 1 + 1 + 1 + 1 + 1 + 1 + 1 + 1 + 1 + 1 + 1 + 1 + 1 + 1 + 1 + 1 + 1 + 1 + 1 + 1)), some (lkA (List.zip [7, 33, 34, 35] (nwV c k)) (0 + 1 + 1 + 1 + 1 + 1 + 1 + 1 + 1 + 1 + 1 + 1 + 1 + 1 + 1 + 1 + 1 + 1 + 1 + 1 + 1 + 1 + 1 + 1 + 1 + 1 + 1 + 1 + 1 + 1 + 1 + 1 + 1 + 1 + 1)), some (lkA (List.zip [7, 33, 34, 35] (nwV c k)) (0 + 1 + 1 + 1 + 1 + 1 + 1 + 1 + 1 + 1 + 1 + 1 + 1 + 1 + 1 + 1 + 1 + 1 + 1 + 1 + 1 + 1 + 1 + 1 + 1 + 1 + 1 + 1 + 1 + 1 + 1 + 1 + 1 + 1 + 1 + 1))], [some (ABlk.mk true false 56 0 (Cs.lit [.v (.int .i64 (c.nodes)), AC.sl 10000000000000000000000000000000000001170 0 0 (c.np) (some (c.np)), AC.sl 10000000000000000000000000000000000001197 0 0 (c.ns) (some (c.ns)), .v (.int .i64 (c.long)), AC.sl 10000000000000000000000000000000000001224 0 0 (c.nb) (some (c.nb)), AC.sl 10000000000000000000000000000000000001241 0 0 (c.nt) (some (c.nt)), .v (.int .i64 (c.miss)), .v (.int .i64 (c.good)), .v (.int .i64 (c.fresh)), AC.sl 50000000000000000000000000000000000001149 0 0 (Int.toNat (c.nodes)) none])), some (ABlk.mk true true 3 1 (Cs.arr (2 * c.np) fun k => List.map AC.v ((fun i => [Value.int .i64 (halfF c i)]) k))), some (ABlk.mk true true 3 1 (Cs.arr (Int.toNat (c.nodes)) fun k_1 => List.map AC.v ((fun i => [Value.int .i64 (pairF c k i)]) k_1))), some (ABlk.mk true true 3 1 (Cs.arr (c.np) fun k => List.map AC.v ((fun i => [Value.int .i64 (c.fp i)]) k))), some (ABlk.mk true true 3 1 (Cs.arr (c.ns) fun k => List.map AC.v ((fun i => [Value.int .i64 (c.fs i)]) k))), some (ABlk.mk true true 3 1 (Cs.arr (c.nb) fun k => List.map AC.v ((fun i => [Value.int .i64 (c.fb i)]) k))), some (ABlk.mk true true 64 3 (Cs.arr (c.nt) fun k => List.map AC.v ((fun i => [Value.int .i64 (Station.node (c.ft i)), Value.int .u32 (Station.safe (c.ft i)), Value.int .i64 (Station.hold (c.ft i))]) k)))], 50, 1000000000000000000000000000000000000000001, [decide (Int.ofNat k < Int.ofNat (2 * c.np)) == false], [])))) :
    ∃ p r, nwlR Tryd.prog c k p = some r ∧ Q r := by
  rcases Bool.eq_false_or_eq_true (decide (Int.ofNat k < Int.ofNat (2 * c.np))) with h2 | h2
  · have g2 := H.1 h2
    exact ⟨([.b true] : List Dec), _, by kernel_rfl, g2⟩
  · have g2 := H.2 h2
    exact ⟨([.b false] : List Dec), _, by kernel_rfl, g2⟩
end Go.Proofs.YtjefjmkeigfplaaDoor
end
/- configs.New as the evaluator runs it. -/
section
namespace Go.Proofs.YtjefjmkeigfplaaDoor
open Go.RowKit

def ENn (P : Program) : Env := ⟨P, [(28, ctCfg (fun c => i64 (rule1 c)) fun _ => true), (30, ctCfg (fun c => i64 (rule2 c)) fun _ => true), (31, ctCfg (fun c => i64 (rule3 c)) fun c => decide (1 ≤ c.np) && decide (c.np ≤ 1000)),
  (36, ctCfg (fun c => i64 (rule4 c)) fun _ => true), (37, ctCfg (fun c => i64 (rule5 c)) fun c => decide (c.np ≤ 1000000) && decide (c.ns ≤ 1000000)), (39, ctCfg (fun c => i64 (rule6 c)) okNodes),
  (40, ctCfg (fun c => i64 (rule7 c)) fun c => decide (c.nb ≤ 9223372036854775807)), (43, ctCfg (fun c => i64 (rule8 c)) fun _ => true), (44, ctCfg (fun c => i64 (rule9 c)) fun c => decide (c.nt ≤ 1000000)), (45, ctCfg (fun c => i64 (rule10 c)) fun _ => true),
  (25, ctHalves), (24, ctRepeat), (49, ctClnSt)]⟩
theorem hENn : EnvOk (ENn Tryd.prog) := by
  refine envOk (fun f g h => ?_) (by kernel_rfl) (by kernel_rfl)
  simp only [ENn, List.mem_cons, Prod.mk.injEq, List.not_mem_nil, or_false] at h
  rcases h with ⟨rfl, rfl⟩ | ⟨rfl, rfl⟩ | ⟨rfl, rfl⟩ | ⟨rfl, rfl⟩ | ⟨rfl, rfl⟩ | ⟨rfl, rfl⟩ | ⟨rfl, rfl⟩ | ⟨rfl, rfl⟩ | ⟨rfl, rfl⟩ | ⟨rfl, rfl⟩ | ⟨rfl, rfl⟩ | ⟨rfl, rfl⟩ | ⟨rfl, rfl⟩
  · exact ct_ru1
  · exact ct_ru2
  · exact ct_ru3
  · exact ct_ru4
  · exact ct_ru5
  · exact ct_ru6
  · exact ct_ru7
  · exact ct_ru8
  · exact ct_ru9
  · exact ct_ru10
  · exact ct_halves
  · exact ct_repeat
  · exact ct_clnSt
/-- a config as it is read off the memory in which it lies -/
def cfgI (c : Cfg) : Cfg := Cfg.mk (Cfg.nodes c) (Cfg.np c) (fA (elt (ABlk.mk false false 3 1 (Cs.arr (Cfg.np c) fun k => List.map AC.v ((fun i => [Value.int IntKind.i64 (Cfg.fp c i)]) k))) 0 0 1)) (Cfg.ns c) (fA (elt (ABlk.mk false false 3 1 (Cs.arr (Cfg.ns c) fun k => List.map AC.v ((fun i => [Value.int IntKind.i64 (Cfg.fs c i)]) k))) 0 0 1)) (Cfg.long c) (Cfg.nb c) (fA (elt (ABlk.mk false false 3 1 (Cs.arr (Cfg.nb c) fun k => List.map AC.v ((fun i => [Value.int IntKind.i64 (Cfg.fb c i)]) k))) 0 0 1)) (Cfg.nt c) (stOf (elt (ABlk.mk false false 64 3 (Cs.arr (Cfg.nt c) fun k => List.map AC.v ((fun i => [Value.int IntKind.i64 (Station.node (Cfg.ft c i)), Value.int IntKind.u32 (Station.safe (Cfg.ft c i)), Value.int IntKind.i64 (Station.hold (Cfg.ft c i))]) k))) 0 0 3)) (Cfg.miss c) (Cfg.good c) (Cfg.fresh c)
theorem cfgI_eq (c : Cfg) : cfgI c = c := by
  unfold cfgI
  simp only [fA_ints, stOf_sts]
def nwR (P : Program) (c : Cfg) (path : List Dec) : Option VF := viewF nwIds (fCallF (ENn P) (fC (ENn P) 300) 14 [.agg (cfgC c)] 1000 10000000000000000000000000000000000000000 (stA (cfgM c) path [none, none, some ⟨[7, 33, 34, 35], nwIds, mkFr 50 [(7, .c (.ptr 70000000000000000000000000000000000001149 0 0))], nwIds.zip (nwBk c (2 * c.np)), 100000000000000000000000000000000000000000000000000, .exit 2⟩]))
set_option maxRecDepth 1000000
theorem nw (c : Cfg) (Q : VF → Prop) (H : (((rule1 c != Int.ofNat 0) = true → Q (.tup [.c (AC.v (Value.pointer none)), .c (.v (.int .i64 (rule1 c)))], [none, none, none, none, none, none, none], 1032, [(rule1 c != Int.ofNat 0) == true, cfgK c, true, true, true, true, true, true, true, true, true, true, true], [])) ∧ ((rule1 c != Int.ofNat 0) = false → (((rule2 c != Int.ofNat 0) = true → Q (.tup [.c (AC.v (Value.pointer none)), .c (.v (.int .i64 (rule2 c)))], [none, none, none, none, none, none, none], 1045, [(rule2 c != Int.ofNat 0) == true, cfgK c, true, true, true, true, true, true, true, true, true, true, true, (rule1 c != Int.ofNat 0) == false, cfgK c, true, true, true, true, true, true, true, true, true, true, true], [])) ∧ ((rule2 c != Int.ofNat 0) = false → (((rule3 c != Int.ofNat 0) = true → Q (.tup [.c (AC.v (Value.pointer none)), .c (.v (.int .i64 (rule3 c)))], [none, none, none, none, none, none, none], 1058, [(rule3 c != Int.ofNat 0) == true, cfgK c, decide (1 ≤ c.np) && decide (c.np ≤ 1000), true, true, true, true, true, true, true, true, true, true, (rule2 c != Int.ofNat 0) == false, cfgK c, true, true, true, true, true, true, true, true, true, true, true, (rule1 c != Int.ofNat 0) == false, cfgK c, true, true, true, true, true, true, true, true, true, true, true], [])) ∧ ((rule3 c != Int.ofNat 0) = false → (((rule4 c != Int.ofNat 0) = true → Q (.tup [.c (AC.v (Value.pointer none)), .c (.v (.int .i64 (rule4 c)))], [none, none, none, none, none, none, none], 1071, [(rule4 c != Int.ofNat 0) == true, cfgK c, true, true, true, true, true, true, true, true, true, true, true, (rule3 c != Int.ofNat 0) == false, cfgK c, decide (1 ≤ c.np) && decide (c.np ≤ 1000), true, true, true, true, true, true, true, true, true, true, (rule2 c != Int.ofNat 0) == false, cfgK c, true, true, true, true, true, true, true, true, true, true, true, (rule1 c != Int.ofNat 0) == false, cfgK c, true, true, true, true, true, true, true, true, true, true, true], [])) ∧ ((rule4 c != Int.ofNat 0) = false → (((rule5 c != Int.ofNat 0) = true → Q (.tup [.c (AC.v (Value.pointer none)), .c (.v (.int .i64 (rule5 c)))], [none, none, none, none, none, none, none], 1084, [(rule5 c != Int.ofNat 0) == true, cfgK c, decide (c.np ≤ 1000000) && decide (c.ns ≤ 1000000), true, true, true, true, true, true, true, true, true, true, (rule4 c != Int.ofNat 0) == false, cfgK c, true, true, true, true, true, true, true, true, true, true, true, (rule3 c != Int.ofNat 0) == false, cfgK c, decide (1 ≤ c.np) && decide (c.np ≤ 1000), true, true, true, true, true, true, true, true, true, true, (rule2 c != Int.ofNat 0) == false, cfgK c, true, true, true, true, true, true, true, true, true, true, true, (rule1 c != Int.ofNat 0) == false, cfgK c, true, true, true, true, true, true, true, true, true, true, true], [])) ∧ ((rule5 c != Int.ofNat 0) = false → (((rule6 c != Int.ofNat 0) = true → Q (.tup [.c (AC.v (Value.pointer none)), .c (.v (.int .i64 (rule6 c)))], [none, none, none, none, none, none, none], 1097, [(rule6 c != Int.ofNat 0) == true, cfgK c, okNodes c, true, true, true, true, true, true, true, true, true, true, (rule5 c != Int.ofNat 0) == false, cfgK c, decide (c.np ≤ 1000000) && decide (c.ns ≤ 1000000), true, true, true, true, true, true, true, true, true, true, (rule4 c != Int.ofNat 0) == false, cfgK c, true, true, true, true, true, true, true, true, true, true, true, (rule3 c != Int.ofNat 0) == false, cfgK c, decide (1 ≤ c.np) && decide (c.np ≤ 1000), true, true, true, true, true, true, true, true, true, true, (rule2 c != Int.ofNat 0) == false, cfgK c, true, true, true, true, true, true, true, true, true, true, true, (rule1 c != Int.ofNat 0) == false, cfgK c, true, true, true, true, true, true, true, true, true, true, true], [])) ∧ ((rule6 c != Int.ofNat 0) = false → (((rule7 c != Int.ofNat 0) = true → Q (.tup [.c (AC.v (Value.pointer none)), .c (.v (.int .i64 (rule7 c)))], [none, none, none, none, none, none, none], 1110, [(rule7 c != Int.ofNat 0) == true, cfgK c, decide (c.nb ≤ 9223372036854775807), true, true, true, true, true, true, true, true, true, true, (rule6 c != Int.ofNat 0) == false, cfgK c, okNodes c, true, true, true, true, true, true, true, true, true, true, (rule5 c != Int.ofNat 0) == false, cfgK c, decide (c.np ≤ 1000000) && decide (c.ns ≤ 1000000), true, true, true, true, true, true, true, true, true, true, (rule4 c != Int.ofNat 0) == false, cfgK c, true, true, true, true, true, true, true, true, true, true, true, (rule3 c != Int.ofNat 0) == false, cfgK c, decide (1 ≤ c.np) && decide (c.np ≤ 1000), true, true, true, true, true, true, true, true, true, true, (rule2 c != Int.ofNat 0) == false, cfgK c, true, true, true, true, true, true, true, true, true, true, true, (rule1 c != Int.ofNat 0) == false, cfgK c, true, true, true, true, true, true, true, true, true, true, true], [])) ∧ ((rule7 c != Int.ofNat 0) = false → (((rule8 c != Int.ofNat 0) = true → Q (.tup [.c (AC.v (Value.pointer none)), .c (.v (.int .i64 (rule8 c)))], [none, none, none, none, none, none, none], 1123, [(rule8 c != Int.ofNat 0) == true, cfgK c, true, true, true, true, true, true, true, true, true, true, true, (rule7 c != Int.ofNat 0) == false, cfgK c, decide (c.nb ≤ 9223372036854775807), true, true, true, true, true, true, true, true, true, true, (rule6 c != Int.ofNat 0) == false, cfgK c, okNodes c, true, true, true, true, true, true, true, true, true, true, (rule5 c != Int.ofNat 0) == false, cfgK c, decide (c.np ≤ 1000000) && decide (c.ns ≤ 1000000), true, true, true, true, true, true, true, true, true, true, (rule4 c != Int.ofNat 0) == false, cfgK c, true, true, true, true, true, true, true, true, true, true, true, (rule3 c != Int.ofNat 0) == false, cfgK c, decide (1 ≤ c.np) && decide (c.np ≤ 1000), true, true, true, true, true, true, true, true, true, true, (rule2 c != Int.ofNat 0) == false, cfgK c, true, true, true, true, true, true, true, true, true, true, true, (rule1 c != Int.ofNat 0) == false, cfgK c, true, true, true, true, true, true, true, true, true, true, true], [])) ∧ ((rule8 c != Int.ofNat 0) = false → (((rule9 c != Int.ofNat 0) = true → Q (.tup [.c (AC.v (Value.pointer none)), .c (.v (.int .i64 (rule9 c)))], [none, none, none, none, none, none, none], 1136, [(rule9 c != Int.ofNat 0) == true, cfgK c, decide (c.nt ≤ 1000000), true, true, true, true, true, true, true, true, true, true, (rule8 c != Int.ofNat 0) == false, cfgK c, true, true, true, true, true, true, true, true, true, true, true, (rule7 c != Int.ofNat 0) == false, cfgK c, decide (c.nb ≤ 9223372036854775807), true, true, true, true, true, true, true, true, true, true, (rule6 c != Int.ofNat 0) == false, cfgK c, okNodes c, true, true, true, true, true, true, true, true, true, true, (rule5 c != Int.ofNat 0) == false, cfgK c, decide (c.np ≤ 1000000) && decide (c.ns ≤ 1000000), true, true, true, true, true, true, true, true, true, true, (rule4 c != Int.ofNat 0) == false, cfgK c, true, true, true, true, true, true, true, true, true, true, true, (rule3 c != Int.ofNat 0) == false, cfgK c, decide (1 ≤ c.np) && decide (c.np ≤ 1000), true, true, true, true, true, true, true, true, true, true, (rule2 c != Int.ofNat 0) == false, cfgK c, true, true, true, true, true, true, true, true, true, true, true, (rule1 c != Int.ofNat 0) == false, cfgK c, true, true, true, true, true, true, true, true, true, true, true], [])) ∧ ((rule9 c != Int.ofNat 0) = false → (((rule10 c != Int.ofNat 0) = true → Q (.tup [.c (AC.v (Value.pointer none)), .c (.v (.int .i64 (rule10 c)))], [none, none, none, none, none, none, none], 1149, [(rule10 c != Int.ofNat 0) == true, cfgK c, true, true, true, true, true, true, true, true, true, true, true, (rule9 c != Int.ofNat 0) == false, cfgK c, decide (c.nt ≤ 1000000), true, true, true, true, true, true, true, true, true, true, (rule8 c != Int.ofNat 0) == false, cfgK c, true, true, true, true, true, true, true, true, true, true, true, (rule7 c != Int.ofNat 0) == false, cfgK c, decide (c.nb ≤ 9223372036854775807), true, true, true, true, true, true, true, true, true, true, (rule6 c != Int.ofNat 0) == false, cfgK c, okNodes c, true, true, true, true, true, true, true, true, true, true, (rule5 c != Int.ofNat 0) == false, cfgK c, decide (c.np ≤ 1000000) && decide (c.ns ≤ 1000000), true, true, true, true, true, true, true, true, true, true, (rule4 c != Int.ofNat 0) == false, cfgK c, true, true, true, true, true, true, true, true, true, true, true, (rule3 c != Int.ofNat 0) == false, cfgK c, decide (1 ≤ c.np) && decide (c.np ≤ 1000), true, true, true, true, true, true, true, true, true, true, (rule2 c != Int.ofNat 0) == false, cfgK c, true, true, true, true, true, true, true, true, true, true, true, (rule1 c != Int.ofNat 0) == false, cfgK c, true, true, true, true, true, true, true, true, true, true, true], [])) ∧ ((rule10 c != Int.ofNat 0) = false → Q (.tup [.c (.ptr 70000000000000000000000000000000000001149 0 0), .c (.v (.int .i64 (Int.ofNat 0)))], [some (ABlk.mk true false 56 0 (Cs.lit [.v (.int .i64 (c.nodes)), AC.sl 10000000000000000000000000000000000001170 0 0 (c.np) (some (c.np)), AC.sl 10000000000000000000000000000000000001197 0 0 (c.ns) (some (c.ns)), .v (.int .i64 (c.long)), AC.sl 10000000000000000000000000000000000001224 0 0 (c.nb) (some (c.nb)), AC.sl 10000000000000000000000000000000000001241 0 0 (c.nt) (some (c.nt)), .v (.int .i64 (c.miss)), .v (.int .i64 (c.good)), .v (.int .i64 (c.fresh)), AC.sl 50000000000000000000000000000000000001149 0 0 (Int.toNat (c.nodes)) none])), some (ABlk.mk true true 3 1 (Cs.arr (2 * c.np) fun k => List.map AC.v ((fun i => [Value.int .i64 (halfF c i)]) k))), some (ABlk.mk true true 3 1 (Cs.arr (Int.toNat (c.nodes)) fun k => List.map AC.v ((fun i => [Value.int .i64 (pairF c (2 * c.np) i)]) k))), some (ABlk.mk true true 3 1 (Cs.arr (c.np) fun k => List.map AC.v ((fun i => [Value.int .i64 (c.fp i)]) k))), some (ABlk.mk true true 3 1 (Cs.arr (c.ns) fun k => List.map AC.v ((fun i => [Value.int .i64 (c.fs i)]) k))), some (ABlk.mk true true 3 1 (Cs.arr (c.nb) fun k => List.map AC.v ((fun i => [Value.int .i64 (c.fb i)]) k))), some (ABlk.mk true true 64 3 (Cs.arr (c.nt) fun k => List.map AC.v ((fun i => [Value.int .i64 (Station.node (c.ft i)), Value.int .u32 (Station.safe (c.ft i)), Value.int .i64 (Station.hold (c.ft i))]) k)))], 100000000000000000000000000000000000000000000000003, [cfgK c, decide (c.np ≤ 1000), true, true, true, true, true, true, true, true, decide (Int.ofNat 1 ≤ c.nodes), decide (c.nodes ≤ Int.ofNat 1000000), true, true, true, true, true, true, true, true, true, true, true, true, true, true, true, true, true, decide (Int.ofNat 0 ≤ Int.ofNat 0 ∧ Int.ofNat 0 ≤ Option.getD (some ↑(c.nt)) ↑(c.nt) ∧ Option.getD (some ↑(c.nt)) ↑(c.nt) ≤ slC none (c.nt) (some ↑(c.nt))), true, decide (slC none (c.nt) (some ↑(c.nt)) ≤ ↑(Option.getD none (c.nt))), true, slRow none (ABlk.mk true true 64 3 (Cs.arr (c.nt) fun k => List.map AC.v ((fun i => [Value.int .i64 (Station.node (stOf (eltZ (ABlk.mk false false 64 3 (Cs.arr (c.nt) fun k => List.map AC.v ((fun i => [Value.int .i64 (Station.node (c.ft i)), Value.int .u32 (Station.safe (c.ft i)), Value.int .i64 (Station.hold (c.ft i))]) k))) 0 0 3) i)), Value.int .u32 (Station.safe (stOf (eltZ (ABlk.mk false false 64 3 (Cs.arr (c.nt) fun k => List.map AC.v ((fun i => [Value.int .i64 (Station.node (c.ft i)), Value.int .u32 (Station.safe (c.ft i)), Value.int .i64 (Station.hold (c.ft i))]) k))) 0 0 3) i)), Value.int .i64 (Station.hold (stOf (eltZ (ABlk.mk false false 64 3 (Cs.arr (c.nt) fun k => List.map AC.v ((fun i => [Value.int .i64 (Station.node (c.ft i)), Value.int .u32 (Station.safe (c.ft i)), Value.int .i64 (Station.hold (c.ft i))]) k))) 0 0 3) i))]) k))) 0 (c.nt), decide (0 + c.nt ≤ c.nt), decide (c.nt ≤ 1000000), stsOk (c.nt) fun k => List.map AC.v ((fun i => [Value.int .i64 (Station.node (c.ft i)), Value.int .u32 (Station.safe (c.ft i)), Value.int .i64 (Station.hold (c.ft i))]) k), true, true, decide (Int.ofNat 0 ≤ Int.ofNat 0 ∧ Int.ofNat 0 ≤ Option.getD (some ↑(0 + c.nb)) ↑(0 + c.nb) ∧ Option.getD (some ↑(0 + c.nb)) ↑(0 + c.nb) ≤ slC none (0 + c.nb) (some ↑(0 + c.nb))), true, decide (slC none (0 + c.nb) (some ↑(0 + c.nb)) ≤ ↑(Option.getD none (0 + c.nb))), true, slRow none (ABlk.mk true true 3 1 (Cs.arr (0 + c.nb) fun i => if i < 0 then [] else elt (ABlk.mk false false 3 1 (Cs.arr (c.nb) fun k => List.map AC.v ((fun i => [Value.int .i64 (c.fb i)]) k))) 0 0 1 (i - 0))) 0 (0 + c.nb), decide (0 + c.nb ≤ c.nb), true, true, decide ((0 + c.nb) * 8 ≤ 140737488355328), ABlk.inb (ABlk.mk false false 3 1 (Cs.arr (c.nb) fun k => List.map AC.v ((fun i => [Value.int .i64 (c.fb i)]) k))) 0 1, true, true, true, true, decide (Int.ofNat 0 ≤ Int.ofNat 0 ∧ Int.ofNat 0 ≤ Option.getD (some ↑(0 + c.ns)) ↑(0 + c.ns) ∧ Option.getD (some ↑(0 + c.ns)) ↑(0 + c.ns) ≤ slC none (0 + c.ns) (some ↑(0 + c.ns))), true, decide (slC none (0 + c.ns) (some ↑(0 + c.ns)) ≤ ↑(Option.getD none (0 + c.ns))), true, slRow none (ABlk.mk true true 3 1 (Cs.arr (0 + c.ns) fun i => if i < 0 then [] else elt (ABlk.mk false false 3 1 (Cs.arr (c.ns) fun k => List.map AC.v ((fun i => [Value.int .i64 (c.fs i)]) k))) 0 0 1 (i - 0))) 0 (0 + c.ns), decide (0 + c.ns ≤ c.ns), true, true, decide ((0 + c.ns) * 8 ≤ 140737488355328), ABlk.inb (ABlk.mk false false 3 1 (Cs.arr (c.ns) fun k => List.map AC.v ((fun i => [Value.int .i64 (c.fs i)]) k))) 0 1, true, true, true, true, decide (Int.ofNat 0 ≤ Int.ofNat 0 ∧ Int.ofNat 0 ≤ Option.getD (some ↑(0 + c.np)) ↑(0 + c.np) ∧ Option.getD (some ↑(0 + c.np)) ↑(0 + c.np) ≤ slC none (0 + c.np) (some ↑(0 + c.np))), true, decide (slC none (0 + c.np) (some ↑(0 + c.np)) ≤ ↑(Option.getD none (0 + c.np))), true, slRow none (ABlk.mk true true 3 1 (Cs.arr (0 + c.np) fun i => if i < 0 then [] else elt (ABlk.mk false false 3 1 (Cs.arr (c.np) fun k => List.map AC.v ((fun i => [Value.int .i64 (c.fp i)]) k))) 0 0 1 (i - 0))) 0 (0 + c.np), decide (0 + c.np ≤ c.np), true, true, decide ((0 + c.np) * 8 ≤ 140737488355328), ABlk.inb (ABlk.mk false false 3 1 (Cs.arr (c.np) fun k => List.map AC.v ((fun i => [Value.int .i64 (c.fp i)]) k))) 0 1, true, true, true, true, true, true, true, true, true, (rule10 c != Int.ofNat 0) == false, cfgK c, true, true, true, true, true, true, true, true, true, true, true, (rule9 c != Int.ofNat 0) == false, cfgK c, decide (c.nt ≤ 1000000), true, true, true, true, true, true, true, true, true, true, (rule8 c != Int.ofNat 0) == false, cfgK c, true, true, true, true, true, true, true, true, true, true, true, (rule7 c != Int.ofNat 0) == false, cfgK c, decide (c.nb ≤ 9223372036854775807), true, true, true, true, true, true, true, true, true, true, (rule6 c != Int.ofNat 0) == false, cfgK c, okNodes c, true, true, true, true, true, true, true, true, true, true, (rule5 c != Int.ofNat 0) == false, cfgK c, decide (c.np ≤ 1000000) && decide (c.ns ≤ 1000000), true, true, true, true, true, true, true, true, true, true, (rule4 c != Int.ofNat 0) == false, cfgK c, true, true, true, true, true, true, true, true, true, true, true, (rule3 c != Int.ofNat 0) == false, cfgK c, decide (1 ≤ c.np) && decide (c.np ≤ 1000), true, true, true, true, true, true, true, true, true, true, (rule2 c != Int.ofNat 0) == false, cfgK c, true, true, true, true, true, true, true, true, true, true, true, (rule1 c != Int.ofNat 0) == false, cfgK c, true, true, true, true, true, true, true, true, true, true, true], [LoopV Tryd.prog (loopAt Tryd.prog 14 1) [7, 33, 34, 35] nwIds [some (.c (.ptr 70000000000000000000000000000000000001149 0 0)), some (.c (.sl 90000000000000000000000000000000000001150 0 0 (2 * c.np) none)), some (.c (.v (.int .i64 ↑(2 * c.np)))), some (.c (.v (.int .i64 (Int.ofNat 0))))] [some (ABlk.mk true false 56 0 (Cs.lit [.v (.int .i64 (c.nodes)), AC.sl 10000000000000000000000000000000000001170 0 0 (Int.toNat (Option.getD (some ↑(0 + c.np)) ↑(0 + c.np) - Int.ofNat 0)) (some (Int.toNat (↑(0 + c.np) - Int.ofNat 0))), AC.sl 10000000000000000000000000000000000001197 0 0 (Int.toNat (Option.getD (some ↑(0 + c.ns)) ↑(0 + c.ns) - Int.ofNat 0)) (some (Int.toNat (↑(0 + c.ns) - Int.ofNat 0))), .v (.int .i64 (c.long)), AC.sl 10000000000000000000000000000000000001224 0 0 (Int.toNat (Option.getD (some ↑(0 + c.nb)) ↑(0 + c.nb) - Int.ofNat 0)) (some (Int.toNat (↑(0 + c.nb) - Int.ofNat 0))), AC.sl 10000000000000000000000000000000000001241 0 0 (Int.toNat (Option.getD (some ↑(c.nt)) ↑(c.nt) - Int.ofNat 0)) (some (Int.toNat (↑(c.nt) - Int.ofNat 0))), .v (.int .i64 (c.miss)), .v (.int .i64 (c.good)), .v (.int .i64 (c.fresh)), AC.sl 50000000000000000000000000000000000001149 0 0 (Int.toNat (c.nodes)) none])), some (ABlk.mk true true 3 1 (Cs.arr (2 * c.np) fun k => List.map AC.v ((fun i => [Value.int .i64 (halfF (Cfg.mk (c.nodes) (c.np) (fA (eltZ (ABlk.mk false false 3 1 (Cs.arr (c.np) fun k => List.map AC.v ((fun i => [Value.int .i64 (c.fp i)]) k))) 0 0 1)) (c.ns) (fA (eltZ (ABlk.mk false false 3 1 (Cs.arr (c.ns) fun k => List.map AC.v ((fun i => [Value.int .i64 (c.fs i)]) k))) 0 0 1)) (c.long) (c.nb) (fA (eltZ (ABlk.mk false false 3 1 (Cs.arr (c.nb) fun k => List.map AC.v ((fun i => [Value.int .i64 (c.fb i)]) k))) 0 0 1)) (c.nt) (stOf (eltZ (ABlk.mk false false 64 3 (Cs.arr (c.nt) fun k => List.map AC.v ((fun i => [Value.int .i64 (Station.node (c.ft i)), Value.int .u32 (Station.safe (c.ft i)), Value.int .i64 (Station.hold (c.ft i))]) k))) 0 0 3)) (c.miss) (c.good) (c.fresh)) i)]) k))), some (ABlk.mk true true 3 1 (Cs.arr (Int.toNat (c.nodes)) fun k => List.map AC.v ((fun i => [Value.int .i64 (if i < Int.toNat (c.nodes) then fA (eltZ (ABlk.mk true false 3 0 (Cs.lit [.v (.int .i64 (Int.negSucc 0))])) 0 0 1) 0 else 0)]) k))), some (ABlk.mk true true 3 1 (Cs.arr (0 + c.np) fun i => if i < 0 then [] else elt (ABlk.mk false false 3 1 (Cs.arr (c.np) fun k => List.map AC.v ((fun i => [Value.int .i64 (c.fp i)]) k))) 0 0 1 (i - 0))), some (ABlk.mk true true 3 1 (Cs.arr (0 + c.ns) fun i => if i < 0 then [] else elt (ABlk.mk false false 3 1 (Cs.arr (c.ns) fun k => List.map AC.v ((fun i => [Value.int .i64 (c.fs i)]) k))) 0 0 1 (i - 0))), some (ABlk.mk true true 3 1 (Cs.arr (0 + c.nb) fun i => if i < 0 then [] else elt (ABlk.mk false false 3 1 (Cs.arr (c.nb) fun k => List.map AC.v ((fun i => [Value.int .i64 (c.fb i)]) k))) 0 0 1 (i - 0))), some (ABlk.mk true true 64 3 (Cs.arr (c.nt) fun k => List.map AC.v ((fun i => [Value.int .i64 (Station.node (stOf (eltZ (ABlk.mk false false 64 3 (Cs.arr (c.nt) fun k => List.map AC.v ((fun i => [Value.int .i64 (Station.node (c.ft i)), Value.int .u32 (Station.safe (c.ft i)), Value.int .i64 (Station.hold (c.ft i))]) k))) 0 0 3) i)), Value.int .u32 (Station.safe (stOf (eltZ (ABlk.mk false false 64 3 (Cs.arr (c.nt) fun k => List.map AC.v ((fun i => [Value.int .i64 (Station.node (c.ft i)), Value.int .u32 (Station.safe (c.ft i)), Value.int .i64 (Station.hold (c.ft i))]) k))) 0 0 3) i)), Value.int .i64 (Station.hold (stOf (eltZ (ABlk.mk false false 64 3 (Cs.arr (c.nt) fun k => List.map AC.v ((fun i => [Value.int .i64 (Station.node (c.ft i)), Value.int .u32 (Station.safe (c.ft i)), Value.int .i64 (Station.hold (c.ft i))]) k))) 0 0 3) i))]) k)))] 50 90000000000000000000000000000000000001153 (mkFr 50 [(7, .c (.ptr 70000000000000000000000000000000000001149 0 0))]) (List.zip nwIds (nwBk c (2 * c.np))) 100000000000000000000000000000000000000000000000000 (Exit.exit 2) none])))))))))))))))))))))) :
    ∃ p r, nwR Tryd.prog c p = some r ∧ Q r := by
  rcases Bool.eq_false_or_eq_true (rule1 c != Int.ofNat 0) with h2 | h2
  · have g2 := H.1 h2
    exact ⟨([.a, .b true] : List Dec), _, by kernel_rfl, g2⟩
  · have g2 := H.2 h2
    rcases Bool.eq_false_or_eq_true (rule2 c != Int.ofNat 0) with h4 | h4
    · have g4 := g2.1 h4
      exact ⟨([.a, .b false, .a, .b true] : List Dec), _, by kernel_rfl, g4⟩
    · have g4 := g2.2 h4
      rcases Bool.eq_false_or_eq_true (rule3 c != Int.ofNat 0) with h6 | h6
      · have g6 := g4.1 h6
        exact ⟨([.a, .b false, .a, .b false, .a, .b true] : List Dec), _, by kernel_rfl, g6⟩
      · have g6 := g4.2 h6
        rcases Bool.eq_false_or_eq_true (rule4 c != Int.ofNat 0) with h8 | h8
        · have g8 := g6.1 h8
          exact ⟨([.a, .b false, .a, .b false, .a, .b false, .a, .b true] : List Dec), _, by kernel_rfl, g8⟩
        · have g8 := g6.2 h8
          rcases Bool.eq_false_or_eq_true (rule5 c != Int.ofNat 0) with h10 | h10
          · have g10 := g8.1 h10
            exact ⟨([.a, .b false, .a, .b false, .a, .b false, .a, .b false, .a, .b true] : List Dec), _, by kernel_rfl, g10⟩
          · have g10 := g8.2 h10
            rcases Bool.eq_false_or_eq_true (rule6 c != Int.ofNat 0) with h12 | h12
            · have g12 := g10.1 h12
              exact ⟨([.a, .b false, .a, .b false, .a, .b false, .a, .b false, .a, .b false, .a, .b true] : List Dec), _, by kernel_rfl, g12⟩
            · have g12 := g10.2 h12
              rcases Bool.eq_false_or_eq_true (rule7 c != Int.ofNat 0) with h14 | h14
              · have g14 := g12.1 h14
                exact ⟨([.a, .b false, .a, .b false, .a, .b false, .a, .b false, .a, .b false, .a, .b false, .a, .b true] : List Dec), _, by kernel_rfl, g14⟩
              · have g14 := g12.2 h14
                rcases Bool.eq_false_or_eq_true (rule8 c != Int.ofNat 0) with h16 | h16
                · have g16 := g14.1 h16
                  exact ⟨([.a, .b false, .a, .b false, .a, .b false, .a, .b false, .a, .b false, .a, .b false, .a, .b false, .a, .b true] : List Dec), _, by kernel_rfl, g16⟩
                · have g16 := g14.2 h16
                  rcases Bool.eq_false_or_eq_true (rule9 c != Int.ofNat 0) with h18 | h18
                  · have g18 := g16.1 h18
                    exact ⟨([.a, .b false, .a, .b false, .a, .b false, .a, .b false, .a, .b false, .a, .b false, .a, .b false, .a, .b false, .a, .b true] : List Dec), _, by kernel_rfl, g18⟩
                  · have g18 := g16.2 h18
                    rcases Bool.eq_false_or_eq_true (rule10 c != Int.ofNat 0) with h20 | h20
                    · have g20 := g18.1 h20
                      exact ⟨([.a, .b false, .a, .b false, .a, .b false, .a, .b false, .a, .b false, .a, .b false, .a, .b false, .a, .b false, .a, .b false, .a, .b true] : List Dec), _, by kernel_rfl, g20⟩
                    · have g20 := g18.2 h20
                      exact ⟨([.a, .b false, .a, .b false, .a, .b false, .a, .b false, .a, .b false, .a, .b false, .a, .b false, .a, .b false, .a, .b false, .a, .b false, .a, .a, .a, .a, .a, .a, .a, .a] : List Dec), _, by kernel_rfl, g20⟩
end Go.Proofs.YtjefjmkeigfplaaDoor
end
/- configs.New: the sum of its last loop; what it answers. -/
section
namespace Go.Proofs.YtjefjmkeigfplaaDoor
open Go.RowKit

theorem withinF_zero {x lo hi : Int} (h : withinF x lo hi = 0) : lo ≤ x ∧ x ≤ hi := by
  unfold withinF at h
  split at h
  · omega
  · split at h <;> omega
theorem pairF_succ (c : Cfg) (k : Nat) (hnd : ∀ q, q < k → halfF c q ≠ halfF c k) (i : Nat) : pairF c (k + 1) i = if halfF c k = Int.ofNat i then Int.ofNat (k / 2) else pairF c k i := by
  unfold pairF
  rw [List.range_succ, List.find?_append]
  cases e : (List.range k).find? (fun q => halfF c q == Int.ofNat i) with
  | some q =>
    have h1 : halfF c q = Int.ofNat i := by simpa using List.find?_some e
    have h2 : q < k := by simpa using List.mem_of_find?_eq_some e
    rw [if_neg (fun h => hnd q h2 (by rw [h1, h]))]
    rfl
  | none =>
    by_cases h : halfF c k = Int.ofNat i
    · rw [if_pos h]; simp [h]
    · rw [if_neg h]
      have : (halfF c k == Int.ofNat i) = false := by simpa using h
      simp only [List.find?_cons, this, List.find?_nil, Option.none_or]
theorem nwBk_low {c : Cfg} {k : Nat} : ∀ b ∈ nwBk c k, lowB 90000000000000000000000000000000000001153 b := by
  intro b hb
  simp only [List.mem_cons, List.not_mem_nil, or_false] at hb
  rcases hb with rfl | rfl | rfl | rfl | rfl | rfl | rfl
  · exact low_lit rfl
  all_goals exact wBlk_low
theorem nw_sum (c : Cfg) (h4 : 4 ≤ c.nodes) (h16 : c.nodes ≤ 16) (hp : c.np ≤ 8) (hr : ∀ q, q < 2 * c.np → 0 ≤ halfF c q ∧ halfF c q < c.nodes) (hnd : ∀ q q', q < q' → q' < 2 * c.np → halfF c q ≠ halfF c q') {eblks : List (Option ABlk)} (heb : BL (nwBk c 0) eblks) :
    LoopV Tryd.prog (loopAt Tryd.prog 14 1) [7, 33, 34, 35] nwIds ((nwV c 0).map some) eblks 50 90000000000000000000000000000000000001153 (mkFr 50 [(7, .c (.ptr 70000000000000000000000000000000000001149 0 0))]) (nwIds.zip (nwBk c (2 * c.np))) 100000000000000000000000000000000000000000000000000 (.exit 2) none := by
  refine loop_viewE hE1 (fuel := 300) (str := 10000000000000000000000000000000000000000) (nh := 1000000000000000000000000000000000000000000) (S := Nat) (fun k => k ≤ 2 * c.np) (fun k => 2 * c.np - k) [7, 33, 34, 35] [] nwIds (nwV c) (nwBk c) (by decide) (by decide) (by unfold lim; omega) (s0 := 0) (by omega) (fun _ => ⟨rfl, rfl⟩) (by kernel_rfl) heb (fun k _ => ⟨rfl, nwBk_low⟩) ?_
  intro k hk
  have e0 : 0 + Int.toNat (Int.ofNat k) = k := by simp
  refine (?_ : (∃ p r, nwlR Tryd.prog c k p = some r ∧ _) → _) (nwl c k (StepV 90000000000000000000000000000000000001153 100000000000000000000000000000000000000000000000000 50 [7, 33, 34, 35] [] nwIds (fun k => k ≤ 2 * c.np) (fun k => 2 * c.np - k) (nwV c) (nwBk c) (.exit 2) [(7, .c (.ptr 70000000000000000000000000000000000001149 0 0))] (nwIds.zip (nwBk c (2 * c.np))) k) ?_)
  · rintro ⟨p, r, h1, h2⟩
    exact ⟨p, [], r, h1, h2⟩
  · simp only [e0]
    refine ⟨fun c1 => ?_, fun c1 => ?_⟩
    · have hlt : k < 2 * c.np := by simp at c1; omega
      obtain ⟨q1, q2⟩ := hr k hlt
      refine ⟨?_, rfl, by dsimp only; omega, rfl, .inl ⟨rfl, k + 1, by omega, by show 2 * c.np - (k + 1) < 2 * c.np - k; omega, ?_, BEq.refl _, BEq.refl _, ?_, BEq.refl _, BEq.refl _, BEq.refl _, BEq.refl _, trivial⟩⟩
      · simp only [allT, List.forall_mem_cons, e0]
        simp [inb_arr, inb_lit, hlt, q1, q2]
        omega
      · dsimp only
        rw [wrap_nat _ (by simp; omega) (by simp; omega)]
        rfl
      · refine ⟨rfl, rfl, rfl, rfl, .inr (.inl ⟨c.nodes.toNat, _, _, rfl, rfl, fun i hi => ?_⟩)⟩
        have hv : IntKind.wrap IntKind.i64 (Int.tdiv (Int.ofNat k) (Int.ofNat 2)) = Int.ofNat (k / 2) := by
          rw [wrap_nat _ (by simp; omega) (by simp; omega)]; simp
        show _ = List.map AC.v [Value.int .i64 (pairF c (k + 1) i)]
        rw [pairF_succ c k (fun q hq => hnd q k hq hlt) i, hv]
        by_cases h : halfF c k = Int.ofNat i
        · have hi' : i = 0 + Int.toNat (halfF c k) := by rw [h]; simp
          rw [if_pos hi', if_pos h]; rfl
        · have hi' : ¬ i = 0 + Int.toNat (halfF c k) := fun e => h (by rw [e]; simp; omega)
          rw [if_neg hi', if_neg h]
    · have hge : k = 2 * c.np := by simp at c1; omega
      subst hge
      refine ⟨by simp [allT], rfl, by dsimp only; omega, rfl, .inr ⟨by simp, rfl, fun q hq => ?_, fun p hpp => ?_⟩⟩
      · rw [List.mem_singleton.1 hq]
        exact ⟨rfl, List.mem_cons_self ..⟩
      · exact ⟨List.all_eq_true.1 (zip_fst_all (f := keptB 90000000000000000000000000000000000001153 100000000000000000000000000000000000000000000000000) (ids := nwIds) (bs := nwBk c (2 * c.np)) (by kernel_rfl)) p hpp, nwBk_low _ (List.of_mem_zip hpp).2, p.2, zip_some_mem hpp, BEq.refl _⟩
/-- what is wrong with a config (0: nothing) -/
def cfgErr (c : Cfg) : Int :=
  if rule1 c ≠ 0 then rule1 c else if rule2 c ≠ 0 then rule2 c else if rule3 c ≠ 0 then rule3 c else if rule4 c ≠ 0 then rule4 c else if rule5 c ≠ 0 then rule5 c else if rule6 c ≠ 0 then rule6 c else if rule7 c ≠ 0 then rule7 c else if rule8 c ≠ 0 then rule8 c else if rule9 c ≠ 0 then rule9 c else rule10 c
theorem cfg_facts {c : Cfg} (r1 : rule1 c = 0) (r3 : rule3 c = 0) : (4 ≤ c.nodes ∧ c.nodes ≤ 16) ∧ (∀ q, q < 2 * c.np → 0 ≤ halfF c q ∧ halfF c q < c.nodes) ∧ (∀ q q', q < q' → q' < 2 * c.np → halfF c q ≠ halfF c q') := by
  have hn := withinF_zero r1
  unfold rule3 at r3
  split at r3
  · rename_i h
    simp only [Bool.and_eq_true] at h
    obtain ⟨hi, _, hd⟩ := h
    have hin : ∀ i, i < c.np → 0 ≤ c.fp i ∧ c.fp i < c.nodes := fun i h => by
      have := List.all_eq_true.1 hi i (by simpa using h)
      simpa using this
    refine ⟨hn, fun q hq => ?_, fun q q' h1 h2 => ?_⟩
    · obtain ⟨a, b⟩ := hin (q / 2) (by omega)
      unfold halfF ringF
      split
      · exact ⟨a, b⟩
      · rw [if_pos ⟨hn.1, hn.2, a, b⟩]
        exact ⟨Int.emod_nonneg _ (by omega), Int.emod_lt_of_pos _ (by omega)⟩
    · have hd := of_decide_eq_true hd
      rw [List.Nodup, List.pairwise_map] at hd
      have := List.pairwise_iff_getElem.1 hd q q' (by simp; omega) (by simpa using h2) h1
      simpa using this
  · cases r3
end Go.Proofs.YtjefjmkeigfplaaDoor
end
/- configs.New: what it answers. -/
section
namespace Go.Proofs.YtjefjmkeigfplaaDoor
open Go.RowKit

def netV (c : Cfg) (r : VF) : Prop := r.2.2.1 ≤ lim ∧ allT r.2.2.2.1 ∧ (∀ q ∈ r.2.2.2.2, q) ∧
  ((cfgErr c = 0 ∧ r.1 = .tup [.c (.ptr 70000000000000000000000000000000000001149 0 0), i64 0] ∧ r.2.1 = (nwBk c (2 * c.np)).map some) ∨ (cfgErr c ≠ 0 ∧ r.1 = .tup [.c (.v (.pointer none)), i64 (cfgErr c)]))
set_option maxRecDepth 4000 in
theorem new_run (c : Cfg) (hb : c.nb ≤ 9223372036854775807) : ∃ p r, nwR Tryd.prog c p = some r ∧ netV c r := by
  refine nw c _ ?_
  simp only [cfgI_eq, cfgK_t, fA_ints, intsOk_ints, stOf_sts, stsOk_sts]
  have f2 : rule2 c = 0 → 2 ≤ c.np ∧ c.np ≤ 8 := fun h => by have := withinF_zero h; omega
  have f4 : rule4 c = 0 → 1 ≤ c.ns ∧ c.ns ≤ 16 := fun h => by have := withinF_zero h; omega
  have f8 : rule8 c = 0 → c.nt ≤ 8 := fun h => by have := withinF_zero h; omega
  have f1 : rule1 c = 0 → 4 ≤ c.nodes ∧ c.nodes ≤ 16 := fun h => withinF_zero h
  have f7 : rule7 c = 0 → (c.nb : Int) = c.nodes := fun h => by unfold rule7 at h; split at h; assumption; cases h
  have f13 := fun a b => @cfg_facts c a b
  have t1 : ∀ n : Nat, ((some ((0 + n : Nat) : Int)).getD ((0 + n : Nat) : Int) - Int.ofNat 0).toNat = n := fun n => by simp
  have t2 : ∀ n : Nat, (((0 + n : Nat) : Int) - Int.ofNat 0).toNat = n := fun n => by simp
  have t3 : ∀ n : Nat, ((some ((n : Nat) : Int)).getD ((n : Nat) : Int) - Int.ofNat 0).toNat = n := fun n => by simp
  have t4 : ∀ n : Nat, (((n : Nat) : Int) - Int.ofNat 0).toNat = n := fun n => by simp

  simp only [t1, t2, t3, t4]
  repeat' (first | refine ⟨fun h => ?_, fun h => ?_⟩ | fail)
  all_goals (simp only [bne_iff_ne, ne_eq, bne_eq_false_iff_eq, show (Int.ofNat 0) = (0 : Int) from rfl] at *)
  iterate 10 (rotate_left)
  · -- a net

    rename_i e1 e2 e3 e4 e5 e6 e7 e8 e9
    have e10 := h
    obtain ⟨⟨n4, n16⟩, hr, hnd⟩ := f13 e1 e3
    have g2 := f2 e2
    have g4 := f4 e4
    have g7 := f7 e7
    have g8 := f8 e8
    have hz : cfgErr c = 0 := by simp [cfgErr, e1, e2, e3, e4, e5, e6, e7, e8, e9, e10]
    refine ⟨(by first | (unfold lim; omega) | (dsimp only; unfold lim; omega)), ?_, fun q hq => ?_, .inl ⟨hz, rfl, rfl⟩⟩
    · clear f1 f2 f4 f7 f8 f13 hr hnd
      simp [allT, cfgK_t, okNodes, e1, e2, e3, e4, e5, e6, e7, e8, e9, e10, intsOk_ints, stsOk_sts, inb_arr, inb_lit, eltZ, elt, isI64, intsOk, slC, slRow, hb]
      omega
    · rw [List.mem_singleton.1 hq]
      refine nw_sum c n4 n16 g2.2 hr hnd ⟨BEq.refl _, BEq.refl _, ⟨rfl, rfl, rfl, rfl, .inr (.inl ⟨_, _, _, rfl, rfl, fun i hi => ?_⟩)⟩, ⟨rfl, rfl, rfl, rfl, .inr (.inl ⟨c.np, _, _, by rw [Nat.zero_add], rfl, fun i hi => ?_⟩)⟩, ⟨rfl, rfl, rfl, rfl, .inr (.inl ⟨c.ns, _, _, by rw [Nat.zero_add], rfl, fun i hi => ?_⟩)⟩, ⟨rfl, rfl, rfl, rfl, .inr (.inl ⟨c.nb, _, _, by rw [Nat.zero_add], rfl, fun i hi => ?_⟩)⟩, BEq.refl _, trivial⟩
      · simp [hi, pairF, fA, eltZ, elt, asI]
      · simp [elt]
      · simp [elt]
      · simp [elt]
  all_goals
    clear f13
    refine ⟨(by first | (unfold lim; omega) | (dsimp only; unfold lim; omega)), ?_, (by simp), .inr ⟨?_, ?_⟩⟩
    rotate_left
    · simp_all [cfgErr]
    · simp_all [cfgErr, i64]
    · simp_all [allT, cfgK_t, okNodes, intsOk_ints, stsOk_sts, inb_arr, inb_lit, eltZ, elt, isI64, intsOk, slC, slRow]
      try omega
end Go.Proofs.YtjefjmkeigfplaaDoor
end
/- Contracts of configs.New: a config that is right, and one that is not. -/
section
namespace Go.Proofs.YtjefjmkeigfplaaDoor
open Go.RowKit

abbrev netC (ib : Nat) (c : Cfg) : List AC := [.v (.int .i64 c.nodes), .sl (ib + 2) 0 0 c.np (some c.np), .sl (ib + 3) 0 0 c.ns (some c.ns), .v (.int .i64 c.long), .sl (ib + 4) 0 0 c.nb (some c.nb), .sl (ib + 5) 0 0 c.nt (some c.nt), .v (.int .i64 c.miss), .v (.int .i64 c.good), .v (.int .i64 c.fresh), .sl (ib + 1) 0 0 c.nodes.toNat none]
abbrev netY (ib : Nat) (c : Cfg) : ABlk := ⟨true, false, 56, 0, .lit (netC ib c)⟩
abbrev nwN (ib : Nat) (c : Cfg) : List (Nat × Nat × ABlk) := [(ib, 70000000000000000000000000000000000001149, netY ib c), (ib + 1, 50000000000000000000000000000000000001149, intsW c.nodes.toNat (pairF c (2 * c.np))), (ib + 2, 10000000000000000000000000000000000001170, intsW c.np c.fp), (ib + 3, 10000000000000000000000000000000000001197, intsW c.ns c.fs), (ib + 4, 10000000000000000000000000000000000001224, intsW c.nb c.fb), (ib + 5, 10000000000000000000000000000000000001241, stsW c.nt c.ft)]
abbrev nwM (ib : Nat) (c : Cfg) : AMem := [(ib, netY ib c), (ib + 1, intsW c.nodes.toNat (pairF c (2 * c.np))), (ib + 2, intsW c.np c.fp), (ib + 3, intsW c.ns c.fs), (ib + 4, intsW c.nb c.fb), (ib + 5, stsW c.nt c.ft)]
def ctNew : CtF
  | [.agg l], m, ib =>
    match cfgOf l m, subB mS m with
    | some (c, b), true => some (.tup [.c (.ptr ib 0 0), i64 0], nwM ib c, 6, [b, decide (c.nb ≤ 9223372036854775807), decide (cfgErr c = 0)])
    | _, _ => none
  | _, _, _ => none
def ctNewE : CtF
  | [.agg l], m, _ =>
    match cfgOf l m, subB mS m with
    | some (c, b), true => some (.tup [.c (.v (.pointer none)), i64 (cfgErr c)], [], 0, [b, decide (c.nb ≤ 9223372036854775807), decide (cfgErr c ≠ 0)])
    | _, _ => none
  | _, _, _ => none
theorem ad_same {β β' : Nm} {i i' : Nat} (h : β' i' = β i) (k j : Nat) : ad β' i' k j = ad β i k j := by unfold ad; rw [h]
theorem vals_of {β β' : Nm} (L : List Value) (j : Nat) : ∀ u, γc β ((L.map AC.v).getD j nov) = some u → γc β' ((L.map AC.v).getD j nov) = some u := by
  intro u hu
  simp only [List.getD, List.getElem?_map] at hu ⊢
  cases e : L[j]? with
  | none => rw [e] at hu; simp only [Option.map_none, Option.getD_none] at hu ⊢; exact hu
  | some v => rw [e] at hu; simp only [Option.map_some, Option.getD_some] at hu ⊢; exact hu
theorem out_w {β1 β' : Nm} {m1 : AMem} {o ty s n : Nat} {F : Nat → List Value} (h : look m1 o = some (wBlk ty s n F)) : OutOk β1 β' m1 o (wBlk ty s n F) (wBlk ty s n F) :=
  ⟨h, rfl, rfl, rfl, rfl, rfl, rfl, .inr ⟨_, _, rfl, rfl⟩, fun k j _ u hu => vals_of (F k) j u hu⟩
theorem ct_newE : CtOk Tryd.prog 14 ctNewE := by
  refine ⟨⟨_, _, Tryd.func14, rfl⟩, fun C β m m2 w args ib r news k' ob vs hct ho hs hr hfree hlim hv => ?_⟩
  unfold ctNewE at hct
  split at hct
  · rename_i l
    split at hct
    · rename_i c b hc hg
      simp only [Option.some.injEq, Prod.mk.injEq] at hct
      obtain ⟨rfl, rfl, rfl, rfl⟩ := hct
      simp only [allT, List.forall_mem_cons, decide_eq_true_eq] at ho
      obtain ⟨rfl, o2, o3, _⟩ := ho
      obtain ⟨p, ⟨v, b', n', ob, po⟩, hrun, hn, hob, hpo, hvr⟩ := new_run c o2
      obtain ⟨s', r1, r2, r3, r4⟩ := viewF_out hrun
      have hn : n' ≤ lim := hn
      rcases hvr with ⟨h0, _⟩ | ⟨_, hvr⟩
      · exact absurd h0 o3
      simp only [γt, γ1] at hv
      split at hv
      · rename_i v0 us hv0 hus
        split at hv0
        · rename_i cs hcs
          cases hv0
          cases hus
          cases hv
          obtain ⟨β1, q1, q2, q3⟩ := rel_cfg hs hr hc hg hcs
          refine (calls_f hENn r1 ⟨by rw [r3]; exact hob, by rw [r4]; exact hpo⟩ (C := loneC w) (β := β1) (w := w) (vs := [.agg cs.toArray]) ?_ q1 (fun id h1 h2 => q3 id h1 (by omega))).mono ?_
          · simp only [γt, γ1, q2]
          · rintro e w' ⟨β', u, rfl, _, _, hu, hr'⟩
            simp only at hvr
            subst hvr
            exact ⟨β, u, rfl, Ext.refl _, fun _ _ => rfl, hu, by rw [List.append_nil]; exact hr.below (below_lone hr')⟩
        · cases hv0
      · cases hv
    · cases hct
  · cases hct
theorem ct_new : CtOk Tryd.prog 14 ctNew := by
  refine ⟨⟨_, _, Tryd.func14, rfl⟩, fun C β m m2 w args ib r news k' ob vs hct ho hs hr hfree hlim hv => ?_⟩
  unfold ctNew at hct
  split at hct
  · rename_i l
    split at hct
    · rename_i c b hc hg
      simp only [Option.some.injEq, Prod.mk.injEq] at hct
      obtain ⟨rfl, rfl, rfl, rfl⟩ := hct
      simp only [allT, List.forall_mem_cons, decide_eq_true_eq] at ho
      obtain ⟨rfl, o2, o3, _⟩ := ho
      obtain ⟨p, ⟨v, b', n', ob, po⟩, hrun, hn, hob, hpo, hvr⟩ := new_run c o2
      obtain ⟨s', r1, r2, r3, r4⟩ := viewF_out hrun
      have hn : n' ≤ lim := hn
      rcases hvr with ⟨_, hvr, hbl⟩ | ⟨h0, _⟩
      rotate_left
      · exact absurd o3 h0
      simp only [γt, γ1] at hv
      split at hv
      · rename_i v0 us hv0 hus
        split at hv0
        · rename_i cs hcs
          cases hv0
          cases hus
          cases hv
          obtain ⟨β1, q1, q2, q3⟩ := rel_cfg hs hr hc hg hcs
          refine (calls_f hENn r1 ⟨by rw [r3]; exact hob, by rw [r4]; exact hpo⟩ (C := loneC w) (β := β1) (w := w) (vs := [.agg cs.toArray]) ?_ q1 (fun id h1 h2 => q3 id h1 (by omega))).mono ?_
          · simp only [γt, γ1, q2]
          · rintro e w' ⟨β2, u, rfl, _, _, hu, hr'⟩
            simp only at hvr hbl
            subst hvr
            subst hbl
            simp only [List.map_cons, List.map_nil, List.cons.injEq, and_true] at r2
            obtain ⟨k0, _, k1, k2, k3, k4, k5⟩ := r2
            have hnd : ((nwN ib c).map (·.1)).Nodup := by simp
            have hnd2 : ∀ p ∈ nwN ib c, ∀ q ∈ nwN ib c, p.2.1 = q.2.1 → p.1 = q.1 := by
              intro p hp q hq e
              simp only [List.mem_cons, List.not_mem_nil, or_false] at hp hq
              rcases hp with rfl | rfl | rfl | rfl | rfl | rfl <;> rcases hq with rfl | rfl | rfl | rfl | rfl | rfl <;> first | rfl | (exact absurd e (by dsimp only; omega))
            have hj := rel_join hr (below_lone hr') hr' hnd hnd2 (fun p hp => ?_) ?_
            · refine ⟨_, u, rfl, hj.2, fun id h => addN_not fun p hp => ?_, ?_, hj.1⟩
              · simp only [List.mem_cons, List.not_mem_nil, or_false] at hp
                rcases hp with rfl | rfl | rfl | rfl | rfl | rfl <;> dsimp only <;> omega
              · have e0 : addN β β2 (nwN ib c) ib = β2 70000000000000000000000000000000000001149 := addN_mem hnd (p := (ib, _, _)) (List.mem_cons_self ..)
                simp only [γ, γt, γ1, γc, ad_same e0] at hu ⊢
                exact hu
            · simp only [List.mem_cons, List.not_mem_nil, or_false] at hp
              rcases hp with rfl | rfl | rfl | rfl | rfl | rfl <;> exact ⟨hfree _ (by dsimp only; omega) (by dsimp only; omega), not_gid (by dsimp only; omega)⟩
            · have e1 : addN β β2 (nwN ib c) (ib + 1) = β2 50000000000000000000000000000000000001149 := addN_mem hnd (p := (ib + 1, _, _)) (List.mem_cons_of_mem _ (List.mem_cons_self ..))
              have e2 : addN β β2 (nwN ib c) (ib + 2) = β2 10000000000000000000000000000000000001170 := addN_mem hnd (p := (ib + 2, _, _)) (List.mem_cons_of_mem _ (List.mem_cons_of_mem _ (List.mem_cons_self ..)))
              have e3 : addN β β2 (nwN ib c) (ib + 3) = β2 10000000000000000000000000000000000001197 := addN_mem hnd (p := (ib + 3, _, _)) (List.mem_cons_of_mem _ (List.mem_cons_of_mem _ (List.mem_cons_of_mem _ (List.mem_cons_self ..))))
              have e4 : addN β β2 (nwN ib c) (ib + 4) = β2 10000000000000000000000000000000000001224 := addN_mem hnd (p := (ib + 4, _, _)) (List.mem_cons_of_mem _ (List.mem_cons_of_mem _ (List.mem_cons_of_mem _ (List.mem_cons_of_mem _ (List.mem_cons_self ..)))))
              have e5 : addN β β2 (nwN ib c) (ib + 5) = β2 10000000000000000000000000000000000001241 := addN_mem hnd (p := (ib + 5, _, _)) (List.mem_cons_of_mem _ (List.mem_cons_of_mem _ (List.mem_cons_of_mem _ (List.mem_cons_of_mem _ (List.mem_cons_of_mem _ (List.mem_cons_self ..))))))
              intro p hp
              simp only [List.mem_cons, List.not_mem_nil, or_false] at hp
              rcases hp with rfl | rfl | rfl | rfl | rfl | rfl
              · refine ⟨_, k0, rfl, rfl, rfl, rfl, rfl, rfl, .inl ⟨_, _, rfl, rfl, rfl⟩, fun k j hi u hu => ?_⟩
                match j with
                | 0 => exact hu
                | 1 => simp only [Cs.get, List.getD, List.getElem?_cons_succ, List.getElem?_cons_zero, Option.getD_some, γc, e2] at hu ⊢; exact hu
                | 2 => simp only [Cs.get, List.getD, List.getElem?_cons_succ, List.getElem?_cons_zero, Option.getD_some, γc, e3] at hu ⊢; exact hu
                | 3 => exact hu
                | 4 => simp only [Cs.get, List.getD, List.getElem?_cons_succ, List.getElem?_cons_zero, Option.getD_some, γc, e4] at hu ⊢; exact hu
                | 5 => simp only [Cs.get, List.getD, List.getElem?_cons_succ, List.getElem?_cons_zero, Option.getD_some, γc, e5] at hu ⊢; exact hu
                | 6 => exact hu
                | 7 => exact hu
                | 8 => exact hu
                | 9 => simp only [Cs.get, List.getD, List.getElem?_cons_succ, List.getElem?_cons_zero, Option.getD_some, γc, e1] at hu ⊢; exact hu
                | j + 10 => exact hu
              · exact ⟨_, out_w k1⟩
              · exact ⟨_, out_w k2⟩
              · exact ⟨_, out_w k3⟩
              · exact ⟨_, out_w k4⟩
              · exact ⟨_, out_w k5⟩
        · cases hv0
      · cases hv
    · cases hct
  · cases hct
end Go.Proofs.YtjefjmkeigfplaaDoor
end
/- Nets as the evaluator reads them; contracts of functions of a net that write nothing. -/
section
namespace Go.Proofs.YtjefjmkeigfplaaDoor
open Go.RowKit

/-- the cells of a net whose lists are named 0 to 4 -/
abbrev netC0 (c : Cfg) (nq : Nat) : List AC := [.v (.int .i64 c.nodes), .sl 0 0 0 c.np none, .sl 1 0 0 c.ns none, .v (.int .i64 c.long), .sl 2 0 0 c.nb none, .sl 3 0 0 c.nt none, .v (.int .i64 c.miss), .v (.int .i64 c.good), .v (.int .i64 c.fresh), .sl 4 0 0 nq none]
abbrev netL (c : Cfg) (nq : Nat) (fq : Nat → Int) : AMem := [(0, ints 3 c.np c.fp), (1, ints 3 c.ns c.fs), (2, ints 3 c.nb c.fb), (3, sts c.nt c.ft), (4, ints 3 nq fq), (5, ⟨false, false, 56, 0, .lit (netC0 c nq)⟩)]
abbrev netM (c : Cfg) (nq : Nat) (fq : Nat → Int) : AMem := [(gid 0, signB), (0, ints 3 c.np c.fp), (1, ints 3 c.ns c.fs), (2, ints 3 c.nb c.fb), (3, sts c.nt c.ft), (4, ints 3 nq fq), (5, ⟨false, false, 56, 0, .lit (netC0 c nq)⟩)]
def netOf (l : List AC) (m : AMem) : Option (Cfg × Nat × (Nat → Int) × Bool) :=
  match l with
  | [.v (.int .i64 nodes), p, s, .v (.int .i64 long), b, t, .v (.int .i64 miss), .v (.int .i64 good), .v (.int .i64 fresh), q] =>
    match slOf 1 m p, slOf 1 m s, slOf 1 m b, slOf 3 m t, slOf 1 m q with
    | some (np, P, b1), some (ns, S, b2), some (nb, B, b3), some (nt, T, b4), some (nq, Q, b5) => some (⟨nodes, np, fA P, ns, fA S, long, nb, fA B, nt, stOf T, miss, good, fresh⟩, nq, fA Q, b1 && (b2 && (b3 && (b4 && (b5 && (intsOk np P && (intsOk ns S && (intsOk nb B && (stsOk nt T && intsOk nq Q)))))))))
    | _, _, _, _, _ => none
  | _ => none
theorem subB_ro {G m : AMem} (hg : subB G m = true) : ∀ id x, look G id = some x → x.own = false ∧ isO x = false := by
  intro id x hx
  have h1 := List.all_eq_true.1 hg _ (look_mem hx)
  simp only at h1
  split at h1
  · simp only [Bool.and_eq_true, Bool.not_eq_true'] at h1
    refine ⟨h1.1, ?_⟩
    have h3 := h1.2
    unfold eqBk at h3
    split at h3
    · rename_i l q _ hq; simp [isO, hq]
    · cases h3
  · cases h1
theorem rel_netG {G : AMem} (hG : (G.all fun p => Nat.ble lim p.1) = true) {C : Ctx} {β : Nm} {m m2 : AMem} {w : World} (hs : Sub m m2) (hr : Rel C β m2 w) {l : List AC} {id0 : Nat} {x0 : ABlk} (hx0 : look m id0 = some x0) (hc0 : x0.cs = .lit l) {c : Cfg} {nq : Nat} {fq : Nat → Int} (h : netOf l m = some (c, nq, fq, true)) (hg : subB G m = true) {v0 : Value} (hv : γc β (.ptr id0 0 0) = some v0) :
    ∃ β', Rel (loneC w) β' (G ++ netL c nq fq) w ∧ γc β' (.ptr 5 0 0) = some v0 ∧ ∀ id, 1000 ≤ id → id < lim → β' id = none := by
  obtain ⟨LN, hLN, hkN⟩ := hr.blk id0 x0 (hs _ _ hx0)
  have hsz := hkN.lit l hc0
  unfold netOf at h
  split at h
  · rename_i nodes p s long b t miss good fresh q
    split at h
    · rename_i np P b1 ns S b2 nb B b3 nt T b4 nq' Q b5 hp hsl hb ht hq
      simp only [Option.some.injEq, Prod.mk.injEq, Bool.and_eq_true] at h
      obtain ⟨rfl, rfl, rfl, rfl, rfl, rfl, rfl, rfl, i1, i2, i3, i4, i5⟩ := h
      have cell : ∀ j, j < 10 → LN.nil = false ∧ ∃ u, γc β ((Cs.lit [.v (.int .i64 nodes), p, s, .v (.int .i64 long), b, t, .v (.int .i64 miss), .v (.int .i64 good), .v (.int .i64 fresh), q]).get 0 j) = some u ∧ u.oneCell' = true ∧ w.cell? ⟨LN.b, LN.o + j, none⟩ = some u := by
        intro j hj
        obtain ⟨g1, u, g2, g3, g4⟩ := hkN.cells 0 j (by simp only [ABlk.inb, hc0, hsz]; simp; omega)
        rw [hc0] at g2
        rw [Nat.zero_mul, Nat.zero_add] at g4
        exact ⟨g1, u, g2, g3, g4⟩
      have hnil := (cell 0 (by omega)).1
      obtain ⟨v1, g1⟩ : ∃ v, γc β p = some v := by obtain ⟨_, u, g2, _⟩ := cell 1 (by omega); exact ⟨u, g2⟩
      obtain ⟨v2, g2⟩ : ∃ v, γc β s = some v := by obtain ⟨_, u, g2, _⟩ := cell 2 (by omega); exact ⟨u, g2⟩
      obtain ⟨v4, g4⟩ : ∃ v, γc β b = some v := by obtain ⟨_, u, g2, _⟩ := cell 4 (by omega); exact ⟨u, g2⟩
      obtain ⟨v5, g5⟩ : ∃ v, γc β t = some v := by obtain ⟨_, u, g2, _⟩ := cell 5 (by omega); exact ⟨u, g2⟩
      obtain ⟨v9, g9⟩ : ∃ v, γc β q = some v := by obtain ⟨_, u, g2, _⟩ := cell 9 (by omega); exact ⟨u, g2⟩
      have r0 := rel_glob hr hs hg hG
      have n0 := subB_ro hg
      have hlo : ∀ id, id < lim → nmG β id = none := fun id h => by unfold nmG; rw [if_neg (by omega)]
      have hgi : ∀ (id : Nat), id < lim → ∀ g, id ≠ gid g := fun id h => not_gid h
      obtain ⟨L0, k0, z0⟩ := blk_slice hr Nat.one_pos (slOf_sub hs hp) g1 3 (intsOk_eq i1) (fun _ => rfl) (loneC w) (nmG β) rfl
      obtain ⟨r1, n1⟩ := rel_add_ro r0 n0 (id := 0) (hlo 0 (by unfold lim; omega)) (hgi 0 (by unfold lim; omega)) rfl rfl k0
      obtain ⟨L1, k1, z1⟩ := blk_slice hr Nat.one_pos (slOf_sub hs hsl) g2 3 (intsOk_eq i2) (fun _ => rfl) (loneC w) (ext1 (nmG β) 0 L0) rfl
      obtain ⟨r2, n2⟩ := rel_add_ro r1 n1 (id := 1) (by simp [ext1, hlo 1 (by unfold lim; omega)]) (hgi 1 (by unfold lim; omega)) rfl rfl k1
      obtain ⟨L2, k2, z2⟩ := blk_slice hr Nat.one_pos (slOf_sub hs hb) g4 3 (intsOk_eq i3) (fun _ => rfl) (loneC w) (ext1 (ext1 (nmG β) 0 L0) 1 L1) rfl
      obtain ⟨r3, n3⟩ := rel_add_ro r2 n2 (id := 2) (by simp [ext1, hlo 2 (by unfold lim; omega)]) (hgi 2 (by unfold lim; omega)) rfl rfl k2
      obtain ⟨L3, k3, z3⟩ := blk_slice hr (by omega : 0 < 3) (slOf_sub hs ht) g5 64 (stsOk_eq i4) (fun _ => rfl) (loneC w) (ext1 (ext1 (ext1 (nmG β) 0 L0) 1 L1) 2 L2) rfl
      obtain ⟨r4, n4⟩ := rel_add_ro r3 n3 (id := 3) (by simp [ext1, hlo 3 (by unfold lim; omega)]) (hgi 3 (by unfold lim; omega)) rfl rfl k3
      obtain ⟨L4, k4, z4⟩ := blk_slice hr Nat.one_pos (slOf_sub hs hq) g9 3 (intsOk_eq i5) (fun _ => rfl) (loneC w) (ext1 (ext1 (ext1 (ext1 (nmG β) 0 L0) 1 L1) 2 L2) 3 L3) rfl
      obtain ⟨r5, n5⟩ := rel_add_ro r4 n4 (id := 4) (by simp [ext1, hlo 4 (by unfold lim; omega)]) (hgi 4 (by unfold lim; omega)) rfl rfl k4
      obtain ⟨β5, hβ5⟩ : ∃ β5, β5 = ext1 (ext1 (ext1 (ext1 (ext1 (nmG β) 0 L0) 1 L1) 2 L2) 3 L3) 4 L4 := ⟨_, rfl⟩
      rw [← hβ5] at r5
      have y0 := z0 β5 0 (by rw [hβ5]; simp [ext1])
      have y1 := z1 β5 1 (by rw [hβ5]; simp [ext1])
      have y2 := z2 β5 2 (by rw [hβ5]; simp [ext1])
      have y3 := z3 β5 3 (by rw [hβ5]; simp [ext1])
      have y4 := z4 β5 4 (by rw [hβ5]; simp [ext1])
      have h5 : ∀ id, 5 ≤ id → id < lim → β5 id = none := fun id h1 h2 => by
        rw [hβ5]
        simp [ext1, hlo id h2, show id ≠ 0 by omega, show id ≠ 1 by omega, show id ≠ 2 by omega, show id ≠ 3 by omega, show id ≠ 4 by omega]
      have hkn : BlkOk (loneC w) β5 w ⟨LN.b, LN.o, 0, LN.cap, LN.nil⟩ ⟨false, false, 56, 0, .lit (netC0 ⟨nodes, np, fA P, ns, fA S, long, nb, fA B, nt, stOf T, miss, good, fresh⟩ nq')⟩ := by
        refine ⟨rfl, fun _ _ => rfl, fun k j hi => ?_, hkN.lt, fun ho => (by cases ho), fun n f hf => (by cases hf), fun ho => (by cases ho)⟩
        have hj : j < 10 := by simp [ABlk.inb] at hi; omega
        obtain ⟨_, u, e2, e3, e4⟩ := cell j hj
        refine ⟨hnil, u, ?_, e3, by rw [Nat.mul_zero, Nat.zero_add]; exact e4⟩
        match j, hj with
        | 0, _ => exact e2
        | 1, _ => exact y0.trans (g1.symm.trans e2)
        | 2, _ => exact y1.trans (g2.symm.trans e2)
        | 3, _ => exact e2
        | 4, _ => exact y2.trans (g4.symm.trans e2)
        | 5, _ => exact y3.trans (g5.symm.trans e2)
        | 6, _ => exact e2
        | 7, _ => exact e2
        | 8, _ => exact e2
        | 9, _ => exact y4.trans (g9.symm.trans e2)
      obtain ⟨r6, _⟩ := rel_add_ro r5 n5 (id := 5) (h5 5 (by omega) (by unfold lim; omega)) (hgi 5 (by unfold lim; omega)) rfl rfl hkn
      simp only [List.append_assoc, List.cons_append, List.nil_append] at r6
      refine ⟨_, r6, ?_, fun id h1 h2 => ?_⟩
      · simp only [γc, ad, hLN, hnil, Bool.false_eq_true, if_false, Nat.zero_mul, Nat.add_zero, Option.some.injEq] at hv
        simp only [γc, ad, ext1_same, hnil, Bool.false_eq_true, if_false, Nat.zero_mul, Nat.add_zero, Option.some.injEq]
        exact hv
      · unfold ext1
        rw [if_neg (by omega)]
        exact h5 id (by omega) h2
    · cases h
  · cases h
theorem rel_net {C : Ctx} {β : Nm} {m m2 : AMem} {w : World} (hs : Sub m m2) (hr : Rel C β m2 w) {l : List AC} {id0 : Nat} {x0 : ABlk} (hx0 : look m id0 = some x0) (hc0 : x0.cs = .lit l) {c : Cfg} {nq : Nat} {fq : Nat → Int} (h : netOf l m = some (c, nq, fq, true)) (hg : subB mS m = true) {v0 : Value} (hv : γc β (.ptr id0 0 0) = some v0) :
    ∃ β', Rel (loneC w) β' (netM c nq fq) w ∧ γc β' (.ptr 5 0 0) = some v0 ∧ ∀ id, 1000 ≤ id → id < lim → β' id = none := rel_netG (G := mS) (by kernel_rfl) hs hr hx0 hc0 h hg hv
def netK (c : Cfg) (nq : Nat) (fq : Nat → Int) : Bool := decide (0 + Cfg.np c ≤ Cfg.np c) && (decide (0 + Cfg.ns c ≤ Cfg.ns c) && (decide (0 + Cfg.nb c ≤ Cfg.nb c) && (decide (0 + Cfg.nt c ≤ Cfg.nt c) && (decide (0 + nq ≤ nq) && ((intsOk (Cfg.np c) fun k => List.map AC.v ((fun i => [Value.int IntKind.i64 (Cfg.fp c i)]) k)) && ((intsOk (Cfg.ns c) fun k => List.map AC.v ((fun i => [Value.int IntKind.i64 (Cfg.fs c i)]) k)) && ((intsOk (Cfg.nb c) fun k => List.map AC.v ((fun i => [Value.int IntKind.i64 (Cfg.fb c i)]) k)) && ((stsOk (Cfg.nt c) fun k => List.map AC.v ((fun i => [Value.int IntKind.i64 (Station.node (Cfg.ft c i)), Value.int IntKind.u32 (Station.safe (Cfg.ft c i)), Value.int IntKind.i64 (Station.hold (Cfg.ft c i))]) k)) && intsOk nq fun k => List.map AC.v ((fun i => [Value.int IntKind.i64 (fq i)]) k)))))))))
theorem netK_t (c : Cfg) (nq : Nat) (fq : Nat → Int) : netK c nq fq = true := by simp [netK, intsOk, isI64, stsOk, isSt]
def intsA : List AV → Option (List Int)
  | [] => some []
  | .c (.v (.int .i64 z)) :: r => match intsA r with | some zs => some (z :: zs) | none => none
  | _ => none
abbrev argsI (zs : List Int) : List AV := zs.map fun z => .c (.v (.int .i64 z))
theorem intsA_eq : ∀ {l : List AV} {zs : List Int}, intsA l = some zs → l = argsI zs := by
  intro l
  induction l with
  | nil => intro zs h; cases h; rfl
  | cons a r ih =>
    intro zs h
    unfold intsA at h
    split at h
    · rename_i e; cases e
    · rename_i z r' e
      cases e
      cases e2 : intsA r with
      | none => rw [e2] at h; cases h
      | some zs' => rw [e2] at h; cases h; rw [ih e2]; rfl
    · cases h
/-- a contract of a function of a net, and of numbers, that writes nothing and answers by plain values -/
def ctNet (R : Cfg → Nat → (Nat → Int) → List Int → AV) (pre : Cfg → Nat → (Nat → Int) → List Int → Bool) : CtF
  | .c (.ptr id 0 0) :: rest, m, _ =>
    match look m id, intsA rest, subB mS m with
    | some ⟨_, _, _, _, .lit l⟩, some zs, true => match netOf l m with | some (c, nq, fq, b) => some (R c nq fq zs, [], 0, [b, pre c nq fq zs]) | none => none
    | _, _, _ => none
  | _, _, _ => none
theorem ctNet_of {P : Program} {f : FuncId} {R : Cfg → Nat → (Nat → Int) → List Int → AV} {pre : Cfg → Nat → (Nat → Int) → List Int → Bool} (hf : ∃ (fn : Func) (c : Code), P.funcs[f]? = some fn ∧ fn.body = some c) (hres : ∀ c nq fq zs (β1 β2 : Nm) u, γ β1 (R c nq fq zs) = some u → γ β2 (R c nq fq zs) = some u) (many : Nat)
    (run : ∀ c nq fq zs, pre c nq fq zs = true → zs.length = many → ∃ (E : Env) (fuel str : Nat), E.P = P ∧ EnvOk E ∧ ∃ p lp r, viewF [] (fCallF E (fC E fuel) f (.c (.ptr 5 0 0) :: argsI zs) 1000 str (stA (netM c nq fq) p lp)) = some r ∧ r.1 = R c nq fq zs ∧ r.2.2.1 ≤ lim ∧ allT r.2.2.2.1 ∧ ∀ q ∈ r.2.2.2.2, q) : CtOk P f (ctNet R fun c nq fq zs => pre c nq fq zs && decide (zs.length = many)) := by
  refine ⟨hf, fun C β m m2 w args ib r news k' ob vs hct ho hs hr hfree hlim hv => ?_⟩
  unfold ctNet at hct
  split at hct
  · rename_i id rest
    split at hct
    · rename_i o1 r1' t1 s1 l zs hlk hzs hg
      split at hct
      · rename_i c nq fq b hc
        simp only [Option.some.injEq, Prod.mk.injEq] at hct
        obtain ⟨rfl, rfl, rfl, rfl⟩ := hct
        simp only [allT, List.forall_mem_cons, Bool.and_eq_true, decide_eq_true_eq] at ho
        obtain ⟨rfl, ⟨o2, o3⟩, _⟩ := ho
        obtain ⟨E, fuel, str, rfl, hE, p, lp, ⟨v, b', n', ob, po⟩, hrun, hvr, hn, hob, hpo⟩ := run c nq fq zs o2 o3
        obtain ⟨s', r1, r2, r3, r4⟩ := viewF_out hrun
        have hn : n' ≤ lim := hn
        obtain rfl := intsA_eq hzs
        simp only [γt] at hv
        split at hv
        · rename_i v0 us hv0 hus
          cases hv
          obtain ⟨β1, q1, q2, q3⟩ := rel_net hs hr hlk rfl hc hg hv0
          refine (calls_f hE r1 ⟨by rw [r3]; exact hob, by rw [r4]; exact hpo⟩ (C := loneC w) (β := β1) (w := w) (vs := v0 :: us) ?_ q1 (fun id h1 h2 => q3 id h1 (by omega))).mono ?_
          · have hus' := γt_valsI (zs.map fun z => Value.int .i64 z) (restA := argsI zs) (by simp [argsI]) β β1 us hus
            simp only [γt, γ1, q2, hus']
          · rintro e w' ⟨β', u, rfl, _, _, hu, hr'⟩
            simp only at hvr
            subst hvr
            exact ⟨β, u, rfl, Ext.refl _, fun _ _ => rfl, hres _ _ _ _ _ _ _ hu, by rw [List.append_nil]; exact hr.below (below_lone hr')⟩
        · cases hv
      · cases hct
    · cases hct
  · cases hct
def netR (P : Program) (f : FuncId) (c : Cfg) (nq : Nat) (fq : Nat → Int) (zs : List Int) (path : List Dec) : Option VF := viewF [] (fCallF (E1 P) (fC (E1 P) 300) f (.c (.ptr 5 0 0) :: argsI zs) 1000 10000000000000000000000000000000000000000 (stA (netM c nq fq) path []))
end Go.Proofs.YtjefjmkeigfplaaDoor
end
/- What a net answers, Owner and Round, as the evaluator runs it. -/
section
namespace Go.Proofs.YtjefjmkeigfplaaDoor
open Go.RowKit

theorem nOwner (c : Cfg) (nq : Nat) (fq : Nat → Int) (z : Int) (Q : VF → Prop) (H : (((!decide (↑nq > Int.ofNat 0)) = true → Q (.c (.v (.int .i64 (Int.negSucc 0))), [], 1016, [(!decide (↑nq > Int.ofNat 0)) == true, true], [])) ∧ ((!decide (↑nq > Int.ofNat 0)) = false → (((decide (z < Int.ofNat 0)) = true → Q (.c (.v (.int .i64 (Int.negSucc 0))), [], 1028, [decide (z < Int.ofNat 0) == true, true, (!decide (↑nq > Int.ofNat 0)) == false, true], [])) ∧ ((decide (z < Int.ofNat 0)) = false → (((decide (z ≥ ↑(c.ns))) = true → Q (.c (.v (.int .i64 (Int.negSucc 0))), [], 1032, [decide (z ≥ ↑(c.ns)) == true, decide (z < Int.ofNat 0) == false, true, (!decide (↑nq > Int.ofNat 0)) == false, true], [])) ∧ ((decide (z ≥ ↑(c.ns))) = false → Q (.c (.v (.int .i64 (c.fs (0 + Int.toNat z)))), [], 1036, [ABlk.inb (ABlk.mk false false 3 1 (Cs.arr (c.ns) fun k => List.map AC.v ((fun i => [Value.int .i64 (c.fs i)]) k))) (0 + Int.toNat z) 1, true, decide (Int.ofNat 0 ≤ z ∧ z < ↑(c.ns)), decide (z ≥ ↑(c.ns)) == false, decide (z < Int.ofNat 0) == false, true, (!decide (↑nq > Int.ofNat 0)) == false, true], [])))))))) :
    ∃ p r, netR Tryd.prog 27 c nq fq [z] p = some r ∧ Q r := by
  rcases Bool.eq_false_or_eq_true (!decide (↑nq > Int.ofNat 0)) with h2 | h2
  · have g2 := H.1 h2
    exact ⟨([.a, .a, .a, .a, .a, .a, .b true] : List Dec), _, by kernel_rfl, g2⟩
  · have g2 := H.2 h2
    rcases Bool.eq_false_or_eq_true (decide (z < Int.ofNat 0)) with h4 | h4
    · have g4 := g2.1 h4
      exact ⟨([.a, .a, .a, .a, .a, .a, .b false, .b true, .a, .a, .a, .a] : List Dec), _, by kernel_rfl, g4⟩
    · have g4 := g2.2 h4
      rcases Bool.eq_false_or_eq_true (decide (z ≥ ↑(c.ns))) with h6 | h6
      · have g6 := g4.1 h6
        exact ⟨([.a, .a, .a, .a, .a, .a, .b false, .b false, .a, .a, .a, .b true] : List Dec), _, by kernel_rfl, g6⟩
      · have g6 := g4.2 h6
        exact ⟨([.a, .a, .a, .a, .a, .a, .b false, .b false, .a, .a, .a, .b false] : List Dec), _, by kernel_rfl, g6⟩
theorem nRound (c : Cfg) (nq : Nat) (fq : Nat → Int) (Q : VF → Prop) (H : (((!decide (↑nq > Int.ofNat 0)) = true → Q (.c (.v (.int .i64 (Int.ofNat 0))), [], 1016, [(!decide (↑nq > Int.ofNat 0)) == true, true], [])) ∧ ((!decide (↑nq > Int.ofNat 0)) = false → Q (.c (.v (.int .i64 (IntKind.wrap .i64 (↑(c.ns) * c.long)))), [], 130000000000000000000000000000000000001015, [true, true, true, (!decide (↑nq > Int.ofNat 0)) == false, true], [])))) :
    ∃ p r, netR Tryd.prog 15 c nq fq [] p = some r ∧ Q r := by
  rcases Bool.eq_false_or_eq_true (!decide (↑nq > Int.ofNat 0)) with h2 | h2
  · have g2 := H.1 h2
    exact ⟨([.a, .a, .a, .a, .a, .a, .b true] : List Dec), _, by kernel_rfl, g2⟩
  · have g2 := H.2 h2
    exact ⟨([.a, .a, .a, .a, .a, .a, .b false] : List Dec), _, by kernel_rfl, g2⟩
end Go.Proofs.YtjefjmkeigfplaaDoor
end
/- What functions of a net, or of a config, and of plain values, read. -/
section
namespace Go.Proofs.YtjefjmkeigfplaaDoor
open Go.RowKit

structure NetS where
  c : Cfg
  nq : Nat
  fq : Nat → Int
  rest : List AV
def netRdG (G : AMem) (hG : (G.all fun p => Nat.ble lim p.1) = true) : Rd NetS where
  dec := fun xs m =>
    match xs with
    | .c (.ptr id 0 0) :: rest =>
      match look m id, plainL rest, subB G m with
      | some ⟨_, _, _, _, .lit l⟩, true, true => match netOf l m with | some (c, nq, fq, b) => some (⟨c, nq, fq, rest⟩, b) | none => none
      | _, _, _ => none
    | _ => none
  args := fun s => .c (.ptr 5 0 0) :: s.rest
  mem := fun s => G ++ netL s.c s.nq s.fq
  ok := by
    intro C β m m2 w xs s vs hs hr hd hv
    split at hd
    · rename_i id rest
      split at hd
      · rename_i o1 r1' t1 s1 l hlk hpl hg
        split at hd
        · rename_i c nq fq b hc
          simp only [Option.some.injEq, Prod.mk.injEq] at hd
          obtain ⟨rfl, rfl⟩ := hd
          simp only [γt] at hv
          split at hv
          · rename_i v0 us hv0 hus
            cases hv
            obtain ⟨β1, q1, q2, q3⟩ := rel_netG hG hs hr hlk rfl hc hg hv0
            refine ⟨β1, q1, ?_, q3⟩
            simp only [γt, γ1, q2, plainL_γ hpl hus]
          · cases hv
        · cases hd
      · cases hd
    · cases hd
def netRd : Rd NetS := netRdG mS (by kernel_rfl)
end Go.Proofs.YtjefjmkeigfplaaDoor
end
/- A function of a config whose calls are told by contracts that hang on the config; configs.New either way. -/
section
namespace Go.Proofs.YtjefjmkeigfplaaDoor
open Go.RowKit

/-- the same, by whatever tells what is wrong (a name in the explorer: the kernel shall not look into it) -/
def ctNew0 (err : Cfg → Int) : CtF
  | [.agg l], m, ib =>
    match cfgOf l m, subB mS m with
    | some (c, b), true => some (.tup [.c (.ptr ib 0 0), i64 0], nwM ib c, 6, [b, decide (c.nb ≤ 9223372036854775807), decide (err c = 0)])
    | _, _ => none
  | _, _, _ => none
def ctNew1 (err : Cfg → Int) : CtF
  | [.agg l], m, _ =>
    match cfgOf l m, subB mS m with
    | some (c, b), true => some (.tup [.c (.v (.pointer none)), i64 (err c)], [], 0, [b, decide (c.nb ≤ 9223372036854775807), decide (err c ≠ 0)])
    | _, _ => none
  | _, _, _ => none
theorem ct_new0 : CtOk Tryd.prog 14 (ctNew0 cfgErr) := ct_new
theorem ct_new1 : CtOk Tryd.prog 14 (ctNew1 cfgErr) := ct_newE
end Go.Proofs.YtjefjmkeigfplaaDoor
end
/- Contracts of what a net answers: Owner, Round. -/
section
namespace Go.Proofs.YtjefjmkeigfplaaDoor
open Go.RowKit

/-- the element at a place, or -1 -/
def atF (f : Nat → Int) (n : Nat) (z : Int) : Int := if 0 ≤ z ∧ z < n then f z.toNat else -1
def ownerN (c : Cfg) (nq : Nat) (_ : Nat → Int) (z : Int) : Int := if nq = 0 then -1 else atF c.fs c.ns z
def roundN (c : Cfg) (nq : Nat) : Int := if nq = 0 then 0 else IntKind.wrap .i64 (c.ns * c.long)
theorem ct_owner : CtOk Tryd.prog 27 (ctNet (fun c nq fq zs => i64 (ownerN c nq fq (zs.headD 0))) fun c nq fq zs => true && decide (zs.length = 1)) := by
  refine ctNet_of ⟨_, _, Tryd.func27, rfl⟩ (fun c nq fq zs => plain_i64 _) 1 fun c nq fq zs _ hz => ?_
  obtain ⟨z, rfl⟩ := List.length_eq_one_iff.1 hz
  refine (?_ : (∃ p r, netR Tryd.prog 27 c nq fq [z] p = some r ∧ (r.1 = i64 (ownerN c nq fq z) ∧ r.2.2.1 ≤ lim ∧ allT r.2.2.2.1 ∧ ∀ q ∈ r.2.2.2.2, q)) → _) (nOwner c nq fq z _ ?_)
  · rintro ⟨p, r, h1, h2⟩
    exact ⟨E1 Tryd.prog, 300, 10000000000000000000000000000000000000000, rfl, hE1, p, [], r, h1, h2⟩
  · repeat' (first | refine ⟨fun h => ?_, fun h => ?_⟩ | fail)
    all_goals (refine ⟨?_, (by first | (unfold lim; omega) | (dsimp only; unfold lim; omega)), ?_, by simp⟩)
    all_goals (simp only [Int.ofNat_eq_natCast] at *)
    all_goals (first
      | (show i64 _ = i64 _; unfold ownerN atF; simp at *; first | (rw [if_pos (by omega)]; done) | (rw [if_neg (by omega), if_neg (by omega)]; done) | (rw [if_neg (by omega), if_pos (by omega)]; done) | (intros; omega) | (split <;> first | rfl | omega))
      | (simp at *; simp [allT, inb_arr]; omega))
theorem ct_round : CtOk Tryd.prog 15 (ctNet (fun c nq _ _ => i64 (roundN c nq)) fun c nq fq zs => true && decide (zs.length = 0)) := by
  refine ctNet_of ⟨_, _, Tryd.func15, rfl⟩ (fun c nq fq zs => plain_i64 _) 0 fun c nq fq zs _ hz => ?_
  obtain rfl := List.length_eq_zero_iff.1 hz
  refine (?_ : (∃ p r, netR Tryd.prog 15 c nq fq [] p = some r ∧ (r.1 = i64 (roundN c nq) ∧ r.2.2.1 ≤ lim ∧ allT r.2.2.2.1 ∧ ∀ q ∈ r.2.2.2.2, q)) → _) (nRound c nq fq _ ?_)
  · rintro ⟨p, r, h1, h2⟩
    exact ⟨E1 Tryd.prog, 300, 10000000000000000000000000000000000000000, rfl, hE1, p, [], r, h1, h2⟩
  · refine ⟨fun h => ?_, fun h => ?_⟩
    · refine ⟨?_, (by first | (unfold lim; omega) | (dsimp only; unfold lim; omega)), ?_, by simp⟩
      · show i64 _ = i64 _
        simp at h
        simp [roundN, h]
      · simp at h
        simp [allT, h]
    · refine ⟨?_, (by first | (unfold lim; omega) | (dsimp only; unfold lim; omega)), ?_, by simp⟩
      · show i64 _ = i64 _
        simp at h
        unfold roundN
        rw [if_neg (by omega)]
      · simp at h
        simp [allT]
        omega
def ctNet1 (R : Cfg → Nat → (Nat → Int) → Int → Int) : CtF := ctNet (fun c nq fq zs => i64 (R c nq fq (zs.headD 0))) fun c nq fq zs => true && decide (zs.length = 1)
def ctRoundN : CtF := ctNet (fun c nq _ _ => i64 (roundN c nq)) fun c nq fq zs => true && decide (zs.length = 0)
/-- what clocks.Of and clocks.Age call -/
def ctNo : List (FuncId × CtF) := [(27, ctNet1 ownerN), (15, ctRoundN)]
theorem ctNo_ok : ∀ f g, (f, g) ∈ ctNo → CtOk Tryd.prog f g := by
  intro f g h
  simp only [ctNo, List.mem_cons, Prod.mk.injEq, List.not_mem_nil, or_false] at h
  rcases h with ⟨rfl, rfl⟩ | ⟨rfl, rfl⟩
  · exact ct_owner
  · exact ct_round
def ENno (P : Program) : Env := ⟨P, ctNo⟩
theorem hENno : EnvOk (ENno Tryd.prog) := envOk ctNo_ok (by kernel_rfl) (by kernel_rfl)
/-- a function of a net and plain values -/
def ntE (E : Env) (f : FuncId) (c : Cfg) (nq : Nat) (fq : Nat → Int) (r : List AV) (path : List Dec) (lp : List (Option LSum)) : Option VF := viewF [] (fCallF E (fC E 300) f (.c (.ptr 5 0 0) :: r) 1000 10000000000000000000000000000000000000000 (stA (netM c nq fq) path lp))
/-- a round's length, of a net that may be -/
def ckPre (c : Cfg) (nq : Nat) : Bool := decide (0 < nq) && (decide (1 ≤ c.ns) && (decide (c.ns ≤ 16) && (decide (1 ≤ c.long) && decide (c.long ≤ 4096))))
theorem mul_le_mul_of {a b x y : Int} (h0 : 0 ≤ a) (h1 : a ≤ x) (h2 : 0 ≤ b) (h3 : b ≤ y) : a * b ≤ x * y := Int.mul_le_mul h1 h3 h2 (by omega)
theorem ck_round {c : Cfg} {nq : Nat} (h : ckPre c nq = true) : roundN c nq = c.ns * c.long ∧ 1 ≤ (c.ns : Int) * c.long ∧ (c.ns : Int) * c.long ≤ 65536 ∧ 0 < nq ∧ 1 ≤ c.ns ∧ c.ns ≤ 16 ∧ 1 ≤ c.long ∧ c.long ≤ 4096 := by
  simp only [ckPre, Bool.and_eq_true, decide_eq_true_eq] at h
  obtain ⟨h1, h2, h3, h4, h5⟩ := h
  have e1 : (c.ns : Int) * c.long ≤ 16 * 4096 := mul_le_mul_of (by omega) (by omega) (by omega) (by omega)
  have e2 : (1 : Int) * 1 ≤ c.ns * c.long := mul_le_mul_of (by omega) (by omega) (by omega) (by omega)
  refine ⟨?_, by omega, by omega, h1, h2, h3, h4, h5⟩
  unfold roundN
  rw [if_neg (by omega), wrap_nat _ (by omega) (by omega)]
end Go.Proofs.YtjefjmkeigfplaaDoor
end
/- clocks.Of, Age, Ahead as the evaluator runs them. -/
section
namespace Go.Proofs.YtjefjmkeigfplaaDoor
open Go.RowKit

def ckOfE (P : Program) (c : Cfg) (nq : Nat) (fq : Nat → Int) (a : Int) (path : List Dec) : Option VF := ntE (ENno P) 9 c nq fq [i64 a] path []
abbrev tmA (x y z : Int) : AV := .agg [.v (.int .i64 x), .v (.int .i64 y), .v (.int .i64 z)]
def ckAgeE (P : Program) (c : Cfg) (nq : Nat) (fq : Nat → Int) (x y z : Int) (path : List Dec) : Option VF := ntE (ENno P) 18 c nq fq [tmA x y z] path []
theorem ckOf (c : Cfg) (nq : Nat) (fq : Nat → Int) (a : Int) (Q : VF → Prop) (H : (((decide (a < Int.ofNat 0)) = true → Q (.tup [.agg [.v (.int .i64 (Int.ofNat 0)), .v (.int .i64 (Int.ofNat 0)), .v (.int .i64 (Int.ofNat 0))], .c (.v (.int .i64 (Int.ofNat 1)))], [], 1015, [true, true, true, true, true, decide (a < Int.ofNat 0) == true, (roundN c nq == Int.ofNat 0) == false, netK c nq fq, true], [])) ∧ ((decide (a < Int.ofNat 0)) = false → (((decide (a > Int.ofNat 1099511627776)) = true → Q (.tup [.agg [.v (.int .i64 (Int.ofNat 0)), .v (.int .i64 (Int.ofNat 0)), .v (.int .i64 (Int.ofNat 0))], .c (.v (.int .i64 (Int.ofNat 1)))], [], 1017, [true, true, true, true, true, decide (a > Int.ofNat 1099511627776) == true, decide (a < Int.ofNat 0) == false, (roundN c nq == Int.ofNat 0) == false, netK c nq fq, true], [])) ∧ ((decide (a > Int.ofNat 1099511627776)) = false → Q (.tup [.agg [.v (.int .i64 (IntKind.wrap .i64 (Int.tdiv a (roundN c nq)))), .v (.int .i64 (IntKind.wrap .i64 (Int.tdiv (Int.tmod a (roundN c nq)) (c.long)))), .v (.int .i64 (Int.tmod (Int.tmod a (roundN c nq)) (c.long)))], .c (.v (.int .i64 (Int.ofNat 0)))], [], 120000000000000000000000000000000000001020, [true, true, true, true, true, decide (c.long ≠ Int.ofNat 0), true, true, decide (c.long ≠ Int.ofNat 0), true, true, decide (roundN c nq ≠ Int.ofNat 0), decide (roundN c nq ≠ Int.ofNat 0), decide (a > Int.ofNat 1099511627776) == false, decide (a < Int.ofNat 0) == false, (roundN c nq == Int.ofNat 0) == false, netK c nq fq, true], [])))))) :
    ∃ p r, ckOfE Tryd.prog c nq fq a p = some r ∧ Q r := by
  rcases Bool.eq_false_or_eq_true (decide (a < Int.ofNat 0)) with h2 | h2
  · have g2 := H.1 h2
    exact ⟨([.b false, .b true, .a, .a] : List Dec), _, by kernel_rfl, g2⟩
  · have g2 := H.2 h2
    rcases Bool.eq_false_or_eq_true (decide (a > Int.ofNat 1099511627776)) with h4 | h4
    · have g4 := g2.1 h4
      exact ⟨([.b false, .b false, .a, .b true] : List Dec), _, by kernel_rfl, g4⟩
    · have g4 := g2.2 h4
      exact ⟨([.b false, .b false, .a, .b false] : List Dec), _, by kernel_rfl, g4⟩
theorem ckAge (c : Cfg) (nq : Nat) (fq : Nat → Int) (x y z : Int) (Q : VF → Prop) (H : (((decide (x < Int.ofNat 0)) = true → Q (.tup [.c (.v (.int .i64 (Int.ofNat 0))), .c (.v (.int .i64 (Int.ofNat 1)))], [], 320000000000000000000000000000000000001009, [decide (x < Int.ofNat 0) == true, true, true, (roundN c nq == Int.ofNat 0) == false, netK c nq fq, true], [])) ∧ ((decide (x < Int.ofNat 0)) = false → (((decide (x > IntKind.wrap .i64 (Int.tdiv (Int.ofNat 1099511627776) (roundN c nq)))) = true → Q (.tup [.c (.v (.int .i64 (Int.ofNat 0))), .c (.v (.int .i64 (Int.ofNat 1)))], [], 320000000000000000000000000000000000001009, [decide (x > IntKind.wrap .i64 (Int.tdiv (Int.ofNat 1099511627776) (roundN c nq))) == true, decide (roundN c nq ≠ Int.ofNat 0), true, true, decide (x < Int.ofNat 0) == false, true, true, (roundN c nq == Int.ofNat 0) == false, netK c nq fq, true], [])) ∧ ((decide (x > IntKind.wrap .i64 (Int.tdiv (Int.ofNat 1099511627776) (roundN c nq)))) = false → (((decide (ownerN c nq fq (List.headD [y] (Int.ofNat 0)) < Int.ofNat 0)) = true → Q (.tup [.c (.v (.int .i64 (Int.ofNat 0))), .c (.v (.int .i64 (Int.ofNat 1)))], [], 320000000000000000000000000000000000001009, [decide (ownerN c nq fq (List.headD [y] (Int.ofNat 0)) < Int.ofNat 0) == true, netK c nq fq, true, true, true, decide (x > IntKind.wrap .i64 (Int.tdiv (Int.ofNat 1099511627776) (roundN c nq))) == false, decide (roundN c nq ≠ Int.ofNat 0), true, true, decide (x < Int.ofNat 0) == false, true, true, (roundN c nq == Int.ofNat 0) == false, netK c nq fq, true], [])) ∧ ((decide (ownerN c nq fq (List.headD [y] (Int.ofNat 0)) < Int.ofNat 0)) = false → (((decide (z < Int.ofNat 0)) = true → Q (.tup [.c (.v (.int .i64 (Int.ofNat 0))), .c (.v (.int .i64 (Int.ofNat 1)))], [], 320000000000000000000000000000000000001009, [decide (z < Int.ofNat 0) == true, true, true, decide (ownerN c nq fq (List.headD [y] (Int.ofNat 0)) < Int.ofNat 0) == false, netK c nq fq, true, true, true, decide (x > IntKind.wrap .i64 (Int.tdiv (Int.ofNat 1099511627776) (roundN c nq))) == false, decide (roundN c nq ≠ Int.ofNat 0), true, true, decide (x < Int.ofNat 0) == false, true, true, (roundN c nq == Int.ofNat 0) == false, netK c nq fq, true], [])) ∧ ((decide (z < Int.ofNat 0)) = false → (((decide (z ≥ c.long)) = true → Q (.tup [.c (.v (.int .i64 (Int.ofNat 0))), .c (.v (.int .i64 (Int.ofNat 1)))], [], 320000000000000000000000000000000000001009, [decide (z ≥ c.long) == true, true, true, true, true, decide (z < Int.ofNat 0) == false, true, true, decide (ownerN c nq fq (List.headD [y] (Int.ofNat 0)) < Int.ofNat 0) == false, netK c nq fq, true, true, true, decide (x > IntKind.wrap .i64 (Int.tdiv (Int.ofNat 1099511627776) (roundN c nq))) == false, decide (roundN c nq ≠ Int.ofNat 0), true, true, decide (x < Int.ofNat 0) == false, true, true, (roundN c nq == Int.ofNat 0) == false, netK c nq fq, true], [])) ∧ ((decide (z ≥ c.long)) = false → (((decide (IntKind.wrap .i64 (IntKind.wrap .i64 (IntKind.wrap .i64 (x * roundN c nq) + IntKind.wrap .i64 (y * c.long)) + z) > Int.ofNat 1099511627776)) = true → Q (.tup [.c (.v (.int .i64 (Int.ofNat 0))), .c (.v (.int .i64 (Int.ofNat 1)))], [], 460000000000000000000000000000000000001011, [decide (IntKind.wrap .i64 (IntKind.wrap .i64 (IntKind.wrap .i64 (x * roundN c nq) + IntKind.wrap .i64 (y * c.long)) + z) > Int.ofNat 1099511627776) == true, true, true, true, true, true, true, true, true, decide (z ≥ c.long) == false, true, true, true, true, decide (z < Int.ofNat 0) == false, true, true, decide (ownerN c nq fq (List.headD [y] (Int.ofNat 0)) < Int.ofNat 0) == false, netK c nq fq, true, true, true, decide (x > IntKind.wrap .i64 (Int.tdiv (Int.ofNat 1099511627776) (roundN c nq))) == false, decide (roundN c nq ≠ Int.ofNat 0), true, true, decide (x < Int.ofNat 0) == false, true, true, (roundN c nq == Int.ofNat 0) == false, netK c nq fq, true], [])) ∧ ((decide (IntKind.wrap .i64 (IntKind.wrap .i64 (IntKind.wrap .i64 (x * roundN c nq) + IntKind.wrap .i64 (y * c.long)) + z) > Int.ofNat 1099511627776)) = false → Q (.tup [.c (.v (.int .i64 (IntKind.wrap .i64 (IntKind.wrap .i64 (IntKind.wrap .i64 (x * roundN c nq) + IntKind.wrap .i64 (y * c.long)) + z)))), .c (.v (.int .i64 (Int.ofNat 0)))], [], 460000000000000000000000000000000000001012, [decide (IntKind.wrap .i64 (IntKind.wrap .i64 (IntKind.wrap .i64 (x * roundN c nq) + IntKind.wrap .i64 (y * c.long)) + z) > Int.ofNat 1099511627776) == false, true, true, true, true, true, true, true, true, decide (z ≥ c.long) == false, true, true, true, true, decide (z < Int.ofNat 0) == false, true, true, decide (ownerN c nq fq (List.headD [y] (Int.ofNat 0)) < Int.ofNat 0) == false, netK c nq fq, true, true, true, decide (x > IntKind.wrap .i64 (Int.tdiv (Int.ofNat 1099511627776) (roundN c nq))) == false, decide (roundN c nq ≠ Int.ofNat 0), true, true, decide (x < Int.ofNat 0) == false, true, true, (roundN c nq == Int.ofNat 0) == false, netK c nq fq, true], [])))))))))))))) :
    ∃ p r, ckAgeE Tryd.prog c nq fq x y z p = some r ∧ Q r := by
  rcases Bool.eq_false_or_eq_true (decide (x < Int.ofNat 0)) with h2 | h2
  · have g2 := H.1 h2
    exact ⟨([.b false, .b true, .a, .a, .a, .a, .a, .a, .a, .a, .a, .a, .a, .a, .a, .a, .a, .a, .a, .a, .a, .a, .a] : List Dec), _, by kernel_rfl, g2⟩
  · have g2 := H.2 h2
    rcases Bool.eq_false_or_eq_true (decide (x > IntKind.wrap .i64 (Int.tdiv (Int.ofNat 1099511627776) (roundN c nq)))) with h4 | h4
    · have g4 := g2.1 h4
      exact ⟨([.b false, .b false, .a, .a, .a, .a, .b true, .a, .a, .a, .a, .a, .a, .a, .a, .a, .a, .a, .a, .a, .a, .a, .a] : List Dec), _, by kernel_rfl, g4⟩
    · have g4 := g2.2 h4
      rcases Bool.eq_false_or_eq_true (decide (ownerN c nq fq (List.headD [y] (Int.ofNat 0)) < Int.ofNat 0)) with h6 | h6
      · have g6 := g4.1 h6
        exact ⟨([.b false, .b false, .a, .a, .a, .a, .b false, .a, .a, .a, .a, .b true, .a, .a, .a, .a, .a, .a, .a, .a, .a, .a, .a] : List Dec), _, by kernel_rfl, g6⟩
      · have g6 := g4.2 h6
        rcases Bool.eq_false_or_eq_true (decide (z < Int.ofNat 0)) with h8 | h8
        · have g8 := g6.1 h8
          exact ⟨([.b false, .b false, .a, .a, .a, .a, .b false, .a, .a, .a, .a, .b false, .a, .a, .b true, .a, .a, .a, .a, .a, .a, .a, .a] : List Dec), _, by kernel_rfl, g8⟩
        · have g8 := g6.2 h8
          rcases Bool.eq_false_or_eq_true (decide (z ≥ c.long)) with h10 | h10
          · have g10 := g8.1 h10
            exact ⟨([.b false, .b false, .a, .a, .a, .a, .b false, .a, .a, .a, .a, .b false, .a, .a, .b false, .a, .a, .a, .a, .a, .a, .a, .b true] : List Dec), _, by kernel_rfl, g10⟩
          · have g10 := g8.2 h10
            rcases Bool.eq_false_or_eq_true (decide (IntKind.wrap .i64 (IntKind.wrap .i64 (IntKind.wrap .i64 (x * roundN c nq) + IntKind.wrap .i64 (y * c.long)) + z) > Int.ofNat 1099511627776)) with h12 | h12
            · have g12 := g10.1 h12
              exact ⟨([.b false, .b false, .a, .a, .a, .a, .b false, .a, .a, .a, .a, .b false, .a, .a, .b false, .a, .a, .a, .a, .a, .a, .a, .b false, .b true] : List Dec), _, by kernel_rfl, g12⟩
            · have g12 := g10.2 h12
              exact ⟨([.b false, .b false, .a, .a, .a, .a, .b false, .a, .a, .a, .a, .b false, .a, .a, .b false, .a, .a, .a, .a, .a, .a, .a, .b false, .b false] : List Dec), _, by kernel_rfl, g12⟩
end Go.Proofs.YtjefjmkeigfplaaDoor
end
/- Contracts of clocks.Of, clocks.Age. -/
section
namespace Go.Proofs.YtjefjmkeigfplaaDoor
open Go.RowKit

abbrev ckM : Int := 1099511627776
def ckIn (a : Int) : Prop := 0 ≤ a ∧ a ≤ ckM
instance (a : Int) : Decidable (ckIn a) := by unfold ckIn; infer_instance
/-- the time of an age -/
def ckErr (a : Int) : Int := if ckIn a then 0 else 1
def ckT (c : Cfg) (a : Int) : Int := if ckIn a then a / (c.ns * c.long) else 0
def ckS (c : Cfg) (a : Int) : Int := if ckIn a then a % (c.ns * c.long) / c.long else 0
def ckP (c : Cfg) (a : Int) : Int := if ckIn a then a % (c.ns * c.long) % c.long else 0
/-- the age of a time -/
def agOk (c : Cfg) (x y z : Int) : Prop := 0 ≤ x ∧ x ≤ ckM ∧ 0 ≤ y ∧ y < c.ns ∧ 0 ≤ z ∧ z < c.long ∧ x * (c.ns * c.long) + y * c.long + z ≤ ckM
instance (c : Cfg) (x y z : Int) : Decidable (agOk c x y z) := by unfold agOk; infer_instance
def agE (c : Cfg) (x y z : Int) : Int := if agOk c x y z then 0 else 1
def agV (c : Cfg) (x y z : Int) : Int := if agOk c x y z then x * (c.ns * c.long) + y * c.long + z else 0
def agA (c : Cfg) (x y z : Int) : Int := if agOk c x y z then x * c.ns + y else -1
def slotsOk (c : Cfg) : Bool := (List.range c.ns).all fun i => decide (0 ≤ c.fs i)
def ofR : NetS → AV
  | ⟨c, _, _, [.c (.v (.int .i64 a))]⟩ => .tup [tmA (ckT c a) (ckS c a) (ckP c a), i64 (ckErr a)]
  | _ => i64 0
def ofP : NetS → Bool
  | ⟨c, nq, _, [.c (.v (.int .i64 _))]⟩ => ckPre c nq
  | _ => false
def ctCkOf : CtF := ctRd netRd ofR ofP
set_option maxRecDepth 100000 in
theorem ct_ckOf : CtOk Tryd.prog 9 ctCkOf := by
  refine ctRd_ofE (E := ENno Tryd.prog) hENno netRd (fuel := 300) (str := 10000000000000000000000000000000000000000) ⟨_, _, Tryd.func9, rfl⟩ (fun s => by unfold ofR; split <;> rfl) fun s hs => ?_
  unfold ofP at hs
  split at hs
  · rename_i c nq fq a
    refine (?_ : (∃ p q, ckOfE Tryd.prog c nq fq a p = some q ∧ GoodF (.tup [tmA (ckT c a) (ckS c a) (ckP c a), i64 (ckErr a)]) q) → _) (ckOf c nq fq a _ ?_)
    · rintro ⟨p, q, h1, h2⟩
      exact ⟨p, _, q, h1, h2⟩
    · obtain ⟨e, r1, r2, q1, q2, q3, q4, q5⟩ := ck_round hs
      obtain ⟨R, hR⟩ : ∃ R : Int, (c.ns : Int) * c.long = R := ⟨_, rfl⟩
      rw [hR] at e r1 r2
      simp only [e]
      (repeat' (first | refine ⟨fun h => ?_, fun h => ?_⟩ | fail))
      all_goals (refine ⟨?_, (by first | (unfold lim; omega) | (dsimp only; unfold lim; omega)), ?_, by simp⟩)
      all_goals (simp only [decide_eq_true_eq, decide_eq_false_iff_not, Int.ofNat_eq_natCast, Int.cast_ofNat_Int, gt_iff_lt] at *)
      all_goals first
        | (have hn : ¬ ckIn a := (by unfold ckIn ckM; omega)
           simp [ckT, ckS, ckP, ckErr, hn, i64]; done)
        | (have hy : ckIn a := (by unfold ckIn ckM; omega)
           have m1 := Int.emod_nonneg a (show R ≠ 0 by omega)
           have m2 := Int.emod_lt_of_pos a (show 0 < R by omega)
           have t1 : Int.tmod a R = a % R := Int.tmod_eq_emod_of_nonneg (by omega)
           have t2 : Int.tdiv a R = a / R := Int.tdiv_eq_ediv_of_nonneg (by omega)
           have d0 := Int.ediv_nonneg (a := a) (b := R) (by omega) (by omega)
           have d1 : a / R ≤ a := Int.ediv_le_self _ (by omega)
           have t3 : Int.tmod (a % R) c.long = a % R % c.long := Int.tmod_eq_emod_of_nonneg (by omega)
           have t4 : Int.tdiv (a % R) c.long = a % R / c.long := Int.tdiv_eq_ediv_of_nonneg (by omega)
           have e0 := Int.ediv_nonneg (a := a % R) (b := c.long) (by omega) (by omega)
           have e1 : a % R / c.long ≤ a % R := Int.ediv_le_self _ (by omega)
           have f0 := Int.emod_nonneg (a % R) (show c.long ≠ 0 by omega)
           have f1 := Int.emod_lt_of_pos (a % R) (show 0 < c.long by omega)
           have w0 : ∀ x : Int, 0 ≤ x → x ≤ 1099511627776 → IntKind.wrap IntKind.i64 x = x := (fun x h0 h1 => wrap_nat x (by omega) (by omega))
           simp only [t1, t2, t3, t4, w0 _ d0 (by omega), w0 _ e0 (by omega), w0 _ f0 (by omega), w0 c.long (by omega) (by omega)]
           simp [ckT, ckS, ckP, ckErr, hy, i64, hR]; done)
        | (simp only [allT, List.forall_mem_cons, List.not_mem_nil, false_implies, implies_true, and_true, true_and, cfgK_t, netK_t, intsOk_ints, stsOk_sts, intsOk_s, stsOk_s, beq_iff_eq, decide_eq_true_eq, decide_eq_false_iff_not, beq_eq_false_iff_ne, bne_iff_ne, bne_eq_false_iff_eq, Bool.not_eq_true', Bool.not_eq_false', ne_eq, Int.ofNat_eq_natCast, Int.cast_ofNat_Int, gt_iff_lt, ge_iff_le]; omega)
  · cases hs
def agR : NetS → AV
  | ⟨c, _, _, [.agg [.v (.int .i64 x), .v (.int .i64 y), .v (.int .i64 z)]]⟩ => .tup [i64 (agV c x y z), i64 (agE c x y z)]
  | _ => i64 0
def agP : NetS → Bool
  | ⟨c, nq, _, [.agg [.v (.int .i64 _), .v (.int .i64 _), .v (.int .i64 _)]]⟩ => ckPre c nq && slotsOk c
  | _ => false
def ctCkAge : CtF := ctRd netRd agR agP
theorem owner_ok {c : Cfg} {nq : Nat} {fq : Nat → Int} (hq : 0 < nq) (h : slotsOk c = true) (y : Int) : 0 ≤ ownerN c nq fq y ↔ 0 ≤ y ∧ y < c.ns := by
  unfold ownerN atF
  rw [if_neg (by omega)]
  split
  · rename_i hy
    have := List.all_eq_true.1 h y.toNat (by simp; omega)
    simp at this
    constructor
    · intro; exact hy
    · intro; omega
  · rename_i hy
    constructor
    · intro h; omega
    · intro h; exact absurd h hy
set_option maxRecDepth 100000 in
theorem ct_ckAge : CtOk Tryd.prog 18 ctCkAge := by
  refine ctRd_ofE (E := ENno Tryd.prog) hENno netRd (fuel := 300) (str := 10000000000000000000000000000000000000000) ⟨_, _, Tryd.func18, rfl⟩ (fun s => by unfold agR; split <;> rfl) fun s hs => ?_
  unfold agP at hs
  split at hs
  · rename_i c nq fq x y z
    rw [Bool.and_eq_true] at hs
    refine (?_ : (∃ p q, ckAgeE Tryd.prog c nq fq x y z p = some q ∧ GoodF (.tup [i64 (agV c x y z), i64 (agE c x y z)]) q) → _) (ckAge c nq fq x y z _ ?_)
    · rintro ⟨p, q, h1, h2⟩
      exact ⟨p, _, q, h1, h2⟩
    · obtain ⟨e, r1, r2, q1, q2, q3, q4, q5⟩ := ck_round hs.1
      have ho := owner_ok (fq := fq) q1 hs.2 y
      obtain ⟨R, hR⟩ : ∃ R : Int, (c.ns : Int) * c.long = R := ⟨_, rfl⟩
      rw [hR] at e r1 r2
      obtain ⟨o, hoe⟩ : ∃ o, ownerN c nq fq y = o := ⟨_, rfl⟩
      rw [hoe] at ho
      simp only [List.headD_cons, e, hoe]
      have t2 : Int.tdiv 1099511627776 R = 1099511627776 / R := Int.tdiv_eq_ediv_of_nonneg (by omega)
      have d0 := Int.ediv_nonneg (a := 1099511627776) (b := R) (by omega) (by omega)
      have d1 : (1099511627776 : Int) / R ≤ 1099511627776 := Int.ediv_le_self _ (by omega)
      have d2 := Int.mul_ediv_add_emod 1099511627776 R
      have d3 := Int.emod_nonneg (1099511627776 : Int) (show R ≠ 0 by omega)
      have d4 := Int.emod_lt_of_pos (1099511627776 : Int) (show 0 < R by omega)
      have w1 : IntKind.wrap IntKind.i64 (Int.tdiv (Int.ofNat 1099511627776) R) = 1099511627776 / R := by
        rw [show (Int.ofNat 1099511627776) = (1099511627776 : Int) from rfl, t2]
        exact wrap_nat _ (by omega) (by omega)
      have w1' : IntKind.wrap IntKind.i64 (Int.tdiv 1099511627776 R) = 1099511627776 / R := w1
      simp only [w1, w1']
      have hx1 : 0 ≤ x → x ≤ 1099511627776 / R → 0 ≤ x * R ∧ x * R ≤ 1099511627776 := fun h0 h1 => by
        have a1 : x * R ≤ 1099511627776 / R * R := Int.mul_le_mul_of_nonneg_right h1 (by omega)
        have a2 : R * (1099511627776 / R) = 1099511627776 / R * R := Int.mul_comm _ _
        exact ⟨Int.mul_nonneg h0 (by omega), by omega⟩
      have hx2 : 1099511627776 / R < x → 1099511627776 < x * R := fun h0 => by
        have a1 : (1099511627776 / R + 1) * R ≤ x * R := Int.mul_le_mul_of_nonneg_right (by omega) (by omega)
        have a2 : R * (1099511627776 / R) = 1099511627776 / R * R := Int.mul_comm _ _
        have a3 : (1099511627776 / R + 1) * R = 1099511627776 / R * R + R := by rw [Int.add_mul, Int.one_mul]
        omega
      have hy1 : 0 ≤ y → y < c.ns → 0 ≤ y * c.long ∧ y * c.long ≤ 65536 := fun h0 h1 => by
        have a1 : y * c.long ≤ 16 * 4096 := mul_le_mul_of h0 (by omega) (by omega) (by omega)
        exact ⟨Int.mul_nonneg h0 (by omega), by omega⟩
      have hlong : IntKind.wrap IntKind.i64 c.long = c.long := wrap_nat _ (by omega) (by omega)
      try simp only [hlong]
      have key : ∀ (p : Prop), (0 ≤ x → x ≤ 1099511627776 / R → 0 ≤ y → y < c.ns → 0 ≤ z → z < c.long → p) → (0 ≤ x ∧ x ≤ 1099511627776 / R ∧ 0 ≤ y ∧ y < c.ns ∧ 0 ≤ z ∧ z < c.long) → p := fun p h g => h g.1 g.2.1 g.2.2.1 g.2.2.2.1 g.2.2.2.2.1 g.2.2.2.2.2
      have hw : 0 ≤ x → x ≤ 1099511627776 / R → 0 ≤ y → y < c.ns → 0 ≤ z → z < c.long →
          IntKind.wrap IntKind.i64 (IntKind.wrap IntKind.i64 (IntKind.wrap IntKind.i64 (x * R) + IntKind.wrap IntKind.i64 (y * c.long)) + z) = x * R + y * c.long + z := fun h1 h2 h3 h4 h5 h6 => by
        have := hx1 h1 h2
        have := hy1 h3 h4
        rw [wrap_nat (x * R) (by omega) (by omega), wrap_nat (y * c.long) (by omega) (by omega), wrap_nat (x * R + y * c.long) (by omega) (by omega), wrap_nat _ (by omega) (by omega)]
      have hx0 : 0 ≤ x → 1099511627776 / R < x → ∀ t, 0 ≤ t → ¬ (x * R + t ≤ 1099511627776) := fun h0 h1 t ht => by have := hx2 h1; omega
      (repeat' (first | refine ⟨fun h => ?_, fun h => ?_⟩ | fail))
      all_goals (refine ⟨?_, (by first | (unfold lim; omega) | (dsimp only; unfold lim; omega)), ?_, by simp⟩)
      all_goals (simp only [decide_eq_true_eq, decide_eq_false_iff_not, Int.ofNat_eq_natCast, Int.cast_ofNat_Int, gt_iff_lt, ge_iff_le] at *)
      all_goals first
        | (have hn : ¬ agOk c x y z := (by
             unfold agOk ckM
             rw [hR]
             rintro ⟨g1, g2, g3, g4, g5, g6, g7⟩
             have := hy1 g3 g4
             have := hx1 g1
             have := hx2
             omega)
           simp [agV, agE, hn, i64]; done)
        | (have hn : ¬ agOk c x y z := (by
             unfold agOk ckM
             rw [hR]
             rintro ⟨g1, g2, g3, g4, g5, g6, g7⟩
             have := hw g1 (by omega) g3 g4 g5 g6
             omega)
           simp [agV, agE, hn, i64]; done)
        | (have e9 := hw (by omega) (by omega) (by omega) (by omega) (by omega) (by omega)
           have hy : agOk c x y z := (by
             unfold agOk ckM
             rw [hR]
             have := hx1 (by omega) (by omega)
             refine ⟨by omega, by omega, by omega, by omega, by omega, by omega, by omega⟩)
           rw [e9]
           simp [agV, agE, hy, i64, hR]; done)
        | (simp only [allT, List.forall_mem_cons, List.not_mem_nil, false_implies, implies_true, and_true, true_and, cfgK_t, netK_t, intsOk_ints, stsOk_sts, intsOk_s, stsOk_s, beq_iff_eq, decide_eq_true_eq, decide_eq_false_iff_not, beq_eq_false_iff_ne, bne_iff_ne, bne_eq_false_iff_eq, Bool.not_eq_true', Bool.not_eq_false', ne_eq, Int.ofNat_eq_natCast, Int.cast_ofNat_Int, gt_iff_lt, ge_iff_le]; omega)
  · cases hs
end Go.Proofs.YtjefjmkeigfplaaDoor
end
/- sennitref04.Within: contract; New's loops as the evaluator runs them. -/
section
namespace Go.Proofs.YtjefjmkeigfplaaDoor
open Go.RowKit

def wiR (P : Program) (x lo hi : Int) (path : List Dec) : Option VF := viewF [] (fCallF (E1 P) (fC (E1 P) 300) 19 [i64 x, i64 lo, i64 hi] 1000 10000000000000000000000000000000000000000 (stA [] path []))
theorem wi (x lo hi : Int) (Q : VF → Prop) (H : (((decide (x > hi)) = true → Q (.c (.v (.int .i64 (Int.ofNat 3))), [], 1005, [decide (x > hi) == true], [])) ∧ ((decide (x > hi)) = false → (((decide (x < lo)) = true → Q (.c (.v (.int .i64 (Int.ofNat 1))), [], 1008, [decide (x < lo) == true, decide (x > hi) == false], [])) ∧ ((decide (x < lo)) = false → Q (.c (.v (.int .i64 (Int.ofNat 0))), [], 1008, [decide (x < lo) == false, decide (x > hi) == false], [])))))) :
    ∃ p r, wiR Tryd.prog x lo hi p = some r ∧ Q r := by
  rcases Bool.eq_false_or_eq_true (decide (x > hi)) with h2 | h2
  · have g2 := H.1 h2
    exact ⟨([.b true] : List Dec), _, by kernel_rfl, g2⟩
  · have g2 := H.2 h2
    rcases Bool.eq_false_or_eq_true (decide (x < lo)) with h4 | h4
    · have g4 := g2.1 h4
      exact ⟨([.b false, .b true] : List Dec), _, by kernel_rfl, g4⟩
    · have g4 := g2.2 h4
      exact ⟨([.b false, .b false] : List Dec), _, by kernel_rfl, g4⟩
def ctWithin : CtF
  | [.c (.v (.int .i64 x)), .c (.v (.int .i64 lo)), .c (.v (.int .i64 hi))], _, _ => some (i64 (withinF x lo hi), [], 0, [])
  | _, _, _ => none
def ENq (P : Program) : Env := ⟨P, [(19, ctWithin), (20, ctCfg (fun c => bo (pairs4 c)) okPr), (21, ctCfg (fun c => bo (slots4 c)) okSl)]⟩
abbrev nbV (k : Nat) : List AV := [.c (.ptr 1000 0 0), i64 (Int.ofNat k)]
def nbR (P : Program) (c : Cfg) (k : Nat) (path : List Dec) : Option VC :=
  view ([1, 4] ++ [2]) [2, 1000, 3] (fC (ENq P) 300 (loopAt P 13 0) 1000000000000000000000000000000000000000000 10000000000000000000000000000000000000000 (stH 125 [1, 4] [2, 1000, 3] (nbV k) [ints 3 c.nb c.fb, cfgB c, sts c.nt c.ft] path []))
theorem nbt (c : Cfg) (k : Nat) (Q : VC → Prop) (H : (((decide (Int.ofNat k < ↑(c.nb))) = true → (((withinF (c.fb (0 + Int.toNat (Int.ofNat k))) (Int.ofNat 0) (Int.ofNat 4096) != Int.ofNat 0) = true → Q (Exit.ret, [some (lkA (List.zip [1, 4] (nbV k)) (0 + 1)), some (lkA (List.zip [1, 4] (nbV k)) (0 + 1 + 1 + 1 + 1)), some (.c (.v (.int .i64 (withinF (c.fb (0 + Int.toNat (Int.ofNat k))) (Int.ofNat 0) (Int.ofNat 4096)))))], [some (ABlk.mk false false 3 1 (Cs.arr (c.nb) fun k => List.map AC.v ((fun i => [Value.int .i64 (c.fb i)]) k))), some (ABlk.mk true false 25 0 (Cs.lit [.v (.int .i64 (c.nodes)), AC.sl 0 0 0 (c.np) none, AC.sl 1 0 0 (c.ns) none, .v (.int .i64 (c.long)), AC.sl 2 0 0 (c.nb) none, AC.sl 3 0 0 (c.nt) none, .v (.int .i64 (c.miss)), .v (.int .i64 (c.good)), .v (.int .i64 (c.fresh))])), some (ABlk.mk false false 64 3 (Cs.arr (c.nt) fun k => List.map AC.v ((fun i => [Value.int .i64 (Station.node (c.ft i)), Value.int .u32 (Station.safe (c.ft i)), Value.int .i64 (Station.hold (c.ft i))]) k)))], 125, 1000000000000000000000000000000000000000015, [(withinF (c.fb (0 + Int.toNat (Int.ofNat k))) (Int.ofNat 0) (Int.ofNat 4096) != Int.ofNat 0) == true, ABlk.inb (ABlk.mk false false 3 1 (Cs.arr (c.nb) fun k => List.map AC.v ((fun i => [Value.int .i64 (c.fb i)]) k))) (0 + Int.toNat (Int.ofNat k)) 1, true, decide (Int.ofNat 0 ≤ Int.ofNat k ∧ Int.ofNat k < ↑(c.nb)), true, decide (Int.ofNat k < ↑(c.nb)) == true, true], [])) ∧ ((withinF (c.fb (0 + Int.toNat (Int.ofNat k))) (Int.ofNat 0) (Int.ofNat 4096) != Int.ofNat 0) = false → Q (Exit.normal, [some (lkA (List.zip [1, 4] (nbV k)) (0 + 1)), some (.c (.v (.int .i64 (IntKind.wrap .i64 (Int.ofNat k + Int.ofNat 1))))), some (lkA (List.zip [1, 4] (nbV k)) (0 + 1 + 1))], [some (ABlk.mk false false 3 1 (Cs.arr (c.nb) fun k => List.map AC.v ((fun i => [Value.int .i64 (c.fb i)]) k))), some (ABlk.mk true false 25 0 (Cs.lit [.v (.int .i64 (c.nodes)), AC.sl 0 0 0 (c.np) none, AC.sl 1 0 0 (c.ns) none, .v (.int .i64 (c.long)), AC.sl 2 0 0 (c.nb) none, AC.sl 3 0 0 (c.nt) none, .v (.int .i64 (c.miss)), .v (.int .i64 (c.good)), .v (.int .i64 (c.fresh))])), some (ABlk.mk false false 64 3 (Cs.arr (c.nt) fun k => List.map AC.v ((fun i => [Value.int .i64 (Station.node (c.ft i)), Value.int .u32 (Station.safe (c.ft i)), Value.int .i64 (Station.hold (c.ft i))]) k)))], 125, 1000000000000000000000000000000000000000016, [(withinF (c.fb (0 + Int.toNat (Int.ofNat k))) (Int.ofNat 0) (Int.ofNat 4096) != Int.ofNat 0) == false, ABlk.inb (ABlk.mk false false 3 1 (Cs.arr (c.nb) fun k => List.map AC.v ((fun i => [Value.int .i64 (c.fb i)]) k))) (0 + Int.toNat (Int.ofNat k)) 1, true, decide (Int.ofNat 0 ≤ Int.ofNat k ∧ Int.ofNat k < ↑(c.nb)), true, decide (Int.ofNat k < ↑(c.nb)) == true, true], [])))) ∧ ((decide (Int.ofNat k < ↑(c.nb))) = false → Q (Exit.exit 0, [some (lkA (List.zip [1, 4] (nbV k)) (0 + 1)), some (lkA (List.zip [1, 4] (nbV k)) (0 + 1 + 1 + 1 + 1)), some (lkA (List.zip [1, 4] (nbV k)) (0 + 1 + 1))], [some (ABlk.mk false false 3 1 (Cs.arr (c.nb) fun k => List.map AC.v ((fun i => [Value.int .i64 (c.fb i)]) k))), some (ABlk.mk true false 25 0 (Cs.lit [.v (.int .i64 (c.nodes)), AC.sl 0 0 0 (c.np) none, AC.sl 1 0 0 (c.ns) none, .v (.int .i64 (c.long)), AC.sl 2 0 0 (c.nb) none, AC.sl 3 0 0 (c.nt) none, .v (.int .i64 (c.miss)), .v (.int .i64 (c.good)), .v (.int .i64 (c.fresh))])), some (ABlk.mk false false 64 3 (Cs.arr (c.nt) fun k => List.map AC.v ((fun i => [Value.int .i64 (Station.node (c.ft i)), Value.int .u32 (Station.safe (c.ft i)), Value.int .i64 (Station.hold (c.ft i))]) k)))], 125, 1000000000000000000000000000000000000000005, [decide (Int.ofNat k < ↑(c.nb)) == false, true], [])))) :
    ∃ p r, nbR Tryd.prog c k p = some r ∧ Q r := by
  rcases Bool.eq_false_or_eq_true (decide (Int.ofNat k < ↑(c.nb))) with h2 | h2
  · have g2 := H.1 h2
    rcases Bool.eq_false_or_eq_true (withinF (c.fb (0 + Int.toNat (Int.ofNat k))) (Int.ofNat 0) (Int.ofNat 4096) != Int.ofNat 0) with h4 | h4
    · have g4 := g2.1 h4
      exact ⟨([.b true, .b true] : List Dec), _, by kernel_rfl, g4⟩
    · have g4 := g2.2 h4
      exact ⟨([.b true, .b false] : List Dec), _, by kernel_rfl, g4⟩
  · have g2 := H.2 h2
    exact ⟨([.b false] : List Dec), _, by kernel_rfl, g2⟩
def ntR (P : Program) (c : Cfg) (k : Nat) (path : List Dec) : Option VC :=
  view ([1, 5] ++ [2]) [3, 1000] (fC (ENq P) 300 (loopAt P 13 1) 1000000000000000000000000000000000000000000000000000 10000000000000000000000000000000000000000 (stH 125 [1, 5] [3, 1000] (nbV k) [sts c.nt c.ft, cfgB c] path []))
theorem ntt (c : Cfg) (k : Nat) (Q : VC → Prop) (H : (((decide (Int.ofNat k < ↑(c.nt))) = true → (((decide (Station.node (c.10 (0 + Int.toNat (Int.ofNat k))) < Int.ofNat 0)) = true → Q (Exit.ret, [some (lkA (List.zip [1, 5] (nbV k)) (0 + 1)), some (lkA (List.zip [1, 5] (nbV k)) (0 + 1 + 1 + 1 + 1 + 1)), some (.c (.v (.int .i64 (Int.ofNat 1))))], [some (ABlk.mk false false 64 3 (Cs.arr (c.nt) fun k => List.map AC.v ((fun i => [Value.int .i64 (Station.node (c.ft i)), Value.int .u32 (Station.safe (c.ft i)), Value.int .i64 (Station.hold (c.ft i))]) k))), some (ABlk.mk true false 25 0 (Cs.lit [.v (.int .i64 (c.nodes)), AC.sl 0 0 0 (c.np) none, AC.sl 1 0 0 (c.ns) none, .v (.int .i64 (c.long)), AC.sl 2 0 0 (c.nb) none, AC.sl 3 0 0 (c.nt) none, .v (.int .i64 (c.miss)), .v (.int .i64 (c.good)), .v (.int .i64 (c.fresh))]))], 125, 1000000000000000000000000000000000000000000000000018, [decide (Station.node (c.10 (0 + Int.toNat (Int.ofNat k))) < Int.ofNat 0) == true, true, true, true, ABlk.inb (ABlk.mk false false 64 3 (Cs.arr (c.nt) fun k => List.map AC.v ((fun i => [Value.int .i64 (Station.node (c.ft i)), Value.int .u32 (Station.safe (c.ft i)), Value.int .i64 (Station.hold (c.ft i))]) k))) (0 + Int.toNat (Int.ofNat k)) 3, true, true, true, decide (Int.ofNat 0 ≤ Int.ofNat k ∧ Int.ofNat k < ↑(c.nt)), true, decide (Int.ofNat k < ↑(c.nt)) == true, true], [])) ∧ ((decide (Station.node (c.10 (0 + Int.toNat (Int.ofNat k))) < Int.ofNat 0)) = false → (((decide (Station.node (c.10 (0 + Int.toNat (Int.ofNat k))) ≥ c.nodes)) = true → Q (Exit.ret, [some (lkA (List.zip [1, 5] (nbV k)) (0 + 1)), some (lkA (List.zip [1, 5] (nbV k)) (0 + 1 + 1 + 1 + 1 + 1)), some (.c (.v (.int .i64 (Int.ofNat 1))))], [some (ABlk.mk false false 64 3 (Cs.arr (c.nt) fun k => List.map AC.v ((fun i => [Value.int .i64 (Station.node (c.ft i)), Value.int .u32 (Station.safe (c.ft i)), Value.int .i64 (Station.hold (c.ft i))]) k))), some (ABlk.mk true false 25 0 (Cs.lit [.v (.int .i64 (c.nodes)), AC.sl 0 0 0 (c.np) none, AC.sl 1 0 0 (c.ns) none, .v (.int .i64 (c.long)), AC.sl 2 0 0 (c.nb) none, AC.sl 3 0 0 (c.nt) none, .v (.int .i64 (c.miss)), .v (.int .i64 (c.good)), .v (.int .i64 (c.fresh))]))], 125, 1000000000000000000000000000000000000000000000000023, [decide (Station.node (c.10 (0 + Int.toNat (Int.ofNat k))) ≥ c.nodes) == true, true, true, true, true, decide (Station.node (c.10 (0 + Int.toNat (Int.ofNat k))) < Int.ofNat 0) == false, true, true, true, ABlk.inb (ABlk.mk false false 64 3 (Cs.arr (c.nt) fun k => List.map AC.v ((fun i => [Value.int .i64 (Station.node (c.ft i)), Value.int .u32 (Station.safe (c.ft i)), Value.int .i64 (Station.hold (c.ft i))]) k))) (0 + Int.toNat (Int.ofNat k)) 3, true, true, true, decide (Int.ofNat 0 ≤ Int.ofNat k ∧ Int.ofNat k < ↑(c.nt)), true, decide (Int.ofNat k < ↑(c.nt)) == true, true], [])) ∧ ((decide (Station.node (c.10 (0 + Int.toNat (Int.ofNat k))) ≥ c.nodes)) = false → (((withinF (Station.hold (c.10 (0 + Int.toNat (Int.ofNat k)))) (Int.ofNat 1) (Int.ofNat 100) != Int.ofNat 0) = true → Q (Exit.ret, [some (lkA (List.zip [1, 5] (nbV k)) (0 + 1)), some (lkA (List.zip [1, 5] (nbV k)) (0 + 1 + 1 + 1 + 1 + 1)), some (.c (.v (.int .i64 (withinF (Station.hold (c.10 (0 + Int.toNat (Int.ofNat k)))) (Int.ofNat 1) (Int.ofNat 100)))))], [some (ABlk.mk false false 64 3 (Cs.arr (c.nt) fun k => List.map AC.v ((fun i => [Value.int .i64 (Station.node (c.ft i)), Value.int .u32 (Station.safe (c.ft i)), Value.int .i64 (Station.hold (c.ft i))]) k))), some (ABlk.mk true false 25 0 (Cs.lit [.v (.int .i64 (c.nodes)), AC.sl 0 0 0 (c.np) none, AC.sl 1 0 0 (c.ns) none, .v (.int .i64 (c.long)), AC.sl 2 0 0 (c.nb) none, AC.sl 3 0 0 (c.nt) none, .v (.int .i64 (c.miss)), .v (.int .i64 (c.good)), .v (.int .i64 (c.fresh))]))], 125, 1000000000000000000000000000000000000000000000000029, [(withinF (Station.hold (c.10 (0 + Int.toNat (Int.ofNat k)))) (Int.ofNat 1) (Int.ofNat 100) != Int.ofNat 0) == true, true, true, decide (Station.node (c.10 (0 + Int.toNat (Int.ofNat k))) ≥ c.nodes) == false, true, true, true, true, decide (Station.node (c.10 (0 + Int.toNat (Int.ofNat k))) < Int.ofNat 0) == false, true, true, true, ABlk.inb (ABlk.mk false false 64 3 (Cs.arr (c.nt) fun k => List.map AC.v ((fun i => [Value.int .i64 (Station.node (c.ft i)), Value.int .u32 (Station.safe (c.ft i)), Value.int .i64 (Station.hold (c.ft i))]) k))) (0 + Int.toNat (Int.ofNat k)) 3, true, true, true, decide (Int.ofNat 0 ≤ Int.ofNat k ∧ Int.ofNat k < ↑(c.nt)), true, decide (Int.ofNat k < ↑(c.nt)) == true, true], [])) ∧ ((withinF (Station.hold (c.10 (0 + Int.toNat (Int.ofNat k)))) (Int.ofNat 1) (Int.ofNat 100) != Int.ofNat 0) = false → Q (Exit.normal, [some (lkA (List.zip [1, 5] (nbV k)) (0 + 1)), some (.c (.v (.int .i64 (IntKind.wrap .i64 (Int.ofNat k + Int.ofNat 1))))), some (lkA (List.zip [1, 5] (nbV k)) (0 + 1 + 1))], [some (ABlk.mk false false 64 3 (Cs.arr (c.nt) fun k => List.map AC.v ((fun i => [Value.int .i64 (Station.node (c.ft i)), Value.int .u32 (Station.safe (c.ft i)), Value.int .i64 (Station.hold (c.ft i))]) k))), some (ABlk.mk true false 25 0 (Cs.lit [.v (.int .i64 (c.nodes)), AC.sl 0 0 0 (c.np) none, AC.sl 1 0 0 (c.ns) none, .v (.int .i64 (c.long)), AC.sl 2 0 0 (c.nb) none, AC.sl 3 0 0 (c.nt) none, .v (.int .i64 (c.miss)), .v (.int .i64 (c.good)), .v (.int .i64 (c.fresh))]))], 125, 1000000000000000000000000000000000000000000000000030, [(withinF (Station.hold (c.10 (0 + Int.toNat (Int.ofNat k)))) (Int.ofNat 1) (Int.ofNat 100) != Int.ofNat 0) == false, true, true, decide (Station.node (c.10 (0 + Int.toNat (Int.ofNat k))) ≥ c.nodes) == false, true, true, true, true, decide (Station.node (c.10 (0 + Int.toNat (Int.ofNat k))) < Int.ofNat 0) == false, true, true, true, ABlk.inb (ABlk.mk false false 64 3 (Cs.arr (c.nt) fun k => List.map AC.v ((fun i => [Value.int .i64 (Station.node (c.ft i)), Value.int .u32 (Station.safe (c.ft i)), Value.int .i64 (Station.hold (c.ft i))]) k))) (0 + Int.toNat (Int.ofNat k)) 3, true, true, true, decide (Int.ofNat 0 ≤ Int.ofNat k ∧ Int.ofNat k < ↑(c.nt)), true, decide (Int.ofNat k < ↑(c.nt)) == true, true], [])))))))) ∧ ((decide (Int.ofNat k < ↑(c.nt))) = false → Q (Exit.exit 2, [some (lkA (List.zip [1, 5] (nbV k)) (0 + 1)), some (lkA (List.zip [1, 5] (nbV k)) (0 + 1 + 1 + 1 + 1 + 1)), some (lkA (List.zip [1, 5] (nbV k)) (0 + 1 + 1))], [some (ABlk.mk false false 64 3 (Cs.arr (c.nt) fun k => List.map AC.v ((fun i => [Value.int .i64 (Station.node (c.ft i)), Value.int .u32 (Station.safe (c.ft i)), Value.int .i64 (Station.hold (c.ft i))]) k))), some (ABlk.mk true false 25 0 (Cs.lit [.v (.int .i64 (c.nodes)), AC.sl 0 0 0 (c.np) none, AC.sl 1 0 0 (c.ns) none, .v (.int .i64 (c.long)), AC.sl 2 0 0 (c.nb) none, AC.sl 3 0 0 (c.nt) none, .v (.int .i64 (c.miss)), .v (.int .i64 (c.good)), .v (.int .i64 (c.fresh))]))], 125, 1000000000000000000000000000000000000000000000000005, [decide (Int.ofNat k < ↑(c.nt)) == false, true], [])))) :
    ∃ p r, ntR Tryd.prog c k p = some r ∧ Q r := by
  rcases Bool.eq_false_or_eq_true (decide (Int.ofNat k < ↑(c.nt))) with h2 | h2
  · have g2 := H.1 h2
    rcases Bool.eq_false_or_eq_true (decide (Station.node (c.10 (0 + Int.toNat (Int.ofNat k))) < Int.ofNat 0)) with h4 | h4
    · have g4 := g2.1 h4
      exact ⟨([.b true, .b true, .a, .a, .a, .a, .a] : List Dec), _, by kernel_rfl, g4⟩
    · have g4 := g2.2 h4
      rcases Bool.eq_false_or_eq_true (decide (Station.node (c.10 (0 + Int.toNat (Int.ofNat k))) ≥ c.nodes)) with h6 | h6
      · have g6 := g4.1 h6
        exact ⟨([.b true, .b false, .a, .a, .a, .a, .b true] : List Dec), _, by kernel_rfl, g6⟩
      · have g6 := g4.2 h6
        rcases Bool.eq_false_or_eq_true (withinF (Station.hold (c.10 (0 + Int.toNat (Int.ofNat k)))) (Int.ofNat 1) (Int.ofNat 100) != Int.ofNat 0) with h8 | h8
        · have g8 := g6.1 h8
          exact ⟨([.b true, .b false, .a, .a, .a, .a, .b false, .b true] : List Dec), _, by kernel_rfl, g8⟩
        · have g8 := g6.2 h8
          exact ⟨([.b true, .b false, .a, .a, .a, .a, .b false, .b false] : List Dec), _, by kernel_rfl, g8⟩
  · have g2 := H.2 h2
    exact ⟨([.b false] : List Dec), _, by kernel_rfl, g2⟩
end Go.Proofs.YtjefjmkeigfplaaDoor
end
/- sennitref04.New as the evaluator runs it: a boot, or a station, is wrong. -/
section
namespace Go.Proofs.YtjefjmkeigfplaaDoor
open Go.RowKit

abbrev n4S1 (e : Exit) (l : List (Nat × AV)) (mF : AMem) : LSum := ⟨[1, 4], [2, 1000, 3], mkFr 125 l, mF, 100000000000000000000000000000000000000000000000000, e⟩
abbrev n4S2 (e : Exit) (l : List (Nat × AV)) (mF : AMem) : LSum := ⟨[1, 5], [3, 1000], mkFr 125 l, mF, 10000000000000000000000000000000000000000000000000000, e⟩
def n4R (P : Program) (c : Cfg) (lp : List (Option LSum)) (path : List Dec) : Option VF := viewF [] (fCallF (ENq P) (fC (ENq P) 300) 13 [.agg (cfgC c)] 1000 10000000000000000000000000000000000000000 (stA (cfgM c) path lp))
theorem n4A (c : Cfg) (v : Int) (Q : VF → Prop) (H : (((withinF (c.nodes) (Int.ofNat 4) (Int.ofNat 16) != Int.ofNat 0) = true → Q (.c (.v (.int .i64 (withinF (c.nodes) (Int.ofNat 4) (Int.ofNat 16)))), [], 1009, [(withinF (c.nodes) (Int.ofNat 4) (Int.ofNat 16) != Int.ofNat 0) == true, true, true], [])) ∧ ((withinF (c.nodes) (Int.ofNat 4) (Int.ofNat 16) != Int.ofNat 0) = false → (((withinF (↑(c.np)) (Int.ofNat 2) (Int.ofNat 8) != Int.ofNat 0) = true → Q (.c (.v (.int .i64 (withinF (↑(c.np)) (Int.ofNat 2) (Int.ofNat 8)))), [], 1015, [(withinF (↑(c.np)) (Int.ofNat 2) (Int.ofNat 8) != Int.ofNat 0) == true, true, (withinF (c.nodes) (Int.ofNat 4) (Int.ofNat 16) != Int.ofNat 0) == false, true, true], [])) ∧ ((withinF (↑(c.np)) (Int.ofNat 2) (Int.ofNat 8) != Int.ofNat 0) = false → (((!pairs4 c) = true → Q (.c (.v (.int .i64 (Int.ofNat 1))), [], 1016, [(!pairs4 c) == true, cfgK c, okPr c, true, true, true, true, true, true, (withinF (↑(c.np)) (Int.ofNat 2) (Int.ofNat 8) != Int.ofNat 0) == false, true, (withinF (c.nodes) (Int.ofNat 4) (Int.ofNat 16) != Int.ofNat 0) == false, true, true], [])) ∧ ((!pairs4 c) = false → (((withinF (↑(c.ns)) (Int.ofNat 1) (Int.ofNat 16) != Int.ofNat 0) = true → Q (.c (.v (.int .i64 (withinF (↑(c.ns)) (Int.ofNat 1) (Int.ofNat 16)))), [], 1023, [(withinF (↑(c.ns)) (Int.ofNat 1) (Int.ofNat 16) != Int.ofNat 0) == true, true, (!pairs4 c) == false, cfgK c, okPr c, true, true, true, true, true, true, (withinF (↑(c.np)) (Int.ofNat 2) (Int.ofNat 8) != Int.ofNat 0) == false, true, (withinF (c.nodes) (Int.ofNat 4) (Int.ofNat 16) != Int.ofNat 0) == false, true, true], [])) ∧ ((withinF (↑(c.ns)) (Int.ofNat 1) (Int.ofNat 16) != Int.ofNat 0) = false → (((!slots4 c) = true → Q (.c (.v (.int .i64 (Int.ofNat 1))), [], 1024, [(!slots4 c) == true, cfgK c, okSl c, true, true, true, true, true, true, (withinF (↑(c.ns)) (Int.ofNat 1) (Int.ofNat 16) != Int.ofNat 0) == false, true, (!pairs4 c) == false, cfgK c, okPr c, true, true, true, true, true, true, (withinF (↑(c.np)) (Int.ofNat 2) (Int.ofNat 8) != Int.ofNat 0) == false, true, (withinF (c.nodes) (Int.ofNat 4) (Int.ofNat 16) != Int.ofNat 0) == false, true, true], [])) ∧ ((!slots4 c) = false → (((withinF (c.long) (if IntKind.wrap .i64 (c.nodes + Int.ofNat 116) > IntKind.wrap .i64 (IntKind.wrap .i64 (Int.ofNat 3 * c.nodes) + Int.ofNat 1) then IntKind.wrap .i64 (c.nodes + Int.ofNat 116) else IntKind.wrap .i64 (IntKind.wrap .i64 (Int.ofNat 3 * c.nodes) + Int.ofNat 1)) (Int.ofNat 4096) != Int.ofNat 0) = true → Q (.c (.v (.int .i64 (withinF (c.long) (if IntKind.wrap .i64 (c.nodes + Int.ofNat 116) > IntKind.wrap .i64 (IntKind.wrap .i64 (Int.ofNat 3 * c.nodes) + Int.ofNat 1) then IntKind.wrap .i64 (c.nodes + Int.ofNat 116) else IntKind.wrap .i64 (IntKind.wrap .i64 (Int.ofNat 3 * c.nodes) + Int.ofNat 1)) (Int.ofNat 4096)))), [], 1038, [(withinF (c.long) (if IntKind.wrap .i64 (c.nodes + Int.ofNat 116) > IntKind.wrap .i64 (IntKind.wrap .i64 (Int.ofNat 3 * c.nodes) + Int.ofNat 1) then IntKind.wrap .i64 (c.nodes + Int.ofNat 116) else IntKind.wrap .i64 (IntKind.wrap .i64 (Int.ofNat 3 * c.nodes) + Int.ofNat 1)) (Int.ofNat 4096) != Int.ofNat 0) == true, true, true, true, true, true, true, (!slots4 c) == false, cfgK c, okSl c, true, true, true, true, true, true, (withinF (↑(c.ns)) (Int.ofNat 1) (Int.ofNat 16) != Int.ofNat 0) == false, true, (!pairs4 c) == false, cfgK c, okPr c, true, true, true, true, true, true, (withinF (↑(c.np)) (Int.ofNat 2) (Int.ofNat 8) != Int.ofNat 0) == false, true, (withinF (c.nodes) (Int.ofNat 4) (Int.ofNat 16) != Int.ofNat 0) == false, true, true], [])) ∧ ((withinF (c.long) (if IntKind.wrap .i64 (c.nodes + Int.ofNat 116) > IntKind.wrap .i64 (IntKind.wrap .i64 (Int.ofNat 3 * c.nodes) + Int.ofNat 1) then IntKind.wrap .i64 (c.nodes + Int.ofNat 116) else IntKind.wrap .i64 (IntKind.wrap .i64 (Int.ofNat 3 * c.nodes) + Int.ofNat 1)) (Int.ofNat 4096) != Int.ofNat 0) = false → (((↑(c.nb) != c.nodes) = true → Q (.c (.v (.int .i64 (Int.ofNat 1))), [], 1043, [(↑(c.nb) != c.nodes) == true, true, true, true, (withinF (c.long) (if IntKind.wrap .i64 (c.nodes + Int.ofNat 116) > IntKind.wrap .i64 (IntKind.wrap .i64 (Int.ofNat 3 * c.nodes) + Int.ofNat 1) then IntKind.wrap .i64 (c.nodes + Int.ofNat 116) else IntKind.wrap .i64 (IntKind.wrap .i64 (Int.ofNat 3 * c.nodes) + Int.ofNat 1)) (Int.ofNat 4096) != Int.ofNat 0) == false, true, true, true, true, true, true, (!slots4 c) == false, cfgK c, okSl c, true, true, true, true, true, true, (withinF (↑(c.ns)) (Int.ofNat 1) (Int.ofNat 16) != Int.ofNat 0) == false, true, (!pairs4 c) == false, cfgK c, okPr c, true, true, true, true, true, true, (withinF (↑(c.np)) (Int.ofNat 2) (Int.ofNat 8) != Int.ofNat 0) == false, true, (withinF (c.nodes) (Int.ofNat 4) (Int.ofNat 16) != Int.ofNat 0) == false, true, true], [])) ∧ ((↑(c.nb) != c.nodes) = false → Q (.c (.v (.int .i64 v)), [], 100000000000000000000000000000000000000000000000000, [(↑(c.nb) != c.nodes) == false, true, true, true, (withinF (c.long) (if IntKind.wrap .i64 (c.nodes + Int.ofNat 116) > IntKind.wrap .i64 (IntKind.wrap .i64 (Int.ofNat 3 * c.nodes) + Int.ofNat 1) then IntKind.wrap .i64 (c.nodes + Int.ofNat 116) else IntKind.wrap .i64 (IntKind.wrap .i64 (Int.ofNat 3 * c.nodes) + Int.ofNat 1)) (Int.ofNat 4096) != Int.ofNat 0) == false, true, true, true, true, true, true, (!slots4 c) == false, cfgK c, okSl c, true, true, true, true, true, true, (withinF (↑(c.ns)) (Int.ofNat 1) (Int.ofNat 16) != Int.ofNat 0) == false, true, (!pairs4 c) == false, cfgK c, okPr c, true, true, true, true, true, true, (withinF (↑(c.np)) (Int.ofNat 2) (Int.ofNat 8) != Int.ofNat 0) == false, true, (withinF (c.nodes) (Int.ofNat 4) (Int.ofNat 16) != Int.ofNat 0) == false, true, true], [LoopV Tryd.prog (loopAt Tryd.prog 13 0) [1, 4] [2, 1000, 3] [some (.c (.ptr 1000 0 0)), some (.c (.v (.int .i64 (Int.ofNat 0))))] [some (ABlk.mk false false 3 1 (Cs.arr (c.nb) fun k => List.map AC.v ((fun i => [Value.int .i64 (c.fb i)]) k))), some (ABlk.mk true false 25 0 (Cs.lit [.v (.int .i64 (c.nodes)), AC.sl 0 0 0 (c.np) none, AC.sl 1 0 0 (c.ns) none, .v (.int .i64 (c.long)), AC.sl 2 0 0 (c.nb) none, AC.sl 3 0 0 (c.nt) none, .v (.int .i64 (c.miss)), .v (.int .i64 (c.good)), .v (.int .i64 (c.fresh))])), some (ABlk.mk false false 64 3 (Cs.arr (c.nt) fun k => List.map AC.v ((fun i => [Value.int .i64 (Station.node (c.ft i)), Value.int .u32 (Station.safe (c.ft i)), Value.int .i64 (Station.hold (c.ft i))]) k)))] 125 1043 (mkFr 125 [(2, i64 v)]) [] 100000000000000000000000000000000000000000000000000 Exit.ret none])))))))))))))))) :
    ∃ p r, n4R Tryd.prog c [some (n4S1 .ret [(2, i64 v)] [])] p = some r ∧ Q r := by
  rcases Bool.eq_false_or_eq_true (withinF (c.nodes) (Int.ofNat 4) (Int.ofNat 16) != Int.ofNat 0) with h2 | h2
  · have g2 := H.1 h2
    exact ⟨([.b true] : List Dec), _, by kernel_rfl, g2⟩
  · have g2 := H.2 h2
    rcases Bool.eq_false_or_eq_true (withinF (↑(c.np)) (Int.ofNat 2) (Int.ofNat 8) != Int.ofNat 0) with h4 | h4
    · have g4 := g2.1 h4
      exact ⟨([.b false, .b true] : List Dec), _, by kernel_rfl, g4⟩
    · have g4 := g2.2 h4
      rcases Bool.eq_false_or_eq_true (!pairs4 c) with h6 | h6
      · have g6 := g4.1 h6
        exact ⟨([.b false, .b false, .b true] : List Dec), _, by kernel_rfl, g6⟩
      · have g6 := g4.2 h6
        rcases Bool.eq_false_or_eq_true (withinF (↑(c.ns)) (Int.ofNat 1) (Int.ofNat 16) != Int.ofNat 0) with h8 | h8
        · have g8 := g6.1 h8
          exact ⟨([.b false, .b false, .b false, .b true] : List Dec), _, by kernel_rfl, g8⟩
        · have g8 := g6.2 h8
          rcases Bool.eq_false_or_eq_true (!slots4 c) with h10 | h10
          · have g10 := g8.1 h10
            exact ⟨([.b false, .b false, .b false, .b false, .b true] : List Dec), _, by kernel_rfl, g10⟩
          · have g10 := g8.2 h10
            rcases Bool.eq_false_or_eq_true (withinF (c.long) (if IntKind.wrap .i64 (c.nodes + Int.ofNat 116) > IntKind.wrap .i64 (IntKind.wrap .i64 (Int.ofNat 3 * c.nodes) + Int.ofNat 1) then IntKind.wrap .i64 (c.nodes + Int.ofNat 116) else IntKind.wrap .i64 (IntKind.wrap .i64 (Int.ofNat 3 * c.nodes) + Int.ofNat 1)) (Int.ofNat 4096) != Int.ofNat 0) with h12 | h12
            · have g12 := g10.1 h12
              exact ⟨([.b false, .b false, .b false, .b false, .b false, .b true] : List Dec), _, by kernel_rfl, g12⟩
            · have g12 := g10.2 h12
              rcases Bool.eq_false_or_eq_true (↑(c.nb) != c.nodes) with h14 | h14
              · have g14 := g12.1 h14
                exact ⟨([.b false, .b false, .b false, .b false, .b false, .b false, .b true] : List Dec), _, by kernel_rfl, g14⟩
              · have g14 := g12.2 h14
                exact ⟨([.b false, .b false, .b false, .b false, .b false, .b false, .b false] : List Dec), _, by kernel_rfl, g14⟩
theorem n4B (c : Cfg) (v : Int) (Q : VF → Prop) (H : (((withinF (c.nodes) (Int.ofNat 4) (Int.ofNat 16) != Int.ofNat 0) = true → Q (.c (.v (.int .i64 (withinF (c.nodes) (Int.ofNat 4) (Int.ofNat 16)))), [], 1009, [(withinF (c.nodes) (Int.ofNat 4) (Int.ofNat 16) != Int.ofNat 0) == true, true, true], [])) ∧ ((withinF (c.nodes) (Int.ofNat 4) (Int.ofNat 16) != Int.ofNat 0) = false → (((withinF (↑(c.np)) (Int.ofNat 2) (Int.ofNat 8) != Int.ofNat 0) = true → Q (.c (.v (.int .i64 (withinF (↑(c.np)) (Int.ofNat 2) (Int.ofNat 8)))), [], 1015, [(withinF (↑(c.np)) (Int.ofNat 2) (Int.ofNat 8) != Int.ofNat 0) == true, true, (withinF (c.nodes) (Int.ofNat 4) (Int.ofNat 16) != Int.ofNat 0) == false, true, true], [])) ∧ ((withinF (↑(c.np)) (Int.ofNat 2) (Int.ofNat 8) != Int.ofNat 0) = false → (((!pairs4 c) = true → Q (.c (.v (.int .i64 (Int.ofNat 1))), [], 1016, [(!pairs4 c) == true, cfgK c, okPr c, true, true, true, true, true, true, (withinF (↑(c.np)) (Int.ofNat 2) (Int.ofNat 8) != Int.ofNat 0) == false, true, (withinF (c.nodes) (Int.ofNat 4) (Int.ofNat 16) != Int.ofNat 0) == false, true, true], [])) ∧ ((!pairs4 c) = false → (((withinF (↑(c.ns)) (Int.ofNat 1) (Int.ofNat 16) != Int.ofNat 0) = true → Q (.c (.v (.int .i64 (withinF (↑(c.ns)) (Int.ofNat 1) (Int.ofNat 16)))), [], 1023, [(withinF (↑(c.ns)) (Int.ofNat 1) (Int.ofNat 16) != Int.ofNat 0) == true, true, (!pairs4 c) == false, cfgK c, okPr c, true, true, true, true, true, true, (withinF (↑(c.np)) (Int.ofNat 2) (Int.ofNat 8) != Int.ofNat 0) == false, true, (withinF (c.nodes) (Int.ofNat 4) (Int.ofNat 16) != Int.ofNat 0) == false, true, true], [])) ∧ ((withinF (↑(c.ns)) (Int.ofNat 1) (Int.ofNat 16) != Int.ofNat 0) = false → (((!slots4 c) = true → Q (.c (.v (.int .i64 (Int.ofNat 1))), [], 1024, [(!slots4 c) == true, cfgK c, okSl c, true, true, true, true, true, true, (withinF (↑(c.ns)) (Int.ofNat 1) (Int.ofNat 16) != Int.ofNat 0) == false, true, (!pairs4 c) == false, cfgK c, okPr c, true, true, true, true, true, true, (withinF (↑(c.np)) (Int.ofNat 2) (Int.ofNat 8) != Int.ofNat 0) == false, true, (withinF (c.nodes) (Int.ofNat 4) (Int.ofNat 16) != Int.ofNat 0) == false, true, true], [])) ∧ ((!slots4 c) = false → (((withinF (c.long) (if IntKind.wrap .i64 (c.nodes + Int.ofNat 116) > IntKind.wrap .i64 (IntKind.wrap .i64 (Int.ofNat 3 * c.nodes) + Int.ofNat 1) then IntKind.wrap .i64 (c.nodes + Int.ofNat 116) else IntKind.wrap .i64 (IntKind.wrap .i64 (Int.ofNat 3 * c.nodes) + Int.ofNat 1)) (Int.ofNat 4096) != Int.ofNat 0) = true → Q (.c (.v (.int .i64 (withinF (c.long) (if IntKind.wrap .i64 (c.nodes + Int.ofNat 116) > IntKind.wrap .i64 (IntKind.wrap .i64 (Int.ofNat 3 * c.nodes) + Int.ofNat 1) then IntKind.wrap .i64 (c.nodes + Int.ofNat 116) else IntKind.wrap .i64 (IntKind.wrap .i64 (Int.ofNat 3 * c.nodes) + Int.ofNat 1)) (Int.ofNat 4096)))), [], 1038, [(withinF (c.long) (if IntKind.wrap .i64 (c.nodes + Int.ofNat 116) > IntKind.wrap .i64 (IntKind.wrap .i64 (Int.ofNat 3 * c.nodes) + Int.ofNat 1) then IntKind.wrap .i64 (c.nodes + Int.ofNat 116) else IntKind.wrap .i64 (IntKind.wrap .i64 (Int.ofNat 3 * c.nodes) + Int.ofNat 1)) (Int.ofNat 4096) != Int.ofNat 0) == true, true, true, true, true, true, true, (!slots4 c) == false, cfgK c, okSl c, true, true, true, true, true, true, (withinF (↑(c.ns)) (Int.ofNat 1) (Int.ofNat 16) != Int.ofNat 0) == false, true, (!pairs4 c) == false, cfgK c, okPr c, true, true, true, true, true, true, (withinF (↑(c.np)) (Int.ofNat 2) (Int.ofNat 8) != Int.ofNat 0) == false, true, (withinF (c.nodes) (Int.ofNat 4) (Int.ofNat 16) != Int.ofNat 0) == false, true, true], [])) ∧ ((withinF (c.long) (if IntKind.wrap .i64 (c.nodes + Int.ofNat 116) > IntKind.wrap .i64 (IntKind.wrap .i64 (Int.ofNat 3 * c.nodes) + Int.ofNat 1) then IntKind.wrap .i64 (c.nodes + Int.ofNat 116) else IntKind.wrap .i64 (IntKind.wrap .i64 (Int.ofNat 3 * c.nodes) + Int.ofNat 1)) (Int.ofNat 4096) != Int.ofNat 0) = false → (((↑(c.nb) != c.nodes) = true → Q (.c (.v (.int .i64 (Int.ofNat 1))), [], 1043, [(↑(c.nb) != c.nodes) == true, true, true, true, (withinF (c.long) (if IntKind.wrap .i64 (c.nodes + Int.ofNat 116) > IntKind.wrap .i64 (IntKind.wrap .i64 (Int.ofNat 3 * c.nodes) + Int.ofNat 1) then IntKind.wrap .i64 (c.nodes + Int.ofNat 116) else IntKind.wrap .i64 (IntKind.wrap .i64 (Int.ofNat 3 * c.nodes) + Int.ofNat 1)) (Int.ofNat 4096) != Int.ofNat 0) == false, true, true, true, true, true, true, (!slots4 c) == false, cfgK c, okSl c, true, true, true, true, true, true, (withinF (↑(c.ns)) (Int.ofNat 1) (Int.ofNat 16) != Int.ofNat 0) == false, true, (!pairs4 c) == false, cfgK c, okPr c, true, true, true, true, true, true, (withinF (↑(c.np)) (Int.ofNat 2) (Int.ofNat 8) != Int.ofNat 0) == false, true, (withinF (c.nodes) (Int.ofNat 4) (Int.ofNat 16) != Int.ofNat 0) == false, true, true], [])) ∧ ((↑(c.nb) != c.nodes) = false → (((withinF (↑(c.nt)) (Int.ofNat 0) (Int.ofNat 8) != Int.ofNat 0) = true → Q (.c (.v (.int .i64 (withinF (↑(c.nt)) (Int.ofNat 0) (Int.ofNat 8)))), [], 100000000000000000000000000000000000000000000000008, [(withinF (↑(c.nt)) (Int.ofNat 0) (Int.ofNat 8) != Int.ofNat 0) == true, true, (↑(c.nb) != c.nodes) == false, true, true, true, (withinF (c.long) (if IntKind.wrap .i64 (c.nodes + Int.ofNat 116) > IntKind.wrap .i64 (IntKind.wrap .i64 (Int.ofNat 3 * c.nodes) + Int.ofNat 1) then IntKind.wrap .i64 (c.nodes + Int.ofNat 116) else IntKind.wrap .i64 (IntKind.wrap .i64 (Int.ofNat 3 * c.nodes) + Int.ofNat 1)) (Int.ofNat 4096) != Int.ofNat 0) == false, true, true, true, true, true, true, (!slots4 c) == false, cfgK c, okSl c, true, true, true, true, true, true, (withinF (↑(c.ns)) (Int.ofNat 1) (Int.ofNat 16) != Int.ofNat 0) == false, true, (!pairs4 c) == false, cfgK c, okPr c, true, true, true, true, true, true, (withinF (↑(c.np)) (Int.ofNat 2) (Int.ofNat 8) != Int.ofNat 0) == false, true, (withinF (c.nodes) (Int.ofNat 4) (Int.ofNat 16) != Int.ofNat 0) == false, true, true], [LoopV Tryd.prog (loopAt Tryd.prog 13 0) [1, 4] [2, 1000, 3] [some (.c (.ptr 1000 0 0)), some (.c (.v (.int .i64 (Int.ofNat 0))))] [some (ABlk.mk false false 3 1 (Cs.arr (c.nb) fun k => List.map AC.v ((fun i => [Value.int .i64 (c.fb i)]) k))), some (ABlk.mk true false 25 0 (Cs.lit [.v (.int .i64 (c.nodes)), AC.sl 0 0 0 (c.np) none, AC.sl 1 0 0 (c.ns) none, .v (.int .i64 (c.long)), AC.sl 2 0 0 (c.nb) none, AC.sl 3 0 0 (c.nt) none, .v (.int .i64 (c.miss)), .v (.int .i64 (c.good)), .v (.int .i64 (c.fresh))])), some (ABlk.mk false false 64 3 (Cs.arr (c.nt) fun k => List.map AC.v ((fun i => [Value.int .i64 (Station.node (c.ft i)), Value.int .u32 (Station.safe (c.ft i)), Value.int .i64 (Station.hold (c.ft i))]) k)))] 125 1043 (mkFr 125 [(1, .c (.ptr 1000 0 0))]) [(1000, cfgB c), (3, sts (c.nt) (c.ft))] 100000000000000000000000000000000000000000000000000 (Exit.exit 0) none])) ∧ ((withinF (↑(c.nt)) (Int.ofNat 0) (Int.ofNat 8) != Int.ofNat 0) = false → Q (.c (.v (.int .i64 v)), [], 10000000000000000000000000000000000000000000000000000, [(withinF (↑(c.nt)) (Int.ofNat 0) (Int.ofNat 8) != Int.ofNat 0) == false, true, (↑(c.nb) != c.nodes) == false, true, true, true, (withinF (c.long) (if IntKind.wrap .i64 (c.nodes + Int.ofNat 116) > IntKind.wrap .i64 (IntKind.wrap .i64 (Int.ofNat 3 * c.nodes) + Int.ofNat 1) then IntKind.wrap .i64 (c.nodes + Int.ofNat 116) else IntKind.wrap .i64 (IntKind.wrap .i64 (Int.ofNat 3 * c.nodes) + Int.ofNat 1)) (Int.ofNat 4096) != Int.ofNat 0) == false, true, true, true, true, true, true, (!slots4 c) == false, cfgK c, okSl c, true, true, true, true, true, true, (withinF (↑(c.ns)) (Int.ofNat 1) (Int.ofNat 16) != Int.ofNat 0) == false, true, (!pairs4 c) == false, cfgK c, okPr c, true, true, true, true, true, true, (withinF (↑(c.np)) (Int.ofNat 2) (Int.ofNat 8) != Int.ofNat 0) == false, true, (withinF (c.nodes) (Int.ofNat 4) (Int.ofNat 16) != Int.ofNat 0) == false, true, true], [LoopV Tryd.prog (loopAt Tryd.prog 13 1) [1, 5] [3, 1000] [some (.c (.ptr 1000 0 0)), some (.c (.v (.int .i64 (Int.ofNat 0))))] [some (ABlk.mk false false 64 3 (Cs.arr (c.nt) fun k => List.map AC.v ((fun i => [Value.int .i64 (Station.node (c.ft i)), Value.int .u32 (Station.safe (c.ft i)), Value.int .i64 (Station.hold (c.ft i))]) k))), some (ABlk.mk true false 25 0 (Cs.lit [.v (.int .i64 (c.nodes)), AC.sl 0 0 0 (c.np) none, AC.sl 1 0 0 (c.ns) none, .v (.int .i64 (c.long)), AC.sl 2 0 0 (c.nb) none, AC.sl 3 0 0 (c.nt) none, .v (.int .i64 (c.miss)), .v (.int .i64 (c.good)), .v (.int .i64 (c.fresh))]))] 125 100000000000000000000000000000000000000000000000007 (mkFr 125 [(2, i64 v)]) [] 10000000000000000000000000000000000000000000000000000 Exit.ret none, LoopV Tryd.prog (loopAt Tryd.prog 13 0) [1, 4] [2, 1000, 3] [some (.c (.ptr 1000 0 0)), some (.c (.v (.int .i64 (Int.ofNat 0))))] [some (ABlk.mk false false 3 1 (Cs.arr (c.nb) fun k => List.map AC.v ((fun i => [Value.int .i64 (c.fb i)]) k))), some (ABlk.mk true false 25 0 (Cs.lit [.v (.int .i64 (c.nodes)), AC.sl 0 0 0 (c.np) none, AC.sl 1 0 0 (c.ns) none, .v (.int .i64 (c.long)), AC.sl 2 0 0 (c.nb) none, AC.sl 3 0 0 (c.nt) none, .v (.int .i64 (c.miss)), .v (.int .i64 (c.good)), .v (.int .i64 (c.fresh))])), some (ABlk.mk false false 64 3 (Cs.arr (c.nt) fun k => List.map AC.v ((fun i => [Value.int .i64 (Station.node (c.ft i)), Value.int .u32 (Station.safe (c.ft i)), Value.int .i64 (Station.hold (c.ft i))]) k)))] 125 1043 (mkFr 125 [(1, .c (.ptr 1000 0 0))]) [(1000, cfgB c), (3, sts (c.nt) (c.ft))] 100000000000000000000000000000000000000000000000000 (Exit.exit 0) none])))))))))))))))))) :
    ∃ p r, n4R Tryd.prog c [some (n4S1 (.exit 0) [(1, .c (.ptr 1000 0 0))] [(1000, cfgB c), (3, sts c.nt c.ft)]), some (n4S2 .ret [(2, i64 v)] [])] p = some r ∧ Q r := by
  rcases Bool.eq_false_or_eq_true (withinF (c.nodes) (Int.ofNat 4) (Int.ofNat 16) != Int.ofNat 0) with h2 | h2
  · have g2 := H.1 h2
    exact ⟨([.b true] : List Dec), _, by kernel_rfl, g2⟩
  · have g2 := H.2 h2
    rcases Bool.eq_false_or_eq_true (withinF (↑(c.np)) (Int.ofNat 2) (Int.ofNat 8) != Int.ofNat 0) with h4 | h4
    · have g4 := g2.1 h4
      exact ⟨([.b false, .b true] : List Dec), _, by kernel_rfl, g4⟩
    · have g4 := g2.2 h4
      rcases Bool.eq_false_or_eq_true (!pairs4 c) with h6 | h6
      · have g6 := g4.1 h6
        exact ⟨([.b false, .b false, .b true] : List Dec), _, by kernel_rfl, g6⟩
      · have g6 := g4.2 h6
        rcases Bool.eq_false_or_eq_true (withinF (↑(c.ns)) (Int.ofNat 1) (Int.ofNat 16) != Int.ofNat 0) with h8 | h8
        · have g8 := g6.1 h8
          exact ⟨([.b false, .b false, .b false, .b true] : List Dec), _, by kernel_rfl, g8⟩
        · have g8 := g6.2 h8
          rcases Bool.eq_false_or_eq_true (!slots4 c) with h10 | h10
          · have g10 := g8.1 h10
            exact ⟨([.b false, .b false, .b false, .b false, .b true] : List Dec), _, by kernel_rfl, g10⟩
          · have g10 := g8.2 h10
            rcases Bool.eq_false_or_eq_true (withinF (c.long) (if IntKind.wrap .i64 (c.nodes + Int.ofNat 116) > IntKind.wrap .i64 (IntKind.wrap .i64 (Int.ofNat 3 * c.nodes) + Int.ofNat 1) then IntKind.wrap .i64 (c.nodes + Int.ofNat 116) else IntKind.wrap .i64 (IntKind.wrap .i64 (Int.ofNat 3 * c.nodes) + Int.ofNat 1)) (Int.ofNat 4096) != Int.ofNat 0) with h12 | h12
            · have g12 := g10.1 h12
              exact ⟨([.b false, .b false, .b false, .b false, .b false, .b true] : List Dec), _, by kernel_rfl, g12⟩
            · have g12 := g10.2 h12
              rcases Bool.eq_false_or_eq_true (↑(c.nb) != c.nodes) with h14 | h14
              · have g14 := g12.1 h14
                exact ⟨([.b false, .b false, .b false, .b false, .b false, .b false, .b true] : List Dec), _, by kernel_rfl, g14⟩
              · have g14 := g12.2 h14
                rcases Bool.eq_false_or_eq_true (withinF (↑(c.nt)) (Int.ofNat 0) (Int.ofNat 8) != Int.ofNat 0) with h16 | h16
                · have g16 := g14.1 h16
                  exact ⟨([.b false, .b false, .b false, .b false, .b false, .b false, .b false, .b true] : List Dec), _, by kernel_rfl, g16⟩
                · have g16 := g14.2 h16
                  exact ⟨([.b false, .b false, .b false, .b false, .b false, .b false, .b false, .b false] : List Dec), _, by kernel_rfl, g16⟩
end Go.Proofs.YtjefjmkeigfplaaDoor
end
/- sennitref04.New as the evaluator runs it: neither. -/
section
namespace Go.Proofs.YtjefjmkeigfplaaDoor
open Go.RowKit

theorem n4C (c : Cfg) (Q : VF → Prop) (H : (((withinF (c.nodes) (Int.ofNat 4) (Int.ofNat 16) != Int.ofNat 0) = true → Q (.c (.v (.int .i64 (withinF (c.nodes) (Int.ofNat 4) (Int.ofNat 16)))), [], 1009, [(withinF (c.nodes) (Int.ofNat 4) (Int.ofNat 16) != Int.ofNat 0) == true, true, true], [])) ∧ ((withinF (c.nodes) (Int.ofNat 4) (Int.ofNat 16) != Int.ofNat 0) = false → (((withinF (↑(c.np)) (Int.ofNat 2) (Int.ofNat 8) != Int.ofNat 0) = true → Q (.c (.v (.int .i64 (withinF (↑(c.np)) (Int.ofNat 2) (Int.ofNat 8)))), [], 1015, [(withinF (↑(c.np)) (Int.ofNat 2) (Int.ofNat 8) != Int.ofNat 0) == true, true, (withinF (c.nodes) (Int.ofNat 4) (Int.ofNat 16) != Int.ofNat 0) == false, true, true], [])) ∧ ((withinF (↑(c.np)) (Int.ofNat 2) (Int.ofNat 8) != Int.ofNat 0) = false → (((!pairs4 c) = true → Q (.c (.v (.int .i64 (Int.ofNat 1))), [], 1016, [(!pairs4 c) == true, cfgK c, okPr c, true, true, true, true, true, true, (withinF (↑(c.np)) (Int.ofNat 2) (Int.ofNat 8) != Int.ofNat 0) == false, true, (withinF (c.nodes) (Int.ofNat 4) (Int.ofNat 16) != Int.ofNat 0) == false, true, true], [])) ∧ ((!pairs4 c) = false → (((withinF (↑(c.ns)) (Int.ofNat 1) (Int.ofNat 16) != Int.ofNat 0) = true → Q (.c (.v (.int .i64 (withinF (↑(c.ns)) (Int.ofNat 1) (Int.ofNat 16)))), [], 1023, [(withinF (↑(c.ns)) (Int.ofNat 1) (Int.ofNat 16) != Int.ofNat 0) == true, true, (!pairs4 c) == false, cfgK c, okPr c, true, true, true, true, true, true, (withinF (↑(c.np)) (Int.ofNat 2) (Int.ofNat 8) != Int.ofNat 0) == false, true, (withinF (c.nodes) (Int.ofNat 4) (Int.ofNat 16) != Int.ofNat 0) == false, true, true], [])) ∧ ((withinF (↑(c.ns)) (Int.ofNat 1) (Int.ofNat 16) != Int.ofNat 0) = false → (((!slots4 c) = true → Q (.c (.v (.int .i64 (Int.ofNat 1))), [], 1024, [(!slots4 c) == true, cfgK c, okSl c, true, true, true, true, true, true, (withinF (↑(c.ns)) (Int.ofNat 1) (Int.ofNat 16) != Int.ofNat 0) == false, true, (!pairs4 c) == false, cfgK c, okPr c, true, true, true, true, true, true, (withinF (↑(c.np)) (Int.ofNat 2) (Int.ofNat 8) != Int.ofNat 0) == false, true, (withinF (c.nodes) (Int.ofNat 4) (Int.ofNat 16) != Int.ofNat 0) == false, true, true], [])) ∧ ((!slots4 c) = false → (((withinF (c.long) (if IntKind.wrap .i64 (c.nodes + Int.ofNat 116) > IntKind.wrap .i64 (IntKind.wrap .i64 (Int.ofNat 3 * c.nodes) + Int.ofNat 1) then IntKind.wrap .i64 (c.nodes + Int.ofNat 116) else IntKind.wrap .i64 (IntKind.wrap .i64 (Int.ofNat 3 * c.nodes) + Int.ofNat 1)) (Int.ofNat 4096) != Int.ofNat 0) = true → Q (.c (.v (.int .i64 (withinF (c.long) (if IntKind.wrap .i64 (c.nodes + Int.ofNat 116) > IntKind.wrap .i64 (IntKind.wrap .i64 (Int.ofNat 3 * c.nodes) + Int.ofNat 1) then IntKind.wrap .i64 (c.nodes + Int.ofNat 116) else IntKind.wrap .i64 (IntKind.wrap .i64 (Int.ofNat 3 * c.nodes) + Int.ofNat 1)) (Int.ofNat 4096)))), [], 1038, [(withinF (c.long) (if IntKind.wrap .i64 (c.nodes + Int.ofNat 116) > IntKind.wrap .i64 (IntKind.wrap .i64 (Int.ofNat 3 * c.nodes) + Int.ofNat 1) then IntKind.wrap .i64 (c.nodes + Int.ofNat 116) else IntKind.wrap .i64 (IntKind.wrap .i64 (Int.ofNat 3 * c.nodes) + Int.ofNat 1)) (Int.ofNat 4096) != Int.ofNat 0) == true, true, true, true, true, true, true, (!slots4 c) == false, cfgK c, okSl c, true, true, true, true, true, true, (withinF (↑(c.ns)) (Int.ofNat 1) (Int.ofNat 16) != Int.ofNat 0) == false, true, (!pairs4 c) == false, cfgK c, okPr c, true, true, true, true, true, true, (withinF (↑(c.np)) (Int.ofNat 2) (Int.ofNat 8) != Int.ofNat 0) == false, true, (withinF (c.nodes) (Int.ofNat 4) (Int.ofNat 16) != Int.ofNat 0) == false, true, true], [])) ∧ ((withinF (c.long) (if IntKind.wrap .i64 (c.nodes + Int.ofNat 116) > IntKind.wrap .i64 (IntKind.wrap .i64 (Int.ofNat 3 * c.nodes) + Int.ofNat 1) then IntKind.wrap .i64 (c.nodes + Int.ofNat 116) else IntKind.wrap .i64 (IntKind.wrap .i64 (Int.ofNat 3 * c.nodes) + Int.ofNat 1)) (Int.ofNat 4096) != Int.ofNat 0) = false → (((↑(c.nb) != c.nodes) = true → Q (.c (.v (.int .i64 (Int.ofNat 1))), [], 1043, [(↑(c.nb) != c.nodes) == true, true, true, true, (withinF (c.long) (if IntKind.wrap .i64 (c.nodes + Int.ofNat 116) > IntKind.wrap .i64 (IntKind.wrap .i64 (Int.ofNat 3 * c.nodes) + Int.ofNat 1) then IntKind.wrap .i64 (c.nodes + Int.ofNat 116) else IntKind.wrap .i64 (IntKind.wrap .i64 (Int.ofNat 3 * c.nodes) + Int.ofNat 1)) (Int.ofNat 4096) != Int.ofNat 0) == false, true, true, true, true, true, true, (!slots4 c) == false, cfgK c, okSl c, true, true, true, true, true, true, (withinF (↑(c.ns)) (Int.ofNat 1) (Int.ofNat 16) != Int.ofNat 0) == false, true, (!pairs4 c) == false, cfgK c, okPr c, true, true, true, true, true, true, (withinF (↑(c.np)) (Int.ofNat 2) (Int.ofNat 8) != Int.ofNat 0) == false, true, (withinF (c.nodes) (Int.ofNat 4) (Int.ofNat 16) != Int.ofNat 0) == false, true, true], [])) ∧ ((↑(c.nb) != c.nodes) = false → (((withinF (↑(c.nt)) (Int.ofNat 0) (Int.ofNat 8) != Int.ofNat 0) = true → Q (.c (.v (.int .i64 (withinF (↑(c.nt)) (Int.ofNat 0) (Int.ofNat 8)))), [], 100000000000000000000000000000000000000000000000008, [(withinF (↑(c.nt)) (Int.ofNat 0) (Int.ofNat 8) != Int.ofNat 0) == true, true, (↑(c.nb) != c.nodes) == false, true, true, true, (withinF (c.long) (if IntKind.wrap .i64 (c.nodes + Int.ofNat 116) > IntKind.wrap .i64 (IntKind.wrap .i64 (Int.ofNat 3 * c.nodes) + Int.ofNat 1) then IntKind.wrap .i64 (c.nodes + Int.ofNat 116) else IntKind.wrap .i64 (IntKind.wrap .i64 (Int.ofNat 3 * c.nodes) + Int.ofNat 1)) (Int.ofNat 4096) != Int.ofNat 0) == false, true, true, true, true, true, true, (!slots4 c) == false, cfgK c, okSl c, true, true, true, true, true, true, (withinF (↑(c.ns)) (Int.ofNat 1) (Int.ofNat 16) != Int.ofNat 0) == false, true, (!pairs4 c) == false, cfgK c, okPr c, true, true, true, true, true, true, (withinF (↑(c.np)) (Int.ofNat 2) (Int.ofNat 8) != Int.ofNat 0) == false, true, (withinF (c.nodes) (Int.ofNat 4) (Int.ofNat 16) != Int.ofNat 0) == false, true, true], [LoopV Tryd.prog (loopAt Tryd.prog 13 0) [1, 4] [2, 1000, 3] [some (.c (.ptr 1000 0 0)), some (.c (.v (.int .i64 (Int.ofNat 0))))] [some (ABlk.mk false false 3 1 (Cs.arr (c.nb) fun k => List.map AC.v ((fun i => [Value.int .i64 (c.fb i)]) k))), some (ABlk.mk true false 25 0 (Cs.lit [.v (.int .i64 (c.nodes)), AC.sl 0 0 0 (c.np) none, AC.sl 1 0 0 (c.ns) none, .v (.int .i64 (c.long)), AC.sl 2 0 0 (c.nb) none, AC.sl 3 0 0 (c.nt) none, .v (.int .i64 (c.miss)), .v (.int .i64 (c.good)), .v (.int .i64 (c.fresh))])), some (ABlk.mk false false 64 3 (Cs.arr (c.nt) fun k => List.map AC.v ((fun i => [Value.int .i64 (Station.node (c.ft i)), Value.int .u32 (Station.safe (c.ft i)), Value.int .i64 (Station.hold (c.ft i))]) k)))] 125 1043 (mkFr 125 [(1, .c (.ptr 1000 0 0))]) [(1000, cfgB c), (3, sts (c.nt) (c.ft))] 100000000000000000000000000000000000000000000000000 (Exit.exit 0) none])) ∧ ((withinF (↑(c.nt)) (Int.ofNat 0) (Int.ofNat 8) != Int.ofNat 0) = false → (((withinF (c.miss) (Int.ofNat 1) (Int.ofNat 100) != Int.ofNat 0) = true → Q (.c (.v (.int .i64 (withinF (c.miss) (Int.ofNat 1) (Int.ofNat 100)))), [], 10000000000000000000000000000000000000000000000000020, [(withinF (c.miss) (Int.ofNat 1) (Int.ofNat 100) != Int.ofNat 0) == true, true, true, true, true, true, true, true, true, true, (withinF (↑(c.nt)) (Int.ofNat 0) (Int.ofNat 8) != Int.ofNat 0) == false, true, (↑(c.nb) != c.nodes) == false, true, true, true, (withinF (c.long) (if IntKind.wrap .i64 (c.nodes + Int.ofNat 116) > IntKind.wrap .i64 (IntKind.wrap .i64 (Int.ofNat 3 * c.nodes) + Int.ofNat 1) then IntKind.wrap .i64 (c.nodes + Int.ofNat 116) else IntKind.wrap .i64 (IntKind.wrap .i64 (Int.ofNat 3 * c.nodes) + Int.ofNat 1)) (Int.ofNat 4096) != Int.ofNat 0) == false, true, true, true, true, true, true, (!slots4 c) == false, cfgK c, okSl c, true, true, true, true, true, true, (withinF (↑(c.ns)) (Int.ofNat 1) (Int.ofNat 16) != Int.ofNat 0) == false, true, (!pairs4 c) == false, cfgK c, okPr c, true, true, true, true, true, true, (withinF (↑(c.np)) (Int.ofNat 2) (Int.ofNat 8) != Int.ofNat 0) == false, true, (withinF (c.nodes) (Int.ofNat 4) (Int.ofNat 16) != Int.ofNat 0) == false, true, true], [LoopV Tryd.prog (loopAt Tryd.prog 13 1) [1, 5] [3, 1000] [some (.c (.ptr 1000 0 0)), some (.c (.v (.int .i64 (Int.ofNat 0))))] [some (ABlk.mk false false 64 3 (Cs.arr (c.nt) fun k => List.map AC.v ((fun i => [Value.int .i64 (Station.node (c.ft i)), Value.int .u32 (Station.safe (c.ft i)), Value.int .i64 (Station.hold (c.ft i))]) k))), some (ABlk.mk true false 25 0 (Cs.lit [.v (.int .i64 (c.nodes)), AC.sl 0 0 0 (c.np) none, AC.sl 1 0 0 (c.ns) none, .v (.int .i64 (c.long)), AC.sl 2 0 0 (c.nb) none, AC.sl 3 0 0 (c.nt) none, .v (.int .i64 (c.miss)), .v (.int .i64 (c.good)), .v (.int .i64 (c.fresh))]))] 125 100000000000000000000000000000000000000000000000007 (mkFr 125 [(1, .c (.ptr 1000 0 0))]) [(1000, cfgB c)] 10000000000000000000000000000000000000000000000000000 (Exit.exit 2) none, LoopV Tryd.prog (loopAt Tryd.prog 13 0) [1, 4] [2, 1000, 3] [some (.c (.ptr 1000 0 0)), some (.c (.v (.int .i64 (Int.ofNat 0))))] [some (ABlk.mk false false 3 1 (Cs.arr (c.nb) fun k => List.map AC.v ((fun i => [Value.int .i64 (c.fb i)]) k))), some (ABlk.mk true false 25 0 (Cs.lit [.v (.int .i64 (c.nodes)), AC.sl 0 0 0 (c.np) none, AC.sl 1 0 0 (c.ns) none, .v (.int .i64 (c.long)), AC.sl 2 0 0 (c.nb) none, AC.sl 3 0 0 (c.nt) none, .v (.int .i64 (c.miss)), .v (.int .i64 (c.good)), .v (.int .i64 (c.fresh))])), some (ABlk.mk false false 64 3 (Cs.arr (c.nt) fun k => List.map AC.v ((fun i => [Value.int .i64 (Station.node (c.ft i)), Value.int .u32 (Station.safe (c.ft i)), Value.int .i64 (Station.hold (c.ft i))]) k)))] 125 1043 (mkFr 125 [(1, .c (.ptr 1000 0 0))]) [(1000, cfgB c), (3, sts (c.nt) (c.ft))] 100000000000000000000000000000000000000000000000000 (Exit.exit 0) none])) ∧ ((withinF (c.miss) (Int.ofNat 1) (Int.ofNat 100) != Int.ofNat 0) = false → (((withinF (c.good) (Int.ofNat 1) (Int.ofNat 100) != Int.ofNat 0) = true → Q (.c (.v (.int .i64 (withinF (c.good) (Int.ofNat 1) (Int.ofNat 100)))), [], 10000000000000000000000000000000000000000000000000032, [(withinF (c.good) (Int.ofNat 1) (Int.ofNat 100) != Int.ofNat 0) == true, true, true, true, (withinF (c.miss) (Int.ofNat 1) (Int.ofNat 100) != Int.ofNat 0) == false, true, true, true, true, true, true, true, true, true, (withinF (↑(c.nt)) (Int.ofNat 0) (Int.ofNat 8) != Int.ofNat 0) == false, true, (↑(c.nb) != c.nodes) == false, true, true, true, (withinF (c.long) (if IntKind.wrap .i64 (c.nodes + Int.ofNat 116) > IntKind.wrap .i64 (IntKind.wrap .i64 (Int.ofNat 3 * c.nodes) + Int.ofNat 1) then IntKind.wrap .i64 (c.nodes + Int.ofNat 116) else IntKind.wrap .i64 (IntKind.wrap .i64 (Int.ofNat 3 * c.nodes) + Int.ofNat 1)) (Int.ofNat 4096) != Int.ofNat 0) == false, true, true, true, true, true, true, (!slots4 c) == false, cfgK c, okSl c, true, true, true, true, true, true, (withinF (↑(c.ns)) (Int.ofNat 1) (Int.ofNat 16) != Int.ofNat 0) == false, true, (!pairs4 c) == false, cfgK c, okPr c, true, true, true, true, true, true, (withinF (↑(c.np)) (Int.ofNat 2) (Int.ofNat 8) != Int.ofNat 0) == false, true, (withinF (c.nodes) (Int.ofNat 4) (Int.ofNat 16) != Int.ofNat 0) == false, true, true], [LoopV Tryd.prog (loopAt Tryd.prog 13 1) [1, 5] [3, 1000] [some (.c (.ptr 1000 0 0)), some (.c (.v (.int .i64 (Int.ofNat 0))))] [some (ABlk.mk false false 64 3 (Cs.arr (c.nt) fun k => List.map AC.v ((fun i => [Value.int .i64 (Station.node (c.ft i)), Value.int .u32 (Station.safe (c.ft i)), Value.int .i64 (Station.hold (c.ft i))]) k))), some (ABlk.mk true false 25 0 (Cs.lit [.v (.int .i64 (c.nodes)), AC.sl 0 0 0 (c.np) none, AC.sl 1 0 0 (c.ns) none, .v (.int .i64 (c.long)), AC.sl 2 0 0 (c.nb) none, AC.sl 3 0 0 (c.nt) none, .v (.int .i64 (c.miss)), .v (.int .i64 (c.good)), .v (.int .i64 (c.fresh))]))] 125 100000000000000000000000000000000000000000000000007 (mkFr 125 [(1, .c (.ptr 1000 0 0))]) [(1000, cfgB c)] 10000000000000000000000000000000000000000000000000000 (Exit.exit 2) none, LoopV Tryd.prog (loopAt Tryd.prog 13 0) [1, 4] [2, 1000, 3] [some (.c (.ptr 1000 0 0)), some (.c (.v (.int .i64 (Int.ofNat 0))))] [some (ABlk.mk false false 3 1 (Cs.arr (c.nb) fun k => List.map AC.v ((fun i => [Value.int .i64 (c.fb i)]) k))), some (ABlk.mk true false 25 0 (Cs.lit [.v (.int .i64 (c.nodes)), AC.sl 0 0 0 (c.np) none, AC.sl 1 0 0 (c.ns) none, .v (.int .i64 (c.long)), AC.sl 2 0 0 (c.nb) none, AC.sl 3 0 0 (c.nt) none, .v (.int .i64 (c.miss)), .v (.int .i64 (c.good)), .v (.int .i64 (c.fresh))])), some (ABlk.mk false false 64 3 (Cs.arr (c.nt) fun k => List.map AC.v ((fun i => [Value.int .i64 (Station.node (c.ft i)), Value.int .u32 (Station.safe (c.ft i)), Value.int .i64 (Station.hold (c.ft i))]) k)))] 125 1043 (mkFr 125 [(1, .c (.ptr 1000 0 0))]) [(1000, cfgB c), (3, sts (c.nt) (c.ft))] 100000000000000000000000000000000000000000000000000 (Exit.exit 0) none])) ∧ ((withinF (c.good) (Int.ofNat 1) (Int.ofNat 100) != Int.ofNat 0) = false → (((withinF (c.fresh) (Int.ofNat 1) (Int.ofNat 100) != Int.ofNat 0) = true → Q (.c (.v (.int .i64 (withinF (c.fresh) (Int.ofNat 1) (Int.ofNat 100)))), [], 10000000000000000000000000000000000000000000000000044, [(withinF (c.fresh) (Int.ofNat 1) (Int.ofNat 100) != Int.ofNat 0) == true, true, true, true, (withinF (c.good) (Int.ofNat 1) (Int.ofNat 100) != Int.ofNat 0) == false, true, true, true, (withinF (c.miss) (Int.ofNat 1) (Int.ofNat 100) != Int.ofNat 0) == false, true, true, true, true, true, true, true, true, true, (withinF (↑(c.nt)) (Int.ofNat 0) (Int.ofNat 8) != Int.ofNat 0) == false, true, (↑(c.nb) != c.nodes) == false, true, true, true, (withinF (c.long) (if IntKind.wrap .i64 (c.nodes + Int.ofNat 116) > IntKind.wrap .i64 (IntKind.wrap .i64 (Int.ofNat 3 * c.nodes) + Int.ofNat 1) then IntKind.wrap .i64 (c.nodes + Int.ofNat 116) else IntKind.wrap .i64 (IntKind.wrap .i64 (Int.ofNat 3 * c.nodes) + Int.ofNat 1)) (Int.ofNat 4096) != Int.ofNat 0) == false, true, true, true, true, true, true, (!slots4 c) == false, cfgK c, okSl c, true, true, true, true, true, true, (withinF (↑(c.ns)) (Int.ofNat 1) (Int.ofNat 16) != Int.ofNat 0) == false, true, (!pairs4 c) == false, cfgK c, okPr c, true, true, true, true, true, true, (withinF (↑(c.np)) (Int.ofNat 2) (Int.ofNat 8) != Int.ofNat 0) == false, true, (withinF (c.nodes) (Int.ofNat 4) (Int.ofNat 16) != Int.ofNat 0) == false, true, true], [LoopV Tryd.prog (loopAt Tryd.prog 13 1) [1, 5] [3, 1000] [some (.c (.ptr 1000 0 0)), some (.c (.v (.int .i64 (Int.ofNat 0))))] [some (ABlk.mk false false 64 3 (Cs.arr (c.nt) fun k => List.map AC.v ((fun i => [Value.int .i64 (Station.node (c.ft i)), Value.int .u32 (Station.safe (c.ft i)), Value.int .i64 (Station.hold (c.ft i))]) k))), some (ABlk.mk true false 25 0 (Cs.lit [.v (.int .i64 (c.nodes)), AC.sl 0 0 0 (c.np) none, AC.sl 1 0 0 (c.ns) none, .v (.int .i64 (c.long)), AC.sl 2 0 0 (c.nb) none, AC.sl 3 0 0 (c.nt) none, .v (.int .i64 (c.miss)), .v (.int .i64 (c.good)), .v (.int .i64 (c.fresh))]))] 125 100000000000000000000000000000000000000000000000007 (mkFr 125 [(1, .c (.ptr 1000 0 0))]) [(1000, cfgB c)] 10000000000000000000000000000000000000000000000000000 (Exit.exit 2) none, LoopV Tryd.prog (loopAt Tryd.prog 13 0) [1, 4] [2, 1000, 3] [some (.c (.ptr 1000 0 0)), some (.c (.v (.int .i64 (Int.ofNat 0))))] [some (ABlk.mk false false 3 1 (Cs.arr (c.nb) fun k => List.map AC.v ((fun i => [Value.int .i64 (c.fb i)]) k))), some (ABlk.mk true false 25 0 (Cs.lit [.v (.int .i64 (c.nodes)), AC.sl 0 0 0 (c.np) none, AC.sl 1 0 0 (c.ns) none, .v (.int .i64 (c.long)), AC.sl 2 0 0 (c.nb) none, AC.sl 3 0 0 (c.nt) none, .v (.int .i64 (c.miss)), .v (.int .i64 (c.good)), .v (.int .i64 (c.fresh))])), some (ABlk.mk false false 64 3 (Cs.arr (c.nt) fun k => List.map AC.v ((fun i => [Value.int .i64 (Station.node (c.ft i)), Value.int .u32 (Station.safe (c.ft i)), Value.int .i64 (Station.hold (c.ft i))]) k)))] 125 1043 (mkFr 125 [(1, .c (.ptr 1000 0 0))]) [(1000, cfgB c), (3, sts (c.nt) (c.ft))] 100000000000000000000000000000000000000000000000000 (Exit.exit 0) none])) ∧ ((withinF (c.fresh) (Int.ofNat 1) (Int.ofNat 100) != Int.ofNat 0) = false → Q (.c (.v (.int .i64 (Int.ofNat 0))), [], 10000000000000000000000000000000000000000000000000048, [(withinF (c.fresh) (Int.ofNat 1) (Int.ofNat 100) != Int.ofNat 0) == false, true, true, true, (withinF (c.good) (Int.ofNat 1) (Int.ofNat 100) != Int.ofNat 0) == false, true, true, true, (withinF (c.miss) (Int.ofNat 1) (Int.ofNat 100) != Int.ofNat 0) == false, true, true, true, true, true, true, true, true, true, (withinF (↑(c.nt)) (Int.ofNat 0) (Int.ofNat 8) != Int.ofNat 0) == false, true, (↑(c.nb) != c.nodes) == false, true, true, true, (withinF (c.long) (if IntKind.wrap .i64 (c.nodes + Int.ofNat 116) > IntKind.wrap .i64 (IntKind.wrap .i64 (Int.ofNat 3 * c.nodes) + Int.ofNat 1) then IntKind.wrap .i64 (c.nodes + Int.ofNat 116) else IntKind.wrap .i64 (IntKind.wrap .i64 (Int.ofNat 3 * c.nodes) + Int.ofNat 1)) (Int.ofNat 4096) != Int.ofNat 0) == false, true, true, true, true, true, true, (!slots4 c) == false, cfgK c, okSl c, true, true, true, true, true, true, (withinF (↑(c.ns)) (Int.ofNat 1) (Int.ofNat 16) != Int.ofNat 0) == false, true, (!pairs4 c) == false, cfgK c, okPr c, true, true, true, true, true, true, (withinF (↑(c.np)) (Int.ofNat 2) (Int.ofNat 8) != Int.ofNat 0) == false, true, (withinF (c.nodes) (Int.ofNat 4) (Int.ofNat 16) != Int.ofNat 0) == false, true, true], [LoopV Tryd.prog (loopAt Tryd.prog 13 1) [1, 5] [3, 1000] [some (.c (.ptr 1000 0 0)), some (.c (.v (.int .i64 (Int.ofNat 0))))] [some (ABlk.mk false false 64 3 (Cs.arr (c.nt) fun k => List.map AC.v ((fun i => [Value.int .i64 (Station.node (c.ft i)), Value.int .u32 (Station.safe (c.ft i)), Value.int .i64 (Station.hold (c.ft i))]) k))), some (ABlk.mk true false 25 0 (Cs.lit [.v (.int .i64 (c.nodes)), AC.sl 0 0 0 (c.np) none, AC.sl 1 0 0 (c.ns) none, .v (.int .i64 (c.long)), AC.sl 2 0 0 (c.nb) none, AC.sl 3 0 0 (c.nt) none, .v (.int .i64 (c.miss)), .v (.int .i64 (c.good)), .v (.int .i64 (c.fresh))]))] 125 100000000000000000000000000000000000000000000000007 (mkFr 125 [(1, .c (.ptr 1000 0 0))]) [(1000, cfgB c)] 10000000000000000000000000000000000000000000000000000 (Exit.exit 2) none, LoopV Tryd.prog (loopAt Tryd.prog 13 0) [1, 4] [2, 1000, 3] [some (.c (.ptr 1000 0 0)), some (.c (.v (.int .i64 (Int.ofNat 0))))] [some (ABlk.mk false false 3 1 (Cs.arr (c.nb) fun k => List.map AC.v ((fun i => [Value.int .i64 (c.fb i)]) k))), some (ABlk.mk true false 25 0 (Cs.lit [.v (.int .i64 (c.nodes)), AC.sl 0 0 0 (c.np) none, AC.sl 1 0 0 (c.ns) none, .v (.int .i64 (c.long)), AC.sl 2 0 0 (c.nb) none, AC.sl 3 0 0 (c.nt) none, .v (.int .i64 (c.miss)), .v (.int .i64 (c.good)), .v (.int .i64 (c.fresh))])), some (ABlk.mk false false 64 3 (Cs.arr (c.nt) fun k => List.map AC.v ((fun i => [Value.int .i64 (Station.node (c.ft i)), Value.int .u32 (Station.safe (c.ft i)), Value.int .i64 (Station.hold (c.ft i))]) k)))] 125 1043 (mkFr 125 [(1, .c (.ptr 1000 0 0))]) [(1000, cfgB c), (3, sts (c.nt) (c.ft))] 100000000000000000000000000000000000000000000000000 (Exit.exit 0) none])))))))))))))))))))))))) :
    ∃ p r, n4R Tryd.prog c [some (n4S1 (.exit 0) [(1, .c (.ptr 1000 0 0))] [(1000, cfgB c), (3, sts c.nt c.ft)]), some (n4S2 (.exit 2) [(1, .c (.ptr 1000 0 0))] [(1000, cfgB c)])] p = some r ∧ Q r := by
  rcases Bool.eq_false_or_eq_true (withinF (c.nodes) (Int.ofNat 4) (Int.ofNat 16) != Int.ofNat 0) with h2 | h2
  · have g2 := H.1 h2
    exact ⟨([.b true] : List Dec), _, by kernel_rfl, g2⟩
  · have g2 := H.2 h2
    rcases Bool.eq_false_or_eq_true (withinF (↑(c.np)) (Int.ofNat 2) (Int.ofNat 8) != Int.ofNat 0) with h4 | h4
    · have g4 := g2.1 h4
      exact ⟨([.b false, .b true] : List Dec), _, by kernel_rfl, g4⟩
    · have g4 := g2.2 h4
      rcases Bool.eq_false_or_eq_true (!pairs4 c) with h6 | h6
      · have g6 := g4.1 h6
        exact ⟨([.b false, .b false, .b true] : List Dec), _, by kernel_rfl, g6⟩
      · have g6 := g4.2 h6
        rcases Bool.eq_false_or_eq_true (withinF (↑(c.ns)) (Int.ofNat 1) (Int.ofNat 16) != Int.ofNat 0) with h8 | h8
        · have g8 := g6.1 h8
          exact ⟨([.b false, .b false, .b false, .b true] : List Dec), _, by kernel_rfl, g8⟩
        · have g8 := g6.2 h8
          rcases Bool.eq_false_or_eq_true (!slots4 c) with h10 | h10
          · have g10 := g8.1 h10
            exact ⟨([.b false, .b false, .b false, .b false, .b true] : List Dec), _, by kernel_rfl, g10⟩
          · have g10 := g8.2 h10
            rcases Bool.eq_false_or_eq_true (withinF (c.long) (if IntKind.wrap .i64 (c.nodes + Int.ofNat 116) > IntKind.wrap .i64 (IntKind.wrap .i64 (Int.ofNat 3 * c.nodes) + Int.ofNat 1) then IntKind.wrap .i64 (c.nodes + Int.ofNat 116) else IntKind.wrap .i64 (IntKind.wrap .i64 (Int.ofNat 3 * c.nodes) + Int.ofNat 1)) (Int.ofNat 4096) != Int.ofNat 0) with h12 | h12
            · have g12 := g10.1 h12
              exact ⟨([.b false, .b false, .b false, .b false, .b false, .b true] : List Dec), _, by kernel_rfl, g12⟩
            · have g12 := g10.2 h12
              rcases Bool.eq_false_or_eq_true (↑(c.nb) != c.nodes) with h14 | h14
              · have g14 := g12.1 h14
                exact ⟨([.b false, .b false, .b false, .b false, .b false, .b false, .b true] : List Dec), _, by kernel_rfl, g14⟩
              · have g14 := g12.2 h14
                rcases Bool.eq_false_or_eq_true (withinF (↑(c.nt)) (Int.ofNat 0) (Int.ofNat 8) != Int.ofNat 0) with h16 | h16
                · have g16 := g14.1 h16
                  exact ⟨([.b false, .b false, .b false, .b false, .b false, .b false, .b false, .b true] : List Dec), _, by kernel_rfl, g16⟩
                · have g16 := g14.2 h16
                  rcases Bool.eq_false_or_eq_true (withinF (c.miss) (Int.ofNat 1) (Int.ofNat 100) != Int.ofNat 0) with h18 | h18
                  · have g18 := g16.1 h18
                    exact ⟨([.b false, .b false, .b false, .b false, .b false, .b false, .b false, .b false, .a, .b true] : List Dec), _, by kernel_rfl, g18⟩
                  · have g18 := g16.2 h18
                    rcases Bool.eq_false_or_eq_true (withinF (c.good) (Int.ofNat 1) (Int.ofNat 100) != Int.ofNat 0) with h20 | h20
                    · have g20 := g18.1 h20
                      exact ⟨([.b false, .b false, .b false, .b false, .b false, .b false, .b false, .b false, .a, .b false, .a, .b true] : List Dec), _, by kernel_rfl, g20⟩
                    · have g20 := g18.2 h20
                      rcases Bool.eq_false_or_eq_true (withinF (c.fresh) (Int.ofNat 1) (Int.ofNat 100) != Int.ofNat 0) with h22 | h22
                      · have g22 := g20.1 h22
                        exact ⟨([.b false, .b false, .b false, .b false, .b false, .b false, .b false, .b false, .a, .b false, .a, .b false, .a, .b true] : List Dec), _, by kernel_rfl, g22⟩
                      · have g22 := g20.2 h22
                        exact ⟨([.b false, .b false, .b false, .b false, .b false, .b false, .b false, .b false, .a, .b false, .a, .b false, .a, .b false, .a] : List Dec), _, by kernel_rfl, g22⟩
end Go.Proofs.YtjefjmkeigfplaaDoor
end
/- sennitref04.New: its loops' sums. -/
section
namespace Go.Proofs.YtjefjmkeigfplaaDoor
open Go.RowKit

theorem ct_within : CtOk Tryd.prog 19 ctWithin := by
  refine ⟨⟨_, _, Tryd.func19, rfl⟩, fun C β m m2 w args ib r news k' ob vs hct ho hs hr hfree hlim hv => ?_⟩
  unfold ctWithin at hct
  split at hct
  · rename_i x lo hi
    simp only [Option.some.injEq, Prod.mk.injEq] at hct
    obtain ⟨rfl, rfl, rfl, rfl⟩ := hct
    cases hv
    have run : ∃ p r, wiR Tryd.prog x lo hi p = some r ∧ (r.1 = i64 (withinF x lo hi) ∧ r.2.2.1 ≤ lim ∧ allT r.2.2.2.1 ∧ ∀ q ∈ r.2.2.2.2, q) := by
      refine wi x lo hi _ ?_
      repeat' (first | refine ⟨fun h => ?_, fun h => ?_⟩ | fail)
      all_goals (refine ⟨?_, (by first | (unfold lim; omega) | (dsimp only; unfold lim; omega)), ?_, by simp⟩)
      all_goals (simp_all [allT, withinF, i64])
      all_goals (try omega)
      all_goals (rw [if_neg (by omega), if_neg (by omega)])
    obtain ⟨p, ⟨v, b', n', ob, po⟩, hrun, hvr, hn, hob, hpo⟩ := run
    obtain ⟨s', r1, r2, r3, r4⟩ := viewF_out hrun
    have hn : n' ≤ lim := hn
    refine (calls_f hE1 r1 ⟨by rw [r3]; exact hob, by rw [r4]; exact hpo⟩ (C := loneC w) (β := fun _ => none) (w := w) (vs := [.int .i64 x, .int .i64 lo, .int .i64 hi]) rfl (rel_nil w) (fun _ _ _ => rfl)).mono ?_
    rintro e w' ⟨β', u, rfl, _, _, hu, hr'⟩
    simp only at hvr
    subst hvr
    cases hu
    exact ⟨β, _, rfl, Ext.refl _, fun _ _ => rfl, rfl, by rw [List.append_nil]; exact hr.below (below_lone hr')⟩
  · cases hct
theorem hENq : EnvOk (ENq Tryd.prog) := by
  refine envOk (fun f g h => ?_) (by kernel_rfl) (by kernel_rfl)
  simp only [ENq, List.mem_cons, Prod.mk.injEq, List.not_mem_nil, or_false] at h
  rcases h with ⟨rfl, rfl⟩ | ⟨rfl, rfl⟩ | ⟨rfl, rfl⟩
  · exact ct_within
  · exact ct_pairs4
  · exact ct_slots4
theorem nb_sum (c : Cfg) (N : Nat) (hN : 1001 ≤ N) (hN2 : N ≤ 1000000000000000000000000000000000000000000) (hn : c.nb ≤ 1000000) (j : Nat) (hj : j ≤ c.nb) (hmin : ∀ i, i < j → withinF (c.fb i) 0 4096 = 0) (hyes : j < c.nb → withinF (c.fb j) 0 4096 ≠ 0) {e : Exit} {out : List (Nat × AV)} {mF : AMem}
    (hF : (j < c.nb → e = .ret ∧ out = [(2, i64 (withinF (c.fb j) 0 4096))] ∧ mF = []) ∧ (j = c.nb → e = .exit 0 ∧ out = [(1, .c (.ptr 1000 0 0))] ∧ mF = [(1000, cfgB c), (3, sts c.nt c.ft)])) :
    LoopV Tryd.prog (loopAt Tryd.prog 13 0) [1, 4] [2, 1000, 3] ((nbV 0).map some) ([ints 3 c.nb c.fb, cfgB c, sts c.nt c.ft].map some) 125 N (mkFr 125 out) mF 100000000000000000000000000000000000000000000000000 e none := by
  refine scan_ob hENq (fuel := 300) (str := 10000000000000000000000000000000000000000) (nh := 1000000000000000000000000000000000000000000) [1, 4] [2] [2, 1000, 3] nbV [ints 3 c.nb c.fb, cfgB c, sts c.nt c.ft] j hN2 (by decide) (by unfold lim; omega) ?_ (fun _ => ⟨rfl, rfl⟩) ?_ ?_ ?_ ?_ ?_
  · rcases Nat.lt_or_ge j c.nb with h | h
    · rw [(hF.1 h).1]; simp
    · rw [(hF.2 (by omega)).1]; simp
  · simp [keptB]; omega
  · intro k _
    simp [okV, lowV, lowC, notAny, i64]; omega
  · intro b hb
    simp only [List.mem_cons, List.not_mem_nil, or_false] at hb
    rcases hb with rfl | rfl | rfl
    · exact ints_low
    · exact cfgB_low (by omega)
    · exact rBlk_low
  · intro k hk
    have hm := hmin k hk
    have hw : IntKind.wrap IntKind.i64 (Int.ofNat k + Int.ofNat 1) = Int.ofNat (k + 1) := by rw [wrap_nat _ (by simp; omega) (by simp; omega)]; rfl
    have ek : 0 + Int.toNat (Int.ofNat k) = k := by simp
    refine nbt c k _ ?_
    simp only [ek]
    refine ⟨fun c1 => ⟨fun c2 => ?_, fun c2 => ?_⟩, fun c1 => ?_⟩
    · exfalso; simp [hm] at c2
    · refine ⟨⟨?_, rfl, by dsimp only; omega, rfl⟩, rfl, ?_, BL.refl _⟩
      · simp only [allT, List.forall_mem_cons, inb_arr, inb_lit]
        simp [hm]; omega
      · dsimp only; rw [hw]; rfl
    · exfalso; simp at c1; omega
  · have ek : 0 + Int.toNat (Int.ofNat j) = j := by simp
    refine nbt c j _ ?_
    simp only [ek]
    refine ⟨fun c1 => ⟨fun c2 => ?_, fun c2 => ?_⟩, fun c1 => ?_⟩
    · have hlt : j < c.nb := by simpa using c1
      obtain ⟨rfl, rfl, rfl⟩ := hF.1 hlt
      refine EndV_one ⟨?_, rfl, by dsimp only; omega, rfl⟩ rfl rfl (by simp [i64])
      have hy := hyes hlt
      simp [allT, inb_arr, inb_lit, hlt, hy]
    · have hlt : j < c.nb := by simpa using c1
      exfalso
      simp [hyes hlt] at c2
    · have hlt : ¬ j < c.nb := by simpa using c1
      obtain ⟨rfl, rfl, rfl⟩ := hF.2 (by omega)
      refine ⟨⟨?_, rfl, by dsimp only; omega, rfl⟩, rfl, fun q hq => ?_, fun p hpp => ?_⟩
      · simp [allT]; omega
      · rw [List.mem_singleton.1 hq]
        exact ⟨by simp [okV, lowV, lowC, notAny]; omega, by simp [lkA]⟩
      · simp only [List.mem_cons, List.not_mem_nil, or_false] at hpp
        rcases hpp with rfl | rfl
        · exact ⟨by simp [keptB]; omega, cfgB_low (by omega), cfgB c, by dsimp only [List.zip, List.zipWith]; exact List.mem_cons_of_mem _ (List.mem_cons_self ..), BEq.refl _⟩
        · exact ⟨by simp [keptB]; omega, rBlk_low, sts c.nt c.ft, by dsimp only [List.zip, List.zipWith]; exact List.mem_cons_of_mem _ (List.mem_cons_of_mem _ (List.mem_cons_self ..)), BEq.refl _⟩
theorem nt_sum (c : Cfg) (N : Nat) (hN : 1001 ≤ N) (hN2 : N ≤ 1000000000000000000000000000000000000000000000000000) (hn : c.nt ≤ 1000000) (j : Nat) (hj : j ≤ c.nt) (hmin : ∀ i, i < j → ruleSt c i = 0) (hyes : j < c.nt → ruleSt c j ≠ 0) {e : Exit} {out : List (Nat × AV)} {mF : AMem}
    (hF : (j < c.nt → e = .ret ∧ out = [(2, i64 (ruleSt c j))] ∧ mF = []) ∧ (j = c.nt → e = .exit 2 ∧ out = [(1, .c (.ptr 1000 0 0))] ∧ mF = [(1000, cfgB c)])) :
    LoopV Tryd.prog (loopAt Tryd.prog 13 1) [1, 5] [3, 1000] ((nbV 0).map some) ([sts c.nt c.ft, cfgB c].map some) 125 N (mkFr 125 out) mF 10000000000000000000000000000000000000000000000000000 e none := by
  refine scan_ob hENq (fuel := 300) (str := 10000000000000000000000000000000000000000) (nh := 1000000000000000000000000000000000000000000000000000) [1, 5] [2] [3, 1000] nbV [sts c.nt c.ft, cfgB c] j hN2 (by decide) (by unfold lim; omega) ?_ (fun _ => ⟨rfl, rfl⟩) ?_ ?_ ?_ ?_ ?_
  · rcases Nat.lt_or_ge j c.nt with h | h
    · rw [(hF.1 h).1]; simp
    · rw [(hF.2 (by omega)).1]; simp
  · simp [keptB]; omega
  · intro k _
    simp [okV, lowV, lowC, notAny, i64]; omega
  · intro b hb
    simp only [List.mem_cons, List.not_mem_nil, or_false] at hb
    rcases hb with rfl | rfl
    · exact rBlk_low
    · exact cfgB_low (by omega)
  · intro k hk
    have hm := hmin k hk
    have hlt : k < c.nt := by omega
    have hw : IntKind.wrap IntKind.i64 (Int.ofNat k + Int.ofNat 1) = Int.ofNat (k + 1) := by rw [wrap_nat _ (by simp; omega) (by simp; omega)]; rfl
    have ek : 0 + Int.toNat (Int.ofNat k) = k := by simp
    have hb : 0 ≤ (c.ft k).node ∧ (c.ft k).node < c.nodes := by
      unfold ruleSt at hm
      split at hm
      · assumption
      · cases hm
    have hh : withinF (c.ft k).hold 1 100 = 0 := by unfold ruleSt at hm; rw [if_pos hb] at hm; exact hm
    refine ntt c k _ ?_
    simp only [ek]
    repeat' (first | refine ⟨fun h => ?_, fun h => ?_⟩ | fail)
    all_goals (first | (exfalso; simp at *; omega) | (exfalso; simp [hh] at h; done) | skip)
    refine ⟨⟨?_, rfl, by dsimp only; omega, rfl⟩, rfl, ?_, BL.refl _⟩
    · simp only [allT, List.forall_mem_cons, inb_arr, inb_lit]
      simp [hh]; omega
    · dsimp only; rw [hw]; rfl
  · have ek : 0 + Int.toNat (Int.ofNat j) = j := by simp
    refine ntt c j _ ?_
    simp only [ek]
    rcases Nat.lt_or_ge j c.nt with hlt | hge
    · obtain ⟨rfl, rfl, rfl⟩ := hF.1 hlt
      have hy := hyes hlt
      unfold ruleSt at hy ⊢
      by_cases hb : 0 ≤ (c.ft j).node ∧ (c.ft j).node < c.nodes
      · rw [if_pos hb] at hy ⊢
        repeat' (first | refine ⟨fun h => ?_, fun h => ?_⟩ | fail)
        all_goals (first | (exfalso; simp at *; omega) | (exfalso; simp [hy] at h; done) | skip)
        refine EndV_one ⟨?_, rfl, by dsimp only; omega, rfl⟩ rfl rfl (by simp [i64])
        simp only [allT, List.forall_mem_cons, inb_arr, inb_lit]
        simp [hy]; omega
      · rw [if_neg hb] at hy ⊢
        repeat' (first | refine ⟨fun h => ?_, fun h => ?_⟩ | fail)
        all_goals (first | (exfalso; simp at *; omega) | skip)
        all_goals (refine EndV_one ⟨?_, rfl, by dsimp only; omega, rfl⟩ rfl rfl (by simp [i64]))
        all_goals (simp only [allT, List.forall_mem_cons, inb_arr, inb_lit]; simp at *; omega)
    · obtain rfl : j = c.nt := by omega
      obtain ⟨rfl, rfl, rfl⟩ := hF.2 rfl
      repeat' (first | refine ⟨fun h => ?_, fun h => ?_⟩ | fail)
      all_goals (first | (exfalso; simp at *; done) | skip)
      refine ⟨⟨?_, rfl, by dsimp only; omega, rfl⟩, rfl, fun q hq => ?_, fun p hpp => ?_⟩
      · simp [allT]
      · rw [List.mem_singleton.1 hq]
        exact ⟨by simp [okV, lowV, lowC, notAny]; omega, by simp [lkA]⟩
      · rw [List.mem_singleton.1 hpp]
        exact ⟨by simp [keptB]; omega, cfgB_low (by omega), cfgB c, by dsimp only [List.zip, List.zipWith]; exact List.mem_cons_of_mem _ (List.mem_cons_self ..), BEq.refl _⟩
end Go.Proofs.YtjefjmkeigfplaaDoor
end
/- sennitref04.New: contract. -/
section
namespace Go.Proofs.YtjefjmkeigfplaaDoor
open Go.RowKit

def ref4 (c : Cfg) : Int :=
  if rule1 c ≠ 0 then rule1 c else if rule2 c ≠ 0 then rule2 c else if pairs4 c = false then 1 else if rule4 c ≠ 0 then rule4 c else if slots4 c = false then 1 else if rule6 c ≠ 0 then rule6 c else if rule7 c ≠ 0 then rule7 c else if rule8 c ≠ 0 then rule8 c else if rule9 c ≠ 0 then rule9 c else rule10 c
def n4V (c : Cfg) (r : VF) : Prop := r.1 = i64 (ref4 c) ∧ r.2.2.1 ≤ lim ∧ allT r.2.2.2.1 ∧ ∀ q ∈ r.2.2.2.2, q
theorem max_if {n : Int} (h4 : 4 ≤ n) (h16 : n ≤ 16) : (if IntKind.wrap IntKind.i64 (n + Int.ofNat 116) > IntKind.wrap IntKind.i64 (IntKind.wrap IntKind.i64 (Int.ofNat 3 * n) + Int.ofNat 1) then IntKind.wrap IntKind.i64 (n + Int.ofNat 116) else IntKind.wrap IntKind.i64 (IntKind.wrap IntKind.i64 (Int.ofNat 3 * n) + Int.ofNat 1)) = max (3 * n + 1) (n + 116) := by
  have w1 : IntKind.wrap IntKind.i64 (n + Int.ofNat 116) = n + 116 := by
    rw [wrap_nat _ (by simp; omega) (by simp; omega)]; simp
  have w2 : IntKind.wrap IntKind.i64 (IntKind.wrap IntKind.i64 (Int.ofNat 3 * n) + Int.ofNat 1) = 3 * n + 1 := by
    rw [wrap_nat (Int.ofNat 3 * n) (by simp; omega) (by simp; omega), wrap_nat _ (by simp; omega) (by simp; omega)]; simp
  rw [w1, w2]
  split <;> omega
theorem each_stop {f : Nat → Int} {n j : Nat} {lo hi : Int} (hmin : ∀ i, i < j → withinF (f i) lo hi = 0) (hj : j < n) (hy : withinF (f j) lo hi ≠ 0) : eachF f n lo hi = withinF (f j) lo hi := by
  unfold eachF
  rw [find_first (j := j) (fun i hi => by simp [hmin i hi]) (Nat.le_of_lt hj) (fun _ => by simp [hy]), if_pos hj]
theorem each_end {f : Nat → Int} {n : Nat} {lo hi : Int} (hmin : ∀ i, i < n → withinF (f i) lo hi = 0) : eachF f n lo hi = 0 := by
  unfold eachF
  rw [find_first (j := n) (fun i hi => by simp [hmin i hi]) (Nat.le_refl _) (fun h => absurd h (Nat.lt_irrefl _)), if_neg (Nat.lt_irrefl _)]
theorem rule9_stop {c : Cfg} {j : Nat} (hmin : ∀ i, i < j → ruleSt c i = 0) (hj : j < c.nt) (hy : ruleSt c j ≠ 0) : rule9 c = ruleSt c j := by
  unfold rule9
  rw [find_first (j := j) (fun i hi => by simp [hmin i hi]) (Nat.le_of_lt hj) (fun _ => by simp [hy]), if_pos hj]
theorem rule9_end {c : Cfg} (hmin : ∀ i, i < c.nt → ruleSt c i = 0) : rule9 c = 0 := by
  unfold rule9
  rw [find_first (j := c.nt) (fun i hi => by simp [hmin i hi]) (Nat.le_refl _) (fun h => absurd h (Nat.lt_irrefl _)), if_neg (Nat.lt_irrefl _)]
theorem ref4_run (c : Cfg) : ∃ p lp r, n4R Tryd.prog c lp p = some r ∧ n4V c r := by
  have f2 : rule2 c = 0 → 2 ≤ c.np ∧ c.np ≤ 8 := fun h => by have := withinF_zero h; omega
  have f4 : rule4 c = 0 → 1 ≤ c.ns ∧ c.ns ≤ 16 := fun h => by have := withinF_zero h; omega
  have f8 : rule8 c = 0 → c.nt ≤ 8 := fun h => by have := withinF_zero h; omega
  have f1 : rule1 c = 0 → 4 ≤ c.nodes ∧ c.nodes ≤ 16 := fun h => withinF_zero h
  obtain ⟨j, hj, hmin, hyes⟩ := first_stopP c.nb fun i => withinF (c.fb i) 0 4096 ≠ 0
  simp only [ne_eq, Decidable.not_not] at hmin
  obtain ⟨i, hi, him, hiy⟩ := first_stopP c.nt fun i => ruleSt c i ≠ 0
  simp only [ne_eq, Decidable.not_not] at him
  have r1 : withinF (Cfg.nodes c) (Int.ofNat 4) (Int.ofNat 16) = rule1 c := rfl
  have r2 : withinF (↑(Cfg.np c)) (Int.ofNat 2) (Int.ofNat 8) = rule2 c := rfl
  have r4 : withinF (↑(Cfg.ns c)) (Int.ofNat 1) (Int.ofNat 16) = rule4 c := rfl
  have r6 : withinF (Cfg.long c) (max (3 * Cfg.nodes c + 1) (Cfg.nodes c + 116)) (Int.ofNat 4096) = rule6 c := rfl
  have r8 : withinF (↑(Cfg.nt c)) (Int.ofNat 0) (Int.ofNat 8) = rule8 c := rfl
  have z1 : Int.ofNat 1 = 1 := rfl
  have z0 : Int.ofNat 0 = 0 := rfl
  have z100 : Int.ofNat 100 = 100 := rfl
  by_cases h1 : rule1 c = 0
  · obtain ⟨g4, g16⟩ := f1 h1
    have hmx := max_if g4 g16
    rcases Nat.lt_or_ge j c.nb with hlt | hge
    · have hy := hyes hlt
      have e7 : (c.nb : Int) = c.nodes → rule7 c = withinF (c.fb j) 0 4096 := fun h => by unfold rule7; rw [if_pos h, each_stop hmin hlt hy]
      have e7' : ¬ (c.nb : Int) = c.nodes → rule7 c = 1 := fun h => by unfold rule7; rw [if_neg h]
      refine (?_ : (∃ p r, n4R Tryd.prog c [some (n4S1 .ret [(2, i64 (withinF (c.fb j) 0 4096))] [])] p = some r ∧ n4V c r) → _) (n4A c (withinF (c.fb j) 0 4096) (n4V c) ?_)
      · rintro ⟨p, r, q1, q2⟩
        exact ⟨p, _, r, q1, q2⟩
      simp only [cfgI_eq, cfgK_t, intsOk_ints, stsOk_sts, r1, r2, r4, hmx, r6, r8]
      repeat' (first | refine ⟨fun h => ?_, fun h => ?_⟩ | fail)
      all_goals (simp only [bne_iff_ne, ne_eq, bne_eq_false_iff_eq, Bool.not_eq_true', Bool.not_eq_false', z0, z1] at *)
      all_goals (refine ⟨?_, (by first | (unfold lim; omega) | (dsimp only; unfold lim; omega)), ?_, ?_⟩)
      all_goals (first
        | (intro q hq; cases hq; done)
        | (intro q hq
           rw [List.mem_singleton.1 hq]
           exact nb_sum c _ (by omega) (by omega) (by omega) j hj hmin (fun _ => hy) ⟨fun _ => ⟨rfl, rfl, rfl⟩, fun h => by omega⟩)
        | (simp_all [ref4, i64]; done)
        | (simp_all [allT, okPr, okSl]; done)
        | (simp_all [allT, okPr, okSl]; omega)
        | fail)
    · obtain rfl : j = c.nb := by omega
      have e7 : (c.nb : Int) = c.nodes → rule7 c = 0 := fun h => by unfold rule7; rw [if_pos h, each_end hmin]
      have e7' : ¬ (c.nb : Int) = c.nodes → rule7 c = 1 := fun h => by unfold rule7; rw [if_neg h]
      have r10a : withinF (Cfg.miss c) (Int.ofNat 1) (Int.ofNat 100) = withinF c.miss 1 100 := rfl
      have r10b : withinF (Cfg.good c) (Int.ofNat 1) (Int.ofNat 100) = withinF c.good 1 100 := rfl
      have r10c : withinF (Cfg.fresh c) (Int.ofNat 1) (Int.ofNat 100) = withinF c.fresh 1 100 := rfl
      rcases Nat.lt_or_ge i c.nt with hlt | hge
      · have hy := hiy hlt
        have e9 : rule9 c = ruleSt c i := rule9_stop him hlt hy
        refine (?_ : (∃ p r, n4R Tryd.prog c [some (n4S1 (.exit 0) [(1, .c (.ptr 1000 0 0))] [(1000, cfgB c), (3, sts c.nt c.ft)]), some (n4S2 .ret [(2, i64 (ruleSt c i))] [])] p = some r ∧ n4V c r) → _) (n4B c (ruleSt c i) (n4V c) ?_)
        · rintro ⟨p, r, q1, q2⟩
          exact ⟨p, _, r, q1, q2⟩
        simp only [cfgI_eq, cfgK_t, intsOk_ints, stsOk_sts, r1, r2, r4, hmx, r6, r8, r10a, r10b, r10c]
        repeat' (first | refine ⟨fun h => ?_, fun h => ?_⟩ | fail)
        all_goals (simp only [bne_iff_ne, ne_eq, bne_eq_false_iff_eq, Bool.not_eq_true', Bool.not_eq_false', z0, z1] at *)
        all_goals (refine ⟨?_, (by first | (unfold lim; omega) | (dsimp only; unfold lim; omega)), ?_, ?_⟩)
        all_goals (first
          | (intro q hq; cases hq; done)
          | (intro q hq
             rw [List.mem_singleton.1 hq]
             exact nb_sum c _ (by omega) (by omega) (by omega) c.nb (Nat.le_refl _) hmin (fun h => by omega) ⟨fun h => by omega, fun _ => ⟨rfl, rfl, rfl⟩⟩)
          | (intro q hq
             simp only [List.mem_cons, List.not_mem_nil, or_false] at hq
             rcases hq with rfl | rfl
             · exact nt_sum c _ (by omega) (by omega) (by omega) i hi him (fun _ => hy) ⟨fun _ => ⟨rfl, rfl, rfl⟩, fun h => by omega⟩
             · exact nb_sum c _ (by omega) (by omega) (by omega) c.nb (Nat.le_refl _) hmin (fun h => by omega) ⟨fun h => by omega, fun _ => ⟨rfl, rfl, rfl⟩⟩)
          | (simp_all [ref4, i64, rule10]; done)
          | (simp_all [allT, okPr, okSl]; done)
          | (simp_all [allT, okPr, okSl]; omega)
          | fail)
      · obtain rfl : i = c.nt := by omega
        have e9 : rule9 c = 0 := rule9_end him
        refine (?_ : (∃ p r, n4R Tryd.prog c [some (n4S1 (.exit 0) [(1, .c (.ptr 1000 0 0))] [(1000, cfgB c), (3, sts c.nt c.ft)]), some (n4S2 (.exit 2) [(1, .c (.ptr 1000 0 0))] [(1000, cfgB c)])] p = some r ∧ n4V c r) → _) (n4C c (n4V c) ?_)
        · rintro ⟨p, r, q1, q2⟩
          exact ⟨p, _, r, q1, q2⟩
        simp only [cfgI_eq, cfgK_t, intsOk_ints, stsOk_sts, r1, r2, r4, hmx, r6, r8, r10a, r10b, r10c]
        repeat' (first | refine ⟨fun h => ?_, fun h => ?_⟩ | fail)
        all_goals (simp only [bne_iff_ne, ne_eq, bne_eq_false_iff_eq, Bool.not_eq_true', Bool.not_eq_false', z0, z1] at *)
        all_goals (refine ⟨?_, (by first | (unfold lim; omega) | (dsimp only; unfold lim; omega)), ?_, ?_⟩)
        all_goals (first
          | (intro q hq; cases hq; done)
          | (intro q hq
             rw [List.mem_singleton.1 hq]
             exact nb_sum c _ (by omega) (by omega) (by omega) c.nb (Nat.le_refl _) hmin (fun h => by omega) ⟨fun h => by omega, fun _ => ⟨rfl, rfl, rfl⟩⟩)
          | (intro q hq
             simp only [List.mem_cons, List.not_mem_nil, or_false] at hq
             rcases hq with rfl | rfl
             · exact nt_sum c _ (by omega) (by omega) (by omega) c.nt (Nat.le_refl _) him (fun h => by omega) ⟨fun h => by omega, fun _ => ⟨rfl, rfl, rfl⟩⟩
             · exact nb_sum c _ (by omega) (by omega) (by omega) c.nb (Nat.le_refl _) hmin (fun h => by omega) ⟨fun h => by omega, fun _ => ⟨rfl, rfl, rfl⟩⟩)
          | (simp_all [ref4, i64, rule10]; done)
          | (simp_all [allT, okPr, okSl]; done)
          | (simp_all [allT, okPr, okSl]; omega)
          | fail)
  · refine (?_ : (∃ p r, n4R Tryd.prog c [some (n4S1 .ret [(2, i64 0)] [])] p = some r ∧ n4V c r) → _) (n4A c 0 (n4V c) ?_)
    · rintro ⟨p, r, q1, q2⟩
      exact ⟨p, _, r, q1, q2⟩
    simp only [r1]
    refine ⟨fun h => ⟨?_, (by first | (unfold lim; omega) | (dsimp only; unfold lim; omega)), ?_, fun q hq => (by cases hq)⟩, fun h => ?_⟩
    · show i64 (rule1 c) = i64 (ref4 c)
      unfold ref4
      rw [if_pos h1]
    · simp [allT]
      exact h1
    · exfalso
      simp at h
      exact h1 h
end Go.Proofs.YtjefjmkeigfplaaDoor
end
/- What the document says is wrong with a config is what configs.New says. No Go text is in sight. -/
section
namespace Go.Proofs.YtjefjmkeigfplaaDoor
open Go.RowKit

theorem slots_eq (c : Cfg) : slots4 c = all5 c c.np := by
  have hin : ((List.range c.ns).all fun k => decide (¬ BadS c k)) = insideF c.fs c.ns c.np := by
    unfold insideF BadS
    congr 1
    funext k
    simp only [decide_eq_decide]
    omega
  unfold slots4 all5
  rw [hin]
  cases hi : insideF c.fs c.ns c.np with
  | false => rfl
  | true =>
    have h0 : ∀ k, k < c.ns → 0 ≤ c.fs k := fun k hk => by
      have := List.all_eq_true.1 hi k (by simpa using hk)
      simp at this
      exact this.1
    rw [Bool.true_and, Bool.true_and]
    congr 1
    funext i
    unfold hasQ hasF
    rw [Bool.eq_iff_iff]
    simp only [Bool.not_eq_false, decide_eq_true_eq, List.any_eq_true, List.mem_range, beq_iff_eq]
    constructor
    · rintro ⟨p, h1, h2⟩
      exact ⟨p, h1, by have := h0 p h1; simp; omega⟩
    · rintro ⟨p, h1, h2⟩
      exact ⟨p, h1, by have := h0 p h1; simp at h2; omega⟩
theorem used_iff (c : Cfg) (k i : Nat) : usedF c k i = true ↔ ∃ p, p < k ∧ (i = (c.fp p).toNat ∨ i = (nxt4 c p).toNat) := by
  unfold usedF
  simp [List.any_eq_true]
def Fair (c : Cfg) : Prop := (∀ i, i < c.np → 0 ≤ c.fp i ∧ c.fp i < c.nodes) ∧ (∀ i, i + 1 < c.np → c.fp i ≤ c.fp (i + 1)) ∧ (∀ p q, p < q → q < c.np → c.fp p ≠ c.fp q ∧ c.fp p ≠ nxt4 c q ∧ nxt4 c p ≠ c.fp q ∧ nxt4 c p ≠ nxt4 c q)
theorem nxt4_ne (c : Cfg) (p : Nat) (h4 : 4 ≤ c.nodes) (h0 : 0 ≤ c.fp p) (h1 : c.fp p < c.nodes) : c.fp p ≠ nxt4 c p := by
  unfold nxt4
  rw [Int.tmod_eq_emod_of_nonneg (by omega)]
  rcases (by omega : c.fp p + 1 < c.nodes ∨ c.fp p + 1 = c.nodes) with h | h
  · rw [Int.emod_eq_of_lt (by omega) h]; omega
  · rw [h, Int.emod_self]; omega
theorem pairs_fair (c : Cfg) (h4 : 4 ≤ c.nodes) : pairs4 c = true ↔ Fair c := by
  have hp : pairs4 c = true ↔ ∀ k, k < c.np → ¬ BadP c k := by
    unfold pairs4
    simp [List.all_eq_true]
  rw [hp]
  constructor
  · intro h
    have hin : ∀ i, i < c.np → 0 ≤ c.fp i ∧ c.fp i < c.nodes := fun i hi => by
      have := h i hi
      unfold BadP at this
      omega
    refine ⟨hin, fun i hi => ?_, fun p q hpq hq => ?_⟩
    · have := h (i + 1) hi
      unfold BadP at this
      simp only [not_or, not_and, Nat.add_sub_cancel] at this
      have := this.2.2.1 (by omega)
      omega
    · have hq' := h q hq
      unfold BadP at hq'
      simp only [not_or, used_iff] at hq'
      obtain ⟨_, _, _, u1, u2⟩ := hq'
      obtain ⟨a0, a1⟩ := hin p (by omega)
      obtain ⟨b0, b1⟩ := hin q hq
      obtain ⟨n0, _⟩ := nxt4_in c p h4 a0
      obtain ⟨m0, _⟩ := nxt4_in c q h4 b0
      refine ⟨fun e => u1 ⟨p, hpq, .inl (by rw [e])⟩, fun e => u2 ⟨p, hpq, .inl (by rw [e])⟩, fun e => u1 ⟨p, hpq, .inr (by rw [e])⟩, fun e => u2 ⟨p, hpq, .inr (by rw [e])⟩⟩
  · rintro ⟨hin, hs, hd⟩ k hk
    obtain ⟨b0, b1⟩ := hin k hk
    obtain ⟨m0, _⟩ := nxt4_in c k h4 b0
    unfold BadP
    simp only [not_or, used_iff]
    refine ⟨by omega, by omega, ?_, ?_, ?_⟩
    · rintro ⟨h0, h1⟩
      have h2 := hs (k - 1) (by omega)
      rw [show k - 1 + 1 = k by omega] at h2
      exact (hd (k - 1) k (by omega) hk).1 (by omega)
    · rintro ⟨p, hpk, e⟩
      obtain ⟨a0, a1⟩ := hin p (by omega)
      obtain ⟨n0, _⟩ := nxt4_in c p h4 a0
      obtain ⟨d1, d2, d3, d4⟩ := hd p k hpk hk
      rcases e with e | e <;> omega
    · rintro ⟨p, hpk, e⟩
      obtain ⟨a0, a1⟩ := hin p (by omega)
      obtain ⟨n0, _⟩ := nxt4_in c p h4 a0
      obtain ⟨d1, d2, d3, d4⟩ := hd p k hpk hk
      rcases e with e | e <;> omega
theorem rule3_fair (c : Cfg) (h4 : 4 ≤ c.nodes) (h16 : c.nodes ≤ 16) : rule3 c = 0 ↔ Fair c := by
  have h3 : rule3 c = 0 ↔ (insideF c.fp c.np c.nodes = true ∧ sortedF c.fp c.np = true ∧ nodupF (halfF c) (2 * c.np) = true) := by
    unfold rule3
    simp only [Bool.and_eq_true]
    split <;> simp_all
  have hi : insideF c.fp c.np c.nodes = true ↔ ∀ i, i < c.np → 0 ≤ c.fp i ∧ c.fp i < c.nodes := by
    unfold insideF
    simp [List.all_eq_true]
  have hs : sortedF c.fp c.np = true ↔ ∀ i, i + 1 < c.np → c.fp i ≤ c.fp (i + 1) := by
    unfold sortedF
    simp only [List.all_eq_true, List.mem_range, decide_eq_true_eq]
    exact ⟨fun h i hi => h i (by omega), fun h i hi => h i (by omega)⟩
  have hn : nodupF (halfF c) (2 * c.np) = true ↔ ∀ q q', q < q' → q' < 2 * c.np → halfF c q ≠ halfF c q' := by
    unfold nodupF
    rw [decide_eq_true_eq, List.Nodup, List.pairwise_map, List.pairwise_iff_getElem]
    simp only [List.length_range, List.getElem_range]
    exact ⟨fun h q q' h1 h2 => h q q' (by omega) h2 h1, fun h q q' _ h2 h1 => h q q' h1 h2⟩
  rw [h3, hi, hs, hn]
  unfold Fair
  refine and_congr_right fun hin => and_congr_right fun _ => ?_
  have he : ∀ p, halfF c (2 * p) = c.fp p := fun p => by unfold halfF; rw [if_pos (by omega), show 2 * p / 2 = p by omega]
  have ho : ∀ p, p < c.np → halfF c (2 * p + 1) = nxt4 c p := fun p hp => by
    obtain ⟨a0, a1⟩ := hin p hp
    unfold halfF ringF nxt4
    rw [if_neg (by omega), show (2 * p + 1) / 2 = p by omega, if_pos ⟨h4, h16, a0, a1⟩, Int.tmod_eq_emod_of_nonneg (by omega)]
  constructor
  · intro h p q hpq hq
    refine ⟨?_, ?_, ?_, ?_⟩
    · have := h (2 * p) (2 * q) (by omega) (by omega); rwa [he, he] at this
    · have := h (2 * p) (2 * q + 1) (by omega) (by omega); rwa [he, ho q hq] at this
    · have := h (2 * p + 1) (2 * q) (by omega) (by omega); rwa [he, ho p (by omega)] at this
    · have := h (2 * p + 1) (2 * q + 1) (by omega) (by omega); rwa [ho p (by omega), ho q hq] at this
  · intro h q q' h1 h2
    obtain ⟨x, hx⟩ : ∃ x, x = q / 2 := ⟨_, rfl⟩
    obtain ⟨y, hy⟩ : ∃ y, y = q' / 2 := ⟨_, rfl⟩
    have hyn : y < c.np := by omega
    rcases Nat.lt_or_ge x y with hxy | hxy
    · obtain ⟨d1, d2, d3, d4⟩ := h x y hxy hyn
      rcases (by omega : q = 2 * x ∨ q = 2 * x + 1) with rfl | rfl <;> rcases (by omega : q' = 2 * y ∨ q' = 2 * y + 1) with rfl | rfl
      · rw [he, he]; exact d1
      · rw [he, ho y hyn]; exact d2
      · rw [he, ho x (by omega)]; exact d3
      · rw [ho x (by omega), ho y hyn]; exact d4
    · obtain rfl : x = y := by omega
      obtain rfl : q = 2 * x := by omega
      obtain rfl : q' = 2 * x + 1 := by omega
      obtain ⟨a0, a1⟩ := hin x hyn
      rw [he, ho x hyn]
      exact nxt4_ne c x h4 a0 a1
theorem ref4_eq (c : Cfg) : ref4 c = cfgErr c := by
  unfold ref4 cfgErr
  by_cases h1 : rule1 c = 0
  · obtain ⟨g4, g16⟩ := withinF_zero h1
    have hp : pairs4 c = false ↔ rule3 c ≠ 0 := by
      rw [← Bool.not_eq_true, pairs_fair c g4, ← rule3_fair c g4 g16]
    have h3 : rule3 c ≠ 0 → rule3 c = 1 := by
      unfold rule3
      split
      · intro h; exact absurd rfl h
      · intro _; rfl
    have h5 : slots4 c = false ↔ rule5 c ≠ 0 := by
      rw [slots_eq]
      unfold rule5
      cases all5 c c.np <;> simp
    have h5' : rule5 c ≠ 0 → rule5 c = 1 := by
      unfold rule5
      split
      · intro h; exact absurd rfl h
      · intro _; rfl
    by_cases e3 : rule3 c = 0
    · by_cases e5 : rule5 c = 0
      · simp [h1, hp, h5, e3, e5]
      · simp [h1, hp, h5, e3, e5, h5' e5]
    · simp [h1, hp, e3, h3 e3]
  · simp [h1]
end Go.Proofs.YtjefjmkeigfplaaDoor
end
/- sennitref04.New: contract. -/
section
namespace Go.Proofs.YtjefjmkeigfplaaDoor
open Go.RowKit

theorem ct_ref4 : CtOk Tryd.prog 13 (ctCfg (fun c => i64 (cfgErr c)) fun _ => true) := by
  refine ctCfg_of (E := ENq Tryd.prog) (fuel := 300) (str := 10000000000000000000000000000000000000000) hENq ⟨_, _, Tryd.func13, rfl⟩ (fun c => plain_i64 _) fun c _ => ?_
  obtain ⟨p, lp, r, h1, h2⟩ := ref4_run c
  unfold n4V at h2
  rw [ref4_eq] at h2
  exact ⟨p, lp, r, h1, h2⟩
end Go.Proofs.YtjefjmkeigfplaaDoor
end
/- clocks.Ahead as the evaluator runs it. -/
section
namespace Go.Proofs.YtjefjmkeigfplaaDoor
open Go.RowKit

def ctsAg : List (FuncId × CtF) := (18, ctCkAge) :: ctNo
theorem ctsAg_ok : ∀ f g, (f, g) ∈ ctsAg → CtOk Tryd.prog f g := by
  intro f g h
  rcases List.mem_cons.1 h with h | h
  · cases h; exact ct_ckAge
  · exact ctNo_ok f g h
def ENag (P : Program) : Env := ⟨P, ctsAg⟩
theorem hENag : EnvOk (ENag Tryd.prog) := envOk ctsAg_ok (by kernel_rfl) (by kernel_rfl)
def ckAheadE (P : Program) (c : Cfg) (nq : Nat) (fq : Nat → Int) (x y z : Int) (path : List Dec) : Option VF := ntE (ENag P) 11 c nq fq [tmA x y z] path []
theorem ckAhead (c : Cfg) (nq : Nat) (fq : Nat → Int) (x y z : Int) (Q : VF → Prop) (H : (((agE c x y z != Int.ofNat 0) = true → Q (.c (.v (.int .i64 (Int.negSucc 0))), [], 1012, [(agE c x y z != Int.ofNat 0) == true, netK c nq fq, agP (NetS.mk c nq fq [.agg [.v (.int .i64 x), .v (.int .i64 y), .v (.int .i64 z)]]), true, true, true, true], [])) ∧ ((agE c x y z != Int.ofNat 0) = false → Q (.c (.v (.int .i64 (IntKind.wrap .i64 (IntKind.wrap .i64 (x * ↑(c.ns)) + y)))), [], 130000000000000000000000000000000000001011, [true, true, true, true, true, (agE c x y z != Int.ofNat 0) == false, netK c nq fq, agP (NetS.mk c nq fq [.agg [.v (.int .i64 x), .v (.int .i64 y), .v (.int .i64 z)]]), true, true, true, true], [])))) :
    ∃ p r, ckAheadE Tryd.prog c nq fq x y z p = some r ∧ Q r := by
  rcases Bool.eq_false_or_eq_true (agE c x y z != Int.ofNat 0) with h2 | h2
  · have g2 := H.1 h2
    exact ⟨([.b true] : List Dec), _, by kernel_rfl, g2⟩
  · have g2 := H.2 h2
    exact ⟨([.b false] : List Dec), _, by kernel_rfl, g2⟩
end Go.Proofs.YtjefjmkeigfplaaDoor
end
