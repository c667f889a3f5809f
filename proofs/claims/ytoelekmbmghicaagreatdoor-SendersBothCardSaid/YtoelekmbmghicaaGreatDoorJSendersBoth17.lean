/- Parts, one behind the other. Contract of sennitref10.Of. -/
import Derived.Test.YtoelekmbmghicaaGreatDoorJSendersBoth16
import Derived.Test.YtoelekmbmghicaaGreatDoorJSendersBoth10
import Derived.Test.YtoelekmbmghicaaGreatDoorJSendersBoth11
set_option linter.unusedSimpArgs false
set_option linter.unusedVariables false
/- Contract of sennitref10.Of. -/
section
namespace Go.Proofs.YtoelekmbmghicaaGreatDoor
open Go.RowKit
def cwR : CfgS → AV
 | ⟨c, [.c (.v (.int .u8 d)), .c (.v (.int .i64 o)), .c (.v (.int .i64 k))]⟩ => .tup [winA .i64 (wR (wiP c d o k)) (wP (wiP c d o k)) (wB (wiP c d o k)) (wN (wiP c d o k)), i64 (wE (wiP c d o k))]
 | _ => i64 0
def cwQ : CfgS → Bool
 | ⟨c, [.c (.v (.int .u8 d)), .c (.v (.int .i64 _)), .c (.v (.int .i64 _))]⟩ => wiPre c 1 && decide (0 ≤ d)
 | _ => false
def ctRwOf : CtF := ctRd cfgRd cwR cwQ
set_option maxRecDepth 100000 in
theorem ct_rwOf : CtOk Tryz.prog 56 ctRwOf := by
 refine ctRd_ofE (E := ENwn Tryz.prog) hENwn cfgRd (fuel := 300) (str := 10000000000000000000000000000000000000000) ⟨_, _, Tryz.func56, rfl⟩ (fun s => by unfold cwR; split <;> rfl) fun s hs => ?_
 unfold cwQ at hs
 split at hs
 · rename_i c d o k
   simp only [wiPre, Bool.and_eq_true, decide_eq_true_eq] at hs
   obtain ⟨⟨h1, h2⟩, h3⟩ := hs
   refine (?_ : (∃ p q, cfE (ENwn Tryz.prog) 56 c [u8A d, i64 o, i64 k] p [] = some q ∧ GoodF (.tup [winA .i64 (wR (wiP c d o k)) (wP (wiP c d o k)) (wB (wiP c d o k)) (wN (wiP c d o k)), i64 (wE (wiP c d o k))]) q) → _) (rwOf c d o k _ ?_)
   · rintro ⟨p, q, h1, h2⟩
     exact ⟨p, [], q, h1, h2⟩
   · obtain ⟨n4, n16, hf⟩ := heads_ok h2
     have hbad : (1 < d ∨ o < 0 ∨ (c.np : Int) ≤ o ∨ k < 0 ∨ c.nodes ≤ k) → wiP c d o k = -1 := by
      intro h
      unfold wiP placeF
      refine if_neg ?_
      unfold atF
      simp [ringB, nodeB]
      intro g1 g2 g3 g4 g5
      split at g4
      · omega
      · omega
     have hgood : d ≤ 1 → 0 ≤ o → o < c.np → 0 ≤ k → k < c.nodes → placeF c.nodes d (c.fp (0 + o.toNat)) k = wiP c d o k ∧ 0 ≤ wiP c d o k ∧ wiP c d o k < 16 := by
      intro g1 g2 g3 g4 g5
      have e : c.fp (0 + o.toNat) = atF c.fp c.np o := by unfold atF; rw [if_pos ⟨g2, g3⟩, Nat.zero_add]
      have i1 := hf o.toNat (by omega)
      rw [Nat.zero_add] at e
      rw [e] at i1
      rw [Nat.zero_add, e]
      refine ⟨rfl, ?_⟩
      unfold wiP placeF
      rw [if_pos (by simp [ringB, nodeB]; omega)]
      have m1 := Int.emod_nonneg (k - atF c.fp c.np o) (show c.nodes ≠ 0 by omega)
      have m2 := Int.emod_lt_of_pos (k - atF c.fp c.np o) (show 0 < c.nodes by omega)
      have m3 := Int.emod_nonneg (atF c.fp c.np o + 1 - k) (show c.nodes ≠ 0 by omega)
      have m4 := Int.emod_lt_of_pos (atF c.fp c.np o + 1 - k) (show 0 < c.nodes by omega)
      split <;> omega
     obtain ⟨p, hp⟩ : ∃ p, wiP c d o k = p := ⟨_, rfl⟩
     obtain ⟨z, hz⟩ : ∃ z, placeF c.nodes d (c.fp (0 + o.toNat)) k = z := ⟨_, rfl⟩
     rw [hp] at hbad hgood
     rw [hz] at hgood
     simp only [hp, hz, okN4_eq]
     have w1 : 0 ≤ z → z < 16 → IntKind.wrap IntKind.i64 (Int.ofNat 1 + z) = 1 + z := fun _ _ => by rw [wrap_nat _ (by simp; omega) (by simp; omega)]; simp
     have w2 : 0 ≤ z → z < 16 → IntKind.wrap IntKind.i64 (1 + z + Int.ofNat 114) = 115 + z := fun _ _ => by rw [wrap_nat _ (by simp; omega) (by simp; omega)]; simp; omega
     (repeat' (first | refine ⟨fun h => ?_, fun h => ?_⟩ | fail))
     all_goals (simp only [decide_eq_true_eq, decide_eq_false_iff_not, beq_iff_eq, beq_eq_false_iff_ne, ne_eq, Int.ofNat_eq_natCast, Int.cast_ofNat_Int, gt_iff_lt, ge_iff_le] at *)
     all_goals (refine ⟨?_, (by first | (unfold lim; omega) | (dsimp only; unfold lim; omega)), ?_, by simp⟩)
     all_goals first
      | (have := hbad (by omega)
         subst this
         rfl)
      | (obtain ⟨rfl, g1, g2⟩ := hgood (by omega) (by omega) (by omega) (by omega) (by omega)
         rw [w1 g1 g2, w2 g1 g2]
         first
          | (simp [wR, wP, wB, wN, wE, i64, show ¬ z < 0 by omega, show z < 2 by omega]; done)
          | (simp [wR, wP, wB, wN, wE, i64, show z = 2 by omega]; done)
          | (simp [wR, wP, wB, wN, wE, i64, show ¬ z < 0 by omega, show ¬ z < 2 by omega, show ¬ z = 2 by omega]; done))
      | (simp only [allT, List.forall_mem_cons, List.not_mem_nil, false_implies, implies_true, and_true, true_and, cfgK_t, netK_t, intsOk_ints, stsOk_sts, intsOk_s, stsOk_s, beq_iff_eq, decide_eq_true_eq, decide_eq_false_iff_not, beq_eq_false_iff_ne, bne_iff_ne, bne_eq_false_iff_eq, Bool.not_eq_true', Bool.not_eq_false', ne_eq, Int.ofNat_eq_natCast, Int.cast_ofNat_Int, gt_iff_lt, ge_iff_le]; omega)
      | (simp only [allT, List.forall_mem_cons, inb_arr]
         simp
         omega)
 · cases hs
end Go.Proofs.YtoelekmbmghicaaGreatDoor
end
/- Contracts of (Window).At, sennitref10.At. -/
section
namespace Go.Proofs.YtoelekmbmghicaaGreatDoor
open Go.RowKit
def atB (b e x : Int) : Bool := decide (b ≤ x) && decide (x < e)
def atI (b e x : Int) : Int := if atB b e x = true then x - b else 0
def smallB (z : Int) : Bool := decide (0 ≤ z) && decide (z ≤ 1000)
def atR : List AV → AV
 | [.agg [.v (.int .u8 _), .v (.int .i64 _), .v (.int .i64 b), .v (.int .i64 e)], .c (.v (.int .i64 x))] => .tup [i64 (atI b e x), bo (atB b e x)]
 | _ => i64 0
def atQ : List AV → Bool
 | [.agg [.v (.int .u8 _), .v (.int .i64 _), .v (.int .i64 b), .v (.int .i64 e)], .c (.v (.int .i64 _))] => smallB b && smallB e
 | _ => false
theorem atQ_eq (r p b e x : Int) : atQ [.agg [.v (.int .u8 r), .v (.int .i64 p), .v (.int .i64 b), .v (.int .i64 e)], .c (.v (.int .i64 x))] = (smallB b && smallB e) := rfl
def ctWiAt : CtF := ctRd (pureRd [] rfl) atR atQ
set_option maxRecDepth 100000 in
theorem ct_wiAt : CtOk Tryz.prog 27 ctWiAt := by
 refine ctRd_ofE (E := E1 Tryz.prog) hE1 (pureRd [] rfl) (fuel := 300) (str := 10000000000000000000000000000000000000000) ⟨_, _, Tryz.func27, rfl⟩ (fun s => by unfold atR; split <;> rfl) fun s hs => ?_
 unfold atQ at hs
 split at hs
 · rename_i r p b e x
   simp only [smallB, Bool.and_eq_true, decide_eq_true_eq] at hs
   refine (?_ : (∃ y q, wiAtE Tryz.prog r p b e x y = some q ∧ GoodF (.tup [i64 (atI b e x), bo (atB b e x)]) q) → _) (wiAt r p b e x _ ?_)
   · rintro ⟨y, q, h1, h2⟩
     exact ⟨y, [], q, h1, h2⟩
   · have w1 : b ≤ x → x < e → IntKind.wrap IntKind.i64 (x - b) = x - b := fun _ _ => wrap_nat _ (by omega) (by omega)
     have hno : ¬ (b ≤ x ∧ x < e) → atB b e x = false ∧ atI b e x = 0 := fun h => by
      have : atB b e x = false := by simp [atB]; omega
      exact ⟨this, by simp [atI, this]⟩
     have hye : (b ≤ x ∧ x < e) → atB b e x = true ∧ atI b e x = x - b := fun h => by
      have : atB b e x = true := by simp [atB]; omega
      exact ⟨this, by simp [atI, this]⟩
     (repeat' (first | refine ⟨fun h => ?_, fun h => ?_⟩ | fail))
     all_goals (refine ⟨?_, (by first | (unfold lim; omega) | (dsimp only; unfold lim; omega)), ?_, by simp⟩)
     all_goals first
      | (obtain ⟨g1, g2⟩ := hno (by simp [eqF, asI] at *; omega)
         rw [g1, g2]; rfl)
      | (obtain ⟨g1, g2⟩ := hye (by simp [eqF, asI] at *; omega)
         rw [g1, g2, w1 (by simp [eqF, asI] at *; omega) (by simp [eqF, asI] at *; omega)]; rfl)
      | (simp only [allT, List.forall_mem_cons]; simp_all)
 · cases hs
def ratR : List AV → AV
 | [.agg [.v (.int .i64 _), .v (.int .i64 _), .v (.int .i64 b), .v (.int .i64 e)], .c (.v (.int .i64 x))] => .tup [i64 (atI b e x), bo (atB b e x)]
 | _ => i64 0
def ratQ : List AV → Bool
 | [.agg [.v (.int .i64 _), .v (.int .i64 _), .v (.int .i64 b), .v (.int .i64 e)], .c (.v (.int .i64 _))] => smallB b && smallB e
 | _ => false
def ctRwAt : CtF := ctRd (pureRd [] rfl) ratR ratQ
theorem wa_sum (r p b e x : Int) (hb : 0 ≤ b) (hb2 : b ≤ 1000) (he : 0 ≤ e) (he2 : e ≤ 1000) (n0 : Nat) (hn0 : 1001 ≤ n0) (hn1 : n0 ≤ 1000000000000000000000000000000000000000000) (j : Nat) (hj : j ≤ 1000) (hmin : ∀ i : Nat, i < j → (i : Int) < e - b ∧ b + i ≠ x) (hstop : ¬ ((j : Int) < e - b) ∨ b + j = x) {ex : Exit} {out : List (Nat × AV)}
 (hF : ((j : Int) < e - b → ex = .ret ∧ out = [(4, i64 (Int.ofNat j)), (5, bo true)]) ∧ (¬ (j : Int) < e - b → ex = .exit 0 ∧ out = [])) :
 LoopV Tryz.prog (loopAt Tryz.prog 57 0) [1, 2, 6] [1000] ((waV x 0).map some) ([waB r p b e].map some) 23 n0 (mkFr 23 out) [] 100000000000000000000000000000000000000000000000000 ex none := by
 refine scan_ob hE1 (fuel := 100) (str := 10000000000000000000000000000000000000000) (nh := 1000000000000000000000000000000000000000000) [1, 2, 6] [4, 5] [1000] (waV x) [waB r p b e] j hn1 (by decide) (by unfold lim; omega) ?_ (fun _ => ⟨rfl, rfl⟩) ?_ ?_ ?_ ?_ ?_
 · by_cases h : (j : Int) < e - b
   · rw [(hF.1 h).1]; simp
   · rw [(hF.2 h).1]; simp
 · simp [keptB]; omega
 · intro k _
   simp [okV, lowV, lowC, notAny, i64]; omega
 · intro q hq
   rw [List.mem_singleton.1 hq]
   exact low_lit rfl
 · intro k hk
   obtain ⟨m1, m2⟩ := hmin k hk
   have w1 : IntKind.wrap IntKind.i64 (e - b) = e - b := wrap_nat _ (by omega) (by omega)
   have w2 : IntKind.wrap IntKind.i64 (b + Int.ofNat k) = b + k := wrap_nat _ (by simp; omega) (by simp; omega)
   refine wa r p b e x k _ ?_
   simp only [w1, w2, wrap_nat1 k (show k ≤ 1000000 by omega)]
   (repeat' (first | refine ⟨fun h => ?_, fun h => ?_⟩ | fail))
   all_goals (first | (exfalso; simp at *; omega) | skip)
   refine ⟨⟨?_, rfl, by dsimp only; omega, rfl⟩, rfl, rfl, BL.refl _⟩
   simp [allT]
   omega
 · have w1 : IntKind.wrap IntKind.i64 (e - b) = e - b := wrap_nat _ (by omega) (by omega)
   have w2 : IntKind.wrap IntKind.i64 (b + Int.ofNat j) = b + j := wrap_nat _ (by simp; omega) (by simp; omega)
   refine wa r p b e x j _ ?_
   simp only [w1, w2]
   by_cases h : (j : Int) < e - b
   · obtain ⟨rfl, rfl⟩ := hF.1 h
     (repeat' (first | refine ⟨fun h => ?_, fun h => ?_⟩ | fail))
     all_goals (first | (exfalso; simp at *; omega) | skip)
     refine ⟨⟨?_, rfl, by dsimp only; omega, rfl⟩, rfl, fun q hq => ?_, fun p hp => (by cases hp)⟩
     · simp [allT]
       omega
     · simp only [List.mem_cons, List.not_mem_nil, or_false] at hq
       rcases hq with rfl | rfl
       · exact ⟨rfl, by simp [i64]⟩
       · exact ⟨rfl, by simp [bo]⟩
   · obtain ⟨rfl, rfl⟩ := hF.2 h
     (repeat' (first | refine ⟨fun h => ?_, fun h => ?_⟩ | fail))
     all_goals (first | (exfalso; simp at *; omega) | skip)
     exact EndV_nil ⟨by simp [allT]; omega, rfl, by dsimp only; omega, rfl⟩ rfl
set_option maxRecDepth 100000 in
theorem ct_rwAt : CtOk Tryz.prog 57 ctRwAt := by
 refine ctRd_ofE (E := E1 Tryz.prog) hE1 (pureRd [] rfl) (fuel := 300) (str := 10000000000000000000000000000000000000000) ⟨_, _, Tryz.func57, rfl⟩ (fun s => by unfold ratR; split <;> rfl) fun s hs => ?_
 unfold ratQ at hs
 split at hs
 · rename_i r p b e x
   simp only [smallB, Bool.and_eq_true, decide_eq_true_eq] at hs
   obtain ⟨⟨b0, b1⟩, e0, e1⟩ := hs
   by_cases hin : b ≤ x ∧ x < e
   · have g1 : atB b e x = true := by simp [atB]; omega
     have g2 : atI b e x = x - b := by simp [atI, g1]
     rw [show ratR [.agg [.v (.int .i64 r), .v (.int .i64 p), .v (.int .i64 b), .v (.int .i64 e)], .c (.v (.int .i64 x))] = .tup [i64 (x - b), bo true] by show AV.tup [i64 (atI b e x), bo (atB b e x)] = _; rw [g1, g2]]
     refine (?_ : (∃ y q, rwAtE Tryz.prog r p b e x [some ⟨[1, 2, 6], [1000], mkFr 23 [(4, i64 (Int.ofNat (x - b).toNat)), (5, bo true)], [], 100000000000000000000000000000000000000000000000000, .ret⟩] y = some q ∧ GoodF (.tup [i64 (x - b), bo true]) q) → _) (rwAt1 r p b e x (x - b).toNat _ ?_)
     · rintro ⟨y, q, h1, h2⟩
       exact ⟨y, [some ⟨[1, 2, 6], [1000], mkFr 23 [(4, i64 (Int.ofNat (x - b).toNat)), (5, bo true)], [], 100000000000000000000000000000000000000000000000000, .ret⟩], q, h1, h2⟩
     · refine ⟨?_, (by first | (unfold lim; omega) | (dsimp only; unfold lim; omega)), by simp [allT], fun q hq => ?_⟩
       · have : Int.ofNat (x - b).toNat = x - b := Int.toNat_of_nonneg (by omega)
         simp only [this]; rfl
       · rw [List.mem_singleton.1 hq]
         exact wa_sum r p b e x b0 b1 e0 e1 _ (by omega) (by omega) (x - b).toNat (by omega) (fun i hi => by omega) (.inr (by omega)) ⟨fun _ => ⟨rfl, rfl⟩, fun h => absurd (show (((x - b).toNat : Nat) : Int) < e - b by omega) h⟩
   · have g1 : atB b e x = false := by simp [atB]; omega
     have g2 : atI b e x = 0 := by simp [atI, g1]
     rw [show ratR [.agg [.v (.int .i64 r), .v (.int .i64 p), .v (.int .i64 b), .v (.int .i64 e)], .c (.v (.int .i64 x))] = .tup [i64 0, bo false] by show AV.tup [i64 (atI b e x), bo (atB b e x)] = _; rw [g1, g2]]
     refine (?_ : (∃ y q, rwAtE Tryz.prog r p b e x [some ⟨[1, 2, 6], [1000], mkFr 23 [], [], 100000000000000000000000000000000000000000000000000, .exit 0⟩] y = some q ∧ GoodF (.tup [i64 0, bo false]) q) → _) (rwAt0 r p b e x _ ?_)
     · rintro ⟨y, q, h1, h2⟩
       exact ⟨y, [some ⟨[1, 2, 6], [1000], mkFr 23 [], [], 100000000000000000000000000000000000000000000000000, .exit 0⟩], q, h1, h2⟩
     · refine ⟨rfl, (by first | (unfold lim; omega) | (dsimp only; unfold lim; omega)), by simp [allT], fun q hq => ?_⟩
       rw [List.mem_singleton.1 hq]
       exact wa_sum r p b e x b0 b1 e0 e1 _ (by omega) (by omega) (e - b).toNat (by omega) (fun i hi => by omega) (.inl (by omega)) ⟨fun h => absurd h (by omega), fun _ => ⟨rfl, rfl⟩⟩
 · cases hs
end Go.Proofs.YtoelekmbmghicaaGreatDoor
end
/- frames.Syms as the evaluator runs it. -/
section
namespace Go.Proofs.YtoelekmbmghicaaGreatDoor
open Go.RowKit
abbrev syA (o k st q v : Int) : List AV := [.agg [.v (.int .i64 o), .v (.int .u8 k), .v (.int .u8 st), .v (.int .u32 q), .v (.int .u32 v)], .agg [.v (.bool true), .v (.bool false)]]
def bodF (o k st q v : Int) : Nat → Int
 | 0 => 16 * k + o
 | 1 => st
 | 2 => q / 16777216 % 256
 | 3 => q / 65536 % 256
 | 4 => q / 256 % 256
 | 5 => q % 256
 | 6 => v / 16777216 % 256
 | 7 => v / 65536 % 256
 | 8 => v / 256 % 256
 | _ => v % 256
def sumN (f : Nat → Int) : Nat := (~~~ (crOf (natF f) 10)).toNat
def bytF (o k st q v : Int) : Nat → Int := fun i => if i < 10 then bodF o k st q v i else if i = 10 then ((sumN (bodF o k st q v) / 16777216 % 256 : Nat) : Int) else if i = 11 then ((sumN (bodF o k st q v) / 65536 % 256 : Nat) : Int) else if i = 12 then ((sumN (bodF o k st q v) / 256 % 256 : Nat) : Int) else ((sumN (bodF o k st q v) % 256 : Nat) : Int)
def syE (P : Program) (ids : List Nat) (o k st q v : Int) (path : List Dec) (lp : List (Option LSum)) : Option VF := viewF ids (fCallF (EFr P) (fC (EFr P) 300) 21 (syA o k st q v) 1000 10000000000000000000000000000000000000000 (stA [] path lp))
theorem syT (o k st q v : Int) (Q : VF → Prop) (H : let zz0 := (BitVec.toNat (crOf (natF (bodF o k st q v)) 10)); let zt : List Bool → List Bool := fun l => true :: true :: true :: true :: true :: true :: true :: true :: l; let zu : List Bool → List Bool := fun l => zt (zt (zt (zt l))); Q (.tup [.c (.sl 300000000000000000000000000000000000001095 0 0 114 (some 114)), .c (.v (.int .i64 (Int.ofNat 0)))], [some (ABlk.mk true true 49 1 (Cs.arr 114 fun i => if i < 112 then if i < 0 then if i < 0 then [] else List.map AC.v (Array.toList (Value.cells (Value.int .u8 0))) else elt (ABlk.mk false true 49 1 (Cs.arr 112 fun k_1 => List.map AC.v ((fun i => [Value.int .u8 (symK (bytF o k st q v) i)]) k_1))) 0 0 1 (i - 0) else elt (ABlk.mk false true 49 1 (Cs.arr 2 fun i => if i < 1 then if i < 0 then [] else elt (ABlk.mk true true 49 1 (Cs.arr 1 fun i => if i < 0 then [] else elt (ABlk.mk true false 49 0 (Cs.lit [.v (.int .u8 (Int.ofNat 2))])) 0 0 1 (i - 0))) 0 0 1 (i - 0) else elt (ABlk.mk true false 49 0 (Cs.lit [.v (.int .u8 (Int.ofNat 1))])) 0 0 1 (i - 1))) 0 0 1 (i - 112)))], 340000000000000000000000000000000000001017, (zu (zu (zu (zu (zt (true :: true :: (((!mayZ o k) == false) :: (zt (true :: true :: true :: true :: true :: true :: []))))))))), [LoopV Tryz.prog (loopAt Tryz.prog 49 0) foH [foQ] [some (.c (AC.v (Value.slice none 0 0))), some (.c (.sl 220000001000000000000000000000000000000020 0 0 14 (some 14))), some (.c (.v (.int .i64 (Int.ofNat 14)))), some (.c (.v (.int .i64 (Int.ofNat 0))))] [some (ABlk.mk false true 5 1 (Cs.arr 14 fun i => if i < 10 then List.map AC.v ((fun i => [Value.int .u8 (bodF o k st q v i)]) i) else elt (ABlk.mk true false 5 0 (Cs.lit [.v (.int .u8 (IntKind.wrap .u8 (Int.fdiv (IntKind.wrap .u32 ↑(BitVec.toNat (BitVec.ofInt (IntKind.bits .u32) (if IntKind.signed .u32 = true then -1 else IntKind.max .u32) ^^^ BitVec.ofInt (IntKind.bits .u32) ↑zz0))) (Int.ofNat 16777216)))), .v (.int .u8 (IntKind.wrap .u8 (Int.fdiv (IntKind.wrap .u32 ↑(BitVec.toNat (BitVec.ofInt (IntKind.bits .u32) (if IntKind.signed .u32 = true then -1 else IntKind.max .u32) ^^^ BitVec.ofInt (IntKind.bits .u32) ↑zz0))) (Int.ofNat 65536)))), .v (.int .u8 (IntKind.wrap .u8 (Int.fdiv (IntKind.wrap .u32 ↑(BitVec.toNat (BitVec.ofInt (IntKind.bits .u32) (if IntKind.signed .u32 = true then -1 else IntKind.max .u32) ^^^ BitVec.ofInt (IntKind.bits .u32) ↑zz0))) (Int.ofNat 256)))), .v (.int .u8 (IntKind.wrap .u8 (IntKind.wrap .u32 ↑(BitVec.toNat (BitVec.ofInt (IntKind.bits .u32) (if IntKind.signed .u32 = true then -1 else IntKind.max .u32) ^^^ BitVec.ofInt (IntKind.bits .u32) ↑zz0)))))])) 0 0 1 (i - 10)))] 19 260000000000000000000000000000000000001022 (mkFr 19 [(3, foL 112)]) [(foG, symW 112 (symK (bytF o k st q v)))] 260000000010000000000000000000000000000000 (Exit.exit 0) none, LoopV Tryz.prog (loopAt Tryz.prog 123 1) fbH fxI [some (.c (.ptr 220000000000000000000000000000000000001124 0 0)), some (.c (AC.mv 133 220000000000000000000000000000000000001124 0 0)), some (.c (.v (.int .i64 (Int.ofNat 1)))), some (.c (.v (.int .i64 (Int.ofNat 0)))), some (.c (.sl 220000000000000000000000000000000000001113 0 0 10 none)), some (.c (.v (.int .i64 (Int.ofNat 10)))), some (.c (.v (.int .i64 (Int.ofNat 0))))] [some (ABlk.mk true true 5 1 (Cs.arr 10 fun i => if i < 6 then if i < 2 then if i < 0 then if i < 0 then [] else List.map AC.v (Array.toList (Value.cells (Value.int .u8 0))) else elt (ABlk.mk false false 5 0 (Cs.lit [.v (.int .u8 (IntKind.wrap .u8 (IntKind.wrap .i64 (IntKind.wrap .i64 (Int.ofNat 16 * IntKind.wrap .i64 k) + o)))), .v (.int .u8 st)])) 0 0 1 (i - 0) else elt (ABlk.mk false false 5 0 (Cs.lit [.v (.int .u8 (IntKind.wrap .u8 (Int.fdiv q (Int.ofNat 16777216)))), .v (.int .u8 (IntKind.wrap .u8 (Int.fdiv q (Int.ofNat 65536)))), .v (.int .u8 (IntKind.wrap .u8 (Int.fdiv q (Int.ofNat 256)))), .v (.int .u8 (IntKind.wrap .u8 q))])) 0 0 1 (i - 2) else elt (ABlk.mk false false 5 0 (Cs.lit [.v (.int .u8 (IntKind.wrap .u8 (Int.fdiv v (Int.ofNat 16777216)))), .v (.int .u8 (IntKind.wrap .u8 (Int.fdiv v (Int.ofNat 65536)))), .v (.int .u8 (IntKind.wrap .u8 (Int.fdiv v (Int.ofNat 256)))), .v (.int .u8 (IntKind.wrap .u8 v))])) 0 0 1 (i - 6))), some (ABlk.mk true false 182 0 (Cs.lit [.v (.int .u32 (Int.ofNat 4294967295))]))] 29 220000000000000000000000000000000000001138 (mkFr 29 fbO) (List.zip fxI (fxB 10 (bodF o k st q v) ↑zz0)) 220000001000000000000000000000000000000000 (Exit.exit 2) none])) :
 ∃ p r, syE Tryz.prog [300000000000000000000000000000000000001095] o k st q v p [none, none, none, fbS 10 (bodF o k st q v), foS (bytF o k st q v), none, none, none] = some r ∧ Q r :=
 ⟨pD 38 2, _, by kernel_rfl, H⟩
end Go.Proofs.YtoelekmbmghicaaGreatDoor
end
/- Contract of frames.Syms, of whatever frame, with a good tail. -/
section
namespace Go.Proofs.YtoelekmbmghicaaGreatDoor
open Go.RowKit
theorem ww8 (x : Int) : IntKind.wrap .u8 x = x % 256 := by simp [IntKind.wrap, IntKind.bits, IntKind.signed]
theorem fd_pos {x d : Int} (hd : 0 ≤ d) : Int.fdiv x d = x / d := Int.fdiv_eq_ediv_of_nonneg _ hd
structure FrOkA (o k st q v : Int) : Prop where
 may : mayZ o k = true
 o0 : 0 ≤ o
 o7 : o < 8
 k1 : k = 1 ∨ k = 2
 st : 0 ≤ st ∧ st < 256
 q : 0 ≤ q ∧ q < 4294967296
 v : 0 ≤ v ∧ v < 4294967296
theorem bodF_in {o k st q v : Int} (h : FrOkA o k st q v) (i : Nat) : 0 ≤ bodF o k st q v i ∧ bodF o k st q v i < 256 := by
 have h1 := h.o0
 have h2 := h.o7
 have h3 := h.k1
 have h4 := h.st
 unfold bodF
 split <;> omega
theorem bytF_in {o k st q v : Int} (h : FrOkA o k st q v) (i : Nat) : 0 ≤ bytF o k st q v i ∧ bytF o k st q v i < 256 := by
 have := bodF_in h i
 unfold bytF
 (repeat' split) <;> omega
theorem sum_pr (f : Nat → Int) : IntKind.wrap .u32 ((BitVec.toNat (BitVec.ofInt (IntKind.bits .u32) (if IntKind.signed .u32 = true then -1 else IntKind.max .u32) ^^^ BitVec.ofInt (IntKind.bits .u32) ((crOf (natF f) 10).toNat : Int)) : Nat) : Int) = (sumN f : Int) := by
 rw [ob32]
 show IntKind.wrap .u32 ((BitVec.toNat (BitVec.allOnes 32 ^^^ crOf (natF f) 10) : Nat) : Int) = _
 rw [BitVec.allOnes_xor]
 exact wr32 _
def fullF (o k st q v : Int) : Nat → Int := fun i => if i < 112 then symK (bytF o k st q v) i else if i = 112 then 2 else 1
def fuG : List AV → Bool
 | [.agg [.v (.int .i64 o), .v (.int .u8 k), .v (.int .u8 st), .v (.int .u32 q), .v (.int .u32 v)], .agg [.v (.bool true), .v (.bool false)]] => mayZ o k && (decide (0 ≤ st ∧ st < 256) && (decide (0 ≤ q ∧ q < 4294967296) && decide (0 ≤ v ∧ v < 4294967296)))
 | _ => false
def fuB : List AV → ABlk
 | [.agg [.v (.int .i64 o), .v (.int .u8 k), .v (.int .u8 st), .v (.int .u32 q), .v (.int .u32 v)], _] => symW 114 (fullF o k st q v)
 | _ => symW 114 (fun _ => 0)
def ctSyms0 : CtF := ctRdT (pureRd [] rfl) (fun _ => 114) (fun _ => some 114) fuB (fun _ => i64 0) fuG
abbrev syG : Nat := 300000000000000000000000000000000000001095
set_option maxRecDepth 100000 in
theorem ct_syms0 : CtOk Tryz.prog 21 ctSyms0 := by
 refine ctRdT_of (E := EFr Tryz.prog) hEFr (pureRd [] rfl) (fuel := 300) (str := 10000000000000000000000000000000000000000) syG ⟨_, _, Tryz.func21, rfl⟩ (fun s => by unfold fuB; split <;> rfl) (fun s => by unfold fuB; split <;> exact ⟨_, _, rfl⟩) (fun s => by unfold fuB; split <;> exact wBlk_pl (fun _ => rfl)) (fun _ => rfl) fun s hs => ?_
 unfold fuG at hs
 split at hs
 · rename_i o k st q v
   simp only [Bool.and_eq_true, decide_eq_true_eq] at hs
   obtain ⟨hm, hst, hq, hv⟩ := hs
   have ho : FrOkA o k st q v := by
    have := hm
    unfold mayZ at this
    simp only [Bool.and_eq_true, decide_eq_true_eq, Bool.or_eq_true, beq_iff_eq] at this
    exact ⟨hm, this.1, this.2.1, this.2.2, hst, hq, hv⟩
   refine (?_ : (∃ p r, syE Tryz.prog [syG] o k st q v p [none, none, none, fbS 10 (bodF o k st q v), foS (bytF o k st q v), none, none, none] = some r ∧ GoodT syG 114 (some 114) (symW 114 (fullF o k st q v)) (i64 0) r) → _) (syT o k st q v _ ?_)
   · rintro ⟨p, q, h1, h2⟩
     exact ⟨p, _, q, h1, h2⟩
   · refine ⟨rfl, ⟨_, rfl, ⟨rfl, rfl, rfl, rfl, .inr (.inl ⟨_, _, _, rfl, rfl, fun i hi => ?_⟩)⟩⟩, (by first | (unfold lim; omega) | (dsimp only; unfold lim; omega)), by simp only [allT, List.forall_mem_cons, hm]; simp, fun z hz => ?_⟩
     · unfold fullF
       by_cases h : i < 112
       · rw [if_pos h, if_neg (by omega)]
         first | (simp [elt]; done) | (simp [elt, h]; done)
       · rw [if_neg h]
         have : i = 112 ∨ i = 113 := by omega
         rcases this with rfl | rfl <;> rfl
     · simp only [List.mem_cons, List.not_mem_nil, or_false] at hz
       rcases hz with rfl | rfl
       · refine fo_sum (bytF o k st q v) (fun i _ => bytF_in ho i) ⟨rfl, rfl, rfl, rfl, .inr (.inl ⟨_, _, _, rfl, rfl, fun i hi => ?_⟩)⟩
         simp only [sum_pr]
         by_cases h : i < 10
         · rw [if_pos h]
           unfold bytF
           rw [if_pos h]
         · rw [if_neg h]
           have : i = 10 ∨ i = 11 ∨ i = 12 ∨ i = 13 := by omega
           rcases this with rfl | rfl | rfl | rfl
           · show [AC.v (.int .u8 (IntKind.wrap .u8 (Int.fdiv (sumN (bodF o k st q v)) 16777216)))] = [AC.v (.int .u8 ((sumN (bodF o k st q v) / 16777216 % 256 : Nat) : Int))]
             rw [ww8, fd_pos (by omega)]; rfl
           · show [AC.v (.int .u8 (IntKind.wrap .u8 (Int.fdiv (sumN (bodF o k st q v)) 65536)))] = [AC.v (.int .u8 ((sumN (bodF o k st q v) / 65536 % 256 : Nat) : Int))]
             rw [ww8, fd_pos (by omega)]; rfl
           · show [AC.v (.int .u8 (IntKind.wrap .u8 (Int.fdiv (sumN (bodF o k st q v)) 256)))] = [AC.v (.int .u8 ((sumN (bodF o k st q v) / 256 % 256 : Nat) : Int))]
             rw [ww8, fd_pos (by omega)]; rfl
           · show [AC.v (.int .u8 (IntKind.wrap .u8 (sumN (bodF o k st q v))))] = [AC.v (.int .u8 ((sumN (bodF o k st q v) % 256 : Nat) : Int))]
             rw [ww8]; rfl
       · refine fb_sum 10 (bodF o k st q v) (by omega) (fun i _ => bodF_in ho i) ⟨⟨rfl, rfl, rfl, rfl, .inr (.inl ⟨_, _, _, rfl, rfl, fun i hi => ?_⟩)⟩, BEq.refl _, trivial⟩
         have h1 := ho.o0
         have h2 := ho.o7
         have h3 := ho.k1
         have e0 : IntKind.wrap .u8 (IntKind.wrap .i64 (IntKind.wrap .i64 (Int.ofNat 16 * IntKind.wrap .i64 k) + o)) = 16 * k + o := by
          rw [wrap_nat k (by omega) (by omega), wrap_nat (Int.ofNat 16 * k) (by simp; omega) (by simp; omega), wrap_nat _ (by simp; omega) (by simp; omega), ww8]
          simp
          omega
         have eq : ∀ (x d : Int), 0 ≤ d → IntKind.wrap .u8 (Int.fdiv x d) = x / d % 256 := fun x d hd => by rw [ww8, fd_pos hd]
         have : i = 0 ∨ i = 1 ∨ i = 2 ∨ i = 3 ∨ i = 4 ∨ i = 5 ∨ i = 6 ∨ i = 7 ∨ i = 8 ∨ i = 9 := by omega
         rcases this with rfl | rfl | rfl | rfl | rfl | rfl | rfl | rfl | rfl | rfl
         · exact congrArg (fun z => [AC.v (Value.int .u8 z)]) e0
         · rfl
         · exact congrArg (fun z => [AC.v (Value.int .u8 z)]) (eq q 16777216 (by omega))
         · exact congrArg (fun z => [AC.v (Value.int .u8 z)]) (eq q 65536 (by omega))
         · exact congrArg (fun z => [AC.v (Value.int .u8 z)]) (eq q 256 (by omega))
         · exact congrArg (fun z => [AC.v (Value.int .u8 z)]) (ww8 q)
         · exact congrArg (fun z => [AC.v (Value.int .u8 z)]) (eq v 16777216 (by omega))
         · exact congrArg (fun z => [AC.v (Value.int .u8 z)]) (eq v 65536 (by omega))
         · exact congrArg (fun z => [AC.v (Value.int .u8 z)]) (eq v 256 (by omega))
         · exact congrArg (fun z => [AC.v (Value.int .u8 z)]) (ww8 v)
 · cases hs
end Go.Proofs.YtoelekmbmghicaaGreatDoor
end
/- What a net answers: Partner, as the evaluator runs it. -/
section
namespace Go.Proofs.YtoelekmbmghicaaGreatDoor
open Go.RowKit
def ENpt (P : Program) : Env := ⟨P, [(12, ctNet (fun c nq fq zs => i64 (headN c nq fq (zs.headD 0))) fun c nq fq zs => true && decide (zs.length = 1)), (23, ctNet (fun c nq fq zs => i64 (pairN c nq fq (zs.headD 0))) fun c nq fq zs => true && decide (zs.length = 1)), (34, ctStep)]⟩
theorem hENpt : EnvOk (ENpt Tryz.prog) := by
 refine envOk (fun f g h => ?_) (by kernel_rfl) (by kernel_rfl)
 simp only [ENpt, List.mem_cons, Prod.mk.injEq, List.not_mem_nil, or_false] at h
 rcases h with ⟨rfl, rfl⟩ | ⟨rfl, rfl⟩ | ⟨rfl, rfl⟩
 · exact ct_first
 · exact ct_pair
 · exact ct_step
def npR (P : Program) (c : Cfg) (nq : Nat) (fq : Nat → Int) (z : Int) (path : List Dec) : Option VF := viewF [] (fCallF (ENpt P) (fC (ENpt P) 300) 13 (.c (.ptr 5 0 0) :: [i64 z]) 1000 10000000000000000000000000000000000000000 (stA (netM c nq fq) path []))
theorem nPartner (c : Cfg) (nq : Nat) (fq : Nat → Int) (z : Int) (Q : VF → Prop) (H : let zq0 : List Bool := [netK c nq fq, true, netK c nq fq, true]; let zq1 : List Bool := ((headN c nq fq (List.headD [pairN c nq fq (List.headD [z] (Int.ofNat 0))] (Int.ofNat 0)) == Int.negSucc 0) == false) :: zq0; (((headN c nq fq (List.headD [pairN c nq fq (List.headD [z] (Int.ofNat 0))] (Int.ofNat 0)) == Int.negSucc 0) = true → Q (.c (.v (.int .i64 (Int.negSucc 0))), [], 1009, (((headN c nq fq (List.headD [pairN c nq fq (List.headD [z] (Int.ofNat 0))] (Int.ofNat 0)) == Int.negSucc 0) == true) :: zq0), [])) ∧ ((headN c nq fq (List.headD [pairN c nq fq (List.headD [z] (Int.ofNat 0))] (Int.ofNat 0)) == Int.negSucc 0) = false → (((headN c nq fq (List.headD [pairN c nq fq (List.headD [z] (Int.ofNat 0))] (Int.ofNat 0)) == z) = true → Q (.c (.v (.int .i64 (ringF (c.nodes) (headN c nq fq (List.headD [pairN c nq fq (List.headD [z] (Int.ofNat 0))] (Int.ofNat 0))) (Int.ofNat 1)))), [], 1018, (true :: true :: ((headN c nq fq (List.headD [pairN c nq fq (List.headD [z] (Int.ofNat 0))] (Int.ofNat 0)) == z) == true) :: zq1), [])) ∧ ((headN c nq fq (List.headD [pairN c nq fq (List.headD [z] (Int.ofNat 0))] (Int.ofNat 0)) == z) = false → Q (.c (.v (.int .i64 (headN c nq fq (List.headD [pairN c nq fq (List.headD [z] (Int.ofNat 0))] (Int.ofNat 0))))), [], 1013, (((headN c nq fq (List.headD [pairN c nq fq (List.headD [z] (Int.ofNat 0))] (Int.ofNat 0)) == z) == false) :: zq1), [])))))) :
 ∃ p r, npR Tryz.prog c nq fq z p = some r ∧ Q r :=
 two H
 (fun g1 => ⟨pD 1 1, _, by kernel_rfl, g1⟩)
 (fun g1 => two g1
  (fun g2 => ⟨pD 2 5, _, by kernel_rfl, g2⟩)
  (fun g2 => ⟨pD 2 8, _, by kernel_rfl, g2⟩))
end Go.Proofs.YtoelekmbmghicaaGreatDoor
end
/- Contract of what a net answers: Partner. -/
section
namespace Go.Proofs.YtoelekmbmghicaaGreatDoor
open Go.RowKit
def partnerN (c : Cfg) (nq : Nat) (fq : Nat → Int) (z : Int) : Int := if headN c nq fq (pairN c nq fq z) = -1 then -1 else if headN c nq fq (pairN c nq fq z) = z then ringF c.nodes (headN c nq fq (pairN c nq fq z)) 1 else headN c nq fq (pairN c nq fq z)
theorem ct_partner : CtOk Tryz.prog 13 (ctNet (fun c nq fq zs => i64 (partnerN c nq fq (zs.headD 0))) fun c nq fq zs => true && decide (zs.length = 1)) := by
 refine ctNet_of ⟨_, _, Tryz.func13, rfl⟩ (fun c nq fq zs => plain_i64 _) 1 fun c nq fq zs _ hz => ?_
 obtain ⟨z, rfl⟩ := List.length_eq_one_iff.1 hz
 refine (?_ : (∃ p r, npR Tryz.prog c nq fq z p = some r ∧ (r.1 = i64 (partnerN c nq fq z) ∧ r.2.2.1 ≤ lim ∧ allT r.2.2.2.1 ∧ ∀ q ∈ r.2.2.2.2, q)) → _) (nPartner c nq fq z _ ?_)
 · rintro ⟨p, r, h1, h2⟩
   exact ⟨ENpt Tryz.prog, 300, 10000000000000000000000000000000000000000, rfl, hENpt, p, [], r, h1, h2⟩
 · simp only [netK_t, List.headD_cons]
   have hp : partnerN c nq fq z = if headN c nq fq (pairN c nq fq z) = -1 then -1 else if headN c nq fq (pairN c nq fq z) = z then ringF c.nodes (headN c nq fq (pairN c nq fq z)) 1 else headN c nq fq (pairN c nq fq z) := rfl
   have m1 : Int.negSucc 0 = -1 := rfl
   repeat' (first | refine ⟨fun h => ?_, fun h => ?_⟩ | fail)
   all_goals (refine ⟨?_, (by first | (unfold lim; omega) | (dsimp only; unfold lim; omega)), ?_, by simp⟩)
   all_goals (first | (simp_all [i64]; done) | (simp_all [allT]; done) | (simp_all [allT]; omega))
end Go.Proofs.YtoelekmbmghicaaGreatDoor
end
