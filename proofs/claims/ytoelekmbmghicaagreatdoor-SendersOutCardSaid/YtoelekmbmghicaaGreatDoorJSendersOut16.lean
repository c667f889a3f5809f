/- Parts, one behind the other. Contract of sennitref10.Of. -/
import Derived.Test.YtoelekmbmghicaaGreatDoorJSendersOut15
import Derived.Test.YtoelekmbmghicaaGreatDoorJSendersOut10
import Derived.Test.YtoelekmbmghicaaGreatDoorJSendersOut11
set_option linter.unusedSimpArgs false
set_option linter.unusedVariables false
/- Contract of sennitref10.Of. -/
section
namespace Go.Proofs.YtoelekmbmghicaaGreatDoor
open Go.RowKit
def cwR : CfgS → AV
 | ⟨c, [.c (.v (.int .u8 d)), .c (.v (.int .i64 o)), .c (.v (.int .i64 k))]⟩ => .tup [winA .i64 (wR (wiP c d o k)) (wP (wiP c d o k)) (wB (wiP c d o k)) (wN (wiP c d o k)), i64 (wE (wiP c d o k))]
 | _ => i64 0
def cwQ : CfgS → Bool
 | ⟨c, [.c (.v (.int .u8 d)), .c (.v (.int .i64 _)), .c (.v (.int .i64 _))]⟩ => wiPre c 1 && decide (0 ≤ d)
 | _ => false
theorem cwQ_eq (c : Cfg) (d o k : Int) : cwQ ⟨c, [.c (.v (.int .u8 d)), .c (.v (.int .i64 o)), .c (.v (.int .i64 k))]⟩ = (wiPre c 1 && decide (0 ≤ d)) := rfl
def ctRwOf : CtF := ctRd cfgRd cwR cwQ
set_option maxRecDepth 100000 in
theorem ct_rwOf : CtOk Tryz.prog 56 ctRwOf := by
 refine ctRd_ofE (E := ENwn Tryz.prog) hENwn cfgRd (fuel := 300) (str := 10000000000000000000000000000000000000000) ⟨_, _, Tryz.func56, rfl⟩ (fun s => by unfold cwR; split <;> rfl) fun s hs => ?_
 unfold cwQ at hs
 split at hs
 · rename_i c d o k
   simp only [wiPre, Bool.and_eq_true, decide_eq_true_eq] at hs
   obtain ⟨⟨h1, h2⟩, h3⟩ := hs
   refine (?_ : (∃ p q, cfE (ENwn Tryz.prog) 56 c [u8A d, i64 o, i64 k] p [] = some q ∧ GoodF (.tup [winA .i64 (wR (wiP c d o k)) (wP (wiP c d o k)) (wB (wiP c d o k)) (wN (wiP c d o k)), i64 (wE (wiP c d o k))]) q) → _) (rwOf c d o k _ ?_)
   · rintro ⟨p, q, h1, h2⟩
     exact ⟨p, [], q, h1, h2⟩
   · obtain ⟨n4, n16, hf⟩ := heads_ok h2
     have hbad : (1 < d ∨ o < 0 ∨ (c.np : Int) ≤ o ∨ k < 0 ∨ c.nodes ≤ k) → wiP c d o k = -1 := by
      intro h
      unfold wiP placeF
      refine if_neg ?_
      unfold atF
      simp [ringB, nodeB]
      intro g1 g2 g3 g4 g5
      split at g4
      · omega
      · omega
     have hgood : d ≤ 1 → 0 ≤ o → o < c.np → 0 ≤ k → k < c.nodes → placeF c.nodes d (c.fp (0 + o.toNat)) k = wiP c d o k ∧ 0 ≤ wiP c d o k ∧ wiP c d o k < 16 := by
      intro g1 g2 g3 g4 g5
      have e : c.fp (0 + o.toNat) = atF c.fp c.np o := by unfold atF; rw [if_pos ⟨g2, g3⟩, Nat.zero_add]
      have i1 := hf o.toNat (by omega)
      rw [Nat.zero_add] at e
      rw [e] at i1
      rw [Nat.zero_add, e]
      refine ⟨rfl, ?_⟩
      unfold wiP placeF
      rw [if_pos (by simp [ringB, nodeB]; omega)]
      have m1 := Int.emod_nonneg (k - atF c.fp c.np o) (show c.nodes ≠ 0 by omega)
      have m2 := Int.emod_lt_of_pos (k - atF c.fp c.np o) (show 0 < c.nodes by omega)
      have m3 := Int.emod_nonneg (atF c.fp c.np o + 1 - k) (show c.nodes ≠ 0 by omega)
      have m4 := Int.emod_lt_of_pos (atF c.fp c.np o + 1 - k) (show 0 < c.nodes by omega)
      split <;> omega
     obtain ⟨p, hp⟩ : ∃ p, wiP c d o k = p := ⟨_, rfl⟩
     obtain ⟨z, hz⟩ : ∃ z, placeF c.nodes d (c.fp (0 + o.toNat)) k = z := ⟨_, rfl⟩
     rw [hp] at hbad hgood
     rw [hz] at hgood
     simp only [hp, hz, okN4_eq]
     have w1 : 0 ≤ z → z < 16 → IntKind.wrap IntKind.i64 (Int.ofNat 1 + z) = 1 + z := fun _ _ => by rw [wrap_nat _ (by simp; omega) (by simp; omega)]; simp
     have w2 : 0 ≤ z → z < 16 → IntKind.wrap IntKind.i64 (1 + z + Int.ofNat 114) = 115 + z := fun _ _ => by rw [wrap_nat _ (by simp; omega) (by simp; omega)]; simp; omega
     (repeat' (first | refine ⟨fun h => ?_, fun h => ?_⟩ | fail))
     all_goals (simp only [decide_eq_true_eq, decide_eq_false_iff_not, beq_iff_eq, beq_eq_false_iff_ne, ne_eq, Int.ofNat_eq_natCast, Int.cast_ofNat_Int, gt_iff_lt, ge_iff_le] at *)
     all_goals (refine ⟨?_, (by first | (unfold lim; omega) | (dsimp only; unfold lim; omega)), ?_, by simp⟩)
     all_goals first
      | (have := hbad (by omega)
         subst this
         rfl)
      | (obtain ⟨rfl, g1, g2⟩ := hgood (by omega) (by omega) (by omega) (by omega) (by omega)
         rw [w1 g1 g2, w2 g1 g2]
         first
          | (simp [wR, wP, wB, wN, wE, i64, show ¬ z < 0 by omega, show z < 2 by omega]; done)
          | (simp [wR, wP, wB, wN, wE, i64, show z = 2 by omega]; done)
          | (simp [wR, wP, wB, wN, wE, i64, show ¬ z < 0 by omega, show ¬ z < 2 by omega, show ¬ z = 2 by omega]; done))
      | (simp only [allT, List.forall_mem_cons, List.not_mem_nil, false_implies, implies_true, and_true, true_and, cfgK_t, netK_t, intsOk_ints, stsOk_sts, intsOk_s, stsOk_s, beq_iff_eq, decide_eq_true_eq, decide_eq_false_iff_not, beq_eq_false_iff_ne, bne_iff_ne, bne_eq_false_iff_eq, Bool.not_eq_true', Bool.not_eq_false', ne_eq, Int.ofNat_eq_natCast, Int.cast_ofNat_Int, gt_iff_lt, ge_iff_le]; omega)
      | (simp only [allT, List.forall_mem_cons, inb_arr]
         simp
         omega)
 · cases hs
end Go.Proofs.YtoelekmbmghicaaGreatDoor
end
/- Contracts of (Window).At, sennitref10.At. -/
section
namespace Go.Proofs.YtoelekmbmghicaaGreatDoor
open Go.RowKit
def atB (b e x : Int) : Bool := decide (b ≤ x) && decide (x < e)
def atI (b e x : Int) : Int := if atB b e x = true then x - b else 0
def smallB (z : Int) : Bool := decide (0 ≤ z) && decide (z ≤ 1000)
def atR : List AV → AV
 | [.agg [.v (.int .u8 _), .v (.int .i64 _), .v (.int .i64 b), .v (.int .i64 e)], .c (.v (.int .i64 x))] => .tup [i64 (atI b e x), bo (atB b e x)]
 | _ => i64 0
def atQ : List AV → Bool
 | [.agg [.v (.int .u8 _), .v (.int .i64 _), .v (.int .i64 b), .v (.int .i64 e)], .c (.v (.int .i64 _))] => smallB b && smallB e
 | _ => false
theorem atQ_eq (r p b e x : Int) : atQ [.agg [.v (.int .u8 r), .v (.int .i64 p), .v (.int .i64 b), .v (.int .i64 e)], .c (.v (.int .i64 x))] = (smallB b && smallB e) := rfl
def ctWiAt : CtF := ctRd (pureRd [] rfl) atR atQ
set_option maxRecDepth 100000 in
theorem ct_wiAt : CtOk Tryz.prog 27 ctWiAt := by
 refine ctRd_ofE (E := E1 Tryz.prog) hE1 (pureRd [] rfl) (fuel := 300) (str := 10000000000000000000000000000000000000000) ⟨_, _, Tryz.func27, rfl⟩ (fun s => by unfold atR; split <;> rfl) fun s hs => ?_
 unfold atQ at hs
 split at hs
 · rename_i r p b e x
   simp only [smallB, Bool.and_eq_true, decide_eq_true_eq] at hs
   refine (?_ : (∃ y q, wiAtE Tryz.prog r p b e x y = some q ∧ GoodF (.tup [i64 (atI b e x), bo (atB b e x)]) q) → _) (wiAt r p b e x _ ?_)
   · rintro ⟨y, q, h1, h2⟩
     exact ⟨y, [], q, h1, h2⟩
   · have w1 : b ≤ x → x < e → IntKind.wrap IntKind.i64 (x - b) = x - b := fun _ _ => wrap_nat _ (by omega) (by omega)
     have hno : ¬ (b ≤ x ∧ x < e) → atB b e x = false ∧ atI b e x = 0 := fun h => by
      have : atB b e x = false := by simp [atB]; omega
      exact ⟨this, by simp [atI, this]⟩
     have hye : (b ≤ x ∧ x < e) → atB b e x = true ∧ atI b e x = x - b := fun h => by
      have : atB b e x = true := by simp [atB]; omega
      exact ⟨this, by simp [atI, this]⟩
     (repeat' (first | refine ⟨fun h => ?_, fun h => ?_⟩ | fail))
     all_goals (refine ⟨?_, (by first | (unfold lim; omega) | (dsimp only; unfold lim; omega)), ?_, by simp⟩)
     all_goals first
      | (obtain ⟨g1, g2⟩ := hno (by simp [eqF, asI] at *; omega)
         rw [g1, g2]; rfl)
      | (obtain ⟨g1, g2⟩ := hye (by simp [eqF, asI] at *; omega)
         rw [g1, g2, w1 (by simp [eqF, asI] at *; omega) (by simp [eqF, asI] at *; omega)]; rfl)
      | (simp only [allT, List.forall_mem_cons]; simp_all)
 · cases hs
def ratR : List AV → AV
 | [.agg [.v (.int .i64 _), .v (.int .i64 _), .v (.int .i64 b), .v (.int .i64 e)], .c (.v (.int .i64 x))] => .tup [i64 (atI b e x), bo (atB b e x)]
 | _ => i64 0
def ratQ : List AV → Bool
 | [.agg [.v (.int .i64 _), .v (.int .i64 _), .v (.int .i64 b), .v (.int .i64 e)], .c (.v (.int .i64 _))] => smallB b && smallB e
 | _ => false
theorem ratQ_eq (r p b e x : Int) : ratQ [.agg [.v (.int .i64 r), .v (.int .i64 p), .v (.int .i64 b), .v (.int .i64 e)], .c (.v (.int .i64 x))] = (smallB b && smallB e) := rfl
def ctRwAt : CtF := ctRd (pureRd [] rfl) ratR ratQ
theorem wa_sum (r p b e x : Int) (hb : 0 ≤ b) (hb2 : b ≤ 1000) (he : 0 ≤ e) (he2 : e ≤ 1000) (n0 : Nat) (hn0 : 1001 ≤ n0) (hn1 : n0 ≤ 1000000000000000000000000000000000000000000) (j : Nat) (hj : j ≤ 1000) (hmin : ∀ i : Nat, i < j → (i : Int) < e - b ∧ b + i ≠ x) (hstop : ¬ ((j : Int) < e - b) ∨ b + j = x) {ex : Exit} {out : List (Nat × AV)}
 (hF : ((j : Int) < e - b → ex = .ret ∧ out = [(4, i64 (Int.ofNat j)), (5, bo true)]) ∧ (¬ (j : Int) < e - b → ex = .exit 0 ∧ out = [])) :
 LoopV Tryz.prog (loopAt Tryz.prog 57 0) [1, 2, 6] [1000] ((waV x 0).map some) ([waB r p b e].map some) 23 n0 (mkFr 23 out) [] 100000000000000000000000000000000000000000000000000 ex none := by
 refine scan_ob hE1 (fuel := 100) (str := 10000000000000000000000000000000000000000) (nh := 1000000000000000000000000000000000000000000) [1, 2, 6] [4, 5] [1000] (waV x) [waB r p b e] j hn1 (by decide) (by unfold lim; omega) ?_ (fun _ => ⟨rfl, rfl⟩) ?_ ?_ ?_ ?_ ?_
 · by_cases h : (j : Int) < e - b
   · rw [(hF.1 h).1]; simp
   · rw [(hF.2 h).1]; simp
 · simp [keptB]; omega
 · intro k _
   simp [okV, lowV, lowC, notAny, i64]; omega
 · intro q hq
   rw [List.mem_singleton.1 hq]
   exact low_lit rfl
 · intro k hk
   obtain ⟨m1, m2⟩ := hmin k hk
   have w1 : IntKind.wrap IntKind.i64 (e - b) = e - b := wrap_nat _ (by omega) (by omega)
   have w2 : IntKind.wrap IntKind.i64 (b + Int.ofNat k) = b + k := wrap_nat _ (by simp; omega) (by simp; omega)
   refine wa r p b e x k _ ?_
   simp only [w1, w2, wrap_nat1 k (show k ≤ 1000000 by omega)]
   (repeat' (first | refine ⟨fun h => ?_, fun h => ?_⟩ | fail))
   all_goals (first | (exfalso; simp at *; omega) | skip)
   refine ⟨⟨?_, rfl, by dsimp only; omega, rfl⟩, rfl, rfl, BL.refl _⟩
   simp [allT]
   omega
 · have w1 : IntKind.wrap IntKind.i64 (e - b) = e - b := wrap_nat _ (by omega) (by omega)
   have w2 : IntKind.wrap IntKind.i64 (b + Int.ofNat j) = b + j := wrap_nat _ (by simp; omega) (by simp; omega)
   refine wa r p b e x j _ ?_
   simp only [w1, w2]
   by_cases h : (j : Int) < e - b
   · obtain ⟨rfl, rfl⟩ := hF.1 h
     (repeat' (first | refine ⟨fun h => ?_, fun h => ?_⟩ | fail))
     all_goals (first | (exfalso; simp at *; omega) | skip)
     refine ⟨⟨?_, rfl, by dsimp only; omega, rfl⟩, rfl, fun q hq => ?_, fun p hp => (by cases hp)⟩
     · simp [allT]
       omega
     · simp only [List.mem_cons, List.not_mem_nil, or_false] at hq
       rcases hq with rfl | rfl
       · exact ⟨rfl, by simp [i64]⟩
       · exact ⟨rfl, by simp [bo]⟩
   · obtain ⟨rfl, rfl⟩ := hF.2 h
     (repeat' (first | refine ⟨fun h => ?_, fun h => ?_⟩ | fail))
     all_goals (first | (exfalso; simp at *; omega) | skip)
     exact EndV_nil ⟨by simp [allT]; omega, rfl, by dsimp only; omega, rfl⟩ rfl
set_option maxRecDepth 100000 in
theorem ct_rwAt : CtOk Tryz.prog 57 ctRwAt := by
 refine ctRd_ofE (E := E1 Tryz.prog) hE1 (pureRd [] rfl) (fuel := 300) (str := 10000000000000000000000000000000000000000) ⟨_, _, Tryz.func57, rfl⟩ (fun s => by unfold ratR; split <;> rfl) fun s hs => ?_
 unfold ratQ at hs
 split at hs
 · rename_i r p b e x
   simp only [smallB, Bool.and_eq_true, decide_eq_true_eq] at hs
   obtain ⟨⟨b0, b1⟩, e0, e1⟩ := hs
   by_cases hin : b ≤ x ∧ x < e
   · have g1 : atB b e x = true := by simp [atB]; omega
     have g2 : atI b e x = x - b := by simp [atI, g1]
     rw [show ratR [.agg [.v (.int .i64 r), .v (.int .i64 p), .v (.int .i64 b), .v (.int .i64 e)], .c (.v (.int .i64 x))] = .tup [i64 (x - b), bo true] by show AV.tup [i64 (atI b e x), bo (atB b e x)] = _; rw [g1, g2]]
     refine (?_ : (∃ y q, rwAtE Tryz.prog r p b e x [some ⟨[1, 2, 6], [1000], mkFr 23 [(4, i64 (Int.ofNat (x - b).toNat)), (5, bo true)], [], 100000000000000000000000000000000000000000000000000, .ret⟩] y = some q ∧ GoodF (.tup [i64 (x - b), bo true]) q) → _) (rwAt1 r p b e x (x - b).toNat _ ?_)
     · rintro ⟨y, q, h1, h2⟩
       exact ⟨y, [some ⟨[1, 2, 6], [1000], mkFr 23 [(4, i64 (Int.ofNat (x - b).toNat)), (5, bo true)], [], 100000000000000000000000000000000000000000000000000, .ret⟩], q, h1, h2⟩
     · refine ⟨?_, (by first | (unfold lim; omega) | (dsimp only; unfold lim; omega)), by simp [allT], fun q hq => ?_⟩
       · have : Int.ofNat (x - b).toNat = x - b := Int.toNat_of_nonneg (by omega)
         simp only [this]; rfl
       · rw [List.mem_singleton.1 hq]
         exact wa_sum r p b e x b0 b1 e0 e1 _ (by omega) (by omega) (x - b).toNat (by omega) (fun i hi => by omega) (.inr (by omega)) ⟨fun _ => ⟨rfl, rfl⟩, fun h => absurd (show (((x - b).toNat : Nat) : Int) < e - b by omega) h⟩
   · have g1 : atB b e x = false := by simp [atB]; omega
     have g2 : atI b e x = 0 := by simp [atI, g1]
     rw [show ratR [.agg [.v (.int .i64 r), .v (.int .i64 p), .v (.int .i64 b), .v (.int .i64 e)], .c (.v (.int .i64 x))] = .tup [i64 0, bo false] by show AV.tup [i64 (atI b e x), bo (atB b e x)] = _; rw [g1, g2]]
     refine (?_ : (∃ y q, rwAtE Tryz.prog r p b e x [some ⟨[1, 2, 6], [1000], mkFr 23 [], [], 100000000000000000000000000000000000000000000000000, .exit 0⟩] y = some q ∧ GoodF (.tup [i64 0, bo false]) q) → _) (rwAt0 r p b e x _ ?_)
     · rintro ⟨y, q, h1, h2⟩
       exact ⟨y, [some ⟨[1, 2, 6], [1000], mkFr 23 [], [], 100000000000000000000000000000000000000000000000000, .exit 0⟩], q, h1, h2⟩
     · refine ⟨rfl, (by first | (unfold lim; omega) | (dsimp only; unfold lim; omega)), by simp [allT], fun q hq => ?_⟩
       rw [List.mem_singleton.1 hq]
       exact wa_sum r p b e x b0 b1 e0 e1 _ (by omega) (by omega) (e - b).toNat (by omega) (fun i hi => by omega) (.inl (by omega)) ⟨fun h => absurd h (by omega), fun _ => ⟨rfl, rfl⟩⟩
 · cases hs
end Go.Proofs.YtoelekmbmghicaaGreatDoor
end
/- sennitref02.Of as the evaluator runs it. -/
section
namespace Go.Proofs.YtoelekmbmghicaaGreatDoor
open Go.RowKit
abbrev bytB (n : Nat) (f : Nat → Int) : ABlk := rBlk 5 1 n fun i => [.int .u8 (f i)]
abbrev bolW (n : Nat) (g : Nat → Bool) : ABlk := wBlk 4 1 n fun i => [.bool (g i)]
abbrev powB : ABlk := ⟨true, false, 184, 0, .lit [.v (.int .i64 26), .v (.int .i64 23), .v (.int .i64 22), .v (.int .i64 16), .v (.int .i64 12), .v (.int .i64 11), .v (.int .i64 10), .v (.int .i64 8), .v (.int .i64 7), .v (.int .i64 5), .v (.int .i64 4), .v (.int .i64 2), .v (.int .i64 1), .v (.int .i64 0)]⟩
abbrev goN59 : Nat := 100000000000000000000000000000000000000000000000000000000000
abbrev goN60 : Nat := 1000000000000000000000000000000000000000000000000000000000000
def goR (P : Program) (n : Nat) (f : Nat → Int) (path : List Dec) (lp : List (Option LSum)) : Option VF := viewF [] (fCallF (E1 P) (fC (E1 P) 300) 125 [.c (.sl 0 0 0 n none)] 1000 10000000000000000000000000000000000000000 (stA [(0, bytB n f)] path lp))
abbrev goG : Nat := 3000
abbrev goJ : Nat := 100000000000000000000000000000000000000000000005000
abbrev goX (l : Nat) (m : Nat) : AV := .c (.sl l 0 0 m none)
/-! the bytes' bits -/
abbrev gaV (n k : Nat) : List AV := [.c (.sl 0 0 0 n none), .c (.ptr 1002 0 0), i64 (Int.ofNat k)]
abbrev gaY : Nat := 1000000000000000000000000000000000000000136
def gaR (P : Program) (n : Nat) (f : Nat → Int) (m : Nat) (g : Nat → Bool) (k : Nat) (path : List Dec) : Option VC :=
 view [4, 0, 3, 5] [gaY, goG, 0, 1002] (fC (E1 P) 100 (loopAt P 125 0) 1000000000000000000000000000000000000000000 10000000000000000000000000000000000000000 ⟨mkFr 107 ((4, goX goG m) :: [0, 3, 5].zip (gaV n k)), (goG, bolW m g) :: [0, 1002].zip [bytB n f, powB], 0, 0, false, path, [], [], [], none, [none]⟩)
abbrev gaS (n : Nat) (g : Nat → Bool) : Option LSum := some ⟨[4, 0, 3, 5], [0, 1002], mkFr 107 ((4, goX goG (8 * n)) :: [(3, .c (.ptr 1002 0 0))]), (goG, bolW (8 * n) g) :: [(1002, powB)], 100000000000000000000000000000000000000000000000000, .exit 0⟩
/-! 32 more -/
abbrev gbV (m k : Nat) : List AV := [.c (.ptr 1002 0 0), goX goJ m, i64 (Int.ofNat k)]
abbrev gbY : Nat := 1000000000000000000000000000000000000000000000000004
def gbR (P : Program) (m : Nat) (g : Nat → Bool) (k : Nat) (path : List Dec) : Option VC :=
 view [3, 4, 7] [gbY, goJ, 1002] (fC (E1 P) 100 (loopAt P 125 2) 1000000000000000000000000000000000000000000000000000 10000000000000000000000000000000000000000 ⟨mkFr 107 ([3, 4, 7].zip (gbV m k)), (goJ, bolW m g) :: [(1002, powB)], 0, 0, false, path, [], [], [], none, []⟩)
abbrev gbS (m : Nat) (g : Nat → Bool) : Option LSum := some ⟨[3, 4, 7], [goG, 1002], mkFr 107 [(3, .c (.ptr 1002 0 0)), (4, goX goJ m)], [(goJ, bolW m g), (1002, powB)], 10000000000000000000000000000000000000000000000000000, .exit 4⟩
/-! the first ones are turned -/
abbrev gcI : List Nat := [1002, goJ]
abbrev gcB (m : Nat) (g : Nat → Bool) : List ABlk := [powB, bolW m g]
def gcR (P : Program) (m : Nat) (g : Nat → Bool) (k : Nat) (path : List Dec) : Option VC :=
 view [3, 4, 8] gcI (fC (E1 P) 100 (loopAt P 125 3) 100000000000000000000000000000000000000000000000000000 10000000000000000000000000000000000000000 (stH 107 [3, 4, 8] gcI (gbV m k) (gcB m g) path []))
abbrev gcS (m : Nat) (g : Nat → Bool) : Option LSum := some ⟨[3, 4, 8], gcI, mkFr 107 [(3, .c (.ptr 1002 0 0)), (4, goX goJ m)], gcI.zip (gcB m g), 1000000000000000000000000000000000000000000000000000000, .exit 6⟩
/-! a step of the division -/
abbrev geV (m i k : Nat) : List AV := [.c (.ptr 1002 0 0), goX goJ m, i64 (Int.ofNat i), i64 (Int.ofNat k)]
def geR (P : Program) (m : Nat) (g : Nat → Bool) (i k : Nat) (path : List Dec) : Option VC :=
 view [3, 4, 9, 10] gcI (fC (E1 P) 100 (loopAt P 125 5) 100000000000000000000000000000000000000000000000000000000 10000000000000000000000000000000000000000 (stH 107 [3, 4, 9, 10] gcI (geV m i k) (gcB m g) path []))
abbrev geS (m i : Nat) (g : Nat → Bool) : Option LSum := some ⟨[3, 4, 9, 10], gcI, mkFr 107 ([3, 4, 9].zip (gbV m i)), gcI.zip (gcB m g), 1000000000000000000000000000000000000000000000000000000000, .exit 10⟩
def gdR (P : Program) (m : Nat) (g : Nat → Bool) (i : Nat) (path : List Dec) (lp : List (Option LSum)) : Option VC :=
 view [3, 4, 9] gcI (fC (E1 P) 100 (loopAt P 125 4) 10000000000000000000000000000000000000000000000000000000 10000000000000000000000000000000000000000 (stH 107 [3, 4, 9] gcI (gbV m i) (gcB m g) path lp))
abbrev gdS (m : Nat) (g : Nat → Bool) : Option LSum := some ⟨[3, 4, 9], gcI, mkFr 107 [(4, goX goJ m)], [(goJ, bolW m g)], 10000000000000000000000000000000000000000000000000000000000, .exit 8⟩
/-! the number -/
abbrev gfV (m : Nat) (z : Int) (k : Nat) : List AV := [goX goJ m, .c (.v (.int .u32 z)), i64 (Int.ofNat k)]
def gfR (P : Program) (m : Nat) (g : Nat → Bool) (z : Int) (k : Nat) (path : List Dec) : Option VC :=
 view [4, 12, 13] [goJ] (fC (E1 P) 100 (loopAt P 125 6) goN59 10000000000000000000000000000000000000000 (stH 107 [4, 12, 13] [goJ] (gfV m z k) [bolW m g] path []))
abbrev gfS (z : Int) : Option LSum := some ⟨[4, 12, 13], [goJ], mkFr 107 [(12, .c (.v (.int .u32 z)))], [], goN60, .exit 12⟩
theorem gaT (n : Nat) (f : Nat → Int) (m : Nat) (g : Nat → Bool) (k : Nat) (Q : VC → Prop) (H : let zz0 := (ABlk.mk false false 5 1 (Cs.arr n fun k => List.map AC.v ((fun i => [Value.int IntKind.u8 (f i)]) k))); let zz1 := (ABlk.mk true false 184 0 (Cs.lit [AC.v (Value.int IntKind.i64 (Int.ofNat 26)), AC.v (Value.int IntKind.i64 (Int.ofNat 23)), AC.v (Value.int IntKind.i64 (Int.ofNat 22)), AC.v (Value.int IntKind.i64 (Int.ofNat 16)), AC.v (Value.int IntKind.i64 (Int.ofNat 12)), AC.v (Value.int IntKind.i64 (Int.ofNat 11)), AC.v (Value.int IntKind.i64 (Int.ofNat 10)), AC.v (Value.int IntKind.i64 (Int.ofNat 8)), AC.v (Value.int IntKind.i64 (Int.ofNat 7)), AC.v (Value.int IntKind.i64 (Int.ofNat 5)), AC.v (Value.int IntKind.i64 (Int.ofNat 4)), AC.v (Value.int IntKind.i64 (Int.ofNat 2)), AC.v (Value.int IntKind.i64 (Int.ofNat 1)), AC.v (Value.int IntKind.i64 (Int.ofNat 0))])); let zz2 := ((4, goX goG m) :: List.zip [0, 3, 5] (gaV n k)); (((decide (Int.ofNat k < ↑n)) = true → Q (Exit.normal, [some (.c (.sl 1000000000000000000000000000000000000000136 0 0 (m + 1 + 1 + 1 + 1 + 1 + 1 + 1 + 1) none)), some (lkA zz2 0), some (lkA zz2 3), some (.c (.v (.int .i64 (IntKind.wrap .i64 (Int.ofNat k + Int.ofNat 1)))))], [some (ABlk.mk true true 4 1 (Cs.arr (m + 1 + 1 + 1 + 1 + 1 + 1 + 1 + 1) fun i => if i < m + 1 + 1 + 1 + 1 + 1 + 1 + 1 then if i < m + 1 + 1 + 1 + 1 + 1 + 1 then if i < m + 1 + 1 + 1 + 1 + 1 then if i < m + 1 + 1 + 1 + 1 then if i < m + 1 + 1 + 1 then if i < m + 1 + 1 then if i < m + 1 then if i < m then List.map AC.v ((fun i => [Value.bool (g i)]) i) else elt (ABlk.mk true false 4 0 (Cs.lit [.v (.bool (IntKind.wrap .u8 ↑(BitVec.toNat (BitVec.ofInt (IntKind.bits .u8) (Int.fdiv (f (0 + Int.toNat (Int.ofNat k))) (Int.ofNat 128)) &&& BitVec.ofInt (IntKind.bits .u8) 1)) == Int.ofNat 1))])) 0 0 1 (i - m) else elt (ABlk.mk true false 4 0 (Cs.lit [.v (.bool (IntKind.wrap .u8 ↑(BitVec.toNat (BitVec.ofInt (IntKind.bits .u8) (Int.fdiv (f (0 + Int.toNat (Int.ofNat k))) (Int.ofNat 64)) &&& BitVec.ofInt (IntKind.bits .u8) 1)) == Int.ofNat 1))])) 0 0 1 (i - (m + 1)) else elt (ABlk.mk true false 4 0 (Cs.lit [.v (.bool (IntKind.wrap .u8 ↑(BitVec.toNat (BitVec.ofInt (IntKind.bits .u8) (Int.fdiv (f (0 + Int.toNat (Int.ofNat k))) (Int.ofNat 32)) &&& BitVec.ofInt (IntKind.bits .u8) 1)) == Int.ofNat 1))])) 0 0 1 (i - (m + 1 + 1)) else elt (ABlk.mk true false 4 0 (Cs.lit [.v (.bool (IntKind.wrap .u8 ↑(BitVec.toNat (BitVec.ofInt (IntKind.bits .u8) (Int.fdiv (f (0 + Int.toNat (Int.ofNat k))) (Int.ofNat 16)) &&& BitVec.ofInt (IntKind.bits .u8) 1)) == Int.ofNat 1))])) 0 0 1 (i - (m + 1 + 1 + 1)) else elt (ABlk.mk true false 4 0 (Cs.lit [.v (.bool (IntKind.wrap .u8 ↑(BitVec.toNat (BitVec.ofInt (IntKind.bits .u8) (Int.fdiv (f (0 + Int.toNat (Int.ofNat k))) (Int.ofNat 8)) &&& BitVec.ofInt (IntKind.bits .u8) 1)) == Int.ofNat 1))])) 0 0 1 (i - (m + 1 + 1 + 1 + 1)) else elt (ABlk.mk true false 4 0 (Cs.lit [.v (.bool (IntKind.wrap .u8 ↑(BitVec.toNat (BitVec.ofInt (IntKind.bits .u8) (Int.fdiv (f (0 + Int.toNat (Int.ofNat k))) (Int.ofNat 4)) &&& BitVec.ofInt (IntKind.bits .u8) 1)) == Int.ofNat 1))])) 0 0 1 (i - (m + 1 + 1 + 1 + 1 + 1)) else elt (ABlk.mk true false 4 0 (Cs.lit [.v (.bool (IntKind.wrap .u8 ↑(BitVec.toNat (BitVec.ofInt (IntKind.bits .u8) (Int.fdiv (f (0 + Int.toNat (Int.ofNat k))) (Int.ofNat 2)) &&& BitVec.ofInt (IntKind.bits .u8) 1)) == Int.ofNat 1))])) 0 0 1 (i - (m + 1 + 1 + 1 + 1 + 1 + 1)) else elt (ABlk.mk true false 4 0 (Cs.lit [.v (.bool (IntKind.wrap .u8 ↑(BitVec.toNat (BitVec.ofInt (IntKind.bits .u8) (Int.fdiv (f (0 + Int.toNat (Int.ofNat k))) (Int.ofNat 1)) &&& BitVec.ofInt (IntKind.bits .u8) 1)) == Int.ofNat 1))])) 0 0 1 (i - (m + 1 + 1 + 1 + 1 + 1 + 1 + 1)))), none, some zz0, some zz1], 107, 1000000000000000000000000000000000000000146, [true, true, decide (m + 1 + 1 + 1 + 1 + 1 + 1 + 1 ≤ m + 1 + 1 + 1 + 1 + 1 + 1 + 1), decide ((m + 1 + 1 + 1 + 1 + 1 + 1 + 1 + 1) * 1 ≤ 140737488355328), true, ABlk.inb zz0 (0 + Int.toNat (Int.ofNat k)) 1, true, decide (Int.ofNat 0 ≤ Int.ofNat k ∧ Int.ofNat k < ↑n), true, true, decide (m + 1 + 1 + 1 + 1 + 1 + 1 ≤ m + 1 + 1 + 1 + 1 + 1 + 1), decide ((m + 1 + 1 + 1 + 1 + 1 + 1 + 1) * 1 ≤ 140737488355328), true, ABlk.inb zz0 (0 + Int.toNat (Int.ofNat k)) 1, true, decide (Int.ofNat 0 ≤ Int.ofNat k ∧ Int.ofNat k < ↑n), true, true, decide (m + 1 + 1 + 1 + 1 + 1 ≤ m + 1 + 1 + 1 + 1 + 1), decide ((m + 1 + 1 + 1 + 1 + 1 + 1) * 1 ≤ 140737488355328), true, ABlk.inb zz0 (0 + Int.toNat (Int.ofNat k)) 1, true, decide (Int.ofNat 0 ≤ Int.ofNat k ∧ Int.ofNat k < ↑n), true, true, decide (m + 1 + 1 + 1 + 1 ≤ m + 1 + 1 + 1 + 1), decide ((m + 1 + 1 + 1 + 1 + 1) * 1 ≤ 140737488355328), true, ABlk.inb zz0 (0 + Int.toNat (Int.ofNat k)) 1, true, decide (Int.ofNat 0 ≤ Int.ofNat k ∧ Int.ofNat k < ↑n), true, true, decide (m + 1 + 1 + 1 ≤ m + 1 + 1 + 1), decide ((m + 1 + 1 + 1 + 1) * 1 ≤ 140737488355328), true, ABlk.inb zz0 (0 + Int.toNat (Int.ofNat k)) 1, true, decide (Int.ofNat 0 ≤ Int.ofNat k ∧ Int.ofNat k < ↑n), true, true, decide (m + 1 + 1 ≤ m + 1 + 1), decide ((m + 1 + 1 + 1) * 1 ≤ 140737488355328), true, ABlk.inb zz0 (0 + Int.toNat (Int.ofNat k)) 1, true, decide (Int.ofNat 0 ≤ Int.ofNat k ∧ Int.ofNat k < ↑n), true, true, decide (m + 1 ≤ m + 1), decide ((m + 1 + 1) * 1 ≤ 140737488355328), true, ABlk.inb zz0 (0 + Int.toNat (Int.ofNat k)) 1, true, decide (Int.ofNat 0 ≤ Int.ofNat k ∧ Int.ofNat k < ↑n), true, true, decide (m ≤ m), decide ((m + 1) * 1 ≤ 140737488355328), true, ABlk.inb zz0 (0 + Int.toNat (Int.ofNat k)) 1, true, decide (Int.ofNat 0 ≤ Int.ofNat k ∧ Int.ofNat k < ↑n), decide (Int.ofNat k < ↑n) == true], [])) ∧ ((decide (Int.ofNat k < ↑n)) = false → Q (Exit.exit 0, [some (lkA zz2 4), some (lkA zz2 0), some (lkA zz2 3), some (lkA zz2 5)], [none, some (ABlk.mk true true 4 1 (Cs.arr m fun k => List.map AC.v ((fun i => [Value.bool (g i)]) k))), some zz0, some zz1], 107, 1000000000000000000000000000000000000000004, [decide (Int.ofNat k < ↑n) == false], [])))) :
 ∃ p r, gaR Tryz.prog n f m g k p = some r ∧ Q r :=
 two H
 (fun g1 => ⟨pD 10 1, _, by kernel_rfl, g1⟩)
 (fun g1 => ⟨pD 1 2, _, by kernel_rfl, g1⟩)
theorem gbT (m : Nat) (g : Nat → Bool) (k : Nat) (Q : VC → Prop) (H : let zz0 := (ABlk.mk true false 184 0 (Cs.lit [AC.v (Value.int IntKind.i64 (Int.ofNat 26)), AC.v (Value.int IntKind.i64 (Int.ofNat 23)), AC.v (Value.int IntKind.i64 (Int.ofNat 22)), AC.v (Value.int IntKind.i64 (Int.ofNat 16)), AC.v (Value.int IntKind.i64 (Int.ofNat 12)), AC.v (Value.int IntKind.i64 (Int.ofNat 11)), AC.v (Value.int IntKind.i64 (Int.ofNat 10)), AC.v (Value.int IntKind.i64 (Int.ofNat 8)), AC.v (Value.int IntKind.i64 (Int.ofNat 7)), AC.v (Value.int IntKind.i64 (Int.ofNat 5)), AC.v (Value.int IntKind.i64 (Int.ofNat 4)), AC.v (Value.int IntKind.i64 (Int.ofNat 2)), AC.v (Value.int IntKind.i64 (Int.ofNat 1)), AC.v (Value.int IntKind.i64 (Int.ofNat 0))])); (((decide (Int.ofNat k < Int.ofNat 32)) = true → Q (Exit.normal, [some (lkA (List.zip [3, 4, 7] (gbV m k)) 3), some (.c (.sl 1000000000000000000000000000000000000000000000000004 0 0 (m + 1) none)), some (.c (.v (.int .i64 (IntKind.wrap .i64 (Int.ofNat k + Int.ofNat 1)))))], [some (ABlk.mk true true 4 1 (Cs.arr (m + 1) fun i => if i < m then List.map AC.v ((fun i => [Value.bool (g i)]) i) else elt (ABlk.mk true false 4 0 (Cs.lit [.v (.bool false)])) 0 0 1 (i - m))), none, some zz0], 107, 1000000000000000000000000000000000000000000000000009, [true, true, decide (m ≤ m), decide ((m + 1) * 1 ≤ 140737488355328), decide (Int.ofNat k < Int.ofNat 32) == true], [])) ∧ ((decide (Int.ofNat k < Int.ofNat 32)) = false → Q (Exit.exit 4, [some (lkA (List.zip [3, 4, 7] (gbV m k)) 3), some (lkA (List.zip [3, 4, 7] (gbV m k)) 4), some (lkA (List.zip [3, 4, 7] (gbV m k)) 7)], [none, some (ABlk.mk true true 4 1 (Cs.arr m fun k => List.map AC.v ((fun i => [Value.bool (g i)]) k))), some zz0], 107, 1000000000000000000000000000000000000000000000000002, [decide (Int.ofNat k < Int.ofNat 32) == false], [])))) :
 ∃ p r, gbR Tryz.prog m g k p = some r ∧ Q r :=
 two H
 (fun g1 => ⟨pD 1 1, _, by kernel_rfl, g1⟩)
 (fun g1 => ⟨pD 1 2, _, by kernel_rfl, g1⟩)
theorem gcT (m : Nat) (g : Nat → Bool) (k : Nat) (Q : VC → Prop) (H : let zz0 := (ABlk.mk true false 184 0 (Cs.lit [AC.v (Value.int IntKind.i64 (Int.ofNat 26)), AC.v (Value.int IntKind.i64 (Int.ofNat 23)), AC.v (Value.int IntKind.i64 (Int.ofNat 22)), AC.v (Value.int IntKind.i64 (Int.ofNat 16)), AC.v (Value.int IntKind.i64 (Int.ofNat 12)), AC.v (Value.int IntKind.i64 (Int.ofNat 11)), AC.v (Value.int IntKind.i64 (Int.ofNat 10)), AC.v (Value.int IntKind.i64 (Int.ofNat 8)), AC.v (Value.int IntKind.i64 (Int.ofNat 7)), AC.v (Value.int IntKind.i64 (Int.ofNat 5)), AC.v (Value.int IntKind.i64 (Int.ofNat 4)), AC.v (Value.int IntKind.i64 (Int.ofNat 2)), AC.v (Value.int IntKind.i64 (Int.ofNat 1)), AC.v (Value.int IntKind.i64 (Int.ofNat 0))])); (((decide (Int.ofNat k < Int.ofNat 32)) = true → Q (Exit.normal, [some (lkA (List.zip [3, 4, 8] (gbV m k)) 3), some (lkA (List.zip [3, 4, 8] (gbV m k)) 4), some (.c (.v (.int .i64 (IntKind.wrap .i64 (Int.ofNat k + Int.ofNat 1)))))], [some zz0, some (ABlk.mk true true 4 1 (Cs.arr m fun i => if i = 0 + Int.toNat (Int.ofNat k) then setL ((fun k => List.map AC.v ((fun i => [Value.bool (g i)]) k)) i) 0 [.v (.bool !g (0 + Int.toNat (Int.ofNat k)))] else List.map AC.v ((fun i => [Value.bool (g i)]) i)))], 107, 100000000000000000000000000000000000000000000000000014, [ABlk.inb (ABlk.mk true true 4 1 (Cs.arr m fun k => List.map AC.v ((fun i => [Value.bool (g i)]) k))) (0 + Int.toNat (Int.ofNat k)) 1, decide (Int.ofNat 0 ≤ Int.ofNat k ∧ Int.ofNat k < ↑m), ABlk.inb (ABlk.mk true true 4 1 (Cs.arr m fun k => List.map AC.v ((fun i => [Value.bool (g i)]) k))) (0 + Int.toNat (Int.ofNat k)) 1, true, decide (Int.ofNat 0 ≤ Int.ofNat k ∧ Int.ofNat k < ↑m), decide (Int.ofNat k < Int.ofNat 32) == true], [])) ∧ ((decide (Int.ofNat k < Int.ofNat 32)) = false → Q (Exit.exit 6, [some (lkA (List.zip [3, 4, 8] (gbV m k)) 3), some (lkA (List.zip [3, 4, 8] (gbV m k)) 4), some (lkA (List.zip [3, 4, 8] (gbV m k)) 8)], [some zz0, some (ABlk.mk true true 4 1 (Cs.arr m fun k => List.map AC.v ((fun i => [Value.bool (g i)]) k)))], 107, 100000000000000000000000000000000000000000000000000002, [decide (Int.ofNat k < Int.ofNat 32) == false], [])))) :
 ∃ p r, gcR Tryz.prog m g k p = some r ∧ Q r :=
 two H
 (fun g1 => ⟨pD 1 1, _, by kernel_rfl, g1⟩)
 (fun g1 => ⟨pD 1 2, _, by kernel_rfl, g1⟩)
theorem geT (m : Nat) (g : Nat → Bool) (i k : Nat) (Q : VC → Prop) (H : let zz0 := [AC.v (Value.int IntKind.i64 (Int.ofNat 26)), AC.v (Value.int IntKind.i64 (Int.ofNat 23)), AC.v (Value.int IntKind.i64 (Int.ofNat 22)), AC.v (Value.int IntKind.i64 (Int.ofNat 16)), AC.v (Value.int IntKind.i64 (Int.ofNat 12)), AC.v (Value.int IntKind.i64 (Int.ofNat 11)), AC.v (Value.int IntKind.i64 (Int.ofNat 10)), AC.v (Value.int IntKind.i64 (Int.ofNat 8)), AC.v (Value.int IntKind.i64 (Int.ofNat 7)), AC.v (Value.int IntKind.i64 (Int.ofNat 5)), AC.v (Value.int IntKind.i64 (Int.ofNat 4)), AC.v (Value.int IntKind.i64 (Int.ofNat 2)), AC.v (Value.int IntKind.i64 (Int.ofNat 1)), AC.v (Value.int IntKind.i64 (Int.ofNat 0))]; let zz1 := (IntKind.wrap IntKind.i64 (Int.ofNat i + Int.ofNat 32) - asI (List.getD zz0 (0 + Int.toNat (Int.ofNat k) * 1) nov)); (((decide (Int.ofNat k < Int.ofNat 14)) = true → Q (Exit.normal, [some (lkA (List.zip [3, 4, 9, 10] (geV m i k)) 3), some (lkA (List.zip [3, 4, 9, 10] (geV m i k)) 4), some (lkA (List.zip [3, 4, 9, 10] (geV m i k)) 9), some (.c (.v (.int .i64 (IntKind.wrap .i64 (Int.ofNat k + Int.ofNat 1)))))], [some (ABlk.mk true false 184 0 (Cs.lit zz0)), some (ABlk.mk true true 4 1 (Cs.arr m fun i_1 => if i_1 = 0 + Int.toNat (IntKind.wrap .i64 zz1) then setL ((fun k => List.map AC.v ((fun i => [Value.bool (g i)]) k)) i_1) 0 [.v (.bool !g (0 + Int.toNat (IntKind.wrap .i64 zz1)))] else List.map AC.v ((fun i => [Value.bool (g i)]) i_1)))], 107, 100000000000000000000000000000000000000000000000000000021, [ABlk.inb (ABlk.mk true true 4 1 (Cs.arr m fun k => List.map AC.v ((fun i => [Value.bool (g i)]) k))) (0 + Int.toNat (IntKind.wrap .i64 zz1)) 1, decide (Int.ofNat 0 ≤ IntKind.wrap .i64 zz1 ∧ IntKind.wrap .i64 zz1 < ↑m), ABlk.inb (ABlk.mk true true 4 1 (Cs.arr m fun k => List.map AC.v ((fun i => [Value.bool (g i)]) k))) (0 + Int.toNat (IntKind.wrap .i64 zz1)) 1, true, decide (Int.ofNat 0 ≤ IntKind.wrap .i64 zz1 ∧ IntKind.wrap .i64 zz1 < ↑m), ABlk.inb (ABlk.mk true false 184 0 (Cs.lit zz0)) 0 (0 + Int.toNat (Int.ofNat k) * 1 + 1), okl (Kd.i .i64) (List.getD zz0 (0 + Int.toNat (Int.ofNat k) * 1) nov), decide (Int.ofNat 0 ≤ Int.ofNat k ∧ Int.ofNat k < Int.ofNat 14), decide (Int.ofNat k < Int.ofNat 14) == true], [])) ∧ ((decide (Int.ofNat k < Int.ofNat 14)) = false → Q (Exit.exit 10, [some (lkA (List.zip [3, 4, 9, 10] (geV m i k)) 3), some (lkA (List.zip [3, 4, 9, 10] (geV m i k)) 4), some (lkA (List.zip [3, 4, 9, 10] (geV m i k)) 9), some (lkA (List.zip [3, 4, 9, 10] (geV m i k)) 10)], [some (ABlk.mk true false 184 0 (Cs.lit zz0)), some (ABlk.mk true true 4 1 (Cs.arr m fun k => List.map AC.v ((fun i => [Value.bool (g i)]) k)))], 107, 100000000000000000000000000000000000000000000000000000002, [decide (Int.ofNat k < Int.ofNat 14) == false], [])))) :
 ∃ p r, geR Tryz.prog m g i k p = some r ∧ Q r :=
 two H
 (fun g1 => ⟨pD 1 1, _, by kernel_rfl, g1⟩)
 (fun g1 => ⟨pD 1 2, _, by kernel_rfl, g1⟩)
theorem gdT (m : Nat) (g h : Nat → Bool) (i : Nat) (Q : VC → Prop) (H : let zz0 := (ABlk.mk true false 184 0 (Cs.lit [AC.v (Value.int IntKind.i64 (Int.ofNat 26)), AC.v (Value.int IntKind.i64 (Int.ofNat 23)), AC.v (Value.int IntKind.i64 (Int.ofNat 22)), AC.v (Value.int IntKind.i64 (Int.ofNat 16)), AC.v (Value.int IntKind.i64 (Int.ofNat 12)), AC.v (Value.int IntKind.i64 (Int.ofNat 11)), AC.v (Value.int IntKind.i64 (Int.ofNat 10)), AC.v (Value.int IntKind.i64 (Int.ofNat 8)), AC.v (Value.int IntKind.i64 (Int.ofNat 7)), AC.v (Value.int IntKind.i64 (Int.ofNat 5)), AC.v (Value.int IntKind.i64 (Int.ofNat 4)), AC.v (Value.int IntKind.i64 (Int.ofNat 2)), AC.v (Value.int IntKind.i64 (Int.ofNat 1)), AC.v (Value.int IntKind.i64 (Int.ofNat 0))])); let zz1 := (ABlk.mk true true 4 1 (Cs.arr m fun k => List.map AC.v ((fun i => [Value.bool (g i)]) k))); let zz2 := (IntKind.wrap IntKind.i64 (Int.ofNat i + Int.ofNat 32) < ↑m); let zz3 := [some (lkA (List.zip [3, 4, 9] (gbV m i)) 3), some (lkA (List.zip [3, 4, 9] (gbV m i)) 4), some (AV.c (AC.v (Value.int IntKind.i64 (IntKind.wrap IntKind.i64 (Int.ofNat i + Int.ofNat 1)))))]; (((decide zz2) = true → (((!g (0 + Int.toNat (Int.ofNat i))) = true → Q (Exit.normal, zz3, [some zz0, some zz1], 107, 10000000000000000000000000000000000000000000000000000013, [(!g (0 + Int.toNat (Int.ofNat i))) == true, ABlk.inb zz1 (0 + Int.toNat (Int.ofNat i)) 1, true, decide (Int.ofNat 0 ≤ Int.ofNat i ∧ Int.ofNat i < ↑m), decide zz2 == true], [])) ∧ ((!g (0 + Int.toNat (Int.ofNat i))) = false → Q (Exit.normal, zz3, [some zz0, some (ABlk.mk true true 4 1 (Cs.arr m fun k => List.map AC.v ((fun i => [Value.bool (h i)]) k)))], 107, 1000000000000000000000000000000000000000000000000000000003, [ABlk.inb zz1 (0 + Int.toNat (Int.ofNat i)) 1, decide (Int.ofNat 0 ≤ Int.ofNat i ∧ Int.ofNat i < ↑m), (!g (0 + Int.toNat (Int.ofNat i))) == false, ABlk.inb zz1 (0 + Int.toNat (Int.ofNat i)) 1, true, decide (Int.ofNat 0 ≤ Int.ofNat i ∧ Int.ofNat i < ↑m), decide zz2 == true], [LoopV Tryz.prog (loopAt Tryz.prog 125 5) [3, 4, 9, 10] gcI [some (.c (.ptr 1002 0 0)), some (.c (.sl 100000000000000000000000000000000000000000000005000 0 0 m none)), some (.c (.v (.int .i64 (Int.ofNat i)))), some (.c (.v (.int .i64 (Int.ofNat 0))))] [some zz0, some (ABlk.mk true true 4 1 (Cs.arr m fun i_1 => if i_1 = 0 + Int.toNat (Int.ofNat i) then setL ((fun k => List.map AC.v ((fun i => [Value.bool (g i)]) k)) i_1) 0 [.v (.bool false)] else List.map AC.v ((fun i => [Value.bool (g i)]) i_1)))] 107 10000000000000000000000000000000000000000000000000000015 (mkFr 107 (List.zip [3, 4, 9] (gbV m i))) (List.zip gcI (gcB m h)) 1000000000000000000000000000000000000000000000000000000000 (Exit.exit 10) none])))) ∧ ((decide zz2) = false → Q (Exit.exit 8, [some (lkA (List.zip [3, 4, 9] (gbV m i)) 3), some (lkA (List.zip [3, 4, 9] (gbV m i)) 4), some (lkA (List.zip [3, 4, 9] (gbV m i)) 9)], [some zz0, some zz1], 107, 10000000000000000000000000000000000000000000000000000005, [decide zz2 == false], [])))) :
 ∃ p r, gdR Tryz.prog m g i p [geS m i h] = some r ∧ Q r :=
 two H
 (fun g1 => two g1
  (fun g2 => ⟨pD 2 4, _, by kernel_rfl, g2⟩)
  (fun g2 => ⟨pD 2 7, _, by kernel_rfl, g2⟩))
 (fun g1 => ⟨pD 1 2, _, by kernel_rfl, g1⟩)
theorem gfT (m : Nat) (g : Nat → Bool) (z : Int) (k : Nat) (Q : VC → Prop) (H : let zz0 := (ABlk.mk true true 4 1 (Cs.arr m fun k => List.map AC.v ((fun i => [Value.bool (g i)]) k))); let zq0 : List Bool := [ABlk.inb zz0 (0 + Int.toNat (Int.ofNat k)) 1, true, decide (Int.ofNat 0 ≤ Int.ofNat k ∧ Int.ofNat k < ↑m), decide (Int.ofNat k < ↑m) == true]; (((decide (Int.ofNat k < ↑m)) = true → (((!g (0 + Int.toNat (Int.ofNat k))) = true → Q (Exit.normal, [some (lkA (List.zip [4, 12, 13] (gfV m z k)) 4), some (.c (.v (.int .u32 (IntKind.wrap .u32 (IntKind.wrap .u32 (Int.ofNat 2 * z) + Int.ofNat 1))))), some (.c (.v (.int .i64 (IntKind.wrap .i64 (Int.ofNat k + Int.ofNat 1)))))], [some zz0], 107, 100000000000000000000000000000000000000000000000000000000018, (((!g (0 + Int.toNat (Int.ofNat k))) == true) :: zq0), [])) ∧ ((!g (0 + Int.toNat (Int.ofNat k))) = false → Q (Exit.normal, [some (lkA (List.zip [4, 12, 13] (gfV m z k)) 4), some (.c (.v (.int .u32 (IntKind.wrap .u32 (Int.ofNat 2 * z))))), some (.c (.v (.int .i64 (IntKind.wrap .i64 (Int.ofNat k + Int.ofNat 1)))))], [some zz0], 107, 100000000000000000000000000000000000000000000000000000000015, (((!g (0 + Int.toNat (Int.ofNat k))) == false) :: zq0), [])))) ∧ ((decide (Int.ofNat k < ↑m)) = false → Q (Exit.exit 12, [some (lkA (List.zip [4, 12, 13] (gfV m z k)) 4), some (lkA (List.zip [4, 12, 13] (gfV m z k)) 12), some (lkA (List.zip [4, 12, 13] (gfV m z k)) 13)], [some zz0], 107, 100000000000000000000000000000000000000000000000000000000004, [decide (Int.ofNat k < ↑m) == false], [])))) :
 ∃ p r, gfR Tryz.prog m g z k p = some r ∧ Q r :=
 two H
 (fun g1 => two g1
  (fun g2 => ⟨pD 2 4, _, by kernel_rfl, g2⟩)
  (fun g2 => ⟨pD 2 7, _, by kernel_rfl, g2⟩))
 (fun g1 => ⟨pD 1 2, _, by kernel_rfl, g1⟩)
theorem goT (n : Nat) (f : Nat → Int) (g1 g2 g3 g4 : Nat → Bool) (z : Int) (Q : VF → Prop) (H : let zz0 := (ABlk.mk true false 184 0 (Cs.lit [AC.v (Value.int IntKind.i64 (Int.ofNat 26)), AC.v (Value.int IntKind.i64 (Int.ofNat 23)), AC.v (Value.int IntKind.i64 (Int.ofNat 22)), AC.v (Value.int IntKind.i64 (Int.ofNat 16)), AC.v (Value.int IntKind.i64 (Int.ofNat 12)), AC.v (Value.int IntKind.i64 (Int.ofNat 11)), AC.v (Value.int IntKind.i64 (Int.ofNat 10)), AC.v (Value.int IntKind.i64 (Int.ofNat 8)), AC.v (Value.int IntKind.i64 (Int.ofNat 7)), AC.v (Value.int IntKind.i64 (Int.ofNat 5)), AC.v (Value.int IntKind.i64 (Int.ofNat 4)), AC.v (Value.int IntKind.i64 (Int.ofNat 2)), AC.v (Value.int IntKind.i64 (Int.ofNat 1)), AC.v (Value.int IntKind.i64 (Int.ofNat 0))])); let zz1 := [some (AV.c (AC.ptr 1002 0 0)), some (AV.c (AC.sl 100000000000000000000000000000000000000000000005000 0 0 (8 * n + 32) none)), some (AV.c (AC.v (Value.int IntKind.i64 (Int.ofNat 0))))]; Q (.c (.v (.int .u32 z)), [], 1000000000000000000000000000000000000000000000000000000000002, [true], [LoopV Tryz.prog (loopAt Tryz.prog 125 6) [4, 12, 13] [goJ] [some (.c (.sl 100000000000000000000000000000000000000000000005000 0 0 (8 * n + 32) none)), some (.c (.v (.int .u32 (Int.ofNat 0)))), some (.c (.v (.int .i64 (IntKind.wrap .i64 (↑(8 * n + 32) - Int.ofNat 32)))))] [some (ABlk.mk true true 4 1 (Cs.arr (8 * n + 32) fun k => List.map AC.v ((fun i => [Value.bool (g4 i)]) k)))] 107 10000000000000000000000000000000000000000000000000000000005 (mkFr 107 [(12, .c (.v (.int .u32 z)))]) [] 1000000000000000000000000000000000000000000000000000000000000 (Exit.exit 12) none, LoopV Tryz.prog (loopAt Tryz.prog 125 4) [3, 4, 9] gcI zz1 [some zz0, some (ABlk.mk true true 4 1 (Cs.arr (8 * n + 32) fun k => List.map AC.v ((fun i => [Value.bool (g3 i)]) k)))] 107 1000000000000000000000000000000000000000000000000000001 (mkFr 107 [(4, goX goJ (8 * n + 32))]) [(goJ, bolW (8 * n + 32) g4)] 10000000000000000000000000000000000000000000000000000000000 (Exit.exit 8) none, LoopV Tryz.prog (loopAt Tryz.prog 125 3) [3, 4, 8] gcI zz1 [some zz0, some (ABlk.mk true true 4 1 (Cs.arr (8 * n + 32) fun k => List.map AC.v ((fun i => [Value.bool (g2 i)]) k)))] 107 10000000000000000000000000000000000000000000000000001 (mkFr 107 [(3, .c (.ptr 1002 0 0)), (4, goX goJ (8 * n + 32))]) (List.zip gcI (gcB (8 * n + 32) g3)) 1000000000000000000000000000000000000000000000000000000 (Exit.exit 6) none, LoopV Tryz.prog (loopAt Tryz.prog 125 2) [3, 4, 7] [goG, 1002] [some (.c (.ptr 1002 0 0)), some (.c (.sl 3000 0 0 (8 * n) none)), some (.c (.v (.int .i64 (Int.ofNat 0))))] [some (ABlk.mk true true 4 1 (Cs.arr (8 * n) fun k => List.map AC.v ((fun i => [Value.bool (g1 i)]) k))), some zz0] 107 100000000000000000000000000000000000000000000000001 (mkFr 107 [(3, .c (.ptr 1002 0 0)), (4, goX goJ (8 * n + 32))]) [(goJ, bolW (8 * n + 32) g2), (1002, powB)] 10000000000000000000000000000000000000000000000000000 (Exit.exit 4) none, LoopV Tryz.prog (loopAt Tryz.prog 125 0) [4, 0, 3, 5] [0, 1002] [some (.c (AC.v (Value.slice none 0 0))), some (.c (.sl 0 0 0 n none)), some (.c (.ptr 1002 0 0)), some (.c (.v (.int .i64 (Int.ofNat 0))))] [some (ABlk.mk false false 5 1 (Cs.arr n fun k => List.map AC.v ((fun i => [Value.int .u8 (f i)]) k))), some zz0] 107 1006 (mkFr 107 [(4, goX goG (8 * n)), (3, .c (.ptr 1002 0 0))]) [(goG, bolW (8 * n) g1), (1002, powB)] 100000000000000000000000000000000000000000000000000 (Exit.exit 0) none])) :
 ∃ p r, goR Tryz.prog n f p [gaS n g1, gbS (8 * n + 32) g2, gcS (8 * n + 32) g3, gdS (8 * n + 32) g4, gfS z] = some r ∧ Q r :=
 ⟨pD 0 0, _, by kernel_rfl, H⟩
end Go.Proofs.YtoelekmbmghicaaGreatDoor
end
/- sennitref02.Of: the sums of its loops over a list that stays. -/
section
namespace Go.Proofs.YtoelekmbmghicaaGreatDoor
open Go.RowKit
theorem go_e (k : Nat) : 0 + Int.toNat (Int.ofNat k) = k := by simp
theorem BEq_bs {m k : Nat} {g h : Nat → Bool} {v : Bool} (hk : h k = v) (hne : ∀ i, i ≠ k → h i = g i) : BEq ⟨true, true, 4, 1, .arr m fun i => if i = k then setL ((fun k => List.map AC.v ((fun i => [Value.bool (g i)]) k)) i) 0 [.v (.bool v)] else List.map AC.v ((fun i => [Value.bool (g i)]) i)⟩ (bolW m h) := ⟨rfl, rfl, rfl, rfl, .inr (.inl ⟨_, _, _, rfl, rfl, fun i hi => by
 dsimp only
 by_cases e : i = k
 · rw [if_pos e, e, hk]; rfl
 · rw [if_neg e, hne i e]⟩)⟩
theorem gcB_low {N : Nat} (m : Nat) (g : Nat → Bool) : ∀ b ∈ gcB m g, lowB N b := by
 intro b hb
 simp only [List.mem_cons, List.not_mem_nil, or_false] at hb
 rcases hb with rfl | rfl
 · exact low_lit rfl
 · exact wBlk_low
abbrev gcE : Nat := 10000000000000000000000000000000000000000000000000001
def trnF (b : Nat → Bool) (k i : Nat) : Bool := b i ^^ decide (i < k)
theorem gc_sum (m : Nat) (b : Nat → Bool) (h1 : 32 ≤ m) (h2 : m ≤ 1000) : LoopV Tryz.prog (loopAt Tryz.prog 125 3) [3, 4, 8] gcI ((gbV m 0).map some) ((gcB m b).map some) 107 gcE (mkFr 107 [(3, .c (.ptr 1002 0 0)), (4, goX goJ m)]) (gcI.zip (gcB m (trnF b 32))) 1000000000000000000000000000000000000000000000000000000 (.exit 6) none := by
 have hk : gcI.all (keptB gcE 1000000000000000000000000000000000000000000000000000000) = true := by kernel_rfl
 have e0 : trnF b 0 = b := by funext i; unfold trnF; simp
 refine loop_viewE hE1 (fuel := 100) (str := 10000000000000000000000000000000000000000) (nh := 100000000000000000000000000000000000000000000000000000) (S := Nat) (fun k => k ≤ 32) (fun k => 32 - k) [3, 4, 8] [] gcI (gbV m) (fun k => gcB m (trnF b k)) (Nat.le_of_ble_eq_true rfl) (Nat.le_of_ble_eq_true rfl) (Nat.le_of_ble_eq_true rfl) (s0 := 0) (Nat.zero_le _) (fun _ => ⟨rfl, rfl⟩) hk (by rw [e0]; exact BL.refl _) (fun k _ => ⟨rfl, gcB_low m _⟩) ?_
 intro k hk2
 refine (?_ : (∃ p r, gcR Tryz.prog m (trnF b k) k p = some r ∧ _) → _) (gcT m (trnF b k) k (StepV gcE 1000000000000000000000000000000000000000000000000000000 107 [3, 4, 8] [] gcI (fun k => k ≤ 32) (fun k => 32 - k) (gbV m) (fun k => gcB m (trnF b k)) (.exit 6) [(3, .c (.ptr 1002 0 0)), (4, goX goJ m)] (gcI.zip (gcB m (trnF b 32))) k) ?_)
 · rintro ⟨p, r, h1, h2⟩
   exact ⟨p, [], r, h1, h2⟩
 · refine ⟨fun c1 => ?_, fun c1 => ?_⟩
   · have hlt : k < 32 := by simp at c1; omega
     have w := fr_w1 (show k < 1000000 by omega)
     refine ⟨?_, rfl, by dsimp only; omega, rfl, .inl ⟨rfl, k + 1, hlt, by show 32 - (k + 1) < 32 - k; omega, by dsimp only; rw [w]; rfl, ?_⟩⟩
     · simp only [allT, List.forall_mem_cons, c1]
       simp [inb_arr]
       omega
     · rw [go_e]
       refine ⟨BEq.refl _, BEq_bs ?_ fun i hi => ?_, trivial⟩
       · unfold trnF; simp
       · unfold trnF
         congr 1
         rw [Bool.eq_iff_iff, decide_eq_true_eq, decide_eq_true_eq]
         omega
   · obtain rfl : k = 32 := by simp at c1; omega
     refine ⟨by simp only [allT, List.forall_mem_cons, c1]; simp, rfl, by dsimp only; omega, rfl, .inr ⟨by simp, rfl, fun p hp => ?_, mf_all hk (gcB_low m _) rfl⟩⟩
     simp only [List.mem_cons, List.not_mem_nil, or_false] at hp
     rcases hp with rfl | rfl
     · exact ⟨rfl, .head _⟩
     · exact ⟨rfl, .tail _ (.head _)⟩
/-! a step of the division -/
def pw (k : Nat) : Nat := crPow.getD k 0
abbrev powL : List AC := [.v (.int .i64 (Int.ofNat 26)), .v (.int .i64 (Int.ofNat 23)), .v (.int .i64 (Int.ofNat 22)), .v (.int .i64 (Int.ofNat 16)), .v (.int .i64 (Int.ofNat 12)), .v (.int .i64 (Int.ofNat 11)), .v (.int .i64 (Int.ofNat 10)), .v (.int .i64 (Int.ofNat 8)), .v (.int .i64 (Int.ofNat 7)), .v (.int .i64 (Int.ofNat 5)), .v (.int .i64 (Int.ofNat 4)), .v (.int .i64 (Int.ofNat 2)), .v (.int .i64 (Int.ofNat 1)), .v (.int .i64 (Int.ofNat 0))]
theorem pw_at : ∀ k, k < 14 → asI (List.getD powL (k * 1) nov) = (pw k : Int) ∧ okl (Kd.i .i64) (List.getD powL (k * 1) nov) = true ∧ pw k ≤ 26 := by decide
theorem pw_ne : ∀ k, k < 14 → ∀ p ∈ crPow.take k, p ≠ pw k ∧ p ≤ 26 := by decide
theorem take_pw : ∀ k, k < 14 → crPow.take (k + 1) = crPow.take k ++ [pw k] := by decide
theorem dvFlip_succ (i : Nat) {k : Nat} (hk : k < 14) (j : Nat) : dvFlip i (k + 1) j = (dvFlip i k j || j == i + 32 - pw k) := by
 unfold dvFlip
 rw [take_pw k hk, List.any_append]
 simp
theorem dvFlip_at2 (i : Nat) {k : Nat} (hk : k < 14) : dvFlip i k (i + 32 - pw k) = false := by
 unfold dvFlip
 rw [List.any_eq_false]
 intro p hp
 obtain ⟨h1, h2⟩ := pw_ne k hk p hp
 have := (pw_at k hk).2.2
 simp
 omega
theorem dvFlip_self (i k : Nat) : dvFlip i k i = false := by
 unfold dvFlip
 rw [List.any_eq_false]
 intro p hp
 have : ∀ p ∈ crPow, p ≤ 26 := by decide
 have := this p (List.mem_of_mem_take hp)
 simp
 omega
abbrev geE : Nat := 10000000000000000000000000000000000000000000000000000015
def flpF (b : Nat → Bool) (i k j : Nat) : Bool := b j ^^ dvFlip i k j
set_option maxRecDepth 100000 in
theorem ge_sum (m i : Nat) (b : Nat → Bool) (h1 : i + 32 < m) (h2 : m ≤ 1000) {eblks : List (Option ABlk)} (heb : BL (gcB m b) eblks) : LoopV Tryz.prog (loopAt Tryz.prog 125 5) [3, 4, 9, 10] gcI ((geV m i 0).map some) eblks 107 geE (mkFr 107 ([3, 4, 9].zip (gbV m i))) (gcI.zip (gcB m (flpF b i 14))) 1000000000000000000000000000000000000000000000000000000000 (.exit 10) none := by
 have hk : gcI.all (keptB geE 1000000000000000000000000000000000000000000000000000000000) = true := by kernel_rfl
 have e0 : flpF b i 0 = b := by funext j; unfold flpF dvFlip; simp
 refine loop_viewE hE1 (fuel := 100) (str := 10000000000000000000000000000000000000000) (nh := 100000000000000000000000000000000000000000000000000000000) (S := Nat) (fun k => k ≤ 14) (fun k => 14 - k) [3, 4, 9, 10] [] gcI (geV m i) (fun k => gcB m (flpF b i k)) (Nat.le_of_ble_eq_true rfl) (Nat.le_of_ble_eq_true rfl) (Nat.le_of_ble_eq_true rfl) (s0 := 0) (Nat.zero_le _) (fun _ => ⟨rfl, rfl⟩) hk (by rw [e0]; exact heb) (fun k _ => ⟨rfl, gcB_low m _⟩) ?_
 intro k hk2
 refine (?_ : (∃ p r, geR Tryz.prog m (flpF b i k) i k p = some r ∧ _) → _) (geT m (flpF b i k) i k (StepV geE 1000000000000000000000000000000000000000000000000000000000 107 [3, 4, 9, 10] [] gcI (fun k => k ≤ 14) (fun k => 14 - k) (geV m i) (fun k => gcB m (flpF b i k)) (.exit 10) ([3, 4, 9].zip (gbV m i)) (gcI.zip (gcB m (flpF b i 14))) k) ?_)
 · rintro ⟨p, r, h1, h2⟩
   exact ⟨p, [], r, h1, h2⟩
 · refine ⟨fun c1 => ?_, fun c1 => ?_⟩
   · have hlt : k < 14 := by simp at c1; omega
     have w := fr_w1 (show k < 1000000 by omega)
     obtain ⟨p1, p2, p3⟩ := pw_at k hlt
     have wi : IntKind.wrap .i64 (IntKind.wrap .i64 (Int.ofNat i + Int.ofNat 32) - asI (List.getD powL (0 + Int.toNat (Int.ofNat k) * 1) nov)) = ((i + 32 - pw k : Nat) : Int) := by
      rw [show 0 + Int.toNat (Int.ofNat k) * 1 = k * 1 by simp, p1, wrap_nat (Int.ofNat i + Int.ofNat 32) (by simp; omega) (by simp; omega), wrap_nat _ (by simp; omega) (by simp; omega)]
      simp
      omega
     have p2' : okl (Kd.i .i64) (List.getD powL (0 + Int.toNat (Int.ofNat k) * 1) nov) = true := by rw [show 0 + Int.toNat (Int.ofNat k) * 1 = k * 1 by simp]; exact p2
     simp only [wi]
     refine ⟨?_, rfl, by dsimp only; omega, rfl, .inl ⟨rfl, k + 1, hlt, by show 14 - (k + 1) < 14 - k; omega, by dsimp only; rw [w]; rfl, ?_⟩⟩
     · simp only [allT, List.forall_mem_cons, c1, p2']
       simp [inb_arr, inb_lit]
       omega
     · refine ⟨BEq.refl _, ?_, trivial⟩
       rw [show 0 + Int.toNat ((i + 32 - pw k : Nat) : Int) = i + 32 - pw k by simp]
       refine BEq_bs ?_ fun j hj => ?_
       · unfold flpF
         rw [dvFlip_succ i hlt, dvFlip_at2 i hlt]
         simp
       · unfold flpF
         rw [dvFlip_succ i hlt]
         have : (j == i + 32 - pw k) = false := by simpa using hj
         rw [this, Bool.or_false]
   · obtain rfl : k = 14 := by simp at c1; omega
     refine ⟨by simp only [allT, List.forall_mem_cons, c1]; simp, rfl, by dsimp only; omega, rfl, .inr ⟨by simp, rfl, fun p hp => ?_, mf_all hk (gcB_low m _) rfl⟩⟩
     simp only [List.zip_cons_cons, List.zip_nil_right, List.mem_cons, List.not_mem_nil, or_false] at hp
     rcases hp with rfl | rfl | rfl
     · exact ⟨rfl, .head _⟩
     · exact ⟨rfl, .tail _ (.head _)⟩
     · exact ⟨rfl, .tail _ (.tail _ (.head _))⟩
end Go.Proofs.YtoelekmbmghicaaGreatDoor
end
/- sennitref02.Of: the division's sum; the number. -/
section
namespace Go.Proofs.YtoelekmbmghicaaGreatDoor
open Go.RowKit
theorem dvG_no {f : Nat → Nat} {n i : Nat} (h : dvG f n i i = false) : dvG f n (i + 1) = dvG f n i := by
 funext j
 show (match dvG f n i i with | true => (match Nat.beq j i with | true => false | false => dvG f n i j ^^ dvFlip i 14 j) | false => dvG f n i j) = dvG f n i j
 rw [h]
theorem dvG_yes {f : Nat → Nat} {n i : Nat} (h : dvG f n i i = true) : flpF (fun j => if j = i then false else dvG f n i j) i 14 = dvG f n (i + 1) := by
 funext j
 show _ = (match dvG f n i i with | true => (match Nat.beq j i with | true => false | false => dvG f n i j ^^ dvFlip i 14 j) | false => dvG f n i j)
 rw [h]
 unfold flpF
 dsimp only
 by_cases e : j = i
 · subst e
   rw [if_pos rfl, dvFlip_self, Nat.beq_refl]
   rfl
 · rw [if_neg e]
   have : Nat.beq j i = false := by
    cases hb : Nat.beq j i with
    | false => rfl
    | true => exact absurd (Nat.eq_of_beq_eq_true hb) e
   rw [this]
abbrev gdE : Nat := 1000000000000000000000000000000000000000000000000000001
set_option maxRecDepth 100000 in
theorem gd_sum (f : Nat → Nat) (n : Nat) (hn : n ≤ 100) {eblks : List (Option ABlk)} (heb : BL (gcB (8 * n + 32) (dvG f n 0)) eblks) : LoopV Tryz.prog (loopAt Tryz.prog 125 4) [3, 4, 9] gcI ((gbV (8 * n + 32) 0).map some) eblks 107 gdE (mkFr 107 [(4, goX goJ (8 * n + 32))]) [(goJ, bolW (8 * n + 32) (dvG f n (8 * n)))] 10000000000000000000000000000000000000000000000000000000000 (.exit 8) none := by
 have hk : gcI.all (keptB gdE 10000000000000000000000000000000000000000000000000000000000) = true := by kernel_rfl
 refine loop_viewN hE1 (fuel := 100) (str := 10000000000000000000000000000000000000000) (nh := 10000000000000000000000000000000000000000000000000000000) (S := Nat) (fun i => i ≤ 8 * n) (fun i => 8 * n - i) [3, 4, 9] [] gcI (gbV (8 * n + 32)) (fun i => gcB (8 * n + 32) (dvG f n i)) (Nat.le_of_ble_eq_true rfl) (Nat.le_of_ble_eq_true rfl) (Nat.le_of_ble_eq_true rfl) (s0 := 0) (Nat.zero_le _) (fun _ => ⟨rfl, rfl⟩) hk heb (fun k _ => ⟨rfl, gcB_low _ _⟩) ?_
 intro i hi
 refine (?_ : (∃ p r, gdR Tryz.prog (8 * n + 32) (dvG f n i) i p [geS (8 * n + 32) i (dvG f n (i + 1))] = some r ∧ _) → _) (gdT (8 * n + 32) (dvG f n i) (dvG f n (i + 1)) i (StepN gdE 10000000000000000000000000000000000000000000000000000000000 107 [3, 4, 9] [] gcI (fun i => i ≤ 8 * n) (fun i => 8 * n - i) (gbV (8 * n + 32)) (fun i => gcB (8 * n + 32) (dvG f n i)) (.exit 8) [(4, goX goJ (8 * n + 32))] [(goJ, bolW (8 * n + 32) (dvG f n (8 * n)))] i) ?_)
 · rintro ⟨p, r, h1, h2⟩
   exact ⟨p, _, r, h1, h2⟩
 · have w32 : IntKind.wrap .i64 (Int.ofNat i + Int.ofNat 32) = ((i + 32 : Nat) : Int) := by rw [wrap_nat _ (by simp; omega) (by simp; omega)]; simp
   have w := fr_w1 (show i < 1000000 by omega)
   simp only [w32]
   refine ⟨fun c1 => ?_, fun c1 => ?_⟩
   · have hlt : i < 8 * n := by simp at c1; omega
     have i1 : ∀ g : Nat → Bool, ABlk.inb (ABlk.mk true true 4 1 (Cs.arr (8 * n + 32) fun k => List.map AC.v ((fun i => [Value.bool (g i)]) k))) (0 + Int.toNat (Int.ofNat i)) 1 = true := fun g => by rw [go_e]; exact inb_wBlk (by omega) (by omega)
     have i2 : decide (Int.ofNat 0 ≤ Int.ofNat i ∧ Int.ofNat i < ((8 * n + 32 : Nat) : Int)) = true := decide_eq_true ⟨by simp, by simp; omega⟩
     have i1' := i1 (dvG f n i)
     refine ⟨fun c2 => ?_, fun c2 => ?_⟩
     · have hg : dvG f n i i = false := by rw [go_e] at c2; simpa using c2
       refine ⟨?_, by simp, by dsimp only; omega, rfl, .inl ⟨rfl, i + 1, hlt, by show 8 * n - (i + 1) < 8 * n - i; omega, by dsimp only; rw [w]; rfl, ?_⟩⟩
       · simp only [allT, List.forall_mem_cons, c1, c2, i2, i1']
         simp
       · dsimp only
         rw [dvG_no hg]
         exact BL.refl (gcB (8 * n + 32) (dvG f n i))
     · have hg : dvG f n i i = true := by rw [go_e] at c2; simpa using c2
       refine ⟨?_, fun q hq => ?_, by dsimp only; omega, rfl, .inl ⟨rfl, i + 1, hlt, by show 8 * n - (i + 1) < 8 * n - i; omega, by dsimp only; rw [w]; rfl, BL.refl (gcB (8 * n + 32) (dvG f n (i + 1)))⟩⟩
       · simp only [allT, List.forall_mem_cons, c1, c2, i2, i1']
         simp
       · rw [List.mem_singleton.1 hq]
         have := ge_sum (8 * n + 32) i (fun j => if j = i then false else dvG f n i j) (by omega) (by omega) (eblks := [some powB, some ⟨true, true, 4, 1, .arr (8 * n + 32) fun j => if j = 0 + Int.toNat (Int.ofNat i) then setL ((fun k => List.map AC.v ((fun i_1 => [Value.bool (dvG f n i i_1)]) k)) j) 0 [.v (.bool false)] else List.map AC.v ((fun i_1 => [Value.bool (dvG f n i i_1)]) j)⟩]) ⟨BEq.refl _, by rw [go_e]; exact BEq_bs (if_pos rfl) fun j hj => if_neg hj, trivial⟩
         rw [dvG_yes hg] at this
         exact this
   · obtain rfl : i = 8 * n := by simp at c1; omega
     refine ⟨by simp only [allT, List.forall_mem_cons, c1]; simp, by simp, by dsimp only; omega, rfl, .inr ⟨by simp, rfl, fun p hp => ?_, fun p hp => ?_⟩⟩
     · rw [List.mem_singleton.1 hp]
       exact ⟨rfl, .tail _ (.head _)⟩
     · rw [List.mem_singleton.1 hp]
       exact ⟨rfl, wBlk_low, _, .tail _ (.head _), BEq.refl _⟩
/-! the number -/
theorem nu_lt (g : Nat → Bool) : ∀ k, nuF g k < 2 ^ k
 | 0 => by simp [nuF]
 | k + 1 => by
  have := nu_lt g k
  show 2 * nuF g k + (if g k then 0 else 1) < 2 ^ (k + 1)
  rw [Nat.pow_succ]
  split <;> omega
abbrev gfE : Nat := 10000000000000000000000000000000000000000000000000000000005
theorem gf_sum (G : Nat → Bool) (n : Nat) (hn : n ≤ 100) : LoopV Tryz.prog (loopAt Tryz.prog 125 6) [4, 12, 13] [goJ] ((gfV (8 * n + 32) 0 (8 * n)).map some) [some (bolW (8 * n + 32) G)] 107 gfE (mkFr 107 [(12, .c (.v (.int .u32 (nuF (fun j => G (8 * n + j)) 32 : Nat))))]) [] goN60 (.exit 12) none := by
 have hk : [goJ].all (keptB gfE goN60) = true := by kernel_rfl
 refine loop_viewE hE1 (fuel := 100) (str := 10000000000000000000000000000000000000000) (nh := goN59) (S := Nat) (fun k => k ≤ 32) (fun k => 32 - k) [4, 12, 13] [] [goJ] (fun k => gfV (8 * n + 32) (nuF (fun j => G (8 * n + j)) k : Nat) (8 * n + k)) (fun _ => [bolW (8 * n + 32) G]) (Nat.le_of_ble_eq_true rfl) (Nat.le_of_ble_eq_true rfl) (Nat.le_of_ble_eq_true rfl) (s0 := 0) (Nat.zero_le _) (fun _ => ⟨rfl, rfl⟩) hk (BL.refl _) (fun k _ => ⟨rfl, fun b hb => by rw [List.mem_singleton.1 hb]; exact wBlk_low⟩) ?_
 intro k hk2
 refine (?_ : (∃ p r, gfR Tryz.prog (8 * n + 32) G (nuF (fun j => G (8 * n + j)) k : Nat) (8 * n + k) p = some r ∧ _) → _) (gfT (8 * n + 32) G (nuF (fun j => G (8 * n + j)) k : Nat) (8 * n + k) (StepV gfE goN60 107 [4, 12, 13] [] [goJ] (fun k => k ≤ 32) (fun k => 32 - k) (fun k => gfV (8 * n + 32) (nuF (fun j => G (8 * n + j)) k : Nat) (8 * n + k)) (fun _ => [bolW (8 * n + 32) G]) (.exit 12) [(12, .c (.v (.int .u32 (nuF (fun j => G (8 * n + j)) 32 : Nat))))] [] k) ?_)
 · rintro ⟨p, r, h1, h2⟩
   exact ⟨p, [], r, h1, h2⟩
 · have hz := nu_lt (fun j => G (8 * n + j)) k
   have w := fr_w1 (show 8 * n + k < 1000000 by omega)
   refine ⟨fun c1 => ?_, fun c1 => ?_⟩
   · have hlt : k < 32 := by simp at c1; omega
     have hp : 2 ^ (k + 1) ≤ 2 ^ 32 := Nat.pow_le_pow_right (by omega) (by omega)
     rw [Nat.pow_succ] at hp
     have w2 : IntKind.wrap .u32 (Int.ofNat 2 * ((nuF (fun j => G (8 * n + j)) k : Nat) : Int)) = ((2 * nuF (fun j => G (8 * n + j)) k : Nat) : Int) := by
      rw [ww32]
      show 2 * ((nuF (fun j => G (8 * n + j)) k : Nat) : Int) % 4294967296 = _
      omega
     have w3 : IntKind.wrap .u32 (((2 * nuF (fun j => G (8 * n + j)) k : Nat) : Int) + Int.ofNat 1) = ((2 * nuF (fun j => G (8 * n + j)) k + 1 : Nat) : Int) := by
      rw [ww32]
      show (((2 * nuF (fun j => G (8 * n + j)) k : Nat) : Int) + 1) % 4294967296 = _
      omega
     have i1' : ABlk.inb (ABlk.mk true true 4 1 (Cs.arr (8 * n + 32) fun k => List.map AC.v ((fun i => [Value.bool (G i)]) k))) (0 + Int.toNat (Int.ofNat (8 * n + k))) 1 = true := by rw [go_e]; exact inb_wBlk (by omega) (by omega)
     have i2 : decide (Int.ofNat 0 ≤ Int.ofNat (8 * n + k) ∧ Int.ofNat (8 * n + k) < ((8 * n + 32 : Nat) : Int)) = true := decide_eq_true ⟨Int.natCast_nonneg _, by show ((8 * n + k : Nat) : Int) < ((8 * n + 32 : Nat) : Int); omega⟩
     simp only [w2, w3, w]
     refine ⟨fun c2 => ?_, fun c2 => ?_⟩
     · have hg : G (8 * n + k) = false := by rw [go_e] at c2; simpa using c2
       refine ⟨?_, rfl, by dsimp only [goN60]; omega, rfl, .inl ⟨rfl, k + 1, hlt, by show 32 - (k + 1) < 32 - k; omega, ?_, BL.refl [bolW (8 * n + 32) G]⟩⟩
       · simp only [allT, List.forall_mem_cons, c1, c2, i2, i1']
         simp
       · have hnu : nuF (fun j => G (8 * n + j)) (k + 1) = 2 * nuF (fun j => G (8 * n + j)) k + 1 := by
          show 2 * nuF (fun j => G (8 * n + j)) k + (if G (8 * n + k) then 0 else 1) = _
          rw [hg]; rfl
         dsimp only
         rw [hnu]
         rfl
     · have hg : G (8 * n + k) = true := by rw [go_e] at c2; simpa using c2
       refine ⟨?_, rfl, by dsimp only [goN60]; omega, rfl, .inl ⟨rfl, k + 1, hlt, by show 32 - (k + 1) < 32 - k; omega, ?_, BL.refl [bolW (8 * n + 32) G]⟩⟩
       · simp only [allT, List.forall_mem_cons, c1, c2, i2, i1']
         simp
       · have hnu : nuF (fun j => G (8 * n + j)) (k + 1) = 2 * nuF (fun j => G (8 * n + j)) k := by
          show 2 * nuF (fun j => G (8 * n + j)) k + (if G (8 * n + k) then 0 else 1) = _
          rw [hg]; rfl
         dsimp only
         rw [hnu]
         rfl
   · obtain rfl : k = 32 := by simp at c1; omega
     refine ⟨by simp only [allT, List.forall_mem_cons, c1]; simp, rfl, by dsimp only [goN60]; omega, rfl, .inr ⟨by simp, rfl, fun p hp => ?_, (fun _ h => by cases h)⟩⟩
     rw [List.mem_singleton.1 hp]
     exact ⟨rfl, .tail _ (.head _)⟩
end Go.Proofs.YtoelekmbmghicaaGreatDoor
end
/- sennitref02.Of: its bits; what it answers. -/
section
namespace Go.Proofs.YtoelekmbmghicaaGreatDoor
open Go.RowKit
theorem and1b (a : Nat) : BitVec.toNat (BitVec.ofInt (IntKind.bits .u8) (a : Int) &&& BitVec.ofInt (IntKind.bits .u8) 1) = a % 2 := by
 show BitVec.toNat (BitVec.ofInt 8 (a : Int) &&& BitVec.ofInt 8 1) = a % 2
 rw [BitVec.ofInt_natCast, show BitVec.ofInt 8 1 = 1#8 from rfl, BitVec.toNat_and, BitVec.toNat_ofNat, show (1#8).toNat = 1 from rfl, Nat.and_one_is_mod]
 omega
theorem bit_b {x : Int} (h0 : 0 ≤ x) {d : Int} {k i : Nat} (hd : d = ((2 ^ k : Nat) : Int)) (hk : k + i = 7) : (IntKind.wrap .u8 ((BitVec.toNat (BitVec.ofInt (IntKind.bits .u8) (Int.fdiv x d) &&& BitVec.ofInt (IntKind.bits .u8) 1) : Nat) : Int) == Int.ofNat 1) = crBit x.toNat i := by
 obtain ⟨b, rfl⟩ := Int.eq_ofNat_of_zero_le h0
 subst hd
 have e : Int.fdiv (b : Int) ((2 ^ k : Nat) : Int) = ((b / 2 ^ k : Nat) : Int) := by rw [Int.fdiv_eq_ediv_of_nonneg _ (Int.natCast_nonneg _)]; rfl
 rw [e, and1b]
 have m := Nat.mod_two_eq_zero_or_one (b / 2 ^ k)
 have hz : crBit ((b : Int)).toNat i = decide ((b / 2 ^ k) % 2 = 1) := by
  unfold crBit
  rw [decide_eq_true (show i < 8 by omega), Bool.true_and, show 7 - i = k by omega, Int.toNat_natCast, Nat.testBit_eq_decide_div_mod_eq]
 rw [hz]
 rcases m with m | m <;> rw [m] <;> rfl
abbrev gaE : Nat := 1006
abbrev gaB (n : Nat) (f : Nat → Int) : List ABlk := [bytB n f, powB]
theorem ga_bl (n : Nat) (f : Nat → Int) (m : Nat) (hm : m ≤ 8 * n) (k : Nat) (hk : k < n) (hmk : m = 8 * k) (hf : 0 ≤ f k) (i : Nat) (hi : i < m + 1 + 1 + 1 + 1 + 1 + 1 + 1 + 1) :
 (if i < m + 1 + 1 + 1 + 1 + 1 + 1 + 1 then if i < m + 1 + 1 + 1 + 1 + 1 + 1 then if i < m + 1 + 1 + 1 + 1 + 1 then if i < m + 1 + 1 + 1 + 1 then if i < m + 1 + 1 + 1 then if i < m + 1 + 1 then if i < m + 1 then if i < m then List.map AC.v ((fun i => [Value.bool (msgB (natF f) n i)]) i) else elt (ABlk.mk true false 4 0 (Cs.lit [.v (.bool (IntKind.wrap .u8 ((BitVec.toNat (BitVec.ofInt (IntKind.bits .u8) (Int.fdiv (f k) (Int.ofNat 128)) &&& BitVec.ofInt (IntKind.bits .u8) 1) : Nat) : Int) == Int.ofNat 1))])) 0 0 1 (i - (m)) else elt (ABlk.mk true false 4 0 (Cs.lit [.v (.bool (IntKind.wrap .u8 ((BitVec.toNat (BitVec.ofInt (IntKind.bits .u8) (Int.fdiv (f k) (Int.ofNat 64)) &&& BitVec.ofInt (IntKind.bits .u8) 1) : Nat) : Int) == Int.ofNat 1))])) 0 0 1 (i - (m + 1)) else elt (ABlk.mk true false 4 0 (Cs.lit [.v (.bool (IntKind.wrap .u8 ((BitVec.toNat (BitVec.ofInt (IntKind.bits .u8) (Int.fdiv (f k) (Int.ofNat 32)) &&& BitVec.ofInt (IntKind.bits .u8) 1) : Nat) : Int) == Int.ofNat 1))])) 0 0 1 (i - (m + 1 + 1)) else elt (ABlk.mk true false 4 0 (Cs.lit [.v (.bool (IntKind.wrap .u8 ((BitVec.toNat (BitVec.ofInt (IntKind.bits .u8) (Int.fdiv (f k) (Int.ofNat 16)) &&& BitVec.ofInt (IntKind.bits .u8) 1) : Nat) : Int) == Int.ofNat 1))])) 0 0 1 (i - (m + 1 + 1 + 1)) else elt (ABlk.mk true false 4 0 (Cs.lit [.v (.bool (IntKind.wrap .u8 ((BitVec.toNat (BitVec.ofInt (IntKind.bits .u8) (Int.fdiv (f k) (Int.ofNat 8)) &&& BitVec.ofInt (IntKind.bits .u8) 1) : Nat) : Int) == Int.ofNat 1))])) 0 0 1 (i - (m + 1 + 1 + 1 + 1)) else elt (ABlk.mk true false 4 0 (Cs.lit [.v (.bool (IntKind.wrap .u8 ((BitVec.toNat (BitVec.ofInt (IntKind.bits .u8) (Int.fdiv (f k) (Int.ofNat 4)) &&& BitVec.ofInt (IntKind.bits .u8) 1) : Nat) : Int) == Int.ofNat 1))])) 0 0 1 (i - (m + 1 + 1 + 1 + 1 + 1)) else elt (ABlk.mk true false 4 0 (Cs.lit [.v (.bool (IntKind.wrap .u8 ((BitVec.toNat (BitVec.ofInt (IntKind.bits .u8) (Int.fdiv (f k) (Int.ofNat 2)) &&& BitVec.ofInt (IntKind.bits .u8) 1) : Nat) : Int) == Int.ofNat 1))])) 0 0 1 (i - (m + 1 + 1 + 1 + 1 + 1 + 1)) else elt (ABlk.mk true false 4 0 (Cs.lit [.v (.bool (IntKind.wrap .u8 ((BitVec.toNat (BitVec.ofInt (IntKind.bits .u8) (Int.fdiv (f k) (Int.ofNat 1)) &&& BitVec.ofInt (IntKind.bits .u8) 1) : Nat) : Int) == Int.ofNat 1))])) 0 0 1 (i - (m + 1 + 1 + 1 + 1 + 1 + 1 + 1))) = List.map AC.v ((fun i => [Value.bool (msgB (natF f) n i)]) i) := by
 have e : ∀ j d k2, j < 8 → d = ((2 ^ k2 : Nat) : Int) → k2 + j = 7 → ∀ i, i = m + j → (IntKind.wrap .u8 ((BitVec.toNat (BitVec.ofInt (IntKind.bits .u8) (Int.fdiv (f k) d) &&& BitVec.ofInt (IntKind.bits .u8) 1) : Nat) : Int) == Int.ofNat 1) = msgB (natF f) n i := by
  intro j d k2 hj hd hkj i hi
  subst hi
  rw [bit_b hf hd hkj]
  unfold msgB natF
  rw [decide_eq_true (show m + j < 8 * n by omega), Bool.true_and, show (m + j) / 8 = k by omega, show (m + j) % 8 = j by omega]
 have : i < m ∨ i = m + 0 ∨ i = m + 1 ∨ i = m + 2 ∨ i = m + 3 ∨ i = m + 4 ∨ i = m + 5 ∨ i = m + 6 ∨ i = m + 7 := by omega
 rcases this with h | h | h | h | h | h | h | h | h
 · rw [if_pos (show i < m + 1 + 1 + 1 + 1 + 1 + 1 + 1 by omega), if_pos (show i < m + 1 + 1 + 1 + 1 + 1 + 1 by omega), if_pos (show i < m + 1 + 1 + 1 + 1 + 1 by omega), if_pos (show i < m + 1 + 1 + 1 + 1 by omega), if_pos (show i < m + 1 + 1 + 1 by omega), if_pos (show i < m + 1 + 1 by omega), if_pos (show i < m + 1 by omega), if_pos h]
 · rw [if_pos (show i < m + 1 + 1 + 1 + 1 + 1 + 1 + 1 by omega), if_pos (show i < m + 1 + 1 + 1 + 1 + 1 + 1 by omega), if_pos (show i < m + 1 + 1 + 1 + 1 + 1 by omega), if_pos (show i < m + 1 + 1 + 1 + 1 by omega), if_pos (show i < m + 1 + 1 + 1 by omega), if_pos (show i < m + 1 + 1 by omega), if_pos (show i < m + 1 by omega), if_neg (show ¬ i < m by omega), show i - (m) = 0 by omega]
   exact congrArg (fun z => [AC.v (Value.bool z)]) (e 0 (Int.ofNat 128) 7 (by omega) rfl rfl i h)
 · rw [if_pos (show i < m + 1 + 1 + 1 + 1 + 1 + 1 + 1 by omega), if_pos (show i < m + 1 + 1 + 1 + 1 + 1 + 1 by omega), if_pos (show i < m + 1 + 1 + 1 + 1 + 1 by omega), if_pos (show i < m + 1 + 1 + 1 + 1 by omega), if_pos (show i < m + 1 + 1 + 1 by omega), if_pos (show i < m + 1 + 1 by omega), if_neg (show ¬ i < m + 1 by omega), show i - (m + 1) = 0 by omega]
   exact congrArg (fun z => [AC.v (Value.bool z)]) (e 1 (Int.ofNat 64) 6 (by omega) rfl rfl i h)
 · rw [if_pos (show i < m + 1 + 1 + 1 + 1 + 1 + 1 + 1 by omega), if_pos (show i < m + 1 + 1 + 1 + 1 + 1 + 1 by omega), if_pos (show i < m + 1 + 1 + 1 + 1 + 1 by omega), if_pos (show i < m + 1 + 1 + 1 + 1 by omega), if_pos (show i < m + 1 + 1 + 1 by omega), if_neg (show ¬ i < m + 1 + 1 by omega), show i - (m + 1 + 1) = 0 by omega]
   exact congrArg (fun z => [AC.v (Value.bool z)]) (e 2 (Int.ofNat 32) 5 (by omega) rfl rfl i h)
 · rw [if_pos (show i < m + 1 + 1 + 1 + 1 + 1 + 1 + 1 by omega), if_pos (show i < m + 1 + 1 + 1 + 1 + 1 + 1 by omega), if_pos (show i < m + 1 + 1 + 1 + 1 + 1 by omega), if_pos (show i < m + 1 + 1 + 1 + 1 by omega), if_neg (show ¬ i < m + 1 + 1 + 1 by omega), show i - (m + 1 + 1 + 1) = 0 by omega]
   exact congrArg (fun z => [AC.v (Value.bool z)]) (e 3 (Int.ofNat 16) 4 (by omega) rfl rfl i h)
 · rw [if_pos (show i < m + 1 + 1 + 1 + 1 + 1 + 1 + 1 by omega), if_pos (show i < m + 1 + 1 + 1 + 1 + 1 + 1 by omega), if_pos (show i < m + 1 + 1 + 1 + 1 + 1 by omega), if_neg (show ¬ i < m + 1 + 1 + 1 + 1 by omega), show i - (m + 1 + 1 + 1 + 1) = 0 by omega]
   exact congrArg (fun z => [AC.v (Value.bool z)]) (e 4 (Int.ofNat 8) 3 (by omega) rfl rfl i h)
 · rw [if_pos (show i < m + 1 + 1 + 1 + 1 + 1 + 1 + 1 by omega), if_pos (show i < m + 1 + 1 + 1 + 1 + 1 + 1 by omega), if_neg (show ¬ i < m + 1 + 1 + 1 + 1 + 1 by omega), show i - (m + 1 + 1 + 1 + 1 + 1) = 0 by omega]
   exact congrArg (fun z => [AC.v (Value.bool z)]) (e 5 (Int.ofNat 4) 2 (by omega) rfl rfl i h)
 · rw [if_pos (show i < m + 1 + 1 + 1 + 1 + 1 + 1 + 1 by omega), if_neg (show ¬ i < m + 1 + 1 + 1 + 1 + 1 + 1 by omega), show i - (m + 1 + 1 + 1 + 1 + 1 + 1) = 0 by omega]
   exact congrArg (fun z => [AC.v (Value.bool z)]) (e 6 (Int.ofNat 2) 1 (by omega) rfl rfl i h)
 · rw [if_neg (show ¬ i < m + 1 + 1 + 1 + 1 + 1 + 1 + 1 by omega), show i - (m + 1 + 1 + 1 + 1 + 1 + 1 + 1) = 0 by omega]
   exact congrArg (fun z => [AC.v (Value.bool z)]) (e 7 (Int.ofNat 1) 0 (by omega) rfl rfl i h)
end Go.Proofs.YtoelekmbmghicaaGreatDoor
end
/- Contract of sennitref02.Of. -/
section
namespace Go.Proofs.YtoelekmbmghicaaGreatDoor
open Go.RowKit
theorem gaB_low {N : Nat} (n : Nat) (f : Nat → Int) : ∀ b ∈ gaB n f, lowB N b := by
 intro b hb
 simp only [List.mem_cons, List.not_mem_nil, or_false] at hb
 rcases hb with rfl | rfl
 · exact rBlk_low
 · exact low_lit rfl
set_option maxRecDepth 100000 in
theorem ga_sum (n : Nat) (f : Nat → Int) (hn : n ≤ 100) (hf : ∀ i, i < n → 0 ≤ f i) : LoopV Tryz.prog (loopAt Tryz.prog 125 0) [4, 0, 3, 5] [0, 1002] (some (.c (.v (.slice none 0 0))) :: (gaV n 0).map some) ((gaB n f).map some) 107 gaE (mkFr 107 ((4, goX goG (8 * n)) :: [(3, .c (.ptr 1002 0 0))])) ((goG, bolW (8 * n) (msgB (natF f) n)) :: [(1002, powB)]) 100000000000000000000000000000000000000000000000000 (.exit 0) none := by
 refine loop_growE hE1 (fuel := 100) (str := 10000000000000000000000000000000000000000) (nh := 1000000000000000000000000000000000000000000) (S := Nat) (fun k => k ≤ n) (fun k => n - k) 4 goG [0, 3, 5] [gaY, goG] [0, 1002] (fun k => 8 * k) (fun k => bolW (8 * k) (msgB (natF f) n)) (gaV n) (fun _ => gaB n f) (by decide) (by decide) (by decide) (Nat.le_of_ble_eq_true rfl) (s0 := 0) (Nat.zero_le _) rfl ⟨_, rfl⟩ Nat.one_pos (fun _ => ⟨rfl, rfl⟩) (by kernel_rfl) (BL.refl _) (fun k _ => ⟨rfl, gaB_low n f, wBlk_low⟩) wBlk_low ?_
 intro k hk
 refine (?_ : (∃ p r, gaR Tryz.prog n f (8 * k) (msgB (natF f) n) k p = some r ∧ _) → _) (gaT n f (8 * k) (msgB (natF f) n) k (StepG gaE 1000000000000000000000000000000000000000000 100000000000000000000000000000000000000000000000000 107 goG [0, 3, 5] [gaY, goG] [0, 1002] (fun k => k ≤ n) (fun k => n - k) (fun k => 8 * k) (fun k => bolW (8 * k) (msgB (natF f) n)) (gaV n) (fun _ => gaB n f) (.exit 0) (8 * n) (bolW (8 * n) (msgB (natF f) n)) [(3, .c (.ptr 1002 0 0))] [(1002, powB)] k) ?_)
 · rintro ⟨p, r, h1, h2⟩
   exact ⟨p, [none], r, h1, h2⟩
 · refine ⟨fun c1 => ?_, fun c1 => ?_⟩
   · have hlt : k < n := by simp at c1; omega
     have w := fr_w1 (show k < 1000000 by omega)
     refine ⟨?_, by simp, by dsimp only; omega, rfl, .inl ⟨rfl, k + 1, hlt, by show n - (k + 1) < n - k; omega, by dsimp only; rw [w]; rfl, BL.refl (gaB n f), gaY, _, rfl, .inr ⟨by decide, by decide⟩, .head _, ⟨rfl, rfl, rfl, rfl, .inr (.inl ⟨_, _, _, rfl, rfl, fun i hi => ?_⟩)⟩⟩⟩
     · simp only [allT, List.forall_mem_cons, c1]
       simp [inb_arr]
       omega
     · rw [go_e]
       exact ga_bl n f (8 * k) (by omega) k hlt rfl (hf k hlt) i hi
   · obtain rfl : k = n := by simp at c1; omega
     refine ⟨by simp only [allT, List.forall_mem_cons, c1]; simp, by simp, by dsimp only; omega, rfl, .inr ⟨by simp, rfl, fun q hq => ?_, fun p hp => ?_, goG, _, rfl, .inl rfl, .tail _ (.head _), BEq.refl _⟩⟩
     · rw [List.mem_singleton.1 hq]
       exact ⟨rfl, .tail _ (.head _)⟩
     · rw [List.mem_singleton.1 hp]
       exact ⟨rfl, low_lit rfl, _, .tail _ (.head _), BEq.refl _⟩
abbrev gbE : Nat := 100000000000000000000000000000000000000000000000001
set_option maxRecDepth 100000 in
theorem gb_sum (n : Nat) (M : Nat → Bool) (hn : n ≤ 100) (hM : ∀ i, 8 * n ≤ i → M i = false) : LoopV Tryz.prog (loopAt Tryz.prog 125 2) [3, 4, 7] [goG, 1002] [some (.c (.ptr 1002 0 0)), some (goX goG (8 * n)), some (i64 (Int.ofNat 0))] [some (bolW (8 * n) M), some powB] 107 gbE (mkFr 107 [(3, .c (.ptr 1002 0 0)), (4, goX goJ (8 * n + 32))]) [(goJ, bolW (8 * n + 32) M), (1002, powB)] 10000000000000000000000000000000000000000000000000000 (.exit 4) none := by
 have hlow : ∀ b ∈ [powB], lowB gbE b := fun b hb => by rw [List.mem_singleton.1 hb]; exact low_lit rfl
 refine loop_growM hE1 (fuel := 100) (str := 10000000000000000000000000000000000000000) (nh := 1000000000000000000000000000000000000000000000000000) (S := Nat) (fun k => k ≤ 32) (fun k => 32 - k) [3, 4, 7] [gbY, goJ, 1002] [goJ] [1002] [goG, 1002] (fun k => gbV (8 * n + k) k) (fun k => [bolW (8 * n + k) M]) (fun _ => [powB]) (by decide) (by decide) (Nat.le_of_ble_eq_true rfl) (s0 := 0) (Nat.zero_le _) ⟨fun _ => .inl goG, ?_⟩ ?_
 · refine mt_gen (A := [(goG, _)]) (kb := [some powB]) rfl (by kernel_rfl) ?_ ?_ (by kernel_rfl) hlow (BL.refl [powB])
   · exact fr_cons (.head _) (fun h => (by cases h)) (GW_low rfl) (fr_cons (.tail _ (.head _)) (fun h => (by cases h)) (GW_sl (by decide) (by decide) (by decide) rfl) (fr_cons (.tail _ (.tail _ (.head _))) (fun h => (by cases h)) (GW_low rfl) fr_nil))
   · exact me_cons (mv_new rfl rfl rfl (.head _) (BEq.refl _) wBlk_low) me_nil
 · intro k hk
   refine (?_ : (∃ p r, gbR Tryz.prog (8 * n + k) M k p = some r ∧ _) → _) (gbT (8 * n + k) M k (StepM gbE 1000000000000000000000000000000000000000000000000000 10000000000000000000000000000000000000000000000000000 107 [3, 4, 7] [gbY, goJ, 1002] [goJ] [1002] (fun k => k ≤ 32) (fun k => 32 - k) (fun k => gbV (8 * n + k) k) (fun k => [bolW (8 * n + k) M]) (fun _ => [powB]) (.exit 4) [(3, .c (.ptr 1002 0 0)), (4, goX goJ (8 * n + 32))] [(goJ, bolW (8 * n + 32) M), (1002, powB)] k) ?_)
   · rintro ⟨p, r, h1, h2⟩
     exact ⟨p, [], r, h1, h2⟩
   · refine ⟨fun c1 => ?_, fun c1 => ?_⟩
     · have hlt : k < 32 := by simp at c1; omega
       have w := fr_w1 (show k < 1000000 by omega)
       rw [w]
       refine ⟨?_, (fun q hq => by cases hq), by dsimp only; omega, rfl, .inl ⟨rfl, k + 1, hlt, by show 32 - (k + 1) < 32 - k; omega, fun _ => .inl gbY, ?_⟩⟩
       · simp only [allT, List.forall_mem_cons, c1]
         simp
         omega
       · refine mt_gen (A := [(gbY, _), (goJ, _)]) (kb := [some powB]) rfl (by kernel_rfl) ?_ ?_ (by kernel_rfl) hlow (BL.refl [powB])
         · exact fr_cons (.head _) (fun h => (by cases h)) (GW_low rfl) (fr_cons (.tail _ (.head _)) (fun h => (by cases h)) (GW_sl (by decide) (by decide) (by decide) rfl) (fr_cons (.tail _ (.tail _ (.head _))) (fun h => (by cases h)) (GW_low rfl) fr_nil))
         · refine me_cons (mv_new rfl rfl rfl (.head _) ⟨rfl, rfl, rfl, rfl, .inr (.inl ⟨_, _, _, rfl, rfl, fun i hi => ?_⟩)⟩ wBlk_low) me_nil
           dsimp only
           by_cases h : i < 8 * n + k
           · rw [if_pos h]
           · rw [if_neg h, show i - (8 * n + k) = 0 by omega, hM i (by omega)]
             rfl
     · obtain rfl : k = 32 := by simp at c1; omega
       refine ⟨by simp only [allT, List.forall_mem_cons, c1]; simp, (fun q hq => by cases hq), by dsimp only; omega, rfl, .inr ⟨by simp, rfl, fun _ => .inl goJ, ?_⟩⟩
       refine mt_gen (hs := [3, 4]) (vals := [.c (.ptr 1002 0 0), goX goJ (8 * n + 32)]) (gs := [goJ]) (gb := [bolW (8 * n + 32) M]) (ids := [1002]) (blks := [powB]) (A := [(gbY, _), (goJ, _)]) (kb := [some powB]) rfl (by kernel_rfl) ?_ ?_ (by kernel_rfl) hlow (BL.refl [powB])
       · exact fr_cons (.head _) (fun h => (by cases h)) (GW_low rfl) (fr_cons (.tail _ (.head _)) (fun h => (by cases h)) (GW_sl (by decide) (by decide) (by decide) rfl) fr_nil)
       · exact me_cons (mv_new rfl rfl rfl (.tail _ (.head _)) (BEq.refl _) wBlk_low) me_nil
def sumM (f : Nat → Int) (n : Nat) : Nat := (~~~ (crOf (natF f) n)).toNat
def bytRd : Rd (LstS Int) := oneRd 1 5 Nat.one_pos fS (fun z => [.int .u8 z]) (fun _ => rfl) symsOk (fun h i hi => symsOk_eq h i hi)
def bytP (s : LstS Int) : Bool := decide (s.n ≤ 100) && ((List.range s.n).all (fun i => decide (0 ≤ s.f i ∧ s.f i < 256)) && s.rest.isEmpty)
def ctRSum : CtF := ctRd bytRd (fun s => .c (.v (.int .u32 (sumM s.f s.n)))) bytP
theorem ct_rsum : CtOk Tryz.prog 125 ctRSum := by
 refine ctRd_ofE (E := E1 Tryz.prog) hE1 bytRd (fuel := 300) (str := 10000000000000000000000000000000000000000) ⟨_, _, Tryz.func125, rfl⟩ (fun _ => rfl) fun s hs => ?_
 obtain ⟨n, f, rest⟩ := s
 simp only [bytP, Bool.and_eq_true, decide_eq_true_eq, List.isEmpty_iff] at hs
 obtain ⟨hn, hf, rfl⟩ := hs
 have hf : ∀ i, i < n → 0 ≤ f i ∧ f i < 256 := fun i hi => of_decide_eq_true (List.all_eq_true.1 hf i (List.mem_range.2 hi))
 have hN : ∀ i, i < n → natF f i < 256 := fun i hi => by unfold natF; have := hf i hi; omega
 have hnu : nuF (fun j => dvG (natF f) n (8 * n) (8 * n + j)) 32 = sumM f n := by
  rw [nu_end (crOf (natF f) n) (fun j _ => dv_end (natF f) n hN j) 32 (Nat.le_refl _)]
  simp [sumM]
 have e3 : trnF (msgB (natF f) n) 32 = dvG (natF f) n 0 := rfl
 refine (?_ : (∃ p q, goR Tryz.prog n f p _ = some q ∧ GoodF (.c (.v (.int .u32 (sumM f n)))) q) → _) (goT n f (msgB (natF f) n) (msgB (natF f) n) (dvG (natF f) n 0) (dvG (natF f) n (8 * n)) (sumM f n : Nat) _ ?_)
 · rintro ⟨p, q, h1, h2⟩
   exact ⟨p, _, q, h1, h2⟩
 · refine ⟨rfl, (by first | (unfold lim; omega) | (dsimp only; unfold lim; omega)), ?_, fun q hq => ?_⟩
   · simp [allT]
   · have w : IntKind.wrap .i64 (((8 * n + 32 : Nat) : Int) - Int.ofNat 32) = Int.ofNat (8 * n) := by rw [wrap_nat _ (by simp; omega) (by simp; omega)]; simp
     simp only [List.mem_cons, List.not_mem_nil, or_false] at hq
     rcases hq with rfl | rfl | rfl | rfl | rfl
     · rw [← hnu, w]
       exact gf_sum (dvG (natF f) n (8 * n)) n hn
     · exact gd_sum (natF f) n hn (BL.refl _)
     · rw [← e3]
       exact gc_sum (8 * n + 32) (msgB (natF f) n) (by omega) (by omega)
     · exact gb_sum n (msgB (natF f) n) hn fun i hi => by unfold msgB; rw [decide_eq_false (by omega)]; rfl
     · exact ga_sum n f hn fun i hi => (hf i hi).1
end Go.Proofs.YtoelekmbmghicaaGreatDoor
end
/- sennitref01.bit, Of; sennitref05.may: as the evaluator runs them. -/
section
namespace Go.Proofs.YtoelekmbmghicaaGreatDoor
open Go.RowKit
abbrev haV (x : Int) (m k : Nat) : List AV := [.c (.v (.int .u64 x)), i64 (Int.ofNat m), i64 (Int.ofNat k)]
def haR (P : Program) (x : Int) (m k : Nat) (path : List Dec) : Option VC :=
 view [0, 1, 5] [] (fC (E1 P) 100 (loopAt P 104 0) 1000000000000000000000000000000000000000000 10000000000000000000000000000000000000000 (stH 16 [0, 1, 5] [] (haV x m k) [] path []))
def haF (P : Program) (x : Int) (m : Nat) (y : Int) (path : List Dec) : Option VF := viewF [] (fCallF (E1 P) (fC (E1 P) 300) 104 [.c (.v (.int .u64 x)), i64 (Int.ofNat m)] 1000 10000000000000000000000000000000000000000 (stA [] path [some ⟨[0, 1, 5], [], mkFr 16 [(0, .c (.v (.int .u64 y)))], [], 100000000000000000000000000000000000000000000000000, .exit 0⟩]))
def hmF (P : Program) (o k st q v : Int) (path : List Dec) : Option VF := viewF [] (fCallF (E1 P) (fC (E1 P) 300) 102 [.agg [.v (.int .i64 o), .v (.int .u8 k), .v (.int .u8 st), .v (.int .u32 q), .v (.int .u32 v)]] 1000 10000000000000000000000000000000000000000 (stA [] path []))
theorem haT (x : Int) (m k : Nat) (Q : VC → Prop) (H : (((decide (Int.ofNat k < Int.ofNat m)) = true → Q (Exit.normal, [some (.c (.v (.int .u64 (IntKind.wrap .u64 (Int.tdiv x (Int.ofNat 2)))))), some (lkA (List.zip [0, 1, 5] (haV x m k)) 1), some (.c (.v (.int .i64 (IntKind.wrap .i64 (Int.ofNat k + Int.ofNat 1)))))], [], 16, 1000000000000000000000000000000000000000009, [true, decide (Int.ofNat k < Int.ofNat m) == true], [])) ∧ ((decide (Int.ofNat k < Int.ofNat m)) = false → Q (Exit.exit 0, [some (lkA (List.zip [0, 1, 5] (haV x m k)) 0), some (lkA (List.zip [0, 1, 5] (haV x m k)) 1), some (lkA (List.zip [0, 1, 5] (haV x m k)) 5)], [], 16, 1000000000000000000000000000000000000000003, [decide (Int.ofNat k < Int.ofNat m) == false], [])))) :
 ∃ p r, haR Tryz.prog x m k p = some r ∧ Q r :=
 two H
 (fun g1 => ⟨pD 1 1, _, by kernel_rfl, g1⟩)
 (fun g1 => ⟨pD 1 2, _, by kernel_rfl, g1⟩)
theorem haG (x y : Int) (m : Nat) (Q : VF → Prop) (H : let zz0 := [LoopV Tryz.prog (loopAt Tryz.prog 104 0) [0, 1, 5] [] [some (AV.c (AC.v (Value.int IntKind.u64 x))), some (AV.c (AC.v (Value.int IntKind.i64 (Int.ofNat m)))), some (AV.c (AC.v (Value.int IntKind.i64 (Int.ofNat 0))))] [] 16 1002 (mkFr 16 [(0, AV.c (AC.v (Value.int IntKind.u64 y)))]) [] 100000000000000000000000000000000000000000000000000 (Exit.exit 0) none]; (((Int.tmod y (Int.ofNat 2) == Int.ofNat 1) = true → Q (.c (.v (.int .u8 (Int.ofNat 2))), [], 100000000000000000000000000000000000000000000000004, [(Int.tmod y (Int.ofNat 2) == Int.ofNat 1) == true, true], zz0)) ∧ ((Int.tmod y (Int.ofNat 2) == Int.ofNat 1) = false → Q (.c (.v (.int .u8 (Int.ofNat 1))), [], 100000000000000000000000000000000000000000000000004, [(Int.tmod y (Int.ofNat 2) == Int.ofNat 1) == false, true], zz0)))) :
 ∃ p r, haF Tryz.prog x m y p = some r ∧ Q r :=
 two H
 (fun g1 => ⟨pD 1 1, _, by kernel_rfl, g1⟩)
 (fun g1 => ⟨pD 1 2, _, by kernel_rfl, g1⟩)
theorem hmT (o k st q v : Int) (Q : VF → Prop) (H : (((decide (o ≥ Int.ofNat 0)) = true → (((decide (o ≤ Int.ofNat 7)) = true → (((k == Int.ofNat 1) = true → Q (.c (.v (.bool true)), [], 1019, [(k == Int.ofNat 1) == true, true, true, decide (o ≤ Int.ofNat 7) == true, true, true, decide (o ≥ Int.ofNat 0) == true, true, true], [])) ∧ ((k == Int.ofNat 1) = false → Q (.c (.v (.bool (k == Int.ofNat 2))), [], 1023, [true, true, (k == Int.ofNat 1) == false, true, true, decide (o ≤ Int.ofNat 7) == true, true, true, decide (o ≥ Int.ofNat 0) == true, true, true], [])))) ∧ ((decide (o ≤ Int.ofNat 7)) = false → Q (.c (.v (.bool false)), [], 1013, [decide (o ≤ Int.ofNat 7) == false, true, true, decide (o ≥ Int.ofNat 0) == true, true, true], [])))) ∧ ((decide (o ≥ Int.ofNat 0)) = false → Q (.c (.v (.bool false)), [], 1010, [decide (o ≥ Int.ofNat 0) == false, true, true], [])))) :
 ∃ p r, hmF Tryz.prog o k st q v p = some r ∧ Q r :=
 two H
 (fun g1 => two g1
  (fun g2 => two g2
   (fun g3 => ⟨pD 13 6589, _, by kernel_rfl, g3⟩)
   (fun g3 => ⟨pD 13 13150, _, by kernel_rfl, g3⟩))
  (fun g2 => ⟨pD 9 55, _, by kernel_rfl, g2⟩))
 (fun g1 => ⟨pD 9 2, _, by kernel_rfl, g1⟩)
end Go.Proofs.YtoelekmbmghicaaGreatDoor
end
/- Contracts of sennitref01.bit, sennitref05.may; sennitref01.Of as the evaluator runs it. -/
section
namespace Go.Proofs.YtoelekmbmghicaaGreatDoor
open Go.RowKit
theorem ha_sum (b m : Nat) (hb : b < 256) (hm : m ≤ 7) : LoopV Tryz.prog (loopAt Tryz.prog 104 0) [0, 1, 5] [] ((haV (b : Int) m 0).map some) [] 16 1002 (mkFr 16 [(0, .c (.v (.int .u64 ((b / 2 ^ m : Nat) : Int))))]) [] 100000000000000000000000000000000000000000000000000 (.exit 0) none := by
 have e0 : haV (b : Int) m 0 = haV ((b / 2 ^ 0 : Nat) : Int) m 0 := by simp
 rw [e0]
 refine scan_ob hE1 (fuel := 100) (str := 10000000000000000000000000000000000000000) (nh := 1000000000000000000000000000000000000000000) (n' := 100000000000000000000000000000000000000000000000000) [0, 1, 5] [] [] (fun k => haV ((b / 2 ^ k : Nat) : Int) m k) [] m (by decide) (by decide) (by unfold lim; omega) (by simp) (fun _ => ⟨rfl, rfl⟩) rfl (fun k _ => rfl) (fun _ h => by cases h) ?_ ?_
 · intro k hk
   have w := fr_w1 (show k < 1000000 by omega)
   have hlt : b / 2 ^ k < 256 := Nat.lt_of_le_of_lt (Nat.div_le_self _ _) hb
   have e1 : IntKind.wrap .u64 (Int.tdiv ((b / 2 ^ k : Nat) : Int) (Int.ofNat 2)) = ((b / 2 ^ (k + 1) : Nat) : Int) := by
    have : Int.tdiv ((b / 2 ^ k : Nat) : Int) (Int.ofNat 2) = ((b / 2 ^ k / 2 : Nat) : Int) := by rw [Int.tdiv_eq_ediv_of_nonneg (Int.natCast_nonneg _)]; rfl
    have h2 : b / 2 ^ k / 2 = b / 2 ^ (k + 1) := by rw [Nat.div_div_eq_div_mul, Nat.pow_succ]
    rw [this, h2]
    have : b / 2 ^ (k + 1) < 256 := Nat.lt_of_le_of_lt (Nat.div_le_self _ _) hb
    exact w64 (Int.natCast_nonneg _) (Int.ofNat_lt.2 this)
   refine haT _ m k _ ⟨fun c1 => ?_, fun c1 => ?_⟩
   · rw [e1, w]
     exact ⟨⟨by simp only [allT, List.forall_mem_cons, c1]; simp, rfl, by dsimp only; omega, rfl⟩, rfl, rfl, trivial⟩
   · simp at c1; omega
 · refine haT _ m m _ ⟨fun c1 => ?_, fun c1 => ?_⟩
   · simp at c1
   · refine EndV_one ⟨by simp only [allT, List.forall_mem_cons, c1]; simp, rfl, by dsimp only; omega, rfl⟩ rfl rfl (.head _)
def rbX : List AV → AV
 | [.c (.v (.int .u64 x)), .c (.v (.int .i64 z))] => .c (.v (.int .u8 (symZ x (7 - z.toNat))))
 | _ => .c (.v (.int .u8 0))
def rbQ : List AV → Bool
 | [.c (.v (.int .u64 x)), .c (.v (.int .i64 z))] => decide (0 ≤ x ∧ x < 256) && decide (0 ≤ z ∧ z ≤ 7)
 | _ => false
theorem ct_rbit : CtOk Tryz.prog 104 (ctRd (pureRd [] rfl) rbX rbQ) := by
 refine ctRd_ofE (E := E1 Tryz.prog) hE1 (pureRd [] rfl) (fuel := 300) (str := 10000000000000000000000000000000000000000) ⟨_, _, Tryz.func104, rfl⟩ (fun s => by unfold rbX; split <;> rfl) fun s hs => ?_
 unfold rbQ at hs
 split at hs
 · rename_i x z
   simp only [Bool.and_eq_true, decide_eq_true_eq] at hs
   obtain ⟨⟨x0, x1⟩, z0, z1⟩ := hs
   obtain ⟨b, rfl⟩ := Int.eq_ofNat_of_zero_le x0
   obtain ⟨m, rfl⟩ := Int.eq_ofNat_of_zero_le z0
   refine (?_ : (∃ p q, haF Tryz.prog (b : Int) m ((b / 2 ^ m : Nat) : Int) p = some q ∧ GoodF (.c (.v (.int .u8 (symZ (b : Int) (7 - m))))) q) → _) (haG (b : Int) ((b / 2 ^ m : Nat) : Int) m _ ?_)
   · rintro ⟨p, q, h1, h2⟩
     exact ⟨p, _, q, h1, h2⟩
   · have hz : symZ (b : Int) (7 - m) = if (b / 2 ^ m) % 2 = 1 then 2 else 1 := by
      unfold symZ crBit
      rw [decide_eq_true (show 7 - m < 8 by omega), Bool.true_and, show 7 - (7 - m) = m by omega, Int.toNat_natCast, Nat.testBit_eq_decide_div_mod_eq]
      simp
     have hm2 : Int.tmod ((b / 2 ^ m : Nat) : Int) (Int.ofNat 2) = ((b / 2 ^ m % 2 : Nat) : Int) := by rw [Int.tmod_eq_emod_of_nonneg (Int.natCast_nonneg _)]; rfl
     rw [hm2, hz]
     refine ⟨fun c1 => ?_, fun c1 => ?_⟩
     · have h1 : b / 2 ^ m % 2 = 1 := Int.ofNat.inj (eq_of_beq c1)
       rw [if_pos h1]
       exact ⟨rfl, (by first | (unfold lim; omega) | (dsimp only; unfold lim; omega)), by simp only [allT, List.forall_mem_cons, c1]; simp, fun q hq => by rw [List.mem_singleton.1 hq]; exact ha_sum b m (by omega) (by omega)⟩
     · have h1 : ¬ b / 2 ^ m % 2 = 1 := fun h => by rw [h] at c1; exact absurd c1 (by decide)
       rw [if_neg h1]
       exact ⟨rfl, (by first | (unfold lim; omega) | (dsimp only; unfold lim; omega)), by simp only [allT, List.forall_mem_cons, c1]; simp, fun q hq => by rw [List.mem_singleton.1 hq]; exact ha_sum b m (by omega) (by omega)⟩
 · cases hs
theorem ct_rmay5 : CtOk Tryz.prog 102 (ctRd (pureRd [] rfl) mayX mayQ) := by
 refine ctRd_ofE (E := E1 Tryz.prog) hE1 (pureRd [] rfl) (fuel := 300) (str := 10000000000000000000000000000000000000000) ⟨_, _, Tryz.func102, rfl⟩ (fun s => by unfold mayX; split <;> rfl) fun s hs => ?_
 unfold mayQ at hs
 split at hs
 · rename_i o k st q v
   refine (?_ : (∃ p r, hmF Tryz.prog o k st q v p = some r ∧ GoodF (bo (mayZ o k)) r) → _) (hmT o k st q v _ ?_)
   · rintro ⟨p, q, h1, h2⟩
     exact ⟨p, [], q, h1, h2⟩
   · (repeat' (first | refine ⟨fun h => ?_, fun h => ?_⟩ | fail))
     all_goals (refine ⟨?_, (by first | (unfold lim; omega) | (dsimp only; unfold lim; omega)), by simp only [allT, List.forall_mem_cons, *]; simp, by simp⟩)
     all_goals (simp only [decide_eq_true_eq, decide_eq_false_iff_not, beq_iff_eq, beq_eq_false_iff_ne, ne_eq, Int.ofNat_eq_natCast, Int.cast_ofNat_Int, ge_iff_le] at *)
     all_goals (show bo _ = bo _; congr 1; unfold mayZ; first | (rw [decide_eq_true (show (0 : Int) ≤ o by omega), decide_eq_true (show o < 8 by omega), show (k == 1) = false by simpa using h]; rfl) | (simp_all; done) | (simp; omega) | (simp; intros; omega) | (simp_all; intros; omega))
 · cases hs
def EHo (P : Program) : Env := ⟨P, [(104, ctRd (pureRd [] rfl) rbX rbQ), (102, ctRd (pureRd [] rfl) mayX mayQ), (125, ctRSum)]⟩
theorem hEHo : EnvOk (EHo Tryz.prog) := by
 refine envOk (fun f g h => ?_) (by kernel_rfl) (by kernel_rfl)
 simp only [EHo, List.mem_cons, Prod.mk.injEq, List.not_mem_nil, or_false] at h
 rcases h with ⟨rfl, rfl⟩ | ⟨rfl, rfl⟩ | ⟨rfl, rfl⟩
 · exact ct_rbit
 · exact ct_rmay5
 · exact ct_rsum
abbrev hoG : Nat := 3000
abbrev hoY : Nat := 1000000000000000000000000000000000000000120
abbrev hoV (n k : Nat) : List AV := [.c (.sl 0 0 0 n none), i64 (Int.ofNat k)]
def hoR (P : Program) (n : Nat) (f : Nat → Int) (m : Nat) (g : Nat → Int) (k : Nat) (path : List Dec) : Option VC :=
 view [3, 0, 4] [hoY, hoG, 0] (fC (EHo P) 100 (loopAt P 54 0) 1000000000000000000000000000000000000000000 10000000000000000000000000000000000000000 ⟨mkFr 27 ((3, goX hoG m) :: [0, 4].zip (hoV n k)), (hoG, symW m g) :: [0].zip [bytB n f], 0, 0, false, path, [], [], [], none, [none]⟩)
abbrev hoS (n : Nat) (g : Nat → Int) : Option LSum := some ⟨[3, 0, 4], [0], mkFr 27 ((3, goX hoG (8 * n)) :: []), (hoG, symW (8 * n) g) :: [], 100000000000000000000000000000000000000000000000000, .exit 0⟩
def hoF (P : Program) (n : Nat) (f : Nat → Int) (path : List Dec) (lp : List (Option LSum)) : Option VF := viewF [hoG] (fCallF (EHo P) (fC (EHo P) 300) 54 [.c (.sl 0 0 0 n none)] 1000 10000000000000000000000000000000000000000 (stA [(0, bytB n f)] path lp))
theorem hoT (n : Nat) (f : Nat → Int) (m : Nat) (g : Nat → Int) (k : Nat) (Q : VC → Prop) (H : let zz0 := (ABlk.mk false false 5 1 (Cs.arr n fun k => List.map AC.v ((fun i => [Value.int IntKind.u8 (f i)]) k))); let zz1 := (IntKind.wrap IntKind.u64 (f (0 + Int.toNat (Int.ofNat k)))); (((decide (Int.ofNat k < ↑n)) = true → Q (Exit.normal, [some (.c (.sl 1000000000000000000000000000000000000000120 0 0 (m + 1 + 1 + 1 + 1 + 1 + 1 + 1 + 1) none)), some (lkA ((3, goX hoG m) :: List.zip [0, 4] (hoV n k)) 0), some (.c (.v (.int .i64 (IntKind.wrap .i64 (Int.ofNat k + Int.ofNat 1)))))], [some (ABlk.mk true true 49 1 (Cs.arr (m + 1 + 1 + 1 + 1 + 1 + 1 + 1 + 1) fun i => if i < m + 1 + 1 + 1 + 1 + 1 + 1 + 1 then if i < m + 1 + 1 + 1 + 1 + 1 + 1 then if i < m + 1 + 1 + 1 + 1 + 1 then if i < m + 1 + 1 + 1 + 1 then if i < m + 1 + 1 + 1 then if i < m + 1 + 1 then if i < m + 1 then if i < m then List.map AC.v ((fun i => [Value.int .u8 (g i)]) i) else elt (ABlk.mk true false 49 0 (Cs.lit [.v (.int .u8 (symZ zz1 0))])) 0 0 1 (i - m) else elt (ABlk.mk true false 49 0 (Cs.lit [.v (.int .u8 (symZ zz1 1))])) 0 0 1 (i - (m + 1)) else elt (ABlk.mk true false 49 0 (Cs.lit [.v (.int .u8 (symZ zz1 2))])) 0 0 1 (i - (m + 1 + 1)) else elt (ABlk.mk true false 49 0 (Cs.lit [.v (.int .u8 (symZ zz1 3))])) 0 0 1 (i - (m + 1 + 1 + 1)) else elt (ABlk.mk true false 49 0 (Cs.lit [.v (.int .u8 (symZ zz1 4))])) 0 0 1 (i - (m + 1 + 1 + 1 + 1)) else elt (ABlk.mk true false 49 0 (Cs.lit [.v (.int .u8 (symZ zz1 5))])) 0 0 1 (i - (m + 1 + 1 + 1 + 1 + 1)) else elt (ABlk.mk true false 49 0 (Cs.lit [.v (.int .u8 (symZ zz1 6))])) 0 0 1 (i - (m + 1 + 1 + 1 + 1 + 1 + 1)) else elt (ABlk.mk true false 49 0 (Cs.lit [.v (.int .u8 (symZ zz1 7))])) 0 0 1 (i - (m + 1 + 1 + 1 + 1 + 1 + 1 + 1)))), none, some zz0], 27, 1000000000000000000000000000000000000000130, [true, true, decide (m + 1 + 1 + 1 + 1 + 1 + 1 + 1 ≤ m + 1 + 1 + 1 + 1 + 1 + 1 + 1), decide ((m + 1 + 1 + 1 + 1 + 1 + 1 + 1 + 1) * 1 ≤ 140737488355328), true, rbQ [.c (.v (.int .u64 zz1)), .c (.v (.int .i64 (Int.ofNat 0)))], ABlk.inb zz0 (0 + Int.toNat (Int.ofNat k)) 1, true, decide (Int.ofNat 0 ≤ Int.ofNat k ∧ Int.ofNat k < ↑n), true, true, decide (m + 1 + 1 + 1 + 1 + 1 + 1 ≤ m + 1 + 1 + 1 + 1 + 1 + 1), decide ((m + 1 + 1 + 1 + 1 + 1 + 1 + 1) * 1 ≤ 140737488355328), true, rbQ [.c (.v (.int .u64 zz1)), .c (.v (.int .i64 (Int.ofNat 1)))], ABlk.inb zz0 (0 + Int.toNat (Int.ofNat k)) 1, true, decide (Int.ofNat 0 ≤ Int.ofNat k ∧ Int.ofNat k < ↑n), true, true, decide (m + 1 + 1 + 1 + 1 + 1 ≤ m + 1 + 1 + 1 + 1 + 1), decide ((m + 1 + 1 + 1 + 1 + 1 + 1) * 1 ≤ 140737488355328), true, rbQ [.c (.v (.int .u64 zz1)), .c (.v (.int .i64 (Int.ofNat 2)))], ABlk.inb zz0 (0 + Int.toNat (Int.ofNat k)) 1, true, decide (Int.ofNat 0 ≤ Int.ofNat k ∧ Int.ofNat k < ↑n), true, true, decide (m + 1 + 1 + 1 + 1 ≤ m + 1 + 1 + 1 + 1), decide ((m + 1 + 1 + 1 + 1 + 1) * 1 ≤ 140737488355328), true, rbQ [.c (.v (.int .u64 zz1)), .c (.v (.int .i64 (Int.ofNat 3)))], ABlk.inb zz0 (0 + Int.toNat (Int.ofNat k)) 1, true, decide (Int.ofNat 0 ≤ Int.ofNat k ∧ Int.ofNat k < ↑n), true, true, decide (m + 1 + 1 + 1 ≤ m + 1 + 1 + 1), decide ((m + 1 + 1 + 1 + 1) * 1 ≤ 140737488355328), true, rbQ [.c (.v (.int .u64 zz1)), .c (.v (.int .i64 (Int.ofNat 4)))], ABlk.inb zz0 (0 + Int.toNat (Int.ofNat k)) 1, true, decide (Int.ofNat 0 ≤ Int.ofNat k ∧ Int.ofNat k < ↑n), true, true, decide (m + 1 + 1 ≤ m + 1 + 1), decide ((m + 1 + 1 + 1) * 1 ≤ 140737488355328), true, rbQ [.c (.v (.int .u64 zz1)), .c (.v (.int .i64 (Int.ofNat 5)))], ABlk.inb zz0 (0 + Int.toNat (Int.ofNat k)) 1, true, decide (Int.ofNat 0 ≤ Int.ofNat k ∧ Int.ofNat k < ↑n), true, true, decide (m + 1 ≤ m + 1), decide ((m + 1 + 1) * 1 ≤ 140737488355328), true, rbQ [.c (.v (.int .u64 zz1)), .c (.v (.int .i64 (Int.ofNat 6)))], ABlk.inb zz0 (0 + Int.toNat (Int.ofNat k)) 1, true, decide (Int.ofNat 0 ≤ Int.ofNat k ∧ Int.ofNat k < ↑n), true, true, decide (m ≤ m), decide ((m + 1) * 1 ≤ 140737488355328), true, rbQ [.c (.v (.int .u64 zz1)), .c (.v (.int .i64 (Int.ofNat 7)))], ABlk.inb zz0 (0 + Int.toNat (Int.ofNat k)) 1, true, decide (Int.ofNat 0 ≤ Int.ofNat k ∧ Int.ofNat k < ↑n), decide (Int.ofNat k < ↑n) == true], [])) ∧ ((decide (Int.ofNat k < ↑n)) = false → Q (Exit.exit 0, [some (lkA ((3, goX hoG m) :: List.zip [0, 4] (hoV n k)) 3), some (lkA ((3, goX hoG m) :: List.zip [0, 4] (hoV n k)) 0), some (lkA ((3, goX hoG m) :: List.zip [0, 4] (hoV n k)) 4)], [none, some (ABlk.mk true true 49 1 (Cs.arr m fun k => List.map AC.v ((fun i => [Value.int .u8 (g i)]) k))), some zz0], 27, 1000000000000000000000000000000000000000004, [decide (Int.ofNat k < ↑n) == false], [])))) :
 ∃ p r, hoR Tryz.prog n f m g k p = some r ∧ Q r :=
 two H
 (fun g1 => ⟨pD 10 1, _, by kernel_rfl, g1⟩)
 (fun g1 => ⟨pD 1 2, _, by kernel_rfl, g1⟩)
theorem hoU (n : Nat) (f g : Nat → Int) (Q : VF → Prop) (H : Q (.c (.sl 3000 0 0 (8 * n) none), [some (ABlk.mk true true 49 1 (Cs.arr (8 * n) fun k => List.map AC.v ((fun i => [Value.int .u8 (g i)]) k)))], 100000000000000000000000000000000000000000000000002, [], [LoopV Tryz.prog (loopAt Tryz.prog 54 0) [3, 0, 4] [0] [some (.c (AC.v (Value.slice none 0 0))), some (.c (.sl 0 0 0 n none)), some (.c (.v (.int .i64 (Int.ofNat 0))))] [some (ABlk.mk false false 5 1 (Cs.arr n fun k => List.map AC.v ((fun i => [Value.int .u8 (f i)]) k)))] 27 1003 (mkFr 27 [(3, goX hoG (8 * n))]) [(hoG, symW (8 * n) g)] 100000000000000000000000000000000000000000000000000 (Exit.exit 0) none])) :
 ∃ p r, hoF Tryz.prog n f p [hoS n g] = some r ∧ Q r :=
 ⟨pD 0 0, _, by kernel_rfl, H⟩
end Go.Proofs.YtoelekmbmghicaaGreatDoor
end
/- Contract of sennitref01.Of. -/
section
namespace Go.Proofs.YtoelekmbmghicaaGreatDoor
open Go.RowKit
theorem ho_bl (f : Nat → Int) (m k : Nat) (hmk : m = 8 * k) {x : Int} (hx : x = f k) (i : Nat) (hi : i < m + 1 + 1 + 1 + 1 + 1 + 1 + 1 + 1) :
 (if i < m + 1 + 1 + 1 + 1 + 1 + 1 + 1 then if i < m + 1 + 1 + 1 + 1 + 1 + 1 then if i < m + 1 + 1 + 1 + 1 + 1 then if i < m + 1 + 1 + 1 + 1 then if i < m + 1 + 1 + 1 then if i < m + 1 + 1 then if i < m + 1 then if i < m then List.map AC.v ((fun i => [Value.int .u8 (symK f i)]) i) else elt (ABlk.mk true false 49 0 (Cs.lit [.v (.int .u8 (symZ x (7 - Int.toNat (Int.ofNat 7))))])) 0 0 1 (i - (m)) else elt (ABlk.mk true false 49 0 (Cs.lit [.v (.int .u8 (symZ x (7 - Int.toNat (Int.ofNat 6))))])) 0 0 1 (i - (m + 1)) else elt (ABlk.mk true false 49 0 (Cs.lit [.v (.int .u8 (symZ x (7 - Int.toNat (Int.ofNat 5))))])) 0 0 1 (i - (m + 1 + 1)) else elt (ABlk.mk true false 49 0 (Cs.lit [.v (.int .u8 (symZ x (7 - Int.toNat (Int.ofNat 4))))])) 0 0 1 (i - (m + 1 + 1 + 1)) else elt (ABlk.mk true false 49 0 (Cs.lit [.v (.int .u8 (symZ x (7 - Int.toNat (Int.ofNat 3))))])) 0 0 1 (i - (m + 1 + 1 + 1 + 1)) else elt (ABlk.mk true false 49 0 (Cs.lit [.v (.int .u8 (symZ x (7 - Int.toNat (Int.ofNat 2))))])) 0 0 1 (i - (m + 1 + 1 + 1 + 1 + 1)) else elt (ABlk.mk true false 49 0 (Cs.lit [.v (.int .u8 (symZ x (7 - Int.toNat (Int.ofNat 1))))])) 0 0 1 (i - (m + 1 + 1 + 1 + 1 + 1 + 1)) else elt (ABlk.mk true false 49 0 (Cs.lit [.v (.int .u8 (symZ x (7 - Int.toNat (Int.ofNat 0))))])) 0 0 1 (i - (m + 1 + 1 + 1 + 1 + 1 + 1 + 1))) = List.map AC.v ((fun i => [Value.int .u8 (symK f i)]) i) := by
 subst hx
 have e : ∀ j, j < 8 → ∀ i, i = m + j → symZ (f k) j = symK f i := by
  intro j hj i hi
  subst hi
  unfold symK
  rw [show (m + j) / 8 = k by omega, show (m + j) % 8 = j by omega]
 have : i < m ∨ i = m + 0 ∨ i = m + 1 ∨ i = m + 2 ∨ i = m + 3 ∨ i = m + 4 ∨ i = m + 5 ∨ i = m + 6 ∨ i = m + 7 := by omega
 rcases this with h | h | h | h | h | h | h | h | h
 · rw [if_pos (show i < m + 1 + 1 + 1 + 1 + 1 + 1 + 1 by omega), if_pos (show i < m + 1 + 1 + 1 + 1 + 1 + 1 by omega), if_pos (show i < m + 1 + 1 + 1 + 1 + 1 by omega), if_pos (show i < m + 1 + 1 + 1 + 1 by omega), if_pos (show i < m + 1 + 1 + 1 by omega), if_pos (show i < m + 1 + 1 by omega), if_pos (show i < m + 1 by omega), if_pos h]
 · rw [if_pos (show i < m + 1 + 1 + 1 + 1 + 1 + 1 + 1 by omega), if_pos (show i < m + 1 + 1 + 1 + 1 + 1 + 1 by omega), if_pos (show i < m + 1 + 1 + 1 + 1 + 1 by omega), if_pos (show i < m + 1 + 1 + 1 + 1 by omega), if_pos (show i < m + 1 + 1 + 1 by omega), if_pos (show i < m + 1 + 1 by omega), if_pos (show i < m + 1 by omega), if_neg (show ¬ i < m by omega), show i - (m) = 0 by omega]
   exact congrArg (fun z => [AC.v (Value.int .u8 z)]) (e 0 (by omega) i h)
 · rw [if_pos (show i < m + 1 + 1 + 1 + 1 + 1 + 1 + 1 by omega), if_pos (show i < m + 1 + 1 + 1 + 1 + 1 + 1 by omega), if_pos (show i < m + 1 + 1 + 1 + 1 + 1 by omega), if_pos (show i < m + 1 + 1 + 1 + 1 by omega), if_pos (show i < m + 1 + 1 + 1 by omega), if_pos (show i < m + 1 + 1 by omega), if_neg (show ¬ i < m + 1 by omega), show i - (m + 1) = 0 by omega]
   exact congrArg (fun z => [AC.v (Value.int .u8 z)]) (e 1 (by omega) i h)
 · rw [if_pos (show i < m + 1 + 1 + 1 + 1 + 1 + 1 + 1 by omega), if_pos (show i < m + 1 + 1 + 1 + 1 + 1 + 1 by omega), if_pos (show i < m + 1 + 1 + 1 + 1 + 1 by omega), if_pos (show i < m + 1 + 1 + 1 + 1 by omega), if_pos (show i < m + 1 + 1 + 1 by omega), if_neg (show ¬ i < m + 1 + 1 by omega), show i - (m + 1 + 1) = 0 by omega]
   exact congrArg (fun z => [AC.v (Value.int .u8 z)]) (e 2 (by omega) i h)
 · rw [if_pos (show i < m + 1 + 1 + 1 + 1 + 1 + 1 + 1 by omega), if_pos (show i < m + 1 + 1 + 1 + 1 + 1 + 1 by omega), if_pos (show i < m + 1 + 1 + 1 + 1 + 1 by omega), if_pos (show i < m + 1 + 1 + 1 + 1 by omega), if_neg (show ¬ i < m + 1 + 1 + 1 by omega), show i - (m + 1 + 1 + 1) = 0 by omega]
   exact congrArg (fun z => [AC.v (Value.int .u8 z)]) (e 3 (by omega) i h)
 · rw [if_pos (show i < m + 1 + 1 + 1 + 1 + 1 + 1 + 1 by omega), if_pos (show i < m + 1 + 1 + 1 + 1 + 1 + 1 by omega), if_pos (show i < m + 1 + 1 + 1 + 1 + 1 by omega), if_neg (show ¬ i < m + 1 + 1 + 1 + 1 by omega), show i - (m + 1 + 1 + 1 + 1) = 0 by omega]
   exact congrArg (fun z => [AC.v (Value.int .u8 z)]) (e 4 (by omega) i h)
 · rw [if_pos (show i < m + 1 + 1 + 1 + 1 + 1 + 1 + 1 by omega), if_pos (show i < m + 1 + 1 + 1 + 1 + 1 + 1 by omega), if_neg (show ¬ i < m + 1 + 1 + 1 + 1 + 1 by omega), show i - (m + 1 + 1 + 1 + 1 + 1) = 0 by omega]
   exact congrArg (fun z => [AC.v (Value.int .u8 z)]) (e 5 (by omega) i h)
 · rw [if_pos (show i < m + 1 + 1 + 1 + 1 + 1 + 1 + 1 by omega), if_neg (show ¬ i < m + 1 + 1 + 1 + 1 + 1 + 1 by omega), show i - (m + 1 + 1 + 1 + 1 + 1 + 1) = 0 by omega]
   exact congrArg (fun z => [AC.v (Value.int .u8 z)]) (e 6 (by omega) i h)
 · rw [if_neg (show ¬ i < m + 1 + 1 + 1 + 1 + 1 + 1 + 1 by omega), show i - (m + 1 + 1 + 1 + 1 + 1 + 1 + 1) = 0 by omega]
   exact congrArg (fun z => [AC.v (Value.int .u8 z)]) (e 7 (by omega) i h)
set_option maxRecDepth 100000 in
theorem ho_sum (n : Nat) (f : Nat → Int) (hn : n ≤ 100) (hf : ∀ i, i < n → 0 ≤ f i ∧ f i < 256) : LoopV Tryz.prog (loopAt Tryz.prog 54 0) [3, 0, 4] [0] (some (.c (.v (.slice none 0 0))) :: (hoV n 0).map some) [some (bytB n f)] 27 1003 (mkFr 27 ((3, goX hoG (8 * n)) :: [])) ((hoG, symW (8 * n) (symK f)) :: []) 100000000000000000000000000000000000000000000000000 (.exit 0) none := by
 refine loop_growE hEHo (fuel := 100) (str := 10000000000000000000000000000000000000000) (nh := 1000000000000000000000000000000000000000000) (S := Nat) (fun k => k ≤ n) (fun k => n - k) 3 hoG [0, 4] [hoY, hoG] [0] (fun k => 8 * k) (fun k => symW (8 * k) (symK f)) (hoV n) (fun _ => [bytB n f]) (by decide) (by decide) (by decide) (Nat.le_of_ble_eq_true rfl) (s0 := 0) (Nat.zero_le _) rfl ⟨_, rfl⟩ Nat.one_pos (fun _ => ⟨rfl, rfl⟩) (by kernel_rfl) (BL.refl [bytB n f]) (fun k _ => ⟨rfl, (fun b hb => by rw [List.mem_singleton.1 hb]; exact rBlk_low), wBlk_low⟩) wBlk_low ?_
 intro k hk
 refine (?_ : (∃ p r, hoR Tryz.prog n f (8 * k) (symK f) k p = some r ∧ _) → _) (hoT n f (8 * k) (symK f) k (StepG 1003 1000000000000000000000000000000000000000000 100000000000000000000000000000000000000000000000000 27 hoG [0, 4] [hoY, hoG] [0] (fun k => k ≤ n) (fun k => n - k) (fun k => 8 * k) (fun k => symW (8 * k) (symK f)) (hoV n) (fun _ => [bytB n f]) (.exit 0) (8 * n) (symW (8 * n) (symK f)) [] [] k) ?_)
 · rintro ⟨p, r, h1, h2⟩
   exact ⟨p, [none], r, h1, h2⟩
 · refine ⟨fun c1 => ?_, fun c1 => ?_⟩
   · have hlt : k < n := by simp at c1; omega
     have w := fr_w1 (show k < 1000000 by omega)
     obtain ⟨b0, b1⟩ := hf k hlt
     rw [go_e, w64 b0 b1, w]
     refine ⟨?_, by simp, by dsimp only; omega, rfl, .inl ⟨rfl, k + 1, hlt, by show n - (k + 1) < n - k; omega, rfl, BL.refl [bytB n f], hoY, _, rfl, .inr ⟨by decide, by decide⟩, .head _, ⟨rfl, rfl, rfl, rfl, .inr (.inl ⟨_, _, _, rfl, rfl, fun i hi => ?_⟩)⟩⟩⟩
     · simp only [allT, List.forall_mem_cons, c1]
       simp [inb_arr, rbQ, b0, b1]
       omega
     · exact ho_bl f (8 * k) k rfl rfl i hi
   · obtain rfl : k = n := by simp at c1; omega
     exact ⟨by simp only [allT, List.forall_mem_cons, c1]; simp, by simp, by dsimp only; omega, rfl, .inr ⟨by simp, rfl, (fun _ h => by cases h), (fun _ h => by cases h), hoG, _, rfl, .inl rfl, .tail _ (.head _), BEq.refl _⟩⟩
def ctROf : CtF := ctRdL bytRd (fun s => 8 * s.n) (fun s => symW (8 * s.n) (symK s.f)) bytP
theorem ct_rof : CtOk Tryz.prog 54 ctROf := by
 refine ctRdL_of (E := EHo Tryz.prog) hEHo bytRd (fuel := 300) (str := 10000000000000000000000000000000000000000) hoG ⟨_, _, Tryz.func54, rfl⟩ (fun _ => rfl) (fun _ => ⟨_, _, rfl⟩) (fun _ => wBlk_pl (fun _ => rfl)) fun s hs => ?_
 obtain ⟨n, f, rest⟩ := s
 simp only [bytP, Bool.and_eq_true, decide_eq_true_eq, List.isEmpty_iff] at hs
 obtain ⟨hn, hf, rfl⟩ := hs
 have hf : ∀ i, i < n → 0 ≤ f i ∧ f i < 256 := fun i hi => of_decide_eq_true (List.all_eq_true.1 hf i (List.mem_range.2 hi))
 refine (?_ : (∃ p q, hoF Tryz.prog n f p [hoS n (symK f)] = some q ∧ GoodL hoG (8 * n) (symW (8 * n) (symK f)) q) → _) (hoU n f (symK f) _ ?_)
 · rintro ⟨p, q, h1, h2⟩
   exact ⟨p, _, q, h1, h2⟩
 · refine ⟨rfl, ⟨_, rfl, BEq.refl _⟩, (by first | (unfold lim; omega) | (dsimp only; unfold lim; omega)), by simp [allT], fun q hq => ?_⟩
   rw [List.mem_singleton.1 hq]
   exact ho_sum n f hn hf
end Go.Proofs.YtoelekmbmghicaaGreatDoor
end
/- frames.Syms as the evaluator runs it. -/
section
namespace Go.Proofs.YtoelekmbmghicaaGreatDoor
open Go.RowKit
abbrev syA (o k st q v : Int) : List AV := [.agg [.v (.int .i64 o), .v (.int .u8 k), .v (.int .u8 st), .v (.int .u32 q), .v (.int .u32 v)], .agg [.v (.bool true), .v (.bool false)]]
def bodF (o k st q v : Int) : Nat → Int
 | 0 => 16 * k + o
 | 1 => st
 | 2 => q / 16777216 % 256
 | 3 => q / 65536 % 256
 | 4 => q / 256 % 256
 | 5 => q % 256
 | 6 => v / 16777216 % 256
 | 7 => v / 65536 % 256
 | 8 => v / 256 % 256
 | _ => v % 256
def sumN (f : Nat → Int) : Nat := (~~~ (crOf (natF f) 10)).toNat
def bytF (o k st q v : Int) : Nat → Int := fun i => if i < 10 then bodF o k st q v i else if i = 10 then ((sumN (bodF o k st q v) / 16777216 % 256 : Nat) : Int) else if i = 11 then ((sumN (bodF o k st q v) / 65536 % 256 : Nat) : Int) else if i = 12 then ((sumN (bodF o k st q v) / 256 % 256 : Nat) : Int) else ((sumN (bodF o k st q v) % 256 : Nat) : Int)
def syE (P : Program) (ids : List Nat) (o k st q v : Int) (path : List Dec) (lp : List (Option LSum)) : Option VF := viewF ids (fCallF (EFr P) (fC (EFr P) 300) 21 (syA o k st q v) 1000 10000000000000000000000000000000000000000 (stA [] path lp))
theorem syT (o k st q v : Int) (Q : VF → Prop) (H : let zz0 := (BitVec.toNat (crOf (natF (bodF o k st q v)) 10)); let zt : List Bool → List Bool := fun l => true :: true :: true :: true :: true :: true :: true :: true :: l; let zu : List Bool → List Bool := fun l => zt (zt (zt (zt l))); Q (.tup [.c (.sl 300000000000000000000000000000000000001095 0 0 114 (some 114)), .c (.v (.int .i64 (Int.ofNat 0)))], [some (ABlk.mk true true 49 1 (Cs.arr 114 fun i => if i < 112 then if i < 0 then if i < 0 then [] else List.map AC.v (Array.toList (Value.cells (Value.int .u8 0))) else elt (ABlk.mk false true 49 1 (Cs.arr 112 fun k_1 => List.map AC.v ((fun i => [Value.int .u8 (symK (bytF o k st q v) i)]) k_1))) 0 0 1 (i - 0) else elt (ABlk.mk false true 49 1 (Cs.arr 2 fun i => if i < 1 then if i < 0 then [] else elt (ABlk.mk true true 49 1 (Cs.arr 1 fun i => if i < 0 then [] else elt (ABlk.mk true false 49 0 (Cs.lit [.v (.int .u8 (Int.ofNat 2))])) 0 0 1 (i - 0))) 0 0 1 (i - 0) else elt (ABlk.mk true false 49 0 (Cs.lit [.v (.int .u8 (Int.ofNat 1))])) 0 0 1 (i - 1))) 0 0 1 (i - 112)))], 340000000000000000000000000000000000001017, (zu (zu (zu (zu (zt (true :: true :: (((!mayZ o k) == false) :: (zt (true :: true :: true :: true :: true :: true :: []))))))))), [LoopV Tryz.prog (loopAt Tryz.prog 49 0) foH [foQ] [some (.c (AC.v (Value.slice none 0 0))), some (.c (.sl 220000001000000000000000000000000000000020 0 0 14 (some 14))), some (.c (.v (.int .i64 (Int.ofNat 14)))), some (.c (.v (.int .i64 (Int.ofNat 0))))] [some (ABlk.mk false true 5 1 (Cs.arr 14 fun i => if i < 10 then List.map AC.v ((fun i => [Value.int .u8 (bodF o k st q v i)]) i) else elt (ABlk.mk true false 5 0 (Cs.lit [.v (.int .u8 (IntKind.wrap .u8 (Int.fdiv (IntKind.wrap .u32 ↑(BitVec.toNat (BitVec.ofInt (IntKind.bits .u32) (if IntKind.signed .u32 = true then -1 else IntKind.max .u32) ^^^ BitVec.ofInt (IntKind.bits .u32) ↑zz0))) (Int.ofNat 16777216)))), .v (.int .u8 (IntKind.wrap .u8 (Int.fdiv (IntKind.wrap .u32 ↑(BitVec.toNat (BitVec.ofInt (IntKind.bits .u32) (if IntKind.signed .u32 = true then -1 else IntKind.max .u32) ^^^ BitVec.ofInt (IntKind.bits .u32) ↑zz0))) (Int.ofNat 65536)))), .v (.int .u8 (IntKind.wrap .u8 (Int.fdiv (IntKind.wrap .u32 ↑(BitVec.toNat (BitVec.ofInt (IntKind.bits .u32) (if IntKind.signed .u32 = true then -1 else IntKind.max .u32) ^^^ BitVec.ofInt (IntKind.bits .u32) ↑zz0))) (Int.ofNat 256)))), .v (.int .u8 (IntKind.wrap .u8 (IntKind.wrap .u32 ↑(BitVec.toNat (BitVec.ofInt (IntKind.bits .u32) (if IntKind.signed .u32 = true then -1 else IntKind.max .u32) ^^^ BitVec.ofInt (IntKind.bits .u32) ↑zz0)))))])) 0 0 1 (i - 10)))] 19 260000000000000000000000000000000000001022 (mkFr 19 [(3, foL 112)]) [(foG, symW 112 (symK (bytF o k st q v)))] 260000000010000000000000000000000000000000 (Exit.exit 0) none, LoopV Tryz.prog (loopAt Tryz.prog 123 1) fbH fxI [some (.c (.ptr 220000000000000000000000000000000000001124 0 0)), some (.c (AC.mv 133 220000000000000000000000000000000000001124 0 0)), some (.c (.v (.int .i64 (Int.ofNat 1)))), some (.c (.v (.int .i64 (Int.ofNat 0)))), some (.c (.sl 220000000000000000000000000000000000001113 0 0 10 none)), some (.c (.v (.int .i64 (Int.ofNat 10)))), some (.c (.v (.int .i64 (Int.ofNat 0))))] [some (ABlk.mk true true 5 1 (Cs.arr 10 fun i => if i < 6 then if i < 2 then if i < 0 then if i < 0 then [] else List.map AC.v (Array.toList (Value.cells (Value.int .u8 0))) else elt (ABlk.mk false false 5 0 (Cs.lit [.v (.int .u8 (IntKind.wrap .u8 (IntKind.wrap .i64 (IntKind.wrap .i64 (Int.ofNat 16 * IntKind.wrap .i64 k) + o)))), .v (.int .u8 st)])) 0 0 1 (i - 0) else elt (ABlk.mk false false 5 0 (Cs.lit [.v (.int .u8 (IntKind.wrap .u8 (Int.fdiv q (Int.ofNat 16777216)))), .v (.int .u8 (IntKind.wrap .u8 (Int.fdiv q (Int.ofNat 65536)))), .v (.int .u8 (IntKind.wrap .u8 (Int.fdiv q (Int.ofNat 256)))), .v (.int .u8 (IntKind.wrap .u8 q))])) 0 0 1 (i - 2) else elt (ABlk.mk false false 5 0 (Cs.lit [.v (.int .u8 (IntKind.wrap .u8 (Int.fdiv v (Int.ofNat 16777216)))), .v (.int .u8 (IntKind.wrap .u8 (Int.fdiv v (Int.ofNat 65536)))), .v (.int .u8 (IntKind.wrap .u8 (Int.fdiv v (Int.ofNat 256)))), .v (.int .u8 (IntKind.wrap .u8 v))])) 0 0 1 (i - 6))), some (ABlk.mk true false 182 0 (Cs.lit [.v (.int .u32 (Int.ofNat 4294967295))]))] 29 220000000000000000000000000000000000001138 (mkFr 29 fbO) (List.zip fxI (fxB 10 (bodF o k st q v) ↑zz0)) 220000001000000000000000000000000000000000 (Exit.exit 2) none])) :
 ∃ p r, syE Tryz.prog [300000000000000000000000000000000000001095] o k st q v p [none, none, none, fbS 10 (bodF o k st q v), foS (bytF o k st q v), none, none, none] = some r ∧ Q r :=
 ⟨pD 38 2, _, by kernel_rfl, H⟩
theorem syNo (o k st q v : Int) (Q : VF → Prop) (H : Q (.tup [.c (AC.v (Value.slice none 0 0)), .c (.v (.int .i64 (Int.ofNat 1)))], [], 1022, [(!mayZ o k) == true, true, true, true, true, true, true, true, true, true, true, true, true, true, true], [])) :
 ∃ p r, syE Tryz.prog [] o k st q v p [] = some r ∧ Q r :=
 ⟨pD 2 1, _, by kernel_rfl, H⟩
end Go.Proofs.YtoelekmbmghicaaGreatDoor
end
/- Contract of frames.Syms, of whatever frame, with a good tail. -/
section
namespace Go.Proofs.YtoelekmbmghicaaGreatDoor
open Go.RowKit
theorem ww8 (x : Int) : IntKind.wrap .u8 x = x % 256 := by simp [IntKind.wrap, IntKind.bits, IntKind.signed]
theorem fd_pos {x d : Int} (hd : 0 ≤ d) : Int.fdiv x d = x / d := Int.fdiv_eq_ediv_of_nonneg _ hd
structure FrOkA (o k st q v : Int) : Prop where
 may : mayZ o k = true
 o0 : 0 ≤ o
 o7 : o < 8
 k1 : k = 1 ∨ k = 2
 st : 0 ≤ st ∧ st < 256
 q : 0 ≤ q ∧ q < 4294967296
 v : 0 ≤ v ∧ v < 4294967296
theorem bodF_in {o k st q v : Int} (h : FrOkA o k st q v) (i : Nat) : 0 ≤ bodF o k st q v i ∧ bodF o k st q v i < 256 := by
 have h1 := h.o0
 have h2 := h.o7
 have h3 := h.k1
 have h4 := h.st
 unfold bodF
 split <;> omega
theorem bytF_in {o k st q v : Int} (h : FrOkA o k st q v) (i : Nat) : 0 ≤ bytF o k st q v i ∧ bytF o k st q v i < 256 := by
 have := bodF_in h i
 unfold bytF
 (repeat' split) <;> omega
theorem sum_pr (f : Nat → Int) : IntKind.wrap .u32 ((BitVec.toNat (BitVec.ofInt (IntKind.bits .u32) (if IntKind.signed .u32 = true then -1 else IntKind.max .u32) ^^^ BitVec.ofInt (IntKind.bits .u32) ((crOf (natF f) 10).toNat : Int)) : Nat) : Int) = (sumN f : Int) := by
 rw [ob32]
 show IntKind.wrap .u32 ((BitVec.toNat (BitVec.allOnes 32 ^^^ crOf (natF f) 10) : Nat) : Int) = _
 rw [BitVec.allOnes_xor]
 exact wr32 _
def fullF (o k st q v : Int) : Nat → Int := fun i => if i < 112 then symK (bytF o k st q v) i else if i = 112 then 2 else 1
def fuG : List AV → Bool
 | [.agg [.v (.int .i64 o), .v (.int .u8 k), .v (.int .u8 st), .v (.int .u32 q), .v (.int .u32 v)], .agg [.v (.bool true), .v (.bool false)]] => mayZ o k && (decide (0 ≤ st ∧ st < 256) && (decide (0 ≤ q ∧ q < 4294967296) && decide (0 ≤ v ∧ v < 4294967296)))
 | _ => false
def fuB : List AV → ABlk
 | [.agg [.v (.int .i64 o), .v (.int .u8 k), .v (.int .u8 st), .v (.int .u32 q), .v (.int .u32 v)], _] => symW 114 (fullF o k st q v)
 | _ => symW 114 (fun _ => 0)
def fuN : List AV → Bool
 | [.agg [.v (.int .i64 o), .v (.int .u8 k), .v (.int .u8 _), .v (.int .u32 _), .v (.int .u32 _)], .agg [.v (.bool true), .v (.bool false)]] => !mayZ o k
 | _ => false
def ctSyms0 : CtF := ctRdT (pureRd [] rfl) (fun _ => 114) (fun _ => some 114) fuB (fun _ => i64 0) fuG
def ctSyms1 : CtF := ctRd (pureRd [] rfl) (fun _ => .tup [.c (.v (.slice none 0 0)), i64 1]) fuN
theorem ct_syms1 : CtOk Tryz.prog 21 ctSyms1 := by
 refine ctRd_ofE (E := EFr Tryz.prog) hEFr (pureRd [] rfl) (fuel := 300) (str := 10000000000000000000000000000000000000000) ⟨_, _, Tryz.func21, rfl⟩ (fun _ => rfl) fun s hs => ?_
 unfold fuN at hs
 split at hs
 · rename_i o k st q v
   refine (?_ : (∃ p r, syE Tryz.prog [] o k st q v p [] = some r ∧ GoodF (.tup [.c (.v (.slice none 0 0)), i64 1]) r) → _) (syNo o k st q v _ ?_)
   · rintro ⟨p, q, h1, h2⟩
     exact ⟨p, [], q, h1, h2⟩
   · exact ⟨rfl, (by first | (unfold lim; omega) | (dsimp only; unfold lim; omega)), by simp only [allT, List.forall_mem_cons, hs]; simp, by simp⟩
 · cases hs
abbrev syG : Nat := 300000000000000000000000000000000000001095
set_option maxRecDepth 100000 in
theorem ct_syms0 : CtOk Tryz.prog 21 ctSyms0 := by
 refine ctRdT_of (E := EFr Tryz.prog) hEFr (pureRd [] rfl) (fuel := 300) (str := 10000000000000000000000000000000000000000) syG ⟨_, _, Tryz.func21, rfl⟩ (fun s => by unfold fuB; split <;> rfl) (fun s => by unfold fuB; split <;> exact ⟨_, _, rfl⟩) (fun s => by unfold fuB; split <;> exact wBlk_pl (fun _ => rfl)) (fun _ => rfl) fun s hs => ?_
 unfold fuG at hs
 split at hs
 · rename_i o k st q v
   simp only [Bool.and_eq_true, decide_eq_true_eq] at hs
   obtain ⟨hm, hst, hq, hv⟩ := hs
   have ho : FrOkA o k st q v := by
    have := hm
    unfold mayZ at this
    simp only [Bool.and_eq_true, decide_eq_true_eq, Bool.or_eq_true, beq_iff_eq] at this
    exact ⟨hm, this.1, this.2.1, this.2.2, hst, hq, hv⟩
   refine (?_ : (∃ p r, syE Tryz.prog [syG] o k st q v p [none, none, none, fbS 10 (bodF o k st q v), foS (bytF o k st q v), none, none, none] = some r ∧ GoodT syG 114 (some 114) (symW 114 (fullF o k st q v)) (i64 0) r) → _) (syT o k st q v _ ?_)
   · rintro ⟨p, q, h1, h2⟩
     exact ⟨p, _, q, h1, h2⟩
   · refine ⟨rfl, ⟨_, rfl, ⟨rfl, rfl, rfl, rfl, .inr (.inl ⟨_, _, _, rfl, rfl, fun i hi => ?_⟩)⟩⟩, (by first | (unfold lim; omega) | (dsimp only; unfold lim; omega)), by simp only [allT, List.forall_mem_cons, hm]; simp, fun z hz => ?_⟩
     · unfold fullF
       by_cases h : i < 112
       · rw [if_pos h, if_neg (by omega)]
         first | (simp [elt]; done) | (simp [elt, h]; done)
       · rw [if_neg h]
         have : i = 112 ∨ i = 113 := by omega
         rcases this with rfl | rfl <;> rfl
     · simp only [List.mem_cons, List.not_mem_nil, or_false] at hz
       rcases hz with rfl | rfl
       · refine fo_sum (bytF o k st q v) (fun i _ => bytF_in ho i) ⟨rfl, rfl, rfl, rfl, .inr (.inl ⟨_, _, _, rfl, rfl, fun i hi => ?_⟩)⟩
         simp only [sum_pr]
         by_cases h : i < 10
         · rw [if_pos h]
           unfold bytF
           rw [if_pos h]
         · rw [if_neg h]
           have : i = 10 ∨ i = 11 ∨ i = 12 ∨ i = 13 := by omega
           rcases this with rfl | rfl | rfl | rfl
           · show [AC.v (.int .u8 (IntKind.wrap .u8 (Int.fdiv (sumN (bodF o k st q v)) 16777216)))] = [AC.v (.int .u8 ((sumN (bodF o k st q v) / 16777216 % 256 : Nat) : Int))]
             rw [ww8, fd_pos (by omega)]; rfl
           · show [AC.v (.int .u8 (IntKind.wrap .u8 (Int.fdiv (sumN (bodF o k st q v)) 65536)))] = [AC.v (.int .u8 ((sumN (bodF o k st q v) / 65536 % 256 : Nat) : Int))]
             rw [ww8, fd_pos (by omega)]; rfl
           · show [AC.v (.int .u8 (IntKind.wrap .u8 (Int.fdiv (sumN (bodF o k st q v)) 256)))] = [AC.v (.int .u8 ((sumN (bodF o k st q v) / 256 % 256 : Nat) : Int))]
             rw [ww8, fd_pos (by omega)]; rfl
           · show [AC.v (.int .u8 (IntKind.wrap .u8 (sumN (bodF o k st q v))))] = [AC.v (.int .u8 ((sumN (bodF o k st q v) % 256 : Nat) : Int))]
             rw [ww8]; rfl
       · refine fb_sum 10 (bodF o k st q v) (by omega) (fun i _ => bodF_in ho i) ⟨⟨rfl, rfl, rfl, rfl, .inr (.inl ⟨_, _, _, rfl, rfl, fun i hi => ?_⟩)⟩, BEq.refl _, trivial⟩
         have h1 := ho.o0
         have h2 := ho.o7
         have h3 := ho.k1
         have e0 : IntKind.wrap .u8 (IntKind.wrap .i64 (IntKind.wrap .i64 (Int.ofNat 16 * IntKind.wrap .i64 k) + o)) = 16 * k + o := by
          rw [wrap_nat k (by omega) (by omega), wrap_nat (Int.ofNat 16 * k) (by simp; omega) (by simp; omega), wrap_nat _ (by simp; omega) (by simp; omega), ww8]
          simp
          omega
         have eq : ∀ (x d : Int), 0 ≤ d → IntKind.wrap .u8 (Int.fdiv x d) = x / d % 256 := fun x d hd => by rw [ww8, fd_pos hd]
         have : i = 0 ∨ i = 1 ∨ i = 2 ∨ i = 3 ∨ i = 4 ∨ i = 5 ∨ i = 6 ∨ i = 7 ∨ i = 8 ∨ i = 9 := by omega
         rcases this with rfl | rfl | rfl | rfl | rfl | rfl | rfl | rfl | rfl | rfl
         · exact congrArg (fun z => [AC.v (Value.int .u8 z)]) e0
         · rfl
         · exact congrArg (fun z => [AC.v (Value.int .u8 z)]) (eq q 16777216 (by omega))
         · exact congrArg (fun z => [AC.v (Value.int .u8 z)]) (eq q 65536 (by omega))
         · exact congrArg (fun z => [AC.v (Value.int .u8 z)]) (eq q 256 (by omega))
         · exact congrArg (fun z => [AC.v (Value.int .u8 z)]) (ww8 q)
         · exact congrArg (fun z => [AC.v (Value.int .u8 z)]) (eq v 16777216 (by omega))
         · exact congrArg (fun z => [AC.v (Value.int .u8 z)]) (eq v 65536 (by omega))
         · exact congrArg (fun z => [AC.v (Value.int .u8 z)]) (eq v 256 (by omega))
         · exact congrArg (fun z => [AC.v (Value.int .u8 z)]) (ww8 v)
 · cases hs
end Go.Proofs.YtoelekmbmghicaaGreatDoor
end
/- sennitref05.Syms as the evaluator runs it. -/
section
namespace Go.Proofs.YtoelekmbmghicaaGreatDoor
open Go.RowKit
def EHd (P : Program) : Env := ⟨P, [(54, ctROf), (102, ctRd (pureRd [] rfl) mayX mayQ), (125, ctRSum)]⟩
theorem hEHd : EnvOk (EHd Tryz.prog) := by
 refine envOk (fun f g h => ?_) (by kernel_rfl) (by kernel_rfl)
 simp only [EHd, List.mem_cons, Prod.mk.injEq, List.not_mem_nil, or_false] at h
 rcases h with ⟨rfl, rfl⟩ | ⟨rfl, rfl⟩ | ⟨rfl, rfl⟩
 · exact ct_rof
 · exact ct_rmay5
 · exact ct_rsum
def hdE (P : Program) (ids : List Nat) (o k st q v : Int) (path : List Dec) : Option VF := viewF ids (fCallF (EHd P) (fC (EHd P) 300) 29 (syA o k st q v) 1000 10000000000000000000000000000000000000000 (stA [] path []))
theorem hdT (o k st q v : Int) (Q : VF → Prop) (H : let zz2 := (ABlk.mk true false 5 0 (Cs.lit [AC.v (Value.int IntKind.u8 (IntKind.wrap IntKind.u8 (IntKind.wrap IntKind.i64 (IntKind.wrap IntKind.i64 (Int.ofNat 16 * IntKind.wrap IntKind.i64 k) + o)))), AC.v (Value.int IntKind.u8 st)])); let zz0 := (LstS.mk 10 (fS fun i => if i < 9 then if i < 8 then if i < 7 then if i < 6 then if i < 5 then if i < 4 then if i < 3 then if i < 2 then elt zz2 0 0 1 i else elt (ABlk.mk true false 5 0 (Cs.lit [AC.v (Value.int IntKind.u8 (IntKind.wrap IntKind.u8 (Int.fdiv q (Int.ofNat 16777216))))])) 0 0 1 (i - 2) else elt (ABlk.mk true false 5 0 (Cs.lit [AC.v (Value.int IntKind.u8 (IntKind.wrap IntKind.u8 (Int.fdiv q (Int.ofNat 65536))))])) 0 0 1 (i - 3) else elt (ABlk.mk true false 5 0 (Cs.lit [AC.v (Value.int IntKind.u8 (IntKind.wrap IntKind.u8 (Int.fdiv q (Int.ofNat 256))))])) 0 0 1 (i - 4) else elt (ABlk.mk true false 5 0 (Cs.lit [AC.v (Value.int IntKind.u8 (IntKind.wrap IntKind.u8 (Int.fdiv q (Int.ofNat 1))))])) 0 0 1 (i - 5) else elt (ABlk.mk true false 5 0 (Cs.lit [AC.v (Value.int IntKind.u8 (IntKind.wrap IntKind.u8 (Int.fdiv v (Int.ofNat 16777216))))])) 0 0 1 (i - 6) else elt (ABlk.mk true false 5 0 (Cs.lit [AC.v (Value.int IntKind.u8 (IntKind.wrap IntKind.u8 (Int.fdiv v (Int.ofNat 65536))))])) 0 0 1 (i - 7) else elt (ABlk.mk true false 5 0 (Cs.lit [AC.v (Value.int IntKind.u8 (IntKind.wrap IntKind.u8 (Int.fdiv v (Int.ofNat 256))))])) 0 0 1 (i - 8) else elt (ABlk.mk true false 5 0 (Cs.lit [AC.v (Value.int IntKind.u8 (IntKind.wrap IntKind.u8 (Int.fdiv v (Int.ofNat 1))))])) 0 0 1 (i - 9)) []); let zz1 := (ABlk.mk true true 5 1 (Cs.arr 10 fun i => if i < 9 then if i < 8 then if i < 7 then if i < 6 then if i < 5 then if i < 4 then if i < 3 then if i < 2 then elt zz2 0 0 1 i else elt (ABlk.mk true false 5 0 (Cs.lit [AC.v (Value.int IntKind.u8 (IntKind.wrap IntKind.u8 (Int.fdiv q (Int.ofNat 16777216))))])) 0 0 1 (i - 2) else elt (ABlk.mk true false 5 0 (Cs.lit [AC.v (Value.int IntKind.u8 (IntKind.wrap IntKind.u8 (Int.fdiv q (Int.ofNat 65536))))])) 0 0 1 (i - 3) else elt (ABlk.mk true false 5 0 (Cs.lit [AC.v (Value.int IntKind.u8 (IntKind.wrap IntKind.u8 (Int.fdiv q (Int.ofNat 256))))])) 0 0 1 (i - 4) else elt (ABlk.mk true false 5 0 (Cs.lit [AC.v (Value.int IntKind.u8 (IntKind.wrap IntKind.u8 (Int.fdiv q (Int.ofNat 1))))])) 0 0 1 (i - 5) else elt (ABlk.mk true false 5 0 (Cs.lit [AC.v (Value.int IntKind.u8 (IntKind.wrap IntKind.u8 (Int.fdiv v (Int.ofNat 16777216))))])) 0 0 1 (i - 6) else elt (ABlk.mk true false 5 0 (Cs.lit [AC.v (Value.int IntKind.u8 (IntKind.wrap IntKind.u8 (Int.fdiv v (Int.ofNat 65536))))])) 0 0 1 (i - 7) else elt (ABlk.mk true false 5 0 (Cs.lit [AC.v (Value.int IntKind.u8 (IntKind.wrap IntKind.u8 (Int.fdiv v (Int.ofNat 256))))])) 0 0 1 (i - 8) else elt (ABlk.mk true false 5 0 (Cs.lit [AC.v (Value.int IntKind.u8 (IntKind.wrap IntKind.u8 (Int.fdiv v (Int.ofNat 1))))])) 0 0 1 (i - 9))); let zt : List Bool → List Bool := fun l => true :: true :: true :: true :: true :: true :: true :: true :: l; let zu : List Bool → List Bool := fun l => zt (zt (zt (zt l))); Q (.tup [.c (.sl 40000000000000000000000000000000000001235 0 0 114 none), .c (.v (.int .i64 (Int.ofNat 0)))], [some (ABlk.mk true true 49 1 (Cs.arr 114 fun i => if i < 112 then List.map AC.v ((fun i => [Value.int .u8 (symK (LstS.f (LstS.mk 14 (fS (eltZ (ABlk.mk true true 5 1 (Cs.arr 14 fun i => if i < 13 then if i < 12 then if i < 11 then if i < 10 then if i < 0 then [] else elt zz1 0 0 1 (i - 0) else elt (ABlk.mk true false 5 0 (Cs.lit [.v (.int .u8 (IntKind.wrap .u8 (Int.fdiv (↑(sumM (LstS.f zz0) 10)) (Int.ofNat 16777216))))])) 0 0 1 (i - 10) else elt (ABlk.mk true false 5 0 (Cs.lit [.v (.int .u8 (IntKind.wrap .u8 (Int.fdiv (↑(sumM (LstS.f zz0) 10)) (Int.ofNat 65536))))])) 0 0 1 (i - 11) else elt (ABlk.mk true false 5 0 (Cs.lit [.v (.int .u8 (IntKind.wrap .u8 (Int.fdiv (↑(sumM (LstS.f zz0) 10)) (Int.ofNat 256))))])) 0 0 1 (i - 12) else elt (ABlk.mk true false 5 0 (Cs.lit [.v (.int .u8 (IntKind.wrap .u8 (Int.fdiv (↑(sumM (LstS.f zz0) 10)) (Int.ofNat 1))))])) 0 0 1 (i - 13))) 0 0 1)) [])) i)]) i) else elt (ABlk.mk true false 49 0 (Cs.lit [.v (.int .u8 (Int.ofNat 2)), .v (.int .u8 (Int.ofNat 1))])) 0 0 1 (i - 112)))], 40000000000000000000000000000000000001238, (zt (true :: true :: true :: true :: ((bytP (LstS.mk 14 (fS fun i => if i < 13 then if i < 12 then if i < 11 then if i < 10 then if i < 0 then [] else elt zz1 0 0 1 (i - 0) else elt (ABlk.mk true false 5 0 (Cs.lit [.v (.int .u8 (IntKind.wrap .u8 (Int.fdiv (↑(sumM (LstS.f zz0) 10)) (Int.ofNat 16777216))))])) 0 0 1 (i - 10) else elt (ABlk.mk true false 5 0 (Cs.lit [.v (.int .u8 (IntKind.wrap .u8 (Int.fdiv (↑(sumM (LstS.f zz0) 10)) (Int.ofNat 65536))))])) 0 0 1 (i - 11) else elt (ABlk.mk true false 5 0 (Cs.lit [.v (.int .u8 (IntKind.wrap .u8 (Int.fdiv (↑(sumM (LstS.f zz0) 10)) (Int.ofNat 256))))])) 0 0 1 (i - 12) else elt (ABlk.mk true false 5 0 (Cs.lit [.v (.int .u8 (IntKind.wrap .u8 (Int.fdiv (↑(sumM (LstS.f zz0) 10)) (Int.ofNat 1))))])) 0 0 1 (i - 13)) [])) :: (zt (zt (true :: true :: true :: true :: true :: true :: true :: ((bytP zz0) :: (zu (zt (zt (zt (true :: true :: true :: true :: true :: true :: (((!mayZ o k) == false) :: (zt (true :: true :: true :: true :: true :: true :: []))))))))))))))), [])) :
 ∃ p r, hdE Tryz.prog [40000000000000000000000000000000000001235] o k st q v p = some r ∧ Q r :=
 ⟨pD 19 2, _, by kernel_rfl, H⟩
theorem hdN (o k st q v : Int) (Q : VF → Prop) (H : Q (.tup [.c (AC.v (Value.slice none 0 0)), .c (.v (.int .i64 (Int.ofNat 1)))], [], 1022, [(!mayZ o k) == true, true, true, true, true, true, true, true, true, true, true, true, true, true, true], [])) :
 ∃ p r, hdE Tryz.prog [] o k st q v p = some r ∧ Q r :=
 ⟨pD 2 1, _, by kernel_rfl, H⟩
end Go.Proofs.YtoelekmbmghicaaGreatDoor
end
/- Contract of sennitref05.Syms, of whatever frame, with a good tail: what frames.Syms answers. -/
section
namespace Go.Proofs.YtoelekmbmghicaaGreatDoor
open Go.RowKit
theorem crOf_congr {f g : Nat → Nat} : ∀ n, (∀ i, i < n → f i = g i) → crOf f n = crOf g n
 | 0, _ => rfl
 | n + 1, h => by
  show crAdd (crOf f n) (f n) = crAdd (crOf g n) (g n)
  rw [crOf_congr n fun i hi => h i (by omega), h n (by omega)]
theorem sumM_eq {f g : Nat → Int} (h : ∀ i, i < 10 → f i = g i) : sumM f 10 = sumN g := by
 unfold sumM sumN
 rw [crOf_congr (f := natF f) (g := natF g) 10 fun i hi => by unfold natF; rw [h i hi]]
theorem bytP_ok (s : LstS Int) (h1 : s.n ≤ 100) (h2 : s.rest = []) (h3 : ∀ i, i < s.n → 0 ≤ s.f i ∧ s.f i < 256) : bytP s = true := by
 unfold bytP
 rw [h2]
 simp only [Bool.and_eq_true, decide_eq_true_eq, List.all_eq_true, List.mem_range]
 exact ⟨h1, h3, rfl⟩
theorem hd_14 {o k st q v : Int} {S : Nat} (hS : S = sumN (bodF o k st q v)) (F : Nat → Int) (h0 : ∀ i, i < 10 → F i = bodF o k st q v i) (h1 : F 10 = IntKind.wrap .u8 (Int.fdiv (S : Int) 16777216)) (h2 : F 11 = IntKind.wrap .u8 (Int.fdiv (S : Int) 65536)) (h3 : F 12 = IntKind.wrap .u8 (Int.fdiv (S : Int) 256)) (h4 : F 13 = IntKind.wrap .u8 (Int.fdiv (S : Int) 1)) (j : Nat) (hj : j < 14) : F j = bytF o k st q v j := by
 subst hS
 by_cases h : j < 10
 · unfold bytF
   rw [if_pos h]
   exact h0 j h
 · have : j = 10 ∨ j = 11 ∨ j = 12 ∨ j = 13 := by omega
   rcases this with rfl | rfl | rfl | rfl
   · rw [h1, ww8, fd_pos (by omega)]; rfl
   · rw [h2, ww8, fd_pos (by omega)]; rfl
   · rw [h3, ww8, fd_pos (by omega)]; rfl
   · rw [h4, ww8, fd_pos (by omega), Int.ediv_one]; rfl
theorem in_eq {a b : Int} (h : a = b) (hb : 0 ≤ b ∧ b < 256) : 0 ≤ a ∧ a < 256 := by rw [h]; exact hb
theorem bytP_14 {o k st q v : Int} (ho : FrOkA o k st q v) {F : Nat → Int} (h : ∀ j, j < 14 → F j = bytF o k st q v j) : bytP ⟨14, F, []⟩ = true := bytP_ok _ (by show 14 ≤ 100; omega) rfl fun i hi => in_eq (h i hi) (bytF_in ho i)
theorem symK_14 {F G : Nat → Int} {i : Nat} (hi : i < 112) (h : ∀ j, j < 14 → F j = G j) : symK F i = symK G i := by
 unfold symK
 rw [h (i / 8) (by omega)]
def ctSym50 : CtF := ctRdT (pureRd [] rfl) (fun _ => 114) (fun _ => none) fuB (fun _ => i64 0) fuG
def ctSym51 : CtF := ctRd (pureRd [] rfl) (fun _ => .tup [.c (.v (.slice none 0 0)), i64 1]) fuN
theorem ct_sym51 : CtOk Tryz.prog 29 ctSym51 := by
 refine ctRd_ofE (E := EHd Tryz.prog) hEHd (pureRd [] rfl) (fuel := 300) (str := 10000000000000000000000000000000000000000) ⟨_, _, Tryz.func29, rfl⟩ (fun _ => rfl) fun s hs => ?_
 unfold fuN at hs
 split at hs
 · rename_i o k st q v
   refine (?_ : (∃ p r, hdE Tryz.prog [] o k st q v p = some r ∧ GoodF (.tup [.c (.v (.slice none 0 0)), i64 1]) r) → _) (hdN o k st q v _ ?_)
   · rintro ⟨p, q, h1, h2⟩
     exact ⟨p, [], q, h1, h2⟩
   · exact ⟨rfl, (by first | (unfold lim; omega) | (dsimp only; unfold lim; omega)), by simp only [allT, List.forall_mem_cons, hs]; simp, by simp⟩
 · cases hs
abbrev hdG : Nat := 40000000000000000000000000000000000001235
set_option maxRecDepth 100000 in
theorem ct_sym50 : CtOk Tryz.prog 29 ctSym50 := by
 refine ctRdT_of (E := EHd Tryz.prog) hEHd (pureRd [] rfl) (fuel := 300) (str := 10000000000000000000000000000000000000000) hdG ⟨_, _, Tryz.func29, rfl⟩ (fun s => by unfold fuB; split <;> rfl) (fun s => by unfold fuB; split <;> exact ⟨_, _, rfl⟩) (fun s => by unfold fuB; split <;> exact wBlk_pl (fun _ => rfl)) (fun _ => rfl) fun s hs => ?_
 unfold fuG at hs
 split at hs
 · rename_i o k st q v
   simp only [Bool.and_eq_true, decide_eq_true_eq] at hs
   obtain ⟨hm, hst, hq, hv⟩ := hs
   have ho : FrOkA o k st q v := by
    have := hm
    unfold mayZ at this
    simp only [Bool.and_eq_true, decide_eq_true_eq, Bool.or_eq_true, beq_iff_eq] at this
    exact ⟨hm, this.1, this.2.1, this.2.2, hst, hq, hv⟩
   refine (?_ : (∃ p r, hdE Tryz.prog [hdG] o k st q v p = some r ∧ GoodT hdG 114 none (symW 114 (fullF o k st q v)) (i64 0) r) → _) (hdT o k st q v _ ?_)
   · rintro ⟨p, q, h1, h2⟩
     exact ⟨p, [], q, h1, h2⟩
   · intro zz2 zz0 zz1
     have k1 := ho.o0
     have k2 := ho.o7
     have k3 := ho.k1
     have e0 : IntKind.wrap .u8 (IntKind.wrap .i64 (IntKind.wrap .i64 (Int.ofNat 16 * IntKind.wrap .i64 k) + o)) = 16 * k + o := by
      rw [wrap_nat k (by omega) (by omega), wrap_nat (Int.ofNat 16 * k) (by simp; omega) (by simp; omega), wrap_nat _ (by simp; omega) (by simp; omega), ww8]
      simp
      omega
     have eq : ∀ (x d : Int), 0 ≤ d → IntKind.wrap .u8 (Int.fdiv x d) = x / d % 256 := fun x d hd => by rw [ww8, fd_pos hd]
     have e1 : ∀ x : Int, IntKind.wrap .u8 (Int.fdiv x (Int.ofNat 1)) = x % 256 := fun x => (eq x 1 (by omega)).trans (by rw [Int.ediv_one])
     have b10 : ∀ i, i < 10 → zz0.f i = bodF o k st q v i := by
      intro i hi
      have : i = 0 ∨ i = 1 ∨ i = 2 ∨ i = 3 ∨ i = 4 ∨ i = 5 ∨ i = 6 ∨ i = 7 ∨ i = 8 ∨ i = 9 := by omega
      rcases this with rfl | rfl | rfl | rfl | rfl | rfl | rfl | rfl | rfl | rfl
      · exact e0
      · rfl
      · exact eq q 16777216 (by omega)
      · exact eq q 65536 (by omega)
      · exact eq q 256 (by omega)
      · exact e1 q
      · exact eq v 16777216 (by omega)
      · exact eq v 65536 (by omega)
      · exact eq v 256 (by omega)
      · exact e1 v
     have hS : sumM zz0.f 10 = sumN (bodF o k st q v) := sumM_eq b10
     have c10 : ∀ (F : Nat → Int), (∀ i, i < 10 → F i = asI ((elt zz1 0 0 1 i).getD 0 nov)) → ∀ i, i < 10 → F i = bodF o k st q v i := by
      intro F hF i hi
      rw [hF i hi]
      have h1 := b10 i hi
      have : i = 0 ∨ i = 1 ∨ i = 2 ∨ i = 3 ∨ i = 4 ∨ i = 5 ∨ i = 6 ∨ i = 7 ∨ i = 8 ∨ i = 9 := by omega
      rcases this with rfl | rfl | rfl | rfl | rfl | rfl | rfl | rfl | rfl | rfl <;> exact h1
     refine ⟨rfl, ⟨_, rfl, ⟨rfl, rfl, rfl, rfl, .inr (.inl ⟨_, _, _, rfl, rfl, fun i hi => ?_⟩)⟩⟩, (by first | (unfold lim; omega) | (dsimp only; unfold lim; omega)), ?_, by simp⟩
     · unfold fullF
       by_cases h : i < 112
       · rw [if_pos h]
         refine congrArg (fun z => [AC.v (Value.int .u8 z)]) ((symK_14 h (hd_14 hS _ (c10 _ fun i hi => ?_) ?_ ?_ ?_ ?_)).trans (if_pos h).symm)
         · have : i = 0 ∨ i = 1 ∨ i = 2 ∨ i = 3 ∨ i = 4 ∨ i = 5 ∨ i = 6 ∨ i = 7 ∨ i = 8 ∨ i = 9 := by omega
           rcases this with rfl | rfl | rfl | rfl | rfl | rfl | rfl | rfl | rfl | rfl <;> rfl
         all_goals rfl
       · rw [if_neg h]
         have : i = 112 ∨ i = 113 := by omega
         rcases this with rfl | rfl <;> rfl
     · simp only [allT, List.forall_mem_cons, List.not_mem_nil, false_implies, implies_true, true_and, and_true, hm, Bool.not_true, beq_self_eq_true]
       refine ⟨bytP_14 ho (hd_14 hS _ (c10 _ fun i hi => ?_) ?_ ?_ ?_ ?_), bytP_ok _ (by show 10 ≤ 100; omega) rfl fun i hi => ?_⟩
       · have : i = 0 ∨ i = 1 ∨ i = 2 ∨ i = 3 ∨ i = 4 ∨ i = 5 ∨ i = 6 ∨ i = 7 ∨ i = 8 ∨ i = 9 := by omega
         rcases this with rfl | rfl | rfl | rfl | rfl | rfl | rfl | rfl | rfl | rfl <;> rfl
       · rfl
       · rfl
       · rfl
       · rfl
       · exact in_eq (b10 i hi) (bodF_in ho i)
 · cases hs
end Go.Proofs.YtoelekmbmghicaaGreatDoor
end
