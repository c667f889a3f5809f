/- Parts, one behind the other. Parts of a proof. -/
import Derived.Test.YtfohlkhfnogmdaaGreatDoorJModelsKeep15
import Derived.Test.YtfohlkhfnogmdaaGreatDoorJModelsKeep10
import Derived.Test.YtfohlkhfnogmdaaGreatDoorJModelsKeep9
set_option linter.unusedSimpArgs false
set_option linter.unusedVariables false
section
namespace Go.Proofs.YtfohlkhfnogmdaaGreatDoor
open Go.RowKit
theorem n4C (c : Cfg) (Q : VF -> Prop) (H : let zI := fun z : Int => AC.v (Value.int .i64 z); let zN := Int.ofNat; let y3 := fun (l : List Bool) => true :: true :: true :: l; let zz11 := (ABlk.mk false false 51 3 (yT c)); let zz6 := (ABlk.mk true false 25 0 (Cs.lit [zI (Cfg.nodes c), AC.sl 0 0 0 (Cfg.np c) none, AC.sl 1 0 0 (Cfg.ns c) none, zI (Cfg.long c), AC.sl 2 0 0 (Cfg.nb c) none, AC.sl 3 0 0 (Cfg.nt c) none, zI (Cfg.miss c), zI (Cfg.good c), zI (Cfg.fresh c)])); let zz3 := [some (ABlk.mk false false 3 1 (yB c)), some zz6, some zz11]; let zz0 := [LoopV Tryz.prog (loopAt Tryz.prog 8 1) [1, 5] [3, 1000] [some (AV.c (AC.ptr 1000 0 0)), some (AV.c (zI (zN 0)))] [some zz11, some zz6] 125 100000000000000000000000000000000000000000000000007 (mkFr 125 [(1, AV.c (AC.ptr 1000 0 0))]) [(1000, cfgB c)] 10000000000000000000000000000000000000000000000000000 (Exit.exit 2) none, LoopV Tryz.prog (loopAt Tryz.prog 8 0) [1, 4] [2, 1000, 3] [some (AV.c (AC.ptr 1000 0 0)), some (AV.c (zI (zN 0)))] zz3 125 1043 (mkFr 125 [(1, AV.c (AC.ptr 1000 0 0))]) [(1000, cfgB c), (3, sts (Cfg.nt c) (Cfg.ft c))] 100000000000000000000000000000000000000000000000000 (Exit.exit 0) none]; let zz8 := (if IntKind.wrap IntKind.i64 (Cfg.nodes c + zN 116) > IntKind.wrap IntKind.i64 (IntKind.wrap IntKind.i64 (zN 3 * Cfg.nodes c) + zN 1) then IntKind.wrap IntKind.i64 (Cfg.nodes c + zN 116) else IntKind.wrap IntKind.i64 (IntKind.wrap IntKind.i64 (zN 3 * Cfg.nodes c) + zN 1)); let zz1 := (withinF (Cfg.long c) zz8 (zN 4096) != zN 0); let zz2 := (withinF (Cfg.nodes c) (zN 4) (zN 16) != zN 0); let zz4 := (withinF (↑(Cfg.np c)) (zN 2) (zN 8) != zN 0); let zz5 := (withinF (↑(Cfg.ns c)) (zN 1) (zN 16) != zN 0); let zz7 := (withinF (↑(Cfg.nt c)) (zN 0) (zN 8) != zN 0); let zz9 := (withinF (Cfg.miss c) (zN 1) (zN 100) != zN 0); let zz10 := (withinF (Cfg.good c) (zN 1) (zN 100) != zN 0); let zz12 := (withinF (Cfg.fresh c) (zN 1) (zN 100) != zN 0); let zt : List Bool -> List Bool := fun l => y3 (y3 (true :: true :: l)); let zq0 : List Bool := [true, true]; let zq1 : List Bool := true :: (zz2 == false) :: zq0; let zq2 : List Bool := (cfgK c) :: (okPr c) :: y3 (y3 ((zz4 == false) :: zq1)); let zq3 : List Bool := true :: ((!pairs4 c) == false) :: zq2; let zq4 : List Bool := (cfgK c) :: (okSl c) :: y3 (y3 ((zz5 == false) :: zq3)); let zq5 : List Bool := y3 (y3 (((!slots4 c) == false) :: zq4)); let zq6 : List Bool := y3 ((zz1 == false) :: zq5); let zq7 : List Bool := true :: ((↑(c.nb) != c.nodes) == false) :: zq6; let zq8 : List Bool := zt (true :: ((zz7 == false) :: zq7)); let zq9 : List Bool := y3 ((zz9 == false) :: zq8); let zq10 : List Bool := y3 ((zz10 == false) :: zq9); ((zz2 = true -> Q (.c (zI (withinF (c.nodes) (zN 4) (zN 16))), [], 1009, ((zz2 == true) :: zq0), [])) /\ (zz2 = false -> ((zz4 = true -> Q (.c (zI (withinF (↑(c.np)) (zN 2) (zN 8))), [], 1015, ((zz4 == true) :: zq1), [])) /\ (zz4 = false -> (((!pairs4 c) = true -> Q (.c (zI (zN 1)), [], 1016, (((!pairs4 c) == true) :: zq2), [])) /\ ((!pairs4 c) = false -> ((zz5 = true -> Q (.c (zI (withinF (↑(c.ns)) (zN 1) (zN 16))), [], 1023, ((zz5 == true) :: zq3), [])) /\ (zz5 = false -> (((!slots4 c) = true -> Q (.c (zI (zN 1)), [], 1024, (((!slots4 c) == true) :: zq4), [])) /\ ((!slots4 c) = false -> ((zz1 = true -> Q (.c (zI (withinF (c.long) zz8 (zN 4096))), [], 1038, ((zz1 == true) :: zq5), [])) /\ (zz1 = false -> (((↑(c.nb) != c.nodes) = true -> Q (.c (zI (zN 1)), [], 1043, (((↑(c.nb) != c.nodes) == true) :: zq6), [])) /\ ((↑(c.nb) != c.nodes) = false -> ((zz7 = true -> Q (.c (zI (withinF (↑(c.nt)) (zN 0) (zN 8))), [], 100000000000000000000000000000000000000000000000008, ((zz7 == true) :: zq7), [LoopV Tryz.prog (loopAt Tryz.prog 8 0) [1, 4] [2, 1000, 3] [some (.c (.ptr 1000 0 0)), some (.c (zI (zN 0)))] zz3 125 1043 (mkFr 125 [(1, .c (.ptr 1000 0 0))]) [(1000, cfgB c), (3, sts (c.nt) (c.ft))] 100000000000000000000000000000000000000000000000000 (Exit.exit 0) none])) /\ (zz7 = false -> ((zz9 = true -> Q (.c (zI (withinF (c.miss) (zN 1) (zN 100))), [], 10000000000000000000000000000000000000000000000000020, ((zz9 == true) :: zq8), zz0)) /\ (zz9 = false -> ((zz10 = true -> Q (.c (zI (withinF (c.good) (zN 1) (zN 100))), [], 10000000000000000000000000000000000000000000000000032, ((zz10 == true) :: zq9), zz0)) /\ (zz10 = false -> ((zz12 = true -> Q (.c (zI (withinF (c.fresh) (zN 1) (zN 100))), [], 10000000000000000000000000000000000000000000000000044, ((zz12 == true) :: zq10), zz0)) /\ (zz12 = false -> Q (.c (zI (zN 0)), [], 10000000000000000000000000000000000000000000000000048, ((zz12 == false) :: zq10), zz0)))))))))))))))))))))))) :
 ∃ p r, n4R Tryz.prog c [some (n4S1 (.exit 0) [(1, .c (.ptr 1000 0 0))] [(1000, cfgB c), (3, sts c.nt c.ft)]), some (n4S2 (.exit 2) [(1, .c (.ptr 1000 0 0))] [(1000, cfgB c)])] p = some r /\ Q r :=
 two H (fun g1 => ⟨pD 1 1, _, by kernel_rfl, g1⟩) (fun g1 => two g1 (fun g2 => ⟨pD 2 5, _, by kernel_rfl, g2⟩) (fun g2 => two g2 (fun g3 => ⟨pD 3 17, _, by kernel_rfl, g3⟩) (fun g3 => two g3 (fun g4 => ⟨pD 4 53, _, by kernel_rfl, g4⟩) (fun g4 => two g4 (fun g5 => ⟨pD 5 161, _, by kernel_rfl, g5⟩) (fun g5 => two g5 (fun g6 => ⟨pD 6 485, _, by kernel_rfl, g6⟩) (fun g6 => two g6 (fun g7 => ⟨pD 7 1457, _, by kernel_rfl, g7⟩) (fun g7 => two g7 (fun g8 => ⟨pD 8 4373, _, by kernel_rfl, g8⟩) (fun g8 => two g8 (fun g9 => ⟨pD 10 26243, _, by kernel_rfl, g9⟩) (fun g9 => two g9 (fun g10 => ⟨pD 12 223073, _, by kernel_rfl, g10⟩) (fun g10 => two g10 (fun g11 => ⟨pD 14 1994543, _, by kernel_rfl, g11⟩) (fun g11 => ⟨pD 15 3588866, _, by kernel_rfl, g11⟩)))))))))))
theorem jjc9 : CtOk Tryz.prog 41 ctWithin := by
 refine ⟨⟨_, _, Tryz.func41, rfl⟩, fun C β m m2 w args ib r news k' ob vs hct ho hs hr hfree hlim hv => ?_⟩; unfold ctWithin at hct; split at hct
 . rename_i x lo hi
   simp only [Option.some.injEq, Prod.mk.injEq] at hct; obtain ⟨rfl, rfl, rfl, rfl⟩ := hct; cases hv
   have run : ∃ p r, wiR Tryz.prog x lo hi p = some r /\ (r.1 = i64 (withinF x lo hi) /\ r.2.2.1 <= lim /\ allT r.2.2.2.1 /\ ∀ q ∈ r.2.2.2.2, q) := by
    refine wi x lo hi _ ?_
    repeat' (first | refine ⟨fun h => ?_, fun h => ?_⟩ | fail)
    all_goals (refine ⟨?_, (by first | (unfold lim; omega) | (dsimp only; unfold lim; omega)), ?_, by simp⟩)
    all_goals (simp_all [allT, withinF, i64])
    all_goals (try omega)
    all_goals (rw [if_neg (by omega), if_neg (by omega)])
   obtain ⟨p, ⟨v, b', n', ob, po⟩, hrun, hvr, hn, hob, hpo⟩ := run; obtain ⟨s', r1, r2, r3, r4⟩ := jjl hrun; have hn : n' <= lim := hn; refine (jjz hE1 r1 ⟨by rw [r3]; exact hob, by rw [r4]; exact hpo⟩ (C := loneC w) (β := fun _ => none) (w := w) (vs := [.int .i64 x, .int .i64 lo, .int .i64 hi]) rfl (jj32 w) (fun _ _ _ => rfl)).mono ?_; rintro e w' ⟨β', u, rfl, _, _, hu, hr'⟩; simp only at hvr; subst hvr; cases hu; exact ⟨β, _, rfl, Ext.refl _, fun _ _ => rfl, rfl, by rw [List.append_nil]; exact hr.below (jjk hr')⟩
 . cases hct
theorem hENq : EnvOk (ENq Tryz.prog) := by
 refine jj3w (fun f g h => ?_) (by kernel_rfl) (by kernel_rfl); simp only [ENq, List.mem_cons, Prod.mk.injEq, List.not_mem_nil, or_false] at h; rcases h with ⟨rfl, rfl⟩ | ⟨rfl, rfl⟩ | ⟨rfl, rfl⟩
 . exact jjc9
 . exact jjcd
 . exact jjca
theorem jjae (c : Cfg) (N : Nat) (hN : 1001 <= N) (hN2 : N <= 1000000000000000000000000000000000000000000) (hn : c.nb <= 1000000) (j : Nat) (hj : j <= c.nb) (hmin : ∀ i, i < j -> withinF (c.fb i) 0 4096 = 0) (hyes : j < c.nb -> withinF (c.fb j) 0 4096 ≠ 0) {e : Exit} {out : List (Nat × AV)} {mF : AMem}
 (hF : (j < c.nb -> e = .ret /\ out = [(2, i64 (withinF (c.fb j) 0 4096))] /\ mF = []) /\ (j = c.nb -> e = .exit 0 /\ out = [(1, .c (.ptr 1000 0 0))] /\ mF = [(1000, cfgB c), (3, sts c.nt c.ft)])) :
 LoopV Tryz.prog (loopAt Tryz.prog 8 0) [1, 4] [2, 1000, 3] ((nbV 0).map some) ([ints 3 c.nb c.fb, cfgB c, sts c.nt c.ft].map some) 125 N (mkFr 125 out) mF 100000000000000000000000000000000000000000000000000 e none := by
 refine jj25 hENq (fuel := 300) (str := nSt) (nh := 1000000000000000000000000000000000000000000) [1, 4] [2] [2, 1000, 3] nbV [ints 3 c.nb c.fb, cfgB c, sts c.nt c.ft] j hN2 (by decide) (by unfold lim; omega) ?_ (fun _ => ⟨rfl, rfl⟩) ?_ ?_ ?_ ?_ ?_
 . rcases Nat.lt_or_ge j c.nb with h | h
   . rw [(hF.1 h).1]; simp
   . rw [(hF.2 (by omega)).1]; simp
 . simp [keptB]; omega
 . intro k _
   simp [okV, lowV, lowC, notAny, i64]; omega
 . intro b hb
   simp only [List.mem_cons, List.not_mem_nil, or_false] at hb; rcases hb with rfl | rfl | rfl
   . exact jj1d
   . exact jj1g (by omega)
   . exact jje
 . intro k hk
   have hm := hmin k hk; have hw : IntKind.wrap IntKind.i64 (Int.ofNat k + Int.ofNat 1) = Int.ofNat (k + 1) := by rw [jj6 _ (by simp; omega) (by simp; omega)]; rfl
   have ek : 0 + Int.toNat (Int.ofNat k) = k := by simp
   refine nbt c k _ ?_; simp only [ek]; refine ⟨fun c1 => ⟨fun c2 => ?_, fun c2 => ?_⟩, fun c1 => ?_⟩
   . exfalso; simp [hm] at c2
   . refine ⟨⟨?_, rfl, by dsimp only; omega, rfl⟩, rfl, ?_, BL.refl _⟩
     . simp only [allT, List.forall_mem_cons, jj2, jj8]
       simp [hm]; omega
     . dsimp only; rw [hw]; rfl
   . exfalso; simp at c1; omega
 . have ek : 0 + Int.toNat (Int.ofNat j) = j := by simp
   refine nbt c j _ ?_; simp only [ek]; refine ⟨fun c1 => ⟨fun c2 => ?_, fun c2 => ?_⟩, fun c1 => ?_⟩
   . have hlt : j < c.nb := by simpa using c1
     obtain ⟨rfl, rfl, rfl⟩ := hF.1 hlt; refine jjx ⟨?_, rfl, by dsimp only; omega, rfl⟩ rfl rfl (by simp [i64]); have hy := hyes hlt; simp [allT, jj2, jj8, hlt, hy]
   . have hlt : j < c.nb := by simpa using c1
     exfalso; simp [hyes hlt] at c2
   . have hlt : ¬ j < c.nb := by simpa using c1
     obtain ⟨rfl, rfl, rfl⟩ := hF.2 (by omega); refine ⟨⟨?_, rfl, by dsimp only; omega, rfl⟩, rfl, fun q hq => ?_, fun p hpp => ?_⟩
     . simp [allT]; omega
     . rw [List.mem_singleton.1 hq]
       exact ⟨by simp [okV, lowV, lowC, notAny]; omega, by simp [lkA]⟩
     . simp only [List.mem_cons, List.not_mem_nil, or_false] at hpp
       rcases hpp with rfl | rfl
       . exact ⟨by simp [keptB]; omega, jj1g (by omega), cfgB c, by dsimp only [List.zip, List.zipWith]; exact List.mem_cons_of_mem _ (List.mem_cons_self ..), BEq.refl _⟩
       . exact ⟨by simp [keptB]; omega, jje, sts c.nt c.ft, by dsimp only [List.zip, List.zipWith]; exact List.mem_cons_of_mem _ (List.mem_cons_of_mem _ (List.mem_cons_self ..)), BEq.refl _⟩
theorem jjha (c : Cfg) (N : Nat) (hN : 1001 <= N) (hN2 : N <= 1000000000000000000000000000000000000000000000000000) (hn : c.nt <= 1000000) (j : Nat) (hj : j <= c.nt) (hmin : ∀ i, i < j -> ruleSt c i = 0) (hyes : j < c.nt -> ruleSt c j ≠ 0) {e : Exit} {out : List (Nat × AV)} {mF : AMem}
 (hF : (j < c.nt -> e = .ret /\ out = [(2, i64 (ruleSt c j))] /\ mF = []) /\ (j = c.nt -> e = .exit 2 /\ out = [(1, .c (.ptr 1000 0 0))] /\ mF = [(1000, cfgB c)])) :
 LoopV Tryz.prog (loopAt Tryz.prog 8 1) [1, 5] [3, 1000] ((nbV 0).map some) ([sts c.nt c.ft, cfgB c].map some) 125 N (mkFr 125 out) mF 10000000000000000000000000000000000000000000000000000 e none := by
 refine jj25 hENq (fuel := 300) (str := nSt) (nh := 1000000000000000000000000000000000000000000000000000) [1, 5] [2] [3, 1000] nbV [sts c.nt c.ft, cfgB c] j hN2 (by decide) (by unfold lim; omega) ?_ (fun _ => ⟨rfl, rfl⟩) ?_ ?_ ?_ ?_ ?_
 . rcases Nat.lt_or_ge j c.nt with h | h
   . rw [(hF.1 h).1]; simp
   . rw [(hF.2 (by omega)).1]; simp
 . simp [keptB]; omega
 . intro k _
   simp [okV, lowV, lowC, notAny, i64]; omega
 . intro b hb
   simp only [List.mem_cons, List.not_mem_nil, or_false] at hb; rcases hb with rfl | rfl
   . exact jje
   . exact jj1g (by omega)
 . intro k hk
   have hm := hmin k hk; have hlt : k < c.nt := by omega
   have hw : IntKind.wrap IntKind.i64 (Int.ofNat k + Int.ofNat 1) = Int.ofNat (k + 1) := by rw [jj6 _ (by simp; omega) (by simp; omega)]; rfl
   have ek : 0 + Int.toNat (Int.ofNat k) = k := by simp
   have hb : 0 <= (c.ft k).node /\ (c.ft k).node < c.nodes := by
    unfold ruleSt at hm; split at hm
    . assumption
    . cases hm
   have hh : withinF (c.ft k).hold 1 100 = 0 := by unfold ruleSt at hm; rw [if_pos hb] at hm; exact hm
   refine ntt c k _ ?_; simp only [ek]
   repeat' (first | refine ⟨fun h => ?_, fun h => ?_⟩ | fail)
   all_goals (first | (exfalso; simp at *; omega) | (exfalso; simp [hh] at h; done) | skip)
   refine ⟨⟨?_, rfl, by dsimp only; omega, rfl⟩, rfl, ?_, BL.refl _⟩
   . simp only [allT, List.forall_mem_cons, jj2, jj8]
     simp [hh]; omega
   . dsimp only; rw [hw]; rfl
 . have ek : 0 + Int.toNat (Int.ofNat j) = j := by simp
   refine ntt c j _ ?_; simp only [ek]; rcases Nat.lt_or_ge j c.nt with hlt | hge
   . obtain ⟨rfl, rfl, rfl⟩ := hF.1 hlt
     have hy := hyes hlt; unfold ruleSt at hy ⊢; by_cases hb : 0 <= (c.ft j).node /\ (c.ft j).node < c.nodes
     . rw [if_pos hb] at hy ⊢
       repeat' (first | refine ⟨fun h => ?_, fun h => ?_⟩ | fail)
       all_goals (first | (exfalso; simp at *; omega) | (exfalso; simp [hy] at h; done) | skip)
       refine jjx ⟨?_, rfl, by dsimp only; omega, rfl⟩ rfl rfl (by simp [i64]); simp only [allT, List.forall_mem_cons, jj2, jj8]; simp [hy]; omega
     . rw [if_neg hb] at hy ⊢
       repeat' (first | refine ⟨fun h => ?_, fun h => ?_⟩ | fail)
       all_goals (first | (exfalso; simp at *; omega) | skip)
       all_goals (refine jjx ⟨?_, rfl, by dsimp only; omega, rfl⟩ rfl rfl (by simp [i64]))
       all_goals (simp only [allT, List.forall_mem_cons, jj2, jj8]; simp at *; omega)
   . obtain rfl : j = c.nt := by omega
     obtain ⟨rfl, rfl, rfl⟩ := hF.2 rfl
     repeat' (first | refine ⟨fun h => ?_, fun h => ?_⟩ | fail)
     all_goals (first | (exfalso; simp at *; done) | skip)
     refine ⟨⟨?_, rfl, by dsimp only; omega, rfl⟩, rfl, fun q hq => ?_, fun p hpp => ?_⟩
     . simp [allT]
     . rw [List.mem_singleton.1 hq]
       exact ⟨by simp [okV, lowV, lowC, notAny]; omega, by simp [lkA]⟩
     . rw [List.mem_singleton.1 hpp]
       exact ⟨by simp [keptB]; omega, jj1g (by omega), cfgB c, by dsimp only [List.zip, List.zipWith]; exact List.mem_cons_of_mem _ (List.mem_cons_self ..), BEq.refl _⟩
def ref4 (c : Cfg) : Int :=
 if rule1 c ≠ 0 then rule1 c else if rule2 c ≠ 0 then rule2 c else if pairs4 c = false then 1 else if rule4 c ≠ 0 then rule4 c else if slots4 c = false then 1 else if rule6 c ≠ 0 then rule6 c else if rule7 c ≠ 0 then rule7 c else if rule8 c ≠ 0 then rule8 c else if rule9 c ≠ 0 then rule9 c else rule10 c
def n4V (c : Cfg) (r : VF) : Prop := r.1 = i64 (ref4 c) /\ r.2.2.1 <= lim /\ allT r.2.2.2.1 /\ ∀ q ∈ r.2.2.2.2, q
theorem jjk3 {n : Int} (h4 : 4 <= n) (h16 : n <= 16) : (if IntKind.wrap IntKind.i64 (n + Int.ofNat 116) > IntKind.wrap IntKind.i64 (IntKind.wrap IntKind.i64 (Int.ofNat 3 * n) + Int.ofNat 1) then IntKind.wrap IntKind.i64 (n + Int.ofNat 116) else IntKind.wrap IntKind.i64 (IntKind.wrap IntKind.i64 (Int.ofNat 3 * n) + Int.ofNat 1)) = max (3 * n + 1) (n + 116) := by
 have w1 : IntKind.wrap IntKind.i64 (n + Int.ofNat 116) = n + 116 := by
  rw [jj6 _ (by simp; omega) (by simp; omega)]; simp
 have w2 : IntKind.wrap IntKind.i64 (IntKind.wrap IntKind.i64 (Int.ofNat 3 * n) + Int.ofNat 1) = 3 * n + 1 := by
  rw [jj6 (Int.ofNat 3 * n) (by simp; omega) (by simp; omega), jj6 _ (by simp; omega) (by simp; omega)]; simp
 rw [w1, w2]; split <;> omega
theorem jjc8 {f : Nat -> Int} {n j : Nat} {lo hi : Int} (hmin : ∀ i, i < j -> withinF (f i) lo hi = 0) (hj : j < n) (hy : withinF (f j) lo hi ≠ 0) : eachF f n lo hi = withinF (f j) lo hi := by
 unfold eachF; rw [jj1t (j := j) (fun i hi => by simp [hmin i hi]) (Nat.le_of_lt hj) (fun _ => by simp [hy]), if_pos hj]
theorem jjfl {f : Nat -> Int} {n : Nat} {lo hi : Int} (hmin : ∀ i, i < n -> withinF (f i) lo hi = 0) : eachF f n lo hi = 0 := by
 unfold eachF; rw [jj1t (j := n) (fun i hi => by simp [hmin i hi]) (Nat.le_refl _) (fun h => absurd h (Nat.lt_irrefl _)), if_neg (Nat.lt_irrefl _)]
theorem jj9z {c : Cfg} {j : Nat} (hmin : ∀ i, i < j -> ruleSt c i = 0) (hj : j < c.nt) (hy : ruleSt c j ≠ 0) : rule9 c = ruleSt c j := by
 unfold rule9; rw [jj1t (j := j) (fun i hi => by simp [hmin i hi]) (Nat.le_of_lt hj) (fun _ => by simp [hy]), if_pos hj]
theorem jjbn {c : Cfg} (hmin : ∀ i, i < c.nt -> ruleSt c i = 0) : rule9 c = 0 := by
 unfold rule9; rw [jj1t (j := c.nt) (fun i hi => by simp [hmin i hi]) (Nat.le_refl _) (fun h => absurd h (Nat.lt_irrefl _)), if_neg (Nat.lt_irrefl _)]
theorem jjeo (c : Cfg) : ∃ p lp r, n4R Tryz.prog c lp p = some r /\ n4V c r := by
 have f2 : rule2 c = 0 -> 2 <= c.np /\ c.np <= 8 := fun h => by have := jja h; omega
 have f4 : rule4 c = 0 -> 1 <= c.ns /\ c.ns <= 16 := fun h => by have := jja h; omega
 have f8 : rule8 c = 0 -> c.nt <= 8 := fun h => by have := jja h; omega
 have f1 : rule1 c = 0 -> 4 <= c.nodes /\ c.nodes <= 16 := fun h => jja h
 obtain ⟨j, hj, hmin, hyes⟩ := jj1s c.nb fun i => withinF (c.fb i) 0 4096 ≠ 0
 simp only [ne_eq, Decidable.not_not] at hmin; obtain ⟨i, hi, him, hiy⟩ := jj1s c.nt fun i => ruleSt c i ≠ 0
 simp only [ne_eq, Decidable.not_not] at him; have r1 : withinF (Cfg.nodes c) (Int.ofNat 4) (Int.ofNat 16) = rule1 c := rfl; have r2 : withinF (↑(Cfg.np c)) (Int.ofNat 2) (Int.ofNat 8) = rule2 c := rfl; have r4 : withinF (↑(Cfg.ns c)) (Int.ofNat 1) (Int.ofNat 16) = rule4 c := rfl; have r6 : withinF (Cfg.long c) (max (3 * Cfg.nodes c + 1) (Cfg.nodes c + 116)) (Int.ofNat 4096) = rule6 c := rfl; have r8 : withinF (↑(Cfg.nt c)) (Int.ofNat 0) (Int.ofNat 8) = rule8 c := rfl; have z1 : Int.ofNat 1 = 1 := rfl; have z0 : Int.ofNat 0 = 0 := rfl; have z100 : Int.ofNat 100 = 100 := rfl; by_cases h1 : rule1 c = 0
 . obtain ⟨g4, g16⟩ := f1 h1
   have hmx := jjk3 g4 g16; rcases Nat.lt_or_ge j c.nb with hlt | hge
   . have hy := hyes hlt
     have e7 : (c.nb : Int) = c.nodes -> rule7 c = withinF (c.fb j) 0 4096 := fun h => by unfold rule7; rw [if_pos h, jjc8 hmin hlt hy]
     have e7' : ¬ (c.nb : Int) = c.nodes -> rule7 c = 1 := fun h => by unfold rule7; rw [if_neg h]
     refine (?_ : (∃ p r, n4R Tryz.prog c [some (n4S1 .ret [(2, i64 (withinF (c.fb j) 0 4096))] [])] p = some r /\ n4V c r) -> _) (n4A c (withinF (c.fb j) 0 4096) (n4V c) ?_)
     . rintro ⟨p, r, q1, q2⟩
       exact ⟨p, _, r, q1, q2⟩
     simp only [jj8q, jjj, jj0, jj1, r1, r2, r4, hmx, r6, r8]
     repeat' (first | refine ⟨fun h => ?_, fun h => ?_⟩ | fail)
     all_goals (simp only [bne_iff_ne, ne_eq, bne_eq_false_iff_eq, Bool.not_eq_true', Bool.not_eq_false', z0, z1] at *)
     all_goals (refine ⟨?_, (by first | (unfold lim; omega) | (dsimp only; unfold lim; omega)), ?_, ?_⟩)
     all_goals (first
      | (intro q hq; cases hq; done)
      | (intro q hq
         rw [List.mem_singleton.1 hq]
         exact jjae c _ (by omega) (by omega) (by omega) j hj hmin (fun _ => hy) ⟨fun _ => ⟨rfl, rfl, rfl⟩, fun h => by omega⟩)
      | (simp_all [ref4, i64]; done)
      | (simp_all [allT, okPr, okSl]; done)
      | (simp_all [allT, okPr, okSl]; omega)
      | fail)
   . obtain rfl : j = c.nb := by omega
     have e7 : (c.nb : Int) = c.nodes -> rule7 c = 0 := fun h => by unfold rule7; rw [if_pos h, jjfl hmin]
     have e7' : ¬ (c.nb : Int) = c.nodes -> rule7 c = 1 := fun h => by unfold rule7; rw [if_neg h]
     have r10a : withinF (Cfg.miss c) (Int.ofNat 1) (Int.ofNat 100) = withinF c.miss 1 100 := rfl; have r10b : withinF (Cfg.good c) (Int.ofNat 1) (Int.ofNat 100) = withinF c.good 1 100 := rfl; have r10c : withinF (Cfg.fresh c) (Int.ofNat 1) (Int.ofNat 100) = withinF c.fresh 1 100 := rfl; rcases Nat.lt_or_ge i c.nt with hlt | hge
     . have hy := hiy hlt
       have e9 : rule9 c = ruleSt c i := jj9z him hlt hy; refine (?_ : (∃ p r, n4R Tryz.prog c [some (n4S1 (.exit 0) [(1, .c (.ptr 1000 0 0))] [(1000, cfgB c), (3, sts c.nt c.ft)]), some (n4S2 .ret [(2, i64 (ruleSt c i))] [])] p = some r /\ n4V c r) -> _) (n4B c (ruleSt c i) (n4V c) ?_)
       . rintro ⟨p, r, q1, q2⟩
         exact ⟨p, _, r, q1, q2⟩
       simp only [jj8q, jjj, jj0, jj1, r1, r2, r4, hmx, r6, r8, r10a, r10b, r10c]
       repeat' (first | refine ⟨fun h => ?_, fun h => ?_⟩ | fail)
       all_goals (simp only [bne_iff_ne, ne_eq, bne_eq_false_iff_eq, Bool.not_eq_true', Bool.not_eq_false', z0, z1] at *)
       all_goals (refine ⟨?_, (by first | (unfold lim; omega) | (dsimp only; unfold lim; omega)), ?_, ?_⟩)
       all_goals (first
        | (intro q hq; cases hq; done)
        | (intro q hq
           rw [List.mem_singleton.1 hq]
           exact jjae c _ (by omega) (by omega) (by omega) c.nb (Nat.le_refl _) hmin (fun h => by omega) ⟨fun h => by omega, fun _ => ⟨rfl, rfl, rfl⟩⟩)
        | (intro q hq
           simp only [List.mem_cons, List.not_mem_nil, or_false] at hq; rcases hq with rfl | rfl
           . exact jjha c _ (by omega) (by omega) (by omega) i hi him (fun _ => hy) ⟨fun _ => ⟨rfl, rfl, rfl⟩, fun h => by omega⟩
           . exact jjae c _ (by omega) (by omega) (by omega) c.nb (Nat.le_refl _) hmin (fun h => by omega) ⟨fun h => by omega, fun _ => ⟨rfl, rfl, rfl⟩⟩)
        | (simp_all [ref4, i64, rule10]; done)
        | (simp_all [allT, okPr, okSl]; done)
        | (simp_all [allT, okPr, okSl]; omega)
        | fail)
     . obtain rfl : i = c.nt := by omega
       have e9 : rule9 c = 0 := jjbn him; refine (?_ : (∃ p r, n4R Tryz.prog c [some (n4S1 (.exit 0) [(1, .c (.ptr 1000 0 0))] [(1000, cfgB c), (3, sts c.nt c.ft)]), some (n4S2 (.exit 2) [(1, .c (.ptr 1000 0 0))] [(1000, cfgB c)])] p = some r /\ n4V c r) -> _) (n4C c (n4V c) ?_)
       . rintro ⟨p, r, q1, q2⟩
         exact ⟨p, _, r, q1, q2⟩
       simp only [jj8q, jjj, jj0, jj1, r1, r2, r4, hmx, r6, r8, r10a, r10b, r10c]
       repeat' (first | refine ⟨fun h => ?_, fun h => ?_⟩ | fail)
       all_goals (simp only [bne_iff_ne, ne_eq, bne_eq_false_iff_eq, Bool.not_eq_true', Bool.not_eq_false', z0, z1] at *)
       all_goals (refine ⟨?_, (by first | (unfold lim; omega) | (dsimp only; unfold lim; omega)), ?_, ?_⟩)
       all_goals (first
        | (intro q hq; cases hq; done)
        | (intro q hq
           rw [List.mem_singleton.1 hq]
           exact jjae c _ (by omega) (by omega) (by omega) c.nb (Nat.le_refl _) hmin (fun h => by omega) ⟨fun h => by omega, fun _ => ⟨rfl, rfl, rfl⟩⟩)
        | (intro q hq
           simp only [List.mem_cons, List.not_mem_nil, or_false] at hq; rcases hq with rfl | rfl
           . exact jjha c _ (by omega) (by omega) (by omega) c.nt (Nat.le_refl _) him (fun h => by omega) ⟨fun h => by omega, fun _ => ⟨rfl, rfl, rfl⟩⟩
           . exact jjae c _ (by omega) (by omega) (by omega) c.nb (Nat.le_refl _) hmin (fun h => by omega) ⟨fun h => by omega, fun _ => ⟨rfl, rfl, rfl⟩⟩)
        | (simp_all [ref4, i64, rule10]; done)
        | (simp_all [allT, okPr, okSl]; done)
        | (simp_all [allT, okPr, okSl]; omega)
        | fail)
 . refine (?_ : (∃ p r, n4R Tryz.prog c [some (n4S1 .ret [(2, i64 0)] [])] p = some r /\ n4V c r) -> _) (n4A c 0 (n4V c) ?_)
   . rintro ⟨p, r, q1, q2⟩
     exact ⟨p, _, r, q1, q2⟩
   simp only [r1]; refine ⟨fun h => ⟨?_, (by first | (unfold lim; omega) | (dsimp only; unfold lim; omega)), ?_, fun q hq => (by cases hq)⟩, fun h => ?_⟩
   . show i64 (rule1 c) = i64 (ref4 c)
     unfold ref4; rw [if_pos h1]
   . simp [allT]
     exact h1
   . exfalso
     simp at h; exact h1 h
theorem jjec (c : Cfg) : slots4 c = all5 c c.np := by
 have hin : ((List.range c.ns).all fun k => decide (¬ BadS c k)) = insideF c.fs c.ns c.np := by
  unfold insideF BadS; congr 1; funext k; simp only [decide_eq_decide]; omega
 unfold slots4 all5; rw [hin]
 cases hi : insideF c.fs c.ns c.np with
 | false => rfl
 | true =>
  have h0 : ∀ k, k < c.ns -> 0 <= c.fs k := fun k hk => by
   have := List.all_eq_true.1 hi k (by simpa using hk); simp at this; exact this.1
  rw [Bool.true_and, Bool.true_and]; congr 1; funext i; unfold hasQ hasF; rw [Bool.eq_iff_iff]; simp only [Bool.not_eq_false, decide_eq_true_eq, List.any_eq_true, List.mem_range, beq_iff_eq]; constructor
  . rintro ⟨p, h1, h2⟩
    exact ⟨p, h1, by have := h0 p h1; simp; omega⟩
  . rintro ⟨p, h1, h2⟩
    exact ⟨p, h1, by have := h0 p h1; simp at h2; omega⟩
theorem jj9m (c : Cfg) (k i : Nat) : usedF c k i = true ↔ ∃ p, p < k /\ (i = (c.fp p).toNat \/ i = (nxt4 c p).toNat) := by
 unfold usedF; simp [List.any_eq_true]
def Fair (c : Cfg) : Prop := (∀ i, i < c.np -> 0 <= c.fp i /\ c.fp i < c.nodes) /\ (∀ i, i + 1 < c.np -> c.fp i <= c.fp (i + 1)) /\ (∀ p q, p < q -> q < c.np -> c.fp p ≠ c.fp q /\ c.fp p ≠ nxt4 c q /\ nxt4 c p ≠ c.fp q /\ nxt4 c p ≠ nxt4 c q)
theorem jjh9 (c : Cfg) (p : Nat) (h4 : 4 <= c.nodes) (h0 : 0 <= c.fp p) (h1 : c.fp p < c.nodes) : c.fp p ≠ nxt4 c p := by
 unfold nxt4; rw [Int.tmod_eq_emod_of_nonneg (by omega)]; rcases (by omega : c.fp p + 1 < c.nodes \/ c.fp p + 1 = c.nodes) with h | h
 . rw [Int.emod_eq_of_lt (by omega) h]; omega
 . rw [h, Int.emod_self]; omega
theorem jja5 (c : Cfg) (h4 : 4 <= c.nodes) : pairs4 c = true ↔ Fair c := by
 have hp : pairs4 c = true ↔ ∀ k, k < c.np -> ¬ BadP c k := by
  unfold pairs4; simp [List.all_eq_true]
 rw [hp]; constructor
 . intro h
   have hin : ∀ i, i < c.np -> 0 <= c.fp i /\ c.fp i < c.nodes := fun i hi => by
    have := h i hi; unfold BadP at this; omega
   refine ⟨hin, fun i hi => ?_, fun p q hpq hq => ?_⟩
   . have := h (i + 1) hi
     unfold BadP at this; simp only [not_or, not_and, Nat.add_sub_cancel] at this; have := this.2.2.1 (by omega); omega
   . have hq' := h q hq
     unfold BadP at hq'; simp only [not_or, jj9m] at hq'; obtain ⟨_, _, _, u1, u2⟩ := hq'; obtain ⟨a0, a1⟩ := hin p (by omega); obtain ⟨b0, b1⟩ := hin q hq; obtain ⟨n0, _⟩ := jj57 c p h4 a0; obtain ⟨m0, _⟩ := jj57 c q h4 b0; refine ⟨fun e => u1 ⟨p, hpq, .inl (by rw [e])⟩, fun e => u2 ⟨p, hpq, .inl (by rw [e])⟩, fun e => u1 ⟨p, hpq, .inr (by rw [e])⟩, fun e => u2 ⟨p, hpq, .inr (by rw [e])⟩⟩
 . rintro ⟨hin, hs, hd⟩ k hk
   obtain ⟨b0, b1⟩ := hin k hk; obtain ⟨m0, _⟩ := jj57 c k h4 b0; unfold BadP; simp only [not_or, jj9m]; refine ⟨by omega, by omega, ?_, ?_, ?_⟩
   . rintro ⟨h0, h1⟩
     have h2 := hs (k - 1) (by omega); rw [show k - 1 + 1 = k by omega] at h2; exact (hd (k - 1) k (by omega) hk).1 (by omega)
   . rintro ⟨p, hpk, e⟩
     obtain ⟨a0, a1⟩ := hin p (by omega); obtain ⟨n0, _⟩ := jj57 c p h4 a0; obtain ⟨d1, d2, d3, d4⟩ := hd p k hpk hk; rcases e with e | e <;> omega
   . rintro ⟨p, hpk, e⟩
     obtain ⟨a0, a1⟩ := hin p (by omega); obtain ⟨n0, _⟩ := jj57 c p h4 a0; obtain ⟨d1, d2, d3, d4⟩ := hd p k hpk hk; rcases e with e | e <;> omega
theorem jja0 (c : Cfg) (h4 : 4 <= c.nodes) (h16 : c.nodes <= 16) : rule3 c = 0 ↔ Fair c := by
 have h3 : rule3 c = 0 ↔ (insideF c.fp c.np c.nodes = true /\ sortedF c.fp c.np = true /\ nodupF (halfF c) (2 * c.np) = true) := by
  unfold rule3; simp only [Bool.and_eq_true]; split <;> simp_all
 have hi : insideF c.fp c.np c.nodes = true ↔ ∀ i, i < c.np -> 0 <= c.fp i /\ c.fp i < c.nodes := by
  unfold insideF; simp [List.all_eq_true]
 have hs : sortedF c.fp c.np = true ↔ ∀ i, i + 1 < c.np -> c.fp i <= c.fp (i + 1) := by
  unfold sortedF; simp only [List.all_eq_true, List.mem_range, decide_eq_true_eq]; exact ⟨fun h i hi => h i (by omega), fun h i hi => h i (by omega)⟩
 have hn : nodupF (halfF c) (2 * c.np) = true ↔ ∀ q q', q < q' -> q' < 2 * c.np -> halfF c q ≠ halfF c q' := by
  unfold nodupF; rw [decide_eq_true_eq, List.Nodup, List.pairwise_map, List.pairwise_iff_getElem]; simp only [List.length_range, List.getElem_range]; exact ⟨fun h q q' h1 h2 => h q q' (by omega) h2 h1, fun h q q' _ h2 h1 => h q q' h1 h2⟩
 rw [h3, hi, hs, hn]; unfold Fair; refine and_congr_right fun hin => and_congr_right fun _ => ?_
 have he : ∀ p, halfF c (2 * p) = c.fp p := fun p => by unfold halfF; rw [if_pos (by omega), show 2 * p / 2 = p by omega]
 have ho : ∀ p, p < c.np -> halfF c (2 * p + 1) = nxt4 c p := fun p hp => by
  obtain ⟨a0, a1⟩ := hin p hp; unfold halfF ringF nxt4; rw [if_neg (by omega), show (2 * p + 1) / 2 = p by omega, if_pos ⟨h4, h16, a0, a1⟩, Int.tmod_eq_emod_of_nonneg (by omega)]
 constructor
 . intro h p q hpq hq
   refine ⟨?_, ?_, ?_, ?_⟩
   . have := h (2 * p) (2 * q) (by omega) (by omega); rwa [he, he] at this
   . have := h (2 * p) (2 * q + 1) (by omega) (by omega); rwa [he, ho q hq] at this
   . have := h (2 * p + 1) (2 * q) (by omega) (by omega); rwa [he, ho p (by omega)] at this
   . have := h (2 * p + 1) (2 * q + 1) (by omega) (by omega); rwa [ho p (by omega), ho q hq] at this
 . intro h q q' h1 h2
   obtain ⟨x, hx⟩ : ∃ x, x = q / 2 := ⟨_, rfl⟩
   obtain ⟨y, hy⟩ : ∃ y, y = q' / 2 := ⟨_, rfl⟩
   have hyn : y < c.np := by omega
   rcases Nat.lt_or_ge x y with hxy | hxy
   . obtain ⟨d1, d2, d3, d4⟩ := h x y hxy hyn
     rcases (by omega : q = 2 * x \/ q = 2 * x + 1) with rfl | rfl <;> rcases (by omega : q' = 2 * y \/ q' = 2 * y + 1) with rfl | rfl
     . rw [he, he]; exact d1
     . rw [he, ho y hyn]; exact d2
     . rw [he, ho x (by omega)]; exact d3
     . rw [ho x (by omega), ho y hyn]; exact d4
   . obtain rfl : x = y := by omega
     obtain rfl : q = 2 * x := by omega
     obtain rfl : q' = 2 * x + 1 := by omega
     obtain ⟨a0, a1⟩ := hin x hyn; rw [he, ho x hyn]; exact jjh9 c x h4 a0 a1
theorem jjgv (c : Cfg) : ref4 c = cfgErr c := by
 unfold ref4 cfgErr; by_cases h1 : rule1 c = 0
 . obtain ⟨g4, g16⟩ := jja h1
   have hp : pairs4 c = false ↔ rule3 c ≠ 0 := by
    rw [<- Bool.not_eq_true, jja5 c g4, <- jja0 c g4 g16]
   have h3 : rule3 c ≠ 0 -> rule3 c = 1 := by
    unfold rule3; split
    . intro h; exact absurd rfl h
    . intro _; rfl
   have h5 : slots4 c = false ↔ rule5 c ≠ 0 := by
    rw [jjec]; unfold rule5; cases all5 c c.np <;> simp
   have h5' : rule5 c ≠ 0 -> rule5 c = 1 := by
    unfold rule5; split
    . intro h; exact absurd rfl h
    . intro _; rfl
   by_cases e3 : rule3 c = 0
   . by_cases e5 : rule5 c = 0
     . simp [h1, hp, h5, e3, e5]
     . simp [h1, hp, h5, e3, e5, h5' e5]
   . simp [h1, hp, e3, h3 e3]
 . simp [h1]
theorem jjdu : CtOk Tryz.prog 8 (ctCfg (fun c => i64 (cfgErr c)) fun _ => true) := by
 refine jj2w (E := ENq Tryz.prog) (fuel := 300) (str := nSt) hENq ⟨_, _, Tryz.func8, rfl⟩ (fun c => jjs _) fun c _ => ?_
 obtain ⟨p, lp, r, h1, h2⟩ := jjeo c; unfold n4V at h2; rw [jjgv] at h2; exact ⟨p, lp, r, h1, h2⟩
abbrev mdV (c : Cfg) (nq : Nat) (fq : Nat -> Int) (v : Vw) (k : Nat) : List AV := [.c (.ptr 5 0 0), .c (.ptr 1000 0 0), i64 (Int.ofNat (cntF (inB c nq fq v) k)), i64 (Int.ofNat (cntF (hasB c nq fq) k)), i64 (Int.ofNat k)]
def mdR (P : Program) (c : Cfg) (nq : Nat) (fq : Nat -> Int) (v : Vw) (k : Nat) (path : List Dec) : Option VC :=
 view ([0, 3, 4, 5, 7] ++ []) (netIds ++ [1000]) (fC (ENf P) 100 (loopAt P 161 0) 1000000000000000000000000000000000000000000 nSt (stH 25 [0, 3, 4, 5, 7] (netIds ++ [1000]) (mdV c nq fq v k) (netBk c nq fq ++ [vwB v]) path []))
theorem md (c : Cfg) (nq : Nat) (fq : Nat -> Int) (v : Vw) (k : Nat) (Q : VC -> Prop) (H : let zI := fun z : Int => AC.v (Value.int .i64 z); let zN := Int.ofNat; let zM := ABlk.mk; let yF := fun (t s : Nat) (c : Cs) => some (ABlk.mk false false t s c); let zq0 : List Bool := [netK c nq fq, true, decide (zN k < zN 8) == true]; let zq1 : List Bool := (ABlk.inb (zM true false 59 0 (Cs.lit (vwL v))) 0 (0 + Int.toNat (zN k) * 1 + 1)) :: (okl Kd.b (List.getD (vwL v) (0 + Int.toNat (zN k) * 1) nov)) :: (decide (zN 0 <= zN k /\ zN k < zN 8)) :: (decide (headN c nq fq (List.headD [zN k] (zN 0)) < zN 0) == false) :: zq0; (((decide (zN k < zN 8)) = true -> (((decide (headN c nq fq (List.headD [zN k] (zN 0)) < zN 0)) = true -> Q (Exit.normal, [some (lkA (List.zip [0, 3, 4, 5, 7] (mdV c nq fq v k)) 0), some (lkA (List.zip [0, 3, 4, 5, 7] (mdV c nq fq v k)) (0 + 1 + 1 + 1)), some (lkA (List.zip [0, 3, 4, 5, 7] (mdV c nq fq v k)) (0 + 1 + 1 + 1 + 1)), some (lkA (List.zip [0, 3, 4, 5, 7] (mdV c nq fq v k)) (0 + 1 + 1 + 1 + 1 + 1)), some (.c (zI (IntKind.wrap .i64 (zN k + zN 1))))], [yF 26 0 (Cs.lit [zI (zN 1), zI (Int.negSucc 0)]), yF 3 1 (yP c), yF 3 1 (yS c), yF 3 1 (yB c), yF 51 3 (yT c), yF 3 1 (Cs.arr nq fun k => List.map AC.v ((fun i => [Value.int .i64 (fq i)]) k)), yF 105 0 (Cs.lit [zI (c.nodes), AC.sl 0 0 0 (c.np) none, AC.sl 1 0 0 (c.ns) none, zI (c.long), AC.sl 2 0 0 (c.nb) none, AC.sl 3 0 0 (c.nt) none, zI (c.miss), zI (c.good), zI (c.fresh), AC.sl 4 0 0 nq none]), some (zM true false 59 0 (Cs.lit (vwL v)))], 25, 1000000000000000000000000000000000000000008, ((decide (headN c nq fq (List.headD [zN k] (zN 0)) < zN 0) == true) :: zq0), [])) /\ ((decide (headN c nq fq (List.headD [zN k] (zN 0)) < zN 0)) = false -> (((asB (List.getD (vwL v) (0 + Int.toNat (zN k) * 1) nov)) = true -> Q (Exit.normal, [some (lkA (List.zip [0, 3, 4, 5, 7] (mdV c nq fq v k)) 0), some (lkA (List.zip [0, 3, 4, 5, 7] (mdV c nq fq v k)) (0 + 1 + 1 + 1)), some (.c (zI (IntKind.wrap .i64 (zN (cntF (inB c nq fq v) k) + zN 1)))), some (.c (zI (IntKind.wrap .i64 (zN (cntF (hasB c nq fq) k) + zN 1)))), some (.c (zI (IntKind.wrap .i64 (zN k + zN 1))))], [yF 26 0 (Cs.lit [zI (zN 1), zI (Int.negSucc 0)]), yF 3 1 (yP c), yF 3 1 (yS c), yF 3 1 (yB c), yF 51 3 (yT c), yF 3 1 (Cs.arr nq fun k => List.map AC.v ((fun i => [Value.int .i64 (fq i)]) k)), yF 105 0 (Cs.lit [zI (c.nodes), AC.sl 0 0 0 (c.np) none, AC.sl 1 0 0 (c.ns) none, zI (c.long), AC.sl 2 0 0 (c.nb) none, AC.sl 3 0 0 (c.nt) none, zI (c.miss), zI (c.good), zI (c.fresh), AC.sl 4 0 0 nq none]), some (zM true false 59 0 (Cs.lit (vwL v)))], 25, 1000000000000000000000000000000000000000018, ((asB (List.getD (vwL v) (0 + Int.toNat (zN k) * 1) nov) == true) :: zq1), [])) /\ ((asB (List.getD (vwL v) (0 + Int.toNat (zN k) * 1) nov)) = false -> Q (Exit.normal, [some (lkA (List.zip [0, 3, 4, 5, 7] (mdV c nq fq v k)) 0), some (lkA (List.zip [0, 3, 4, 5, 7] (mdV c nq fq v k)) (0 + 1 + 1 + 1)), some (lkA (List.zip [0, 3, 4, 5, 7] (mdV c nq fq v k)) (0 + 1 + 1 + 1 + 1)), some (.c (zI (IntKind.wrap .i64 (zN (cntF (hasB c nq fq) k) + zN 1)))), some (.c (zI (IntKind.wrap .i64 (zN k + zN 1))))], [yF 26 0 (Cs.lit [zI (zN 1), zI (Int.negSucc 0)]), yF 3 1 (yP c), yF 3 1 (yS c), yF 3 1 (yB c), yF 51 3 (yT c), yF 3 1 (Cs.arr nq fun k => List.map AC.v ((fun i => [Value.int .i64 (fq i)]) k)), yF 105 0 (Cs.lit [zI (c.nodes), AC.sl 0 0 0 (c.np) none, AC.sl 1 0 0 (c.ns) none, zI (c.long), AC.sl 2 0 0 (c.nb) none, AC.sl 3 0 0 (c.nt) none, zI (c.miss), zI (c.good), zI (c.fresh), AC.sl 4 0 0 nq none]), some (zM true false 59 0 (Cs.lit (vwL v)))], 25, 1000000000000000000000000000000000000000015, ((asB (List.getD (vwL v) (0 + Int.toNat (zN k) * 1) nov) == false) :: zq1), [])))))) /\ ((decide (zN k < zN 8)) = false -> Q (Exit.exit 0, [some (lkA (List.zip [0, 3, 4, 5, 7] (mdV c nq fq v k)) 0), some (lkA (List.zip [0, 3, 4, 5, 7] (mdV c nq fq v k)) (0 + 1 + 1 + 1)), some (lkA (List.zip [0, 3, 4, 5, 7] (mdV c nq fq v k)) (0 + 1 + 1 + 1 + 1)), some (lkA (List.zip [0, 3, 4, 5, 7] (mdV c nq fq v k)) (0 + 1 + 1 + 1 + 1 + 1)), some (lkA (List.zip [0, 3, 4, 5, 7] (mdV c nq fq v k)) (0 + 1 + 1 + 1 + 1 + 1 + 1 + 1))], [yF 26 0 (Cs.lit [zI (zN 1), zI (Int.negSucc 0)]), yF 3 1 (yP c), yF 3 1 (yS c), yF 3 1 (yB c), yF 51 3 (yT c), yF 3 1 (Cs.arr nq fun k => List.map AC.v ((fun i => [Value.int .i64 (fq i)]) k)), yF 105 0 (Cs.lit [zI (c.nodes), AC.sl 0 0 0 (c.np) none, AC.sl 1 0 0 (c.ns) none, zI (c.long), AC.sl 2 0 0 (c.nb) none, AC.sl 3 0 0 (c.nt) none, zI (c.miss), zI (c.good), zI (c.fresh), AC.sl 4 0 0 nq none]), some (zM true false 59 0 (Cs.lit (vwL v)))], 25, 1000000000000000000000000000000000000000001, [decide (zN k < zN 8) == false], [])))) :
 ∃ p r, mdR Tryz.prog c nq fq v k p = some r /\ Q r :=
 two H (fun g1 => two g1 (fun g2 => ⟨pD 2 4, _, by kernel_rfl, g2⟩) (fun g2 => two g2 (fun g3 => ⟨pD 3 16, _, by kernel_rfl, g3⟩) (fun g3 => ⟨pD 3 25, _, by kernel_rfl, g3⟩))) (fun g1 => ⟨pD 1 2, _, by kernel_rfl, g1⟩)
theorem jjk2 (c : Cfg) (nq : Nat) (fq : Nat -> Int) (v : Vw) {eblks : List (Option ABlk)} (heb : BL (netBk c nq fq ++ [vwB v]) eblks) :
 LoopV Tryz.prog (loopAt Tryz.prog 161 0) [0, 3, 4, 5, 7] (netIds ++ [1000]) ((mdV c nq fq v 0).map some) eblks 25 1004 (mkFr 25 [(4, i64 (Int.ofNat (cntF (inB c nq fq v) 8))), (5, i64 (Int.ofNat (cntF (hasB c nq fq) 8)))]) [] 100000000000000000000000000000000000000000000000000 (.exit 0) none := by
 refine jjn hENf (fuel := 100) (str := nSt) (nh := 1000000000000000000000000000000000000000000) (S := Nat) (fun k => k <= 8) (fun k => 8 - k) [0, 3, 4, 5, 7] [] (netIds ++ [1000]) (mdV c nq fq v) (fun _ => netBk c nq fq ++ [vwB v]) (by decide) (by decide) (by unfold lim; omega) (s0 := 0) (by omega) (fun _ => ⟨rfl, rfl⟩) (by kernel_rfl) heb (fun k _ => ⟨rfl, ?_⟩) ?_
 . intro b hb
   rcases List.mem_append.1 hb with h | h
   . exact jj8c (by omega) b h
   . rw [List.mem_singleton.1 h]; exact jj24
 intro k hk; refine (?_ : (∃ p r, mdR Tryz.prog c nq fq v k p = some r /\ _) -> _) (md c nq fq v k (StepV 1004 100000000000000000000000000000000000000000000000000 25 [0, 3, 4, 5, 7] [] (netIds ++ [1000]) (fun k => k <= 8) (fun k => 8 - k) (mdV c nq fq v) (fun _ => netBk c nq fq ++ [vwB v]) (.exit 0) [(4, i64 (Int.ofNat (cntF (inB c nq fq v) 8))), (5, i64 (Int.ofNat (cntF (hasB c nq fq) 8)))] [] k) ?_)
 . rintro ⟨p, r, h1, h2⟩
   exact ⟨p, [], r, h1, h2⟩
 . have hb := jj6n (hasB c nq fq) k
   have hi := jj6n (inB c nq fq v) k
   have nx : ∀ {a b : Int} {i j : Nat}, i = cntF (inB c nq fq v) (k + 1) -> j = cntF (hasB c nq fq) (k + 1) -> k < 8 -> a = Int.ofNat i -> b = Int.ofNat j -> [some (.c (.ptr 5 0 0)), some (.c (.ptr 1000 0 0)), some (i64 a), some (i64 b), some (i64 (Int.ofNat (k + 1)))] = (mdV c nq fq v (k + 1)).map some := by
    rintro a b i j rfl rfl _ rfl rfl; rfl
   refine ⟨fun c1 => ⟨fun c2 => ?_, fun c2 => ⟨fun c3 => ?_, fun c3 => ?_⟩⟩, fun c1 => ?_⟩
   . have hlt : k < 8 := by simp at c1; omega
     have h0 : hasB c nq fq k = false := by simpa [hasB] using c2
     refine ⟨?_, rfl, by dsimp only; omega, rfl, .inl ⟨rfl, k + 1, by omega, by show 8 - (k + 1) < 8 - k; omega, ?_, by exact BL.refl (netBk c nq fq ++ [vwB v])⟩⟩
     . simp [allT, hlt, c2, jjj, jji, jj0, jj1, jj3, jjb]
       simp at c2; omega
     . rw [jj2j k (by omega)]
       exact nx (i := cntF (inB c nq fq v) k) (j := cntF (hasB c nq fq) k) (by rw [jj20]; simp [inB, h0]) (by rw [jj20]; simp [h0]) hlt rfl rfl
   . have hlt : k < 8 := by simp at c1; omega
     have h0 : hasB c nq fq k = true := by simpa [hasB] using c2
     rw [jj4w v k hlt] at c3; refine ⟨?_, rfl, by dsimp only; omega, rfl, .inl ⟨rfl, k + 1, by omega, by show 8 - (k + 1) < 8 - k; omega, ?_, by exact BL.refl (netBk c nq fq ++ [vwB v])⟩⟩
     . simp only [allT, List.forall_mem_cons, jj4w v k hlt, jj52 v k hlt]
       simp [allT, hlt, c3, jjj, jji, jj0, jj1, jj3, jjb, Vw.len, jj8, jj2]; simp at c2; omega
     . rw [jj2j k (by omega), jj2j _ (by omega), jj2j _ (by omega)]
       exact nx (i := cntF (inB c nq fq v) k + 1) (j := cntF (hasB c nq fq) k + 1) (by rw [jj20]; simp [inB, h0, c3]) (by rw [jj20]; simp [h0]) hlt rfl rfl
   . have hlt : k < 8 := by simp at c1; omega
     have h0 : hasB c nq fq k = true := by simpa [hasB] using c2
     rw [jj4w v k hlt] at c3; refine ⟨?_, rfl, by dsimp only; omega, rfl, .inl ⟨rfl, k + 1, by omega, by show 8 - (k + 1) < 8 - k; omega, ?_, by exact BL.refl (netBk c nq fq ++ [vwB v])⟩⟩
     . simp only [allT, List.forall_mem_cons, jj4w v k hlt, jj52 v k hlt]
       simp [allT, hlt, c3, jjj, jji, jj0, jj1, jj3, jjb, Vw.len, jj8, jj2]; simp at c2; omega
     . rw [jj2j k (by omega), jj2j _ (by omega)]
       exact nx (i := cntF (inB c nq fq v) k) (j := cntF (hasB c nq fq) k + 1) (by rw [jj20]; simp [inB, h0, c3]) (by rw [jj20]; simp [h0]) hlt rfl rfl
   . have hge : k = 8 := by simp at c1; omega
     subst hge; refine ⟨by simp [allT], rfl, by dsimp only; omega, rfl, .inr ⟨by simp, rfl, fun q hq => ?_, fun p hpp => (by cases hpp)⟩⟩; simp only [List.mem_cons, List.not_mem_nil, or_false] at hq; rcases hq with rfl | rfl
     . exact ⟨rfl, by simp [lkA]⟩
     . exact ⟨rfl, by simp [lkA]⟩
def insN (c : Cfg) (nq : Nat) (fq : Nat -> Int) (l : List AC) : Nat := cntF (fun p => hasB c nq fq p && asB (l.getD p nov)) 8
def allN (c : Cfg) (nq : Nat) (fq : Nat -> Int) : Nat := cntF (hasB c nq fq) 8
abbrev inL (v : Vw) : List AC := [.v (.bool (v.inn 0)), .v (.bool (v.inn 1)), .v (.bool (v.inn 2)), .v (.bool (v.inn 3)), .v (.bool (v.inn 4)), .v (.bool (v.inn 5)), .v (.bool (v.inn 6)), .v (.bool (v.inn 7))]
theorem jjhu (c : Cfg) (nq : Nat) (fq : Nat -> Int) (v : Vw) : insN c nq fq (inL v) = cntF (inB c nq fq v) 8 :=
 jj3g fun i hi => by
  have : asB ((inL v).getD i nov) = v.inn i := by
   match i, hi with
   | 0, _ => rfl
   | 1, _ => rfl
   | 2, _ => rfl
   | 3, _ => rfl
   | 4, _ => rfl
   | 5, _ => rfl
   | 6, _ => rfl
   | 7, _ => rfl
  simp only [inB, this]
def modsR (c : Cfg) (nq : Nat) (fq : Nat -> Int) (l : List AC) (_ : List AV) : AV := .tup [i64 (Int.ofNat (insN c nq fq (l.take 8))), i64 (Int.ofNat (allN c nq fq))]
theorem mdIn (c : Cfg) (nq : Nat) (fq : Nat -> Int) (v : Vw) (Q : VF -> Prop) (H : Q (.tup [.c (.v (.int .i64 (Int.ofNat (cntF (inB c nq fq v) 8)))), .c (.v (.int .i64 (Int.ofNat (cntF (hasB c nq fq) 8))))], [], 100000000000000000000000000000000000000000000000004, [], [LoopV Tryz.prog (loopAt Tryz.prog 161 0) [0, 3, 4, 5, 7] (netIds ++ [1000]) [some (.c (.ptr 5 0 0)), some (.c (.ptr 1000 0 0)), some (.c (.v (.int .i64 (Int.ofNat 0)))), some (.c (.v (.int .i64 (Int.ofNat 0)))), some (.c (.v (.int .i64 (Int.ofNat 0))))] [some (ABlk.mk false false 26 0 (Cs.lit [.v (.int .i64 (Int.ofNat 1)), .v (.int .i64 (Int.negSucc 0))])), some (ABlk.mk false false 3 1 (yP c)), some (ABlk.mk false false 3 1 (yS c)), some (ABlk.mk false false 3 1 (yB c)), some (ABlk.mk false false 51 3 (yT c)), some (ABlk.mk false false 3 1 (Cs.arr nq fun k => List.map AC.v ((fun i => [Value.int .i64 (fq i)]) k))), some (ABlk.mk false false 105 0 (Cs.lit [.v (.int .i64 (c.nodes)), AC.sl 0 0 0 (c.np) none, AC.sl 1 0 0 (c.ns) none, .v (.int .i64 (c.long)), AC.sl 2 0 0 (c.nb) none, AC.sl 3 0 0 (c.nt) none, .v (.int .i64 (c.miss)), .v (.int .i64 (c.good)), .v (.int .i64 (c.fresh)), AC.sl 4 0 0 nq none])), some (ABlk.mk true false 59 0 (Cs.lit (vwL v)))] 25 1004 (mkFr 25 [(4, i64 (Int.ofNat (cntF (inB c nq fq v) 8))), (5, i64 (Int.ofNat (cntF (hasB c nq fq) 8)))]) [] 100000000000000000000000000000000000000000000000000 (Exit.exit 0) none])) :
 ∃ p r, vwE (ENf Tryz.prog) 161 c nq fq v [] p [some ⟨[0, 3, 4, 5, 7], netIds ++ [1000], mkFr 25 [(4, i64 (Int.ofNat (cntF (inB c nq fq v) 8))), (5, i64 (Int.ofNat (cntF (hasB c nq fq) 8)))], [], 100000000000000000000000000000000000000000000000000, .exit 0⟩] = some r /\ Q r :=
 ⟨pD 0 0, _, by kernel_rfl, H⟩
theorem jjim : CtOk Tryz.prog 161 (ctRd netRd (rV modsR) (pV fun _ r => r.isEmpty)) := by
 refine jjb3 (E := ENf Tryz.prog) hENf ⟨_, _, Tryz.func161, rfl⟩ (fun _ _ _ _ _ => rfl) fun c nq fq v r hr => ?_
 obtain rfl := List.isEmpty_iff.1 hr; refine (?_ : (∃ p q, vwE (ENf Tryz.prog) 161 c nq fq v [] p [some ⟨[0, 3, 4, 5, 7], netIds ++ [1000], mkFr 25 [(4, i64 (Int.ofNat (cntF (inB c nq fq v) 8))), (5, i64 (Int.ofNat (cntF (hasB c nq fq) 8)))], [], 100000000000000000000000000000000000000000000000000, .exit 0⟩] = some q /\ GoodF (modsR c nq fq (vwL v) []) q) -> _) (mdIn c nq fq v _ ?_)
 . rintro ⟨p, q, h1, h2⟩
   exact ⟨p, _, q, h1, h2⟩
 . refine ⟨by simp only [modsR, i64, allN]; rw [<- jjhu]; rfl, (by first | (unfold lim; omega) | (dsimp only; unfold lim; omega)), by simp [allT], fun q hq => ?_⟩
   rw [List.mem_singleton.1 hq]; exact jjk2 c nq fq v (BL.refl _)
def ctMdIn : CtF := ctRd netRd (rV modsR) (pV fun _ r => r.isEmpty)
def ENas (P : Program) : Env := ⟨P, [(161, ctMdIn)]⟩
theorem hENas : EnvOk (ENas Tryz.prog) := by
 refine jj3w (fun f g h => ?_) (by kernel_rfl) (by kernel_rfl); simp only [ENas, List.mem_cons, Prod.mk.injEq, List.not_mem_nil, or_false] at h; obtain ⟨rfl, rfl⟩ := h; exact jjim
def asksZ (is all : Nat) (cmd : Int) : Int := if cmd < 0 \/ is = 0 then 4 else if is = all then 1 else if is = 1 then 3 else 2
def asksC (c : Cfg) (nq : Nat) (fq : Nat -> Int) (l : List AC) (cmd : Int) : Int := asksZ (insN c nq fq l) (allN c nq fq) cmd
def asksR (c : Cfg) (nq : Nat) (fq : Nat -> Int) (l : List AC) (_ : List AV) : AV := .c (.v (.int .u8 (asksC c nq fq (l.take 8) (asI (l.getD 40 nov)))))
theorem mdAs (c : Cfg) (nq : Nat) (fq : Nat -> Int) (v : Vw) (Q : VF -> Prop) (H : let zN := Int.ofNat; let zt : List Bool -> List Bool := fun l => true :: true :: true :: true :: true :: true :: true :: true :: l; let zu : List Bool -> List Bool := fun l => zt (zt (zt (zt l))); let zq0 : List Bool := true :: true :: (netK c nq fq) :: (zu (zt (true :: true :: true :: true :: []))); let zq1 : List Bool := (decide (Vw.command v < zN 0) == false) :: zq0; let zq2 : List Bool := ((zN (insN c nq fq (inL v)) == zN 0) == false) :: zq1; let zq3 : List Bool := ((zN (insN c nq fq (inL v)) == zN (allN c nq fq)) == false) :: zq2; (((decide (Vw.command v < zN 0)) = true -> Q (.c (.v (.int .u8 (zN 4))), [], 1016, ((decide (Vw.command v < zN 0) == true) :: zq0), [])) /\ ((decide (Vw.command v < zN 0)) = false -> (((zN (insN c nq fq (inL v)) == zN 0) = true -> Q (.c (.v (.int .u8 (zN 4))), [], 1018, (((zN (insN c nq fq (inL v)) == zN 0) == true) :: zq1), [])) /\ ((zN (insN c nq fq (inL v)) == zN 0) = false -> (((zN (insN c nq fq (inL v)) == zN (allN c nq fq)) = true -> Q (.c (.v (.int .u8 (zN 1))), [], 1022, (((zN (insN c nq fq (inL v)) == zN (allN c nq fq)) == true) :: zq2), [])) /\ ((zN (insN c nq fq (inL v)) == zN (allN c nq fq)) = false -> (((zN (insN c nq fq (inL v)) == zN 1) = true -> Q (.c (.v (.int .u8 (zN 3))), [], 1025, (((zN (insN c nq fq (inL v)) == zN 1) == true) :: zq3), [])) /\ ((zN (insN c nq fq (inL v)) == zN 1) = false -> Q (.c (.v (.int .u8 (zN 2))), [], 1025, (((zN (insN c nq fq (inL v)) == zN 1) == false) :: zq3), [])))))))))) :
 ∃ p r, vwE (ENas Tryz.prog) 134 c nq fq v [] p [] = some r /\ Q r :=
 two H (fun g1 => ⟨pD 3 1, _, by kernel_rfl, g1⟩) (fun g1 => two g1 (fun g2 => ⟨pD 3 11, _, by kernel_rfl, g2⟩) (fun g2 => two g2 (fun g3 => ⟨pD 4 47, _, by kernel_rfl, g3⟩) (fun g3 => two g3 (fun g4 => ⟨pD 5 155, _, by kernel_rfl, g4⟩) (fun g4 => ⟨pD 5 236, _, by kernel_rfl, g4⟩))))
def ctAsks : CtF := ctRd netRd (rV asksR) (pV fun _ r => r.isEmpty)
theorem jjio : CtOk Tryz.prog 134 ctAsks := by
 refine jjb3 (E := ENas Tryz.prog) hENas ⟨_, _, Tryz.func134, rfl⟩ (fun _ _ _ _ _ => rfl) fun c nq fq v r hr => ?_
 obtain rfl := List.isEmpty_iff.1 hr; refine (?_ : (∃ p q, vwE (ENas Tryz.prog) 134 c nq fq v [] p [] = some q /\ GoodF (asksR c nq fq (vwL v) []) q) -> _) (mdAs c nq fq v _ ?_)
 . rintro ⟨p, q, h1, h2⟩
   exact ⟨p, _, q, h1, h2⟩
 . have hr : asksR c nq fq (vwL v) [] = .c (.v (.int .u8 (asksZ (insN c nq fq (inL v)) (allN c nq fq) v.command))) := rfl
   rw [hr]; generalize insN c nq fq (inL v) = i; generalize allN c nq fq = a
   (repeat' (first | refine ⟨fun h => ?_, fun h => ?_⟩ | fail))
   all_goals (refine ⟨?_, (by first | (unfold lim; omega) | (dsimp only; unfold lim; omega)), ?_, by simp⟩)
   all_goals (first | (simp_all [asksZ]; done) | (simp_all [asksZ]; omega) | (simp_all [allT, jjj, jji, jj0, jj1, jj3, jjb, jj4, jj8, jj2, Vw.len]; done) | (simp_all [allT, jjj, jji, jj0, jj1, jj3, jjb, jj4, jj8, jj2, Vw.len]; omega))
abbrev edgeL : List Bool := [true, true, true, true, true, false, true, true, true, true, false, true, true, true, true, false, false, true, true, true, false, false, false, true, true]
def edgeB : ABlk := ⟨false, false, 237, 0, .lit (edgeL.map fun b => .v (.bool b))⟩
def mE : AMem := [(gid 1, edgeB)]
def edgeF (a b : Int) : Bool := decide (b < 5) && edgeL.getD ((if 5 <= a then 0 else a.toNat) * 5 + b.toNat) false
def edR (P : Program) (a b : Int) (path : List Dec) : Option VF := viewF [] (fCallF (E1 P) (fC (E1 P) 300) 135 [.c (.v (.int .u8 a)), .c (.v (.int .u8 b))] 1000 nSt (stA mE path []))
theorem ed (a b : Int) (Q : VF -> Prop) (H : let zB := fun z : Bool => AC.v (Value.bool z); let zN := Int.ofNat; let zD := Int.toNat; (((decide (a ≥ zN 5)) = true -> (((decide (b < zN 5)) = true -> Q (.c (zB (asB (List.getD [zB true, zB true, zB true, zB true, zB true, zB false, zB true, zB true, zB true, zB true, zB false, zB true, zB true, zB true, zB true, zB false, zB false, zB true, zB true, zB true, zB false, zB false, zB false, zB true, zB true] (0 + zD b * 1) nov))), [], 1014, [ABlk.inb (ABlk.mk false false 237 0 (Cs.lit [zB true, zB true, zB true, zB true, zB true, zB false, zB true, zB true, zB true, zB true, zB false, zB true, zB true, zB true, zB true, zB false, zB false, zB true, zB true, zB true, zB false, zB false, zB false, zB true, zB true])) 0 (0 + zD b * 1 + 1), okl Kd.b (List.getD [zB true, zB true, zB true, zB true, zB true, zB false, zB true, zB true, zB true, zB true, zB false, zB true, zB true, zB true, zB true, zB false, zB false, zB true, zB true, zB true, zB false, zB false, zB false, zB true, zB true] (0 + zD b * 1) nov), decide (zN 0 <= b /\ b < zN 5), true, decide (b < zN 5) == true, decide (a ≥ zN 5) == true], [])) /\ ((decide (b < zN 5)) = false -> Q (.c (zB false), [], 1009, [decide (b < zN 5) == false, decide (a ≥ zN 5) == true], [])))) /\ ((decide (a ≥ zN 5)) = false -> (((decide (b < zN 5)) = true -> Q (.c (zB (asB (List.getD [zB true, zB true, zB true, zB true, zB true, zB false, zB true, zB true, zB true, zB true, zB false, zB true, zB true, zB true, zB true, zB false, zB false, zB true, zB true, zB true, zB false, zB false, zB false, zB true, zB true] (0 + zD a * 5 + zD b * 1) nov))), [], 1013, [ABlk.inb (ABlk.mk false false 237 0 (Cs.lit [zB true, zB true, zB true, zB true, zB true, zB false, zB true, zB true, zB true, zB true, zB false, zB true, zB true, zB true, zB true, zB false, zB false, zB true, zB true, zB true, zB false, zB false, zB false, zB true, zB true])) 0 (0 + zD a * 5 + zD b * 1 + 1), okl Kd.b (List.getD [zB true, zB true, zB true, zB true, zB true, zB false, zB true, zB true, zB true, zB true, zB false, zB true, zB true, zB true, zB true, zB false, zB false, zB true, zB true, zB true, zB false, zB false, zB false, zB true, zB true] (0 + zD a * 5 + zD b * 1) nov), decide (zN 0 <= b /\ b < zN 5), decide (zN 0 <= a /\ a < zN 5), decide (b < zN 5) == true, decide (a ≥ zN 5) == false], [])) /\ ((decide (b < zN 5)) = false -> Q (.c (zB false), [], 1008, [decide (b < zN 5) == false, decide (a ≥ zN 5) == false], [])))))) :
 ∃ p r, edR Tryz.prog a b p = some r /\ Q r :=
 two H (fun g1 => two g1 (fun g2 => ⟨pD 6 4, _, by kernel_rfl, g2⟩) (fun g2 => ⟨pD 6 7, _, by kernel_rfl, g2⟩)) (fun g1 => two g1 (fun g2 => ⟨pD 6 5, _, by kernel_rfl, g2⟩) (fun g2 => ⟨pD 6 8, _, by kernel_rfl, g2⟩))
theorem jjax (a b : Nat) (ha : a < 5) (hb : b < 5) : asB (List.getD (edgeL.map fun b => AC.v (.bool b)) (a * 5 + b) nov) = edgeL.getD (a * 5 + b) false /\ okl .b (List.getD (edgeL.map fun b => AC.v (.bool b)) (a * 5 + b) nov) = true := by
 have h : a * 5 + b < 25 := by omega
 generalize a * 5 + b = k at h
 match k, h with
 | 0, _ => exact ⟨rfl, rfl⟩
 | 1, _ => exact ⟨rfl, rfl⟩
 | 2, _ => exact ⟨rfl, rfl⟩
 | 3, _ => exact ⟨rfl, rfl⟩
 | 4, _ => exact ⟨rfl, rfl⟩
 | 5, _ => exact ⟨rfl, rfl⟩
 | 6, _ => exact ⟨rfl, rfl⟩
 | 7, _ => exact ⟨rfl, rfl⟩
 | 8, _ => exact ⟨rfl, rfl⟩
 | 9, _ => exact ⟨rfl, rfl⟩
 | 10, _ => exact ⟨rfl, rfl⟩
 | 11, _ => exact ⟨rfl, rfl⟩
 | 12, _ => exact ⟨rfl, rfl⟩
 | 13, _ => exact ⟨rfl, rfl⟩
 | 14, _ => exact ⟨rfl, rfl⟩
 | 15, _ => exact ⟨rfl, rfl⟩
 | 16, _ => exact ⟨rfl, rfl⟩
 | 17, _ => exact ⟨rfl, rfl⟩
 | 18, _ => exact ⟨rfl, rfl⟩
 | 19, _ => exact ⟨rfl, rfl⟩
 | 20, _ => exact ⟨rfl, rfl⟩
 | 21, _ => exact ⟨rfl, rfl⟩
 | 22, _ => exact ⟨rfl, rfl⟩
 | 23, _ => exact ⟨rfl, rfl⟩
 | 24, _ => exact ⟨rfl, rfl⟩
 | n + 25, h => exact absurd h (by omega)
def ctEdge : CtF := ctRd (pureRd mE (by kernel_rfl)) (fun | [.c (.v (.int .u8 a)), .c (.v (.int .u8 b))] => bo (edgeF a b) | _ => bo false) (fun | [.c (.v (.int .u8 a)), .c (.v (.int .u8 b))] => decide (0 <= a) && decide (0 <= b) | _ => false)
theorem jjkk : edgeL.map (fun b => AC.v (.bool b)) = [.v (.bool true), .v (.bool true), .v (.bool true), .v (.bool true), .v (.bool true), .v (.bool false), .v (.bool true), .v (.bool true), .v (.bool true), .v (.bool true), .v (.bool false), .v (.bool true), .v (.bool true), .v (.bool true), .v (.bool true), .v (.bool false), .v (.bool false), .v (.bool true), .v (.bool true), .v (.bool true), .v (.bool false), .v (.bool false), .v (.bool false), .v (.bool true), .v (.bool true)] := rfl
theorem jjin : CtOk Tryz.prog 135 ctEdge := by
 refine jj1e (E := E1 Tryz.prog) hE1 (pureRd mE (by kernel_rfl)) (fuel := 300) (str := nSt) ⟨_, _, Tryz.func135, rfl⟩ (fun s => by split <;> rfl) fun s hs => ?_
 split at hs
 . rename_i a b
   simp only [Bool.and_eq_true, decide_eq_true_eq] at hs; obtain ⟨a0, b0⟩ := hs; refine (?_ : (∃ p q, edR Tryz.prog a b p = some q /\ GoodF (bo (edgeF a b)) q) -> _) (ed a b _ ?_)
   . rintro ⟨p, q, h1, h2⟩
     exact ⟨p, _, q, h1, h2⟩
   . obtain ⟨x, rfl⟩ := Int.eq_ofNat_of_zero_le a0
     obtain ⟨y, rfl⟩ := Int.eq_ofNat_of_zero_le b0; simp only [<- jjkk]; refine ⟨fun h1 => ⟨fun h2 => ?_, fun h2 => ?_⟩, fun h1 => ⟨fun h2 => ?_, fun h2 => ?_⟩⟩
     . have h1' : (5 : Int) <= (x : Int) := by simpa using h1
       have h2' : (y : Int) < 5 := by simpa using h2
       have e := jjax 0 y (by omega) (by omega); simp only [Nat.zero_mul] at e; refine ⟨?_, (by first | (unfold lim; omega) | (dsimp only; unfold lim; omega)), ?_, by simp⟩
       . simp only [edgeF, Int.toNat_natCast, Nat.mul_one, e.1]
         simp [bo, h1', h2']
       . simp only [allT, List.forall_mem_cons, Int.toNat_natCast, Nat.mul_one, e.2]
         simp [jj8, h1', h2']; omega
     . have h2' : ¬ (y : Int) < 5 := by simpa using h2
       refine ⟨by simp [bo, edgeF, h2'], (by first | (unfold lim; omega) | (dsimp only; unfold lim; omega)), by simp [allT, h1, h2]; simp at h1 h2; omega, by simp⟩
     . have h1' : ¬ (5 : Int) <= (x : Int) := by simpa using h1
       have h2' : (y : Int) < 5 := by simpa using h2
       have e := jjax x y (by omega) (by omega); refine ⟨?_, (by first | (unfold lim; omega) | (dsimp only; unfold lim; omega)), ?_, by simp⟩
       . simp only [edgeF, Int.toNat_natCast, Nat.mul_one, Nat.zero_add, e.1]
         simp [bo, h1', h2']
       . simp only [allT, List.forall_mem_cons, Int.toNat_natCast, Nat.mul_one, Nat.zero_add, e.2]
         simp [jj8, h1', h2']; omega
     . have h2' : ¬ (y : Int) < 5 := by simpa using h2
       refine ⟨by simp [bo, edgeF, h2'], (by first | (unfold lim; omega) | (dsimp only; unfold lim; omega)), by simp [allT, h1, h2]; simp at h1 h2; omega, by simp⟩
 . cases hs
def mSE : AMem := mS ++ mE
def ENnx (P : Program) : Env := ⟨P, [(134, ctAsks), (135, ctEdge)]⟩
theorem hENnx : EnvOk (ENnx Tryz.prog) := by
 refine jj3w (fun f g h => ?_) (by kernel_rfl) (by kernel_rfl); simp only [ENnx, List.mem_cons, Prod.mk.injEq, List.not_mem_nil, or_false] at h; rcases h with ⟨rfl, rfl⟩ | ⟨rfl, rfl⟩
 . exact jjio
 . exact jjin
def nextZ (to mode : Int) : Int := if edgeF mode to = true then to else IntKind.wrap .u8 (mode - 1)
def nextR (c : Cfg) (nq : Nat) (fq : Nat -> Int) (l : List AC) (_ : List AV) : AV := .c (.v (.int .u8 (nextZ (asksC c nq fq (l.take 8) (asI (l.getD 40 nov))) (asI (l.getD 41 nov)))))
def vwGE (G : AMem) (E : Env) (f : FuncId) (c : Cfg) (nq : Nat) (fq : Nat -> Int) (v : Vw) (r : List AV) (path : List Dec) (lp : List (Option LSum)) : Option VF := viewF [] (fCallF E (fC E 300) f (.c (.ptr 5 0 0) :: .agg (vwL v) :: r) 1000 nSt (stA (G ++ netL c nq fq) path lp))
theorem mdNx (c : Cfg) (nq : Nat) (fq : Nat -> Int) (v : Vw) (Q : VF -> Prop) (H : (((edgeF (Vw.mode v) (asksC c nq fq (inL v) (Vw.command v))) = true -> Q   (AV.c (AC.v (Value.int IntKind.u8 (asksC c nq fq (inL v) (Vw.command v)))), [], 1010,     [edgeF (Vw.mode v) (asksC c nq fq (inL v) (Vw.command v)) == true, true,       match [AV.c (AC.v (Value.int IntKind.u8 (Vw.mode v))), AV.c (AC.v (Value.int IntKind.u8 (asksC c nq fq (inL v) (Vw.command v))))] with       | [AV.c (AC.v (Value.int IntKind.u8 a)), AV.c (AC.v (Value.int IntKind.u8 b))] => decide (0 <= a) && decide (0 <= b)       | x => false,       true, true, netK c nq fq, true, true, true, true, true, true, true, true, true, true, true, true, true, true, true, true, true, true, true, true, true, true, true, true, true, true, true, true, true, true, true, true, true, true, true, true, true, true, true, true, true, true, true, true],     [])) /\ ((edgeF (Vw.mode v) (asksC c nq fq (inL v) (Vw.command v))) = false -> Q   (AV.c (AC.v (Value.int IntKind.u8 (IntKind.wrap IntKind.u8 (Vw.mode v - Int.ofNat 1)))), [], 1012,     [true, true, edgeF (Vw.mode v) (asksC c nq fq (inL v) (Vw.command v)) == false, true,       match [AV.c (AC.v (Value.int IntKind.u8 (Vw.mode v))), AV.c (AC.v (Value.int IntKind.u8 (asksC c nq fq (inL v) (Vw.command v))))] with       | [AV.c (AC.v (Value.int IntKind.u8 a)), AV.c (AC.v (Value.int IntKind.u8 b))] => decide (0 <= a) && decide (0 <= b)       | x => false,       true, true, netK c nq fq, true, true, true, true, true, true, true, true, true, true, true, true, true, true, true, true, true, true, true, true, true, true, true, true, true, true, true, true, true, true, true, true, true, true, true, true, true, true, true, true, true, true, true, true],     [])))) :
 ∃ p r, vwGE mSE (ENnx Tryz.prog) 76 c nq fq v [] p [] = some r /\ Q r :=
 two H (fun g1 => ⟨pD 1 1, _, by kernel_rfl, g1⟩) (fun g1 => ⟨pD 1 2, _, by kernel_rfl, g1⟩)
def ctNext : CtF := ctRd (netRdG mSE (by kernel_rfl)) (rV nextR) (pV fun l r => r.isEmpty && decide (0 <= asI (l.getD 41 nov)))
theorem jjcl (i a : Nat) (c : Int) : 1 <= asksZ i a c /\ asksZ i a c <= 4 := by
 unfold asksZ
 repeat' split
 all_goals omega
theorem jj8t (c : Cfg) (nq : Nat) (fq : Nat -> Int) (l : List AC) (cmd : Int) : 1 <= asksC c nq fq l cmd /\ asksC c nq fq l cmd <= 4 := jjcl _ _ _
theorem jjfu : CtOk Tryz.prog 76 ctNext := by
 refine jjb4 (G := mSE) (by kernel_rfl) (E := ENnx Tryz.prog) hENnx ⟨_, _, Tryz.func76, rfl⟩ (fun _ _ _ _ _ => rfl) fun c nq fq v r hr => ?_
 simp only [Bool.and_eq_true, decide_eq_true_eq] at hr; obtain ⟨hr, h0⟩ := hr; have h0 : 0 <= v.mode := h0; obtain rfl := List.isEmpty_iff.1 hr; refine (?_ : (∃ p q, vwGE mSE (ENnx Tryz.prog) 76 c nq fq v [] p [] = some q /\ GoodF (nextR c nq fq (vwL v) []) q) -> _) (mdNx c nq fq v _ ?_)
 . rintro ⟨p, q, h1, h2⟩
   exact ⟨p, _, q, h1, h2⟩
 . have hr : nextR c nq fq (vwL v) [] = .c (.v (.int .u8 (nextZ (asksC c nq fq (inL v) v.command) v.mode))) := rfl
   have ha := jj8t c nq fq (inL v) v.command; rw [hr]; generalize asksC c nq fq (inL v) v.command = a at *
   (repeat' (first | refine ⟨fun h => ?_, fun h => ?_⟩ | fail))
   all_goals (refine ⟨?_, (by first | (unfold lim; omega) | (dsimp only; unfold lim; omega)), ?_, by simp⟩)
   . simp [nextZ, h]
   . simp [allT, jjj, jji, jj0, jj1, jj3, jjb, h, h0]; omega
   . simp [nextZ, h]
   . simp [allT, jjj, jji, jj0, jj1, jj3, jjb, h, h0]; omega
theorem jjjz (c : Cfg) (nq : Nat) (fq : Nat -> Int) (z : Int) (Q : VF -> Prop) (H : (((!decide (↑nq > Int.ofNat 0)) = true -> Q (.c (.v (.int .i64 (Int.negSucc 0))), [], 1016, [(!decide (↑nq > Int.ofNat 0)) == true, true], [])) /\ ((!decide (↑nq > Int.ofNat 0)) = false -> (((decide (z < Int.ofNat 0)) = true -> Q (.c (.v (.int .i64 (Int.negSucc 0))), [], 1028, [decide (z < Int.ofNat 0) == true, true, (!decide (↑nq > Int.ofNat 0)) == false, true], [])) /\ ((decide (z < Int.ofNat 0)) = false -> (((decide (z ≥ ↑(c.ns))) = true -> Q (.c (.v (.int .i64 (Int.negSucc 0))), [], 1032, [decide (z ≥ ↑(c.ns)) == true, decide (z < Int.ofNat 0) == false, true, (!decide (↑nq > Int.ofNat 0)) == false, true], [])) /\ ((decide (z ≥ ↑(c.ns))) = false -> Q (.c (.v (.int .i64 (c.fs (0 + Int.toNat z)))), [], 1036, [ABlk.inb (ABlk.mk false false 3 1 (yS c)) (0 + Int.toNat z) 1, true, decide (Int.ofNat 0 <= z /\ z < ↑(c.ns)), decide (z ≥ ↑(c.ns)) == false, decide (z < Int.ofNat 0) == false, true, (!decide (↑nq > Int.ofNat 0)) == false, true], [])))))))) :
 ∃ p r, netR Tryz.prog 14 c nq fq [z] p = some r /\ Q r :=
 two H (fun g1 => ⟨pD 7 729, _, by kernel_rfl, g1⟩) (fun g1 => two g1 (fun g2 => ⟨pD 12 3645, _, by kernel_rfl, g2⟩) (fun g2 => two g2 (fun g3 => ⟨pD 12 182979, _, by kernel_rfl, g3⟩) (fun g3 => ⟨pD 12 360126, _, by kernel_rfl, g3⟩)))
def ownerN (c : Cfg) (nq : Nat) (_ : Nat -> Int) (z : Int) : Int := if nq = 0 then -1 else atF c.fs c.ns z
theorem jjft : CtOk Tryz.prog 14 (ctNet (fun c nq fq zs => i64 (ownerN c nq fq (zs.headD 0))) fun c nq fq zs => true && decide (zs.length = 1)) := by
 refine jj7l ⟨_, _, Tryz.func14, rfl⟩ (fun c nq fq zs => jjs _) 1 fun c nq fq zs _ hz => ?_
 obtain ⟨z, rfl⟩ := List.length_eq_one_iff.1 hz; refine (?_ : (∃ p r, netR Tryz.prog 14 c nq fq [z] p = some r /\ (r.1 = i64 (ownerN c nq fq z) /\ r.2.2.1 <= lim /\ allT r.2.2.2.1 /\ ∀ q ∈ r.2.2.2.2, q)) -> _) (jjjz c nq fq z _ ?_)
 . rintro ⟨p, r, h1, h2⟩
   exact ⟨E1 Tryz.prog, 300, nSt, rfl, hE1, p, [], r, h1, h2⟩
 . repeat' (first | refine ⟨fun h => ?_, fun h => ?_⟩ | fail)
   all_goals (refine ⟨?_, (by first | (unfold lim; omega) | (dsimp only; unfold lim; omega)), ?_, by simp⟩)
   all_goals (simp only [Int.ofNat_eq_natCast] at *)
   all_goals (first
    | (show i64 _ = i64 _; unfold ownerN atF; simp at *; first | (rw [if_pos (by omega)]; done) | (rw [if_neg (by omega), if_neg (by omega)]; done) | (rw [if_neg (by omega), if_pos (by omega)]; done) | (intros; omega) | (split <;> first | rfl | omega))
    | (simp at *; simp [allT, jj2]; omega))
theorem jjjy (c : Cfg) (nq : Nat) (fq : Nat -> Int) (Q : VF -> Prop) (H : (((!decide (↑nq > Int.ofNat 0)) = true -> Q (.c (.v (.int .i64 (Int.ofNat 0))), [], 1016, [(!decide (↑nq > Int.ofNat 0)) == true, true], [])) /\ ((!decide (↑nq > Int.ofNat 0)) = false -> Q (.c (.v (.int .i64 (IntKind.wrap .i64 (↑(c.ns) * c.long)))), [], 130000000000000000000000000000000000001015, [true, true, true, (!decide (↑nq > Int.ofNat 0)) == false, true], [])))) :
 ∃ p r, netR Tryz.prog 12 c nq fq [] p = some r /\ Q r :=
 two H (fun g1 => ⟨pD 7 729, _, by kernel_rfl, g1⟩) (fun g1 => ⟨pD 7 1458, _, by kernel_rfl, g1⟩)
theorem jjb1 : CtOk Tryz.prog 12 (ctNet (fun c nq _ _ => i64 (roundN c nq)) fun c nq fq zs => true && decide (zs.length = 0)) := by
 refine jj7l ⟨_, _, Tryz.func12, rfl⟩ (fun c nq fq zs => jjs _) 0 fun c nq fq zs _ hz => ?_
 obtain rfl := List.length_eq_zero_iff.1 hz; refine (?_ : (∃ p r, netR Tryz.prog 12 c nq fq [] p = some r /\ (r.1 = i64 (roundN c nq) /\ r.2.2.1 <= lim /\ allT r.2.2.2.1 /\ ∀ q ∈ r.2.2.2.2, q)) -> _) (jjjy c nq fq _ ?_)
 . rintro ⟨p, r, h1, h2⟩
   exact ⟨E1 Tryz.prog, 300, nSt, rfl, hE1, p, [], r, h1, h2⟩
 . refine ⟨fun h => ?_, fun h => ?_⟩
   . refine ⟨?_, (by first | (unfold lim; omega) | (dsimp only; unfold lim; omega)), ?_, by simp⟩
     . show i64 _ = i64 _
       simp at h; simp [roundN, h]
     . simp at h
       simp [allT, h]
   . refine ⟨?_, (by first | (unfold lim; omega) | (dsimp only; unfold lim; omega)), ?_, by simp⟩
     . show i64 _ = i64 _
       simp at h; unfold roundN; rw [if_neg (by omega)]
     . simp at h
       simp [allT]; omega
def ENst (P : Program) : Env := ⟨P, [(101, ctClnSt)]⟩
theorem hENst : EnvOk (ENst Tryz.prog) := by
 refine jj3w (fun f g h => ?_) (by kernel_rfl) (by kernel_rfl); simp only [ENst, List.mem_cons, Prod.mk.injEq, List.not_mem_nil, or_false] at h; obtain ⟨rfl, rfl⟩ := h; exact jj5w
theorem anSt (c : Cfg) (nq : Nat) (fq : Nat -> Int) (z : Int) (Q : VF -> Prop) (H : let zN := Int.ofNat; let zM := ABlk.mk; let zD := Int.toNat; let y3 := fun (l : List Bool) => true :: true :: true :: l; let zt : List Bool -> List Bool := fun l => y3 (y3 (true :: true :: l)); let zq0 : List Bool := zt (zt (y3 (true :: true :: ((decide (zN 0 <= zN 0 /\ zN 0 <= Option.getD (some ↑(c.nt)) ↑(c.nt) /\ Option.getD (some ↑(c.nt)) ↑(c.nt) <= slC none (c.nt) (some ↑(c.nt)))) :: true :: (decide (slC none (c.nt) (some ↑(c.nt)) <= ↑(Option.getD none (c.nt)))) :: true :: (slRow none (zM true true 51 3 (Cs.arr (c.nt) fun k => List.map AC.v ((fun i => [Value.int .i64 (Station.node (stOf (eltZ (zM false false 51 3 (yT c)) 0 0 3) i)), Value.int .u32 (Station.safe (stOf (eltZ (zM false false 51 3 (yT c)) 0 0 3) i)), Value.int .i64 (Station.hold (stOf (eltZ (zM false false 51 3 (yT c)) 0 0 3) i))]) k))) 0 (c.nt)) :: (decide (0 + c.nt <= c.nt)) :: (decide (c.nt <= 1000000)) :: (stsOk (c.nt) fun k => List.map AC.v ((fun i => [Value.int .i64 (Station.node (c.ft i)), Value.int .u32 (Station.safe (c.ft i)), Value.int .i64 (Station.hold (c.ft i))]) k)) :: true :: true :: (decide (zN 0 <= zN 0 /\ zN 0 <= Option.getD (some ↑(0 + c.nb)) ↑(0 + c.nb) /\ Option.getD (some ↑(0 + c.nb)) ↑(0 + c.nb) <= slC none (0 + c.nb) (some ↑(0 + c.nb)))) :: true :: (decide (slC none (0 + c.nb) (some ↑(0 + c.nb)) <= ↑(Option.getD none (0 + c.nb)))) :: true :: (slRow none (zM true true 3 1 (Cs.arr (0 + c.nb) fun i => if i < 0 then [] else elt (zM false false 3 1 (yB c)) 0 0 1 (i - 0))) 0 (0 + c.nb)) :: (decide (0 + c.nb <= c.nb)) :: true :: true :: (decide ((0 + c.nb) * 8 <= 140737488355328)) :: (ABlk.inb (zM false false 3 1 (yB c)) 0 1) :: y3 (true :: (decide (zN 0 <= zN 0 /\ zN 0 <= Option.getD (some ↑(0 + c.ns)) ↑(0 + c.ns) /\ Option.getD (some ↑(0 + c.ns)) ↑(0 + c.ns) <= slC none (0 + c.ns) (some ↑(0 + c.ns)))) :: true :: (decide (slC none (0 + c.ns) (some ↑(0 + c.ns)) <= ↑(Option.getD none (0 + c.ns)))) :: true :: (slRow none (zM true true 3 1 (Cs.arr (0 + c.ns) fun i => if i < 0 then [] else elt (zM false false 3 1 (yS c)) 0 0 1 (i - 0))) 0 (0 + c.ns)) :: (decide (0 + c.ns <= c.ns)) :: true :: true :: (decide ((0 + c.ns) * 8 <= 140737488355328)) :: (ABlk.inb (zM false false 3 1 (yS c)) 0 1) :: y3 (true :: (decide (zN 0 <= zN 0 /\ zN 0 <= Option.getD (some ↑(0 + c.np)) ↑(0 + c.np) /\ Option.getD (some ↑(0 + c.np)) ↑(0 + c.np) <= slC none (0 + c.np) (some ↑(0 + c.np)))) :: true :: (decide (slC none (0 + c.np) (some ↑(0 + c.np)) <= ↑(Option.getD none (0 + c.np)))) :: true :: (slRow none (zM true true 3 1 (Cs.arr (0 + c.np) fun i => if i < 0 then [] else elt (zM false false 3 1 (yP c)) 0 0 1 (i - 0))) 0 (0 + c.np)) :: (decide (0 + c.np <= c.np)) :: true :: true :: (decide ((0 + c.np) * 8 <= 140737488355328)) :: (ABlk.inb (zM false false 3 1 (yP c)) 0 1) :: (zt (true :: (((!decide (↑nq > zN 0)) == false) :: true :: []))))))))); let zq1 : List Bool := (decide (z < zN 0) == false) :: zq0; (((decide (z < zN 0)) = true -> Q (.tup [.agg [.v (.int .i64 (zN 0)), .v (.int .u32 (zN 0)), .v (.int .i64 (zN 0))], .c (.v (.bool false))], [], 1137, (y3 (true :: true :: (decide (z < zN 0) == true) :: zq0)), [])) /\ ((decide (z < zN 0)) = false -> (((decide (z ≥ ↑(zD (Option.getD (some ↑(c.nt)) ↑(c.nt) - zN 0)))) = true -> Q (.tup [.agg [.v (.int .i64 (zN 0)), .v (.int .u32 (zN 0)), .v (.int .i64 (zN 0))], .c (.v (.bool false))], [], 1141, (y3 (true :: true :: (decide (z ≥ ↑(zD (Option.getD (some ↑(c.nt)) ↑(c.nt) - zN 0))) == true) :: zq1)), [])) /\ ((decide (z ≥ ↑(zD (Option.getD (some ↑(c.nt)) ↑(c.nt) - zN 0)))) = false -> Q (.tup [.agg [.v (.int .i64 (Station.node (stOf (fun k => List.map AC.v ((fun i => [Value.int .i64 (Station.node (c.ft i)), Value.int .u32 (Station.safe (c.ft i)), Value.int .i64 (Station.hold (c.ft i))]) k)) (0 + zD z)))), .v (.int .u32 (Station.safe (stOf (fun k => List.map AC.v ((fun i => [Value.int .i64 (Station.node (c.ft i)), Value.int .u32 (Station.safe (c.ft i)), Value.int .i64 (Station.hold (c.ft i))]) k)) (0 + zD z)))), .v (.int .i64 (Station.hold (stOf (fun k => List.map AC.v ((fun i => [Value.int .i64 (Station.node (c.ft i)), Value.int .u32 (Station.safe (c.ft i)), Value.int .i64 (Station.hold (c.ft i))]) k)) (0 + zD z))))], .c (.v (.bool true))], [], 1144, (y3 (true :: true :: (ABlk.inb (zM true true 51 3 (Cs.arr (c.nt) fun k => List.map AC.v ((fun i => [Value.int .i64 (Station.node (stOf (eltZ (zM false false 51 3 (yT c)) 0 0 3) i)), Value.int .u32 (Station.safe (stOf (eltZ (zM false false 51 3 (yT c)) 0 0 3) i)), Value.int .i64 (Station.hold (stOf (eltZ (zM false false 51 3 (yT c)) 0 0 3) i))]) k))) (0 + zD z) 3) :: y3 ((decide (zN 0 <= z /\ z < ↑(zD (Option.getD (some ↑(c.nt)) ↑(c.nt) - zN 0)))) :: (decide (z ≥ ↑(zD (Option.getD (some ↑(c.nt)) ↑(c.nt) - zN 0))) == false) :: zq1))), [])))))) :
 ∃ p r, ntE (ENst Tryz.prog) 110 c nq fq [i64 z] p [] = some r /\ Q r :=
 two H (fun g1 => ⟨pD 19 4784427, _, by kernel_rfl, g1⟩) (fun g1 => two g1 (fun g2 => ⟨pD 19 396987885, _, by kernel_rfl, g2⟩) (fun g2 => ⟨pD 19 784408374, _, by kernel_rfl, g2⟩))
abbrev i64sB (a : Int) (k : Nat) : ABlk := wBlk 2 1 k fun i => [.int .i64 (a + Int.ofNat i)]
abbrev roundF (a h : Int) (l k : Nat) : List (Nat × AV) := [(0, i64 a), (1, i64 h), (5, .c (.sl 2000 0 0 l none)), (7, i64 h), (8, i64 (Int.ofNat k))]
def roundR (P : Program) (a h : Int) (l k : Nat) (path : List Dec) : Option VC :=
 view [0, 1, 5, 7, 8] [2000, 1000000000000000000000000000000000000000013] (fC (E1 P) 100 (loopAt P 117 0) 1000000000000000000000000000000000000000000 nSt ⟨mkFr 24 (roundF a h l k), [(2000, i64sB a l)], 0, 0, false, path, [], [], [], none, []⟩)
theorem anRd (a h : Int) (l k : Nat) (Q : VC -> Prop) (H : (((decide (Int.ofNat k < h)) = true -> (((decide (IntKind.wrap .i64 (a + Int.ofNat k) ≥ a)) = true -> Q (Exit.normal, [some (lkA (roundF a h l k) 0), some (lkA (roundF a h l k) (0 + 1)), some (.c (.sl 1000000000000000000000000000000000000000013 0 0 (l + 1) none)), some (lkA (roundF a h l k) (0 + 1 + 1 + 1 + 1 + 1 + 1 + 1)), some (.c (.v (.int .i64 (IntKind.wrap .i64 (Int.ofNat k + Int.ofNat 1)))))], [none, some (ABlk.mk true true 2 1 (Cs.arr (l + 1) fun i => if i < l then List.map AC.v ((fun i => [Value.int .i64 (a + Int.ofNat i)]) i) else elt (ABlk.mk true false 2 0 (Cs.lit [.v (.int .i64 (IntKind.wrap .i64 (a + Int.ofNat k)))])) 0 0 1 (i - l)))], 24, 1000000000000000000000000000000000000000017, [true, true, decide (l <= l), decide ((l + 1) * 8 <= 140737488355328), decide (IntKind.wrap .i64 (a + Int.ofNat k) ≥ a) == true, decide (Int.ofNat k < h) == true], [])) /\ ((decide (IntKind.wrap .i64 (a + Int.ofNat k) ≥ a)) = false -> Q (Exit.normal, [some (lkA (roundF a h l k) 0), some (lkA (roundF a h l k) (0 + 1)), some (lkA (roundF a h l k) (0 + 1 + 1 + 1 + 1 + 1)), some (lkA (roundF a h l k) (0 + 1 + 1 + 1 + 1 + 1 + 1 + 1)), some (.c (.v (.int .i64 (IntKind.wrap .i64 (Int.ofNat k + Int.ofNat 1)))))], [some (ABlk.mk true true 2 1 (Cs.arr l fun k => List.map AC.v ((fun i => [Value.int .i64 (a + Int.ofNat i)]) k))), none], 24, 1000000000000000000000000000000000000000010, [decide (IntKind.wrap .i64 (a + Int.ofNat k) ≥ a) == false, decide (Int.ofNat k < h) == true], [])))) /\ ((decide (Int.ofNat k < h)) = false -> Q (Exit.exit 0, [some (lkA (roundF a h l k) 0), some (lkA (roundF a h l k) (0 + 1)), some (lkA (roundF a h l k) (0 + 1 + 1 + 1 + 1 + 1)), some (lkA (roundF a h l k) (0 + 1 + 1 + 1 + 1 + 1 + 1 + 1)), some (lkA (roundF a h l k) (0 + 1 + 1 + 1 + 1 + 1 + 1 + 1 + 1))], [some (ABlk.mk true true 2 1 (Cs.arr l fun k => List.map AC.v ((fun i => [Value.int .i64 (a + Int.ofNat i)]) k))), none], 24, 1000000000000000000000000000000000000000001, [decide (Int.ofNat k < h) == false], [])))) :
 ∃ p r, roundR Tryz.prog a h l k p = some r /\ Q r :=
 two H (fun g1 => two g1 (fun g2 => ⟨pD 2 4, _, by kernel_rfl, g2⟩) (fun g2 => ⟨pD 2 7, _, by kernel_rfl, g2⟩)) (fun g1 => ⟨pD 1 2, _, by kernel_rfl, g1⟩)
theorem jjhp (f : Nat -> Int) (n : Nat) (v : Int) (N : Nat) (hN : 1 <= N) (hN2 : N <= 1000000000000000000000000000000000000000000) (hn : n <= 1000000) (j : Nat) (hj : j <= n) (hmin : ∀ i, i < j -> f i ≠ v) (hyes : j < n -> f j = v) {e : Exit} {out : List (Nat × AV)}
 (hF : (j < n -> e = .ret /\ out = [(4, i64 (Int.ofNat j))]) /\ (j = n -> e = .exit 0 /\ out = [])) :
 LoopV Tryz.prog (loopAt Tryz.prog 154 0) [0, 1, 7, 8] [0] ((ixlV v n 0).map some) ([ints 2 n f].map some) 19 N (mkFr 19 out) [] 100000000000000000000000000000000000000000000000000 e none := by
 have e0 : ∀ k : Nat, 0 + Int.toNat (Int.ofNat k) = k := fun k => by simp
 have hw : ∀ k, k < n -> IntKind.wrap IntKind.i64 (Int.ofNat k + Int.ofNat 1) = Int.ofNat (k + 1) := fun k hk => by rw [jj6 _ (by simp; omega) (by simp; omega)]; rfl
 refine jj25 hE1 (fuel := 100) (str := nSt) (nh := 1000000000000000000000000000000000000000000) [0, 1, 7, 8] [4] [0] (ixlV v n) [ints 2 n f] j hN2 (by decide) (by unfold lim; omega) ?_ (fun _ => ⟨rfl, rfl⟩) ?_ ?_ ?_ ?_ ?_
 . rcases Nat.lt_or_ge j n with h | h
   . rw [(hF.1 h).1]; simp
   . rw [(hF.2 (by omega)).1]; simp
 . simp [keptB]; omega
 . intro k _
   simp [okV, lowV, lowC, notAny, i64]; omega
 . intro b hb
   rw [List.mem_singleton.1 hb]; exact jj1d
 . intro k hk
   have hm := hmin k hk; refine ixl f n v k _ ⟨fun c1 => ⟨fun c2 => ?_, fun c2 => ?_⟩, fun c1 => ?_⟩ <;> simp only [e0] at *
   . simp at c2; exact absurd c2.symm hm
   . have hlt : k < n := by omega
     simp at c2; refine ⟨⟨?_, rfl, by dsimp only; omega, rfl⟩, rfl, ?_, BL.refl _⟩
     . simp only [allT, List.forall_mem_cons, e0]
       simp [jj2, hlt, c2]
     . dsimp only; rw [hw k hlt]; rfl
   . simp at c1; omega
 . refine ixl f n v j _ ⟨fun c1 => ⟨fun c2 => ?_, fun c2 => ?_⟩, fun c1 => ?_⟩ <;> simp only [e0] at *
   . have hlt : j < n := by simpa using c1
     obtain ⟨rfl, rfl⟩ := hF.1 hlt; refine jjx ⟨?_, rfl, by dsimp only; omega, rfl⟩ rfl rfl ?_
     . simp only [allT, List.forall_mem_cons, e0]
       simp at c2; simp [jj2, hlt, c2]
     . simp [i64]
   . have hlt : j < n := by simpa using c1
     simp at c2; exact absurd (hyes hlt).symm c2
   . have hlt : ¬ j < n := by simpa using c1
     obtain ⟨rfl, rfl⟩ := hF.2 (by omega); refine jj2g ⟨?_, rfl, by dsimp only; omega, rfl⟩ rfl; simp [allT]; omega
theorem jj6l (f : Nat -> Int) (n : Nat) (v : Int) (hn : n <= 1000000) : ∃ p lp r, viewF [] (fCallF (E1 Tryz.prog) (fC (E1 Tryz.prog) 300) 116 (.c (.sl 0 0 0 n none) :: [i64 v]) 1000 nSt (stA [(0, ints 2 n f)] p lp)) = some r /\
 r.1 = bo (hasF f n v) /\ r.2.2.1 <= lim /\ allT r.2.2.2.1 /\ ∀ q ∈ r.2.2.2.2, q := by
 obtain ⟨j, hj, hmin, hyes⟩ := jj15 n fun i => f i == v
 have hmin' : ∀ i, i < j -> f i ≠ v := fun i hi => by simpa using hmin i hi
 rcases Nat.lt_or_ge j n with h | h
 . have hy : f j = v := by simpa using hyes h
   refine ⟨_, _, _, jj6k f n v j, ?_, by dsimp only; unfold lim; omega, by simp [allT], fun q hq => ?_⟩
   . have : hasF f n v = true := List.any_eq_true.2 ⟨j, by simpa using h, by simp [hy]⟩
     simp [bo, this]
   . rw [List.mem_singleton.1 hq]
     exact jjhp f n v _ (by omega) (by omega) hn j hj hmin' (fun _ => hy) ⟨fun _ => ⟨rfl, rfl⟩, fun h => by omega⟩
 . obtain rfl : j = n := by omega
   refine ⟨_, _, _, jj7o f j v, ?_, by dsimp only; unfold lim; omega, by simp [allT], fun q hq => ?_⟩
   . have : hasF f j v = false := List.any_eq_false.2 fun i hi => by have := hmin' i (by simpa using hi); simpa using this
     simp [bo, this]
   . rw [List.mem_singleton.1 hq]
     exact jjhp f j v _ (by omega) (by omega) hn j hj hmin' (fun h => by omega) ⟨fun h => by omega, fun _ => ⟨rfl, rfl⟩⟩
def ctContainsL : CtF
 | [.c a, .c (.v (.int .i64 v))], m, _ => match slOf 1 m a with | some (n, F, b) => some (bo (hasF (fA F) n v), [], 0, [b, decide (n <= 1000000), intsOk n F]) | none => none
 | _, _, _ => none
theorem jj7j : CtOk Tryz.prog 116 ctContainsL := by
 refine ⟨⟨_, _, Tryz.func116, rfl⟩, fun C β m m2 w args ib r news k' ob vs hct ho hs hr hfree hlim hv => ?_⟩; unfold ctContainsL at hct; split at hct
 . rename_i a v
   split at hct
   . rename_i n F b hsl
     simp only [Option.some.injEq, Prod.mk.injEq] at hct; obtain ⟨rfl, rfl, rfl, rfl⟩ := hct; simp only [allT, List.forall_mem_cons, decide_eq_true_eq] at ho; obtain ⟨rfl, o2, o3, _⟩ := ho; exact jjgz hE1 hs hr hsl o3 hv (jj2h [.int .i64 v] rfl) (fun _ _ _ h => h) 2 (jj6l (fA F) n v o2)
   . cases hct
 . cases hct
def lenR (a : Int) (k : Nat) : Nat := min k (9223372036854775808 - a).toNat
theorem jj7w (x : Int) (h0 : 9223372036854775808 <= x) (h1 : x <= 18446744073709551615) : IntKind.wrap IntKind.i64 x = x - 18446744073709551616 := by
 simp only [IntKind.wrap, IntKind.bits, IntKind.signed]
 first | omega | (simp; omega)
theorem jjbo (a h : Int) (n : Nat) (hn : 14 <= n) (hn2 : n <= 2000) (h0 : 0 <= h) (h1 : h <= 1000000) (a0 : -9223372036854775808 <= a) (a1 : a <= 9223372036854775807) :
 LoopV Tryz.prog (loopAt Tryz.prog 117 0) [0, 1, 5, 7, 8] [] [some (i64 a), some (i64 h), some (.c (.v (.slice none 0 0))), some (i64 h), some (i64 0)] [] 24 n
  (mkFr 24 [(5, .c (.sl 2000 0 0 (lenR a h.toNat) none))]) [(2000, i64sB a (lenR a h.toNat))] 100000000000000000000000000000000000000000000000000 (.exit 0) none := by
 refine jj6g hE1 (fuel := 100) (S := Nat) (inv := fun k => k <= h.toNat) (μ := fun k => h.toNat - k) (tmI := fun k => mkFr 24 (roundF a h (lenR a k) k)) (mI := fun k => [(2000, i64sB a (lenR a k))]) (nh := 1000000000000000000000000000000000000000000) (str := nSt) (by omega) (by omega) (fun _ h => by cases h) (s0 := 0) (by omega) ?_ ?_
 . intro tm m g1 g2 g3
   simp only [List.map_cons, List.map_nil, List.cons.injEq, and_true] at g1; obtain ⟨s0, s1, s5, s7, s8⟩ := g1; have e0 : lenR a 0 = 0 := by simp [lenR]
   simp only [e0]; refine jj8z (ρ := fun _ => .inr 1) (by omega) (by omega) (by unfold lim; omega) g3 ?_ ?_ ?_
   . simp [rnOk]
   . exact ⟨.inr (.inr (.inl ⟨by omega, by omega, rfl, Nat.one_pos, _, rfl⟩)), trivial⟩
   . exact ⟨⟨_, s0, by simp [i64], jj1u rfl⟩, ⟨_, s1, by simp [i64], jj1u rfl⟩, ⟨_, s5, by simp, jjg5 (by omega) (by omega) (by omega) rfl⟩, ⟨_, s7, by simp [i64], jj1u rfl⟩, ⟨_, s8, by simp [i64], jj1u rfl⟩, trivial⟩
 . intro k hk
   have hk1 : IntKind.wrap IntKind.i64 (Int.ofNat k + Int.ofNat 1) = Int.ofNat (k + 1) := by rw [jj6 _ (by simp; omega) (by simp; omega)]; rfl
   refine (?_ : (∃ p r, roundR Tryz.prog a h (lenR a k) k p = some r /\ _) -> _) (anRd a h (lenR a k) k (fun r => allT r.2.2.2.2.2.1 /\ r.2.2.2.2.2.2 = [] /\ r.2.2.2.2.1 <= 100000000000000000000000000000000000000000000000000 /\
    ∀ st' : St, [0, 1, 5, 7, 8].map (fun t => st'.tm[t]?) = r.2.1 -> [2000, 1000000000000000000000000000000000000000013].map (look st'.m) = r.2.2.1 -> st'.tm.length = r.2.2.2.1 ->
     ((r.1 = .normal /\ ∃ s', s' <= h.toNat /\ h.toNat - s' < h.toNat - k /\ Wk n 1000000000000000000000000000000000000000000 100000000000000000000000000000000000000000000000000 st'.tm st'.m (mkFr 24 (roundF a h (lenR a s') s')) [(2000, i64sB a (lenR a s'))]) \/
      (r.1 ≠ .normal /\ r.1 = .exit 0 /\ Wk n 100000000000000000000000000000000000000000000000000 100000000000000000000000000000000000000000000000000 st'.tm st'.m (mkFr 24 [(5, .c (.sl 2000 0 0 (lenR a h.toNat) none))]) [(2000, i64sB a (lenR a h.toNat))]))) ⟨fun c1 => ⟨fun c2 => ?_, fun c2 => ?_⟩, fun c1 => ?_⟩)
   . rintro ⟨p, ⟨e, l, b, len, n1, ob, po⟩, hv, hob, hpo, hn1, hw⟩
     obtain ⟨st, v1, v2, v3, v4, v6, v7, v8⟩ := jj47 hv; exact ⟨p, [], e, n1, st, v1, hn1, ⟨by rw [v6]; exact hob, by rw [v7]; have hpo : po = [] := hpo; rw [hpo]; simp⟩, v8, hw st v2 v3 v4⟩
   . have hlt : (k : Int) < h := by simpa using c1
     have hin : a + k <= 9223372036854775807 := by
      rcases (show a + k <= 9223372036854775807 \/ 9223372036854775808 <= a + k by omega) with h | h
      . exact h
      . exfalso
        have := jj7w (a + Int.ofNat k) (by simp; omega) (by simp; omega); rw [this] at c2; simp at c2; omega
     have hw : IntKind.wrap .i64 (a + Int.ofNat k) = a + Int.ofNat k := jj6 _ (by simp; omega) (by simp; omega); have e1 : lenR a k = k := by unfold lenR; omega
     have e2 : lenR a (k + 1) = k + 1 := by unfold lenR; omega
     refine ⟨?_, rfl, by dsimp only; omega, fun st' v2 v3 v4 => .inl ⟨rfl, k + 1, by omega, by omega, ?_⟩⟩
     . simp only [allT, List.forall_mem_cons, hw]
       simp only [Int.ofNat_eq_natCast]; simp [hlt]; omega
     . rw [e2]
       rw [e1] at v2 v3; simp only [List.map_cons, List.map_nil, List.cons.injEq, and_true] at v2 v3; obtain ⟨s0, s1, s5, s7, s8⟩ := v2; obtain ⟨b22, b1013⟩ := v3; refine jj8z (ρ := fun _ => .inl 1000000000000000000000000000000000000000013) (by omega) (by omega) (by unfold lim; omega) v4 ?_ ?_ ?_
       . simp [rnOk]
       . exact ⟨.inr (.inl ⟨by omega, by omega, 1000000000000000000000000000000000000000013, _, rfl, b1013, jj7u (f := fun i => [.int .i64 (a + Int.ofNat i)]) (g := fun i => [.int .i64 (a + Int.ofNat i)]) (l := [.int .i64 (IntKind.wrap IntKind.i64 (a + Int.ofNat k))]) rfl (fun _ _ => rfl) (by simp only [hw]), jjg⟩), trivial⟩
       . exact ⟨⟨_, s0, by simp [i64, lkA], jj1u rfl⟩, ⟨_, s1, by simp [i64, lkA], jj1u rfl⟩, ⟨_, s5, by simp, jjcv (by omega) (by omega) (by omega) rfl⟩, ⟨_, s7, by simp [i64, lkA], jj1u rfl⟩, ⟨_, s8, by simp, jj1u (by rw [hk1])⟩, trivial⟩
   . have hlt : (k : Int) < h := by simpa using c1
     have hout : 9223372036854775808 <= a + k := by
      rcases (show a + k <= 9223372036854775807 \/ 9223372036854775808 <= a + k by omega) with h | h
      . exfalso
        rw [jj6 _ (by simp; omega) (by simp; omega)] at c2; simp at c2; omega
      . exact h
     have e2 : lenR a (k + 1) = lenR a k := by unfold lenR; omega
     refine ⟨?_, rfl, by dsimp only; omega, fun st' v2 v3 v4 => .inl ⟨rfl, k + 1, by omega, by omega, ?_⟩⟩
     . have hwo : IntKind.wrap IntKind.i64 (a + (k : Int)) = a + k - 18446744073709551616 := jj7w _ (by omega) (by omega)
       simp [allT, hwo]; omega
     . rw [e2]
       simp only [List.map_cons, List.map_nil, List.cons.injEq, and_true] at v2 v3; obtain ⟨s0, s1, s5, s7, s8⟩ := v2; obtain ⟨b22, b1013⟩ := v3; refine jj8z (ρ := fun _ => .inl 2000) (by omega) (by omega) (by unfold lim; omega) v4 ?_ ?_ ?_
       . simp [rnOk]
       . exact ⟨.inr (.inl ⟨by omega, by omega, 2000, _, rfl, b22, ⟨rfl, rfl, rfl, rfl, .inr (.inl ⟨_, _, _, rfl, rfl, fun _ _ => rfl⟩)⟩, jjg⟩), trivial⟩
       . exact ⟨⟨_, s0, by simp [i64, lkA], jj1u rfl⟩, ⟨_, s1, by simp [i64, lkA], jj1u rfl⟩, ⟨_, s5, by simp [lkA], jjcv (by omega) (by omega) (by omega) rfl⟩, ⟨_, s7, by simp [i64, lkA], jj1u rfl⟩, ⟨_, s8, by simp, jj1u (by rw [hk1])⟩, trivial⟩
   . have hlt : ¬ (k : Int) < h := by simpa using c1
     obtain rfl : k = h.toNat := by omega
     refine ⟨?_, rfl, by dsimp only; omega, fun st' v2 v3 v4 => .inr ⟨by simp, rfl, ?_⟩⟩
     . simp [allT]; omega
     . simp only [List.map_cons, List.map_nil, List.cons.injEq, and_true] at v2 v3
       obtain ⟨s0, s1, s5, s7, s8⟩ := v2; obtain ⟨b22, b1013⟩ := v3; refine jj8z (ρ := fun _ => .inl 2000) (by omega) (by omega) (by unfold lim; omega) v4 ?_ ?_ ?_
       . simp [rnOk]
       . exact ⟨.inr (.inl ⟨by omega, by omega, 2000, _, rfl, b22, ⟨rfl, rfl, rfl, rfl, .inr (.inl ⟨_, _, _, rfl, rfl, fun _ _ => rfl⟩)⟩, jjg⟩), trivial⟩
       . exact ⟨⟨_, s5, by simp [lkA], jjcv (by omega) (by omega) (by omega) rfl⟩, trivial⟩
def roundS (a h : Int) : LSum := ⟨[0, 1, 5, 7, 8], [], mkFr 24 [(5, .c (.sl 2000 0 0 (lenR a h.toNat) none))], [(2000, i64sB a (lenR a h.toNat))], 100000000000000000000000000000000000000000000000000, .exit 0⟩
def rdsL (P : Program) (a h : Int) : Option VF := viewF [2000] (fCallF (E1 P) (fC (E1 P) 300) 117 [i64 a, i64 h] 10 nSt (stA [] [] [some (roundS a h)]))
theorem jjep (a h : Int) : rdsL Tryz.prog a h =
 some (.c (.sl 2000 0 0 (lenR a (Int.toNat h)) none), [some (ABlk.mk true true 2 1 (Cs.arr (lenR a (Int.toNat h)) fun k => List.map AC.v ((fun i => [Value.int .i64 (a + Int.ofNat i)]) k)))], 100000000000000000000000000000000000000000000000002, [], [LoopV Tryz.prog (loopAt Tryz.prog 117 0) [0, 1, 5, 7, 8] [] [some (.c (.v (.int .i64 a))), some (.c (.v (.int .i64 h))), some (.c (AC.v (Value.slice none 0 0))), some (.c (.v (.int .i64 h))), some (.c (.v (.int .i64 (Int.ofNat 0))))] [] 24 14 (mkFr 24 [(5, .c (.sl 2000 0 0 (lenR a (Int.toNat h)) none))]) [(2000, i64sB a (lenR a (Int.toNat h)))] 100000000000000000000000000000000000000000000000000 (Exit.exit 0) none]) := by kernel_rfl
def ctsRd : List (FuncId × CtF) := [(101, ctClnSt), (126, ctSc .u8 upZ), (128, ctSc .u16 penZ), (127, ctSc .u16 rewZ)]
theorem jjfo : ∀ f g, (f, g) ∈ ctsRd -> CtOk Tryz.prog f g := by
 intro f g h; simp only [ctsRd, List.mem_cons, Prod.mk.injEq, List.not_mem_nil, or_false] at h; rcases h with ⟨rfl, rfl⟩ | ⟨rfl, rfl⟩ | ⟨rfl, rfl⟩ | ⟨rfl, rfl⟩
 . exact jj5w
 . exact ct_up
 . exact jjkx
 . exact jjkw
def ENrd (P : Program) : Env := ⟨P, ctsRd⟩
theorem hENrd : EnvOk (ENrd Tryz.prog) := jj3w jjfo (by kernel_rfl) (by kernel_rfl)
def vw0 : Vw := ⟨fun _ => false, fun _ => 0, fun _ => 0, fun _ => 0, fun _ => false, 0, 0⟩
abbrev rdH : List Nat := [3, 4, 5, 11, 12]
abbrev rdS (u : Vw) : LSum := ⟨rdH, [1000, 1001, 1128], mkFr 99 [(3, .c (.ptr 1000 0 0)), (4, .c (.ptr 1001 0 0))], [(1000, vwB u), (1001, vwB vw0)], 100000000000000000000000000000000000000000000000000, .exit 0⟩
theorem mbRdD (c : Cfg) (nq : Nat) (fq : Nat -> Int) (v u : Vw) (Q : VF -> Prop) (H : let zU := fun z : Int => AC.v (Value.int .u8 z); let zH := fun z : Int => AC.v (Value.int .u16 z); let zB := fun z : Bool => AC.v (Value.bool z); let zN := Int.ofNat; let zM := ABlk.mk; let zD := Int.toNat; let y3 := fun (l : List Bool) => true :: true :: true :: l; let z8 := fun (f : Nat -> AC) (l : List AC) => f 0 :: f 1 :: f 2 :: f 3 :: f 4 :: f 5 :: f 6 :: f 7 :: l; let zt : List Bool -> List Bool := fun l => y3 (y3 (true :: true :: l)); let zu : List Bool -> List Bool := fun l => zt (zt (zt (zt l))); Q (.agg (z8 (fun zk => zB (Vw.inn u zk)) (z8 (fun zk => zU (Vw.miss u zk)) (z8 (fun zk => zU (Vw.good u zk)) (z8 (fun zk => zH (Vw.score u zk)) (z8 (fun zk => zB (Vw.got u zk)) [.v (.int .i8 (Vw.command u)), zU (Vw.mode u)]))))), [], 100000000000000000000000000000000000000000000000002, (zu (zu (zu (zt (y3 (y3 (((decide (zN 0 <= zN 0 /\ zN 0 <= Option.getD (some ↑(c.nt)) ↑(c.nt) /\ Option.getD (some ↑(c.nt)) ↑(c.nt) <= slC none (c.nt) (some ↑(c.nt)))) :: true :: (decide (slC none (c.nt) (some ↑(c.nt)) <= ↑(Option.getD none (c.nt)))) :: true :: (slRow none (zM true true 51 3 (Cs.arr (c.nt) fun k => List.map AC.v ((fun i => [Value.int .i64 (Station.node (stOf (eltZ (zM false false 51 3 (yT c)) 0 0 3) i)), Value.int .u32 (Station.safe (stOf (eltZ (zM false false 51 3 (yT c)) 0 0 3) i)), Value.int .i64 (Station.hold (stOf (eltZ (zM false false 51 3 (yT c)) 0 0 3) i))]) k))) 0 (c.nt)) :: (decide (0 + c.nt <= c.nt)) :: (decide (c.nt <= 1000000)) :: (stsOk (c.nt) fun k => List.map AC.v ((fun i => [Value.int .i64 (Station.node (c.ft i)), Value.int .u32 (Station.safe (c.ft i)), Value.int .i64 (Station.hold (c.ft i))]) k)) :: true :: true :: (decide (zN 0 <= zN 0 /\ zN 0 <= Option.getD (some ↑(0 + c.nb)) ↑(0 + c.nb) /\ Option.getD (some ↑(0 + c.nb)) ↑(0 + c.nb) <= slC none (0 + c.nb) (some ↑(0 + c.nb)))) :: true :: (decide (slC none (0 + c.nb) (some ↑(0 + c.nb)) <= ↑(Option.getD none (0 + c.nb)))) :: true :: (slRow none (zM true true 3 1 (Cs.arr (0 + c.nb) fun i => if i < 0 then [] else elt (zM false false 3 1 (yB c)) 0 0 1 (i - 0))) 0 (0 + c.nb)) :: (decide (0 + c.nb <= c.nb)) :: true :: true :: (decide ((0 + c.nb) * 8 <= 140737488355328)) :: (ABlk.inb (zM false false 3 1 (yB c)) 0 1) :: y3 (true :: (decide (zN 0 <= zN 0 /\ zN 0 <= Option.getD (some ↑(0 + c.ns)) ↑(0 + c.ns) /\ Option.getD (some ↑(0 + c.ns)) ↑(0 + c.ns) <= slC none (0 + c.ns) (some ↑(0 + c.ns)))) :: true :: (decide (slC none (0 + c.ns) (some ↑(0 + c.ns)) <= ↑(Option.getD none (0 + c.ns)))) :: true :: (slRow none (zM true true 3 1 (Cs.arr (0 + c.ns) fun i => if i < 0 then [] else elt (zM false false 3 1 (yS c)) 0 0 1 (i - 0))) 0 (0 + c.ns)) :: (decide (0 + c.ns <= c.ns)) :: true :: true :: (decide ((0 + c.ns) * 8 <= 140737488355328)) :: (ABlk.inb (zM false false 3 1 (yS c)) 0 1) :: y3 (true :: (decide (zN 0 <= zN 0 /\ zN 0 <= Option.getD (some ↑(0 + c.np)) ↑(0 + c.np) /\ Option.getD (some ↑(0 + c.np)) ↑(0 + c.np) <= slC none (0 + c.np) (some ↑(0 + c.np)))) :: true :: (decide (slC none (0 + c.np) (some ↑(0 + c.np)) <= ↑(Option.getD none (0 + c.np)))) :: true :: (slRow none (zM true true 3 1 (Cs.arr (0 + c.np) fun i => if i < 0 then [] else elt (zM false false 3 1 (yP c)) 0 0 1 (i - 0))) 0 (0 + c.np)) :: (decide (0 + c.np <= c.np)) :: true :: true :: (decide ((0 + c.np) * 8 <= 140737488355328)) :: (ABlk.inb (zM false false 3 1 (yP c)) 0 1) :: (zt (true :: (((!decide (↑nq > zN 0)) == false) :: true :: []))))))))))))), [LoopV Tryz.prog (loopAt Tryz.prog 74 0) rdH [1000, 1001, 1128] [some (.c (.ptr 1000 0 0)), some (.c (.ptr 1001 0 0)), some (.c (.ptr 1128 0 0)), some (.c (.v (.int .i64 ↑(zD (Option.getD (some ↑(0 + c.np)) ↑(0 + c.np) - zN 0))))), some (.c (.v (.int .i64 (zN 0))))] [some (zM true false 59 0 (Cs.lit (vwL v))), some (zM true false 59 0 (Cs.lit (z8 (fun zk => zB false) (z8 (fun zk => zU (zN 0)) (z8 (fun zk => zU (zN 0)) (z8 (fun zk => zH (zN 0)) (z8 (fun zk => zB false) [.v (.int .i8 (zN 0)), zU (zN 0)]))))))), some (zM true false 25 0 (Cs.lit [.v (.int .i64 (c.nodes)), AC.sl 1043 0 0 (zD (Option.getD (some ↑(0 + c.np)) ↑(0 + c.np) - zN 0)) (some (zD (↑(0 + c.np) - zN 0))), AC.sl 1070 0 0 (zD (Option.getD (some ↑(0 + c.ns)) ↑(0 + c.ns) - zN 0)) (some (zD (↑(0 + c.ns) - zN 0))), .v (.int .i64 (c.long)), AC.sl 1097 0 0 (zD (Option.getD (some ↑(0 + c.nb)) ↑(0 + c.nb) - zN 0)) (some (zD (↑(0 + c.nb) - zN 0))), AC.sl 1114 0 0 (zD (Option.getD (some ↑(c.nt)) ↑(c.nt) - zN 0)) (some (zD (↑(c.nt) - zN 0))), .v (.int .i64 (c.miss)), .v (.int .i64 (c.good)), .v (.int .i64 (c.fresh))]))] 99 1134 (mkFr 99 [(3, .c (.ptr 1000 0 0)), (4, .c (.ptr 1001 0 0))]) [(1000, vwB u), (1001, vwB vw0)] 100000000000000000000000000000000000000000000000000 (Exit.exit 0) none])) :
 ∃ p r, vwE (ENrd Tryz.prog) 74 c nq fq v [] p [none, some (rdS u)] = some r /\ Q r :=
 ⟨pD 14 1458, _, by kernel_rfl, H⟩
abbrev rdC (c : Cfg) : ABlk := ⟨true, false, 25, 0, .lit [.v (.int .i64 c.nodes), .sl 1043 0 0 c.np (some c.np), .sl 1070 0 0 c.ns (some c.ns), .v (.int .i64 c.long), .sl 1097 0 0 c.nb (some c.nb), .sl 1114 0 0 c.nt (some c.nt), .v (.int .i64 c.miss), .v (.int .i64 c.good), .v (.int .i64 c.fresh)]⟩
abbrev rdI : List Nat := [1000, 1001, 1128]
abbrev mrV (c : Cfg) (k : Nat) : List AV := [.c (.ptr 1000 0 0), .c (.ptr 1001 0 0), .c (.ptr 1128 0 0), i64 (Int.ofNat c.np), i64 (Int.ofNat k)]
def mrR (P : Program) (c : Cfg) (u v : Vw) (k : Nat) (path : List Dec) : Option VC :=
 view (rdH ++ []) rdI (fC (ENrd P) 100 (loopAt P 74 0) 1000000000000000000000000000000000000000000 nSt (stH 99 rdH rdI (mrV c k) [vwB u, vwB v, rdC c] path []))
theorem mrFz (k0Z k1Z : Nat) (hkZ : k0Z < 8 /\ k1Z = k0Z + 1) (c : Cfg) (u v : Vw) (Q : VC -> Prop) (H : let zN := Int.ofNat; let zM := ABlk.mk; let yR := fun (t s : Nat) (c : Cs) => some (ABlk.mk true false t s c); let y3 := fun (l : List Bool) => true :: true :: true :: l; let zz0 := (rdC c); let zz1 := [some (lkA (List.zip rdH (mrV c k0Z)) 3), some (lkA (List.zip rdH (mrV c k0Z)) 4), some (lkA (List.zip rdH (mrV c k0Z)) 5), some (lkA (List.zip rdH (mrV c k0Z)) 11), some (AV.c (AC.v (Value.int IntKind.i64 (zN k1Z))))]; let zz2 := [AV.c (AC.v (Value.int IntKind.u16 (Vw.score u k0Z)))]; let zz3 := [yR 59 0 (Cs.lit (vwL (updV k0Z (Vw.inn u k0Z) (zN 0) (upZ (Vw.good u k0Z)) (rewZ (Vw.score u k0Z)) false u))), yR 59 0 (Cs.lit (vwL v)), some zz0]; let zz4 := [yR 59 0 (Cs.lit (vwL (updV k0Z (Vw.inn u k0Z) (upZ (Vw.miss u k0Z)) (zN 0) (penZ (Vw.score u k0Z)) false u))), yR 59 0 (Cs.lit (vwL v)), some zz0]; let zz5 := (IntKind.wrap IntKind.i64 (upZ (Vw.good u k0Z)) ≥ Cfg.good c); let zz6 := (IntKind.wrap IntKind.i64 (upZ (Vw.miss u k0Z)) ≥ Cfg.miss c); let zz7 := [AV.c (AC.v (Value.int IntKind.u8 (Vw.good u k0Z)))]; let zz8 := [AV.c (AC.v (Value.int IntKind.u8 (Vw.miss u k0Z)))]; let zz9 := [yR 59 0 (Cs.lit (vwL (updV k0Z true (zN 0) (upZ (Vw.good u k0Z)) (rewZ (Vw.score u k0Z)) false u))), yR 59 0 (Cs.lit (vwL v)), some zz0]; let zz10 := [yR 59 0 (Cs.lit (vwL (updV k0Z true (upZ (Vw.miss u k0Z)) (zN 0) (penZ (Vw.score u k0Z)) false u))), yR 59 0 (Cs.lit (vwL v)), some zz0]; let zt : List Bool -> List Bool := fun l => y3 (y3 (true :: true :: l)); let zq0 : List Bool := [true, true, true, decide (zN k0Z < zN (c.np)) == true]; let zq1 : List Bool := zt (true :: true :: ((scP .u16 zz2) :: y3 (true :: (scP .u8 zz7) :: y3 ((Vw.got u k0Z == true) :: zq0)))); let zq2 : List Bool := y3 (true :: true :: (Vw.inn u k0Z == true) :: zq1); let zq3 : List Bool := y3 ((decide (zN 0 ≥ c.miss) == false) :: zq2); let zq4 : List Bool := y3 (true :: true :: ((!Vw.inn u k0Z) == true) :: zq3); let zq5 : List Bool := y3 ((Vw.inn u k0Z == false) :: zq1); let zq6 : List Bool := y3 (true :: true :: ((!Vw.inn u k0Z) == true) :: zq5); let zq7 : List Bool := zt (true :: true :: ((scP .u16 zz2) :: y3 (true :: (scP .u8 zz8) :: y3 ((Vw.got u k0Z == false) :: zq0)))); let zq8 : List Bool := y3 (true :: true :: (Vw.inn u k0Z == true) :: zq7); let zq9 : List Bool := y3 ((decide zz6 == false) :: zq8); let zq10 : List Bool := y3 (true :: true :: ((!Vw.inn u k0Z) == true) :: zq9); let zq11 : List Bool := y3 ((Vw.inn u k0Z == false) :: zq7); let zq12 : List Bool := y3 (true :: true :: ((!Vw.inn u k0Z) == true) :: zq11); (((Vw.got u k0Z) = true -> (((Vw.inn u k0Z) = true -> (((decide (zN 0 ≥ c.miss)) = true -> Q (Exit.normal, zz1, [yR 59 0 (Cs.lit (vwL (updV k0Z false (zN 0) (upZ (Vw.good u k0Z)) (rewZ (Vw.score u k0Z)) false u))), yR 59 0 (Cs.lit (vwL v)), some zz0], 99, 1370000000000000000000000000000000000000017, (y3 (true :: (decide (zN 0 ≥ c.miss) == true) :: zq2)), [])) /\ ((decide (zN 0 ≥ c.miss)) = false -> (((!Vw.inn u k0Z) = true -> (((decide zz5) = true -> Q (Exit.normal, zz1, zz9, 99, 1530000000000000000000000000000000000000017, (y3 (true :: (decide zz5 == true) :: zq4)), [])) /\ ((decide zz5) = false -> Q (Exit.normal, zz1, zz3, 99, 1530000000000000000000000000000000000000013, (true :: true :: (decide zz5 == false) :: zq4), [])))) /\ ((!Vw.inn u k0Z) = false -> Q (Exit.normal, zz1, zz3, 99, 1530000000000000000000000000000000000000013, (true :: true :: ((!Vw.inn u k0Z) == false) :: zq3), [])))))) /\ ((Vw.inn u k0Z) = false -> (((!Vw.inn u k0Z) = true -> (((decide zz5) = true -> Q (Exit.normal, zz1, zz9, 99, 1530000000000000000000000000000000000000017, (y3 (true :: (decide zz5 == true) :: zq6)), [])) /\ ((decide zz5) = false -> Q (Exit.normal, zz1, zz3, 99, 1530000000000000000000000000000000000000013, (true :: true :: (decide zz5 == false) :: zq6), [])))) /\ ((!Vw.inn u k0Z) = false -> Q (Exit.normal, zz1, zz3, 99, 1530000000000000000000000000000000000000013, (true :: true :: ((!Vw.inn u k0Z) == false) :: zq5), [])))))) /\ ((Vw.got u k0Z) = false -> (((Vw.inn u k0Z) = true -> (((decide zz6) = true -> Q (Exit.normal, zz1, [yR 59 0 (Cs.lit (vwL (updV k0Z false (upZ (Vw.miss u k0Z)) (zN 0) (penZ (Vw.score u k0Z)) false u))), yR 59 0 (Cs.lit (vwL v)), some zz0], 99, 1370000000000000000000000000000000000000017, (y3 (true :: (decide zz6 == true) :: zq8)), [])) /\ ((decide zz6) = false -> (((!Vw.inn u k0Z) = true -> (((decide (zN 0 ≥ c.good)) = true -> Q (Exit.normal, zz1, zz10, 99, 1530000000000000000000000000000000000000017, (y3 (true :: (decide (zN 0 ≥ c.good) == true) :: zq10)), [])) /\ ((decide (zN 0 ≥ c.good)) = false -> Q (Exit.normal, zz1, zz4, 99, 1530000000000000000000000000000000000000013, (true :: true :: (decide (zN 0 ≥ c.good) == false) :: zq10), [])))) /\ ((!Vw.inn u k0Z) = false -> Q (Exit.normal, zz1, zz4, 99, 1530000000000000000000000000000000000000013, (true :: true :: ((!Vw.inn u k0Z) == false) :: zq9), [])))))) /\ ((Vw.inn u k0Z) = false -> (((!Vw.inn u k0Z) = true -> (((decide (zN 0 ≥ c.good)) = true -> Q (Exit.normal, zz1, zz10, 99, 1530000000000000000000000000000000000000017, (y3 (true :: (decide (zN 0 ≥ c.good) == true) :: zq12)), [])) /\ ((decide (zN 0 ≥ c.good)) = false -> Q (Exit.normal, zz1, zz4, 99, 1530000000000000000000000000000000000000013, (true :: true :: (decide (zN 0 ≥ c.good) == false) :: zq12), [])))) /\ ((!Vw.inn u k0Z) = false -> Q (Exit.normal, zz1, zz4, 99, 1530000000000000000000000000000000000000013, (true :: true :: ((!Vw.inn u k0Z) == false) :: zq11), [])))))))) :
 ∃ p r, mrR Tryz.prog c u v k0Z p = some r /\ Q r := by
 have hZ : (k0Z = 0 /\ k1Z = 1) \/ (k0Z = 1 /\ k1Z = 2) \/ (k0Z = 2 /\ k1Z = 3) \/ (k0Z = 3 /\ k1Z = 4) \/ (k0Z = 4 /\ k1Z = 5) \/ (k0Z = 5 /\ k1Z = 6) \/ (k0Z = 6 /\ k1Z = 7) \/ (k0Z = 7 /\ k1Z = 8) := by omega
 clear hkZ; rcases hZ with ⟨rfl, rfl⟩ | ⟨rfl, rfl⟩ | ⟨rfl, rfl⟩ | ⟨rfl, rfl⟩ | ⟨rfl, rfl⟩ | ⟨rfl, rfl⟩ | ⟨rfl, rfl⟩ | ⟨rfl, rfl⟩
 all_goals
  exact two H (fun g1 => two g1 (fun g2 => two g2 (fun g3 => ⟨pD 11 59062, _, by kernel_rfl, g3⟩) (fun g3 => two g3 (fun g4 => two g4 (fun g5 => ⟨pD 20 1162556725, _, by kernel_rfl, g5⟩) (fun g5 => ⟨pD 20 2324818192, _, by kernel_rfl, g5⟩)) (fun g4 => ⟨pD 20 472405, _, by kernel_rfl, g4⟩))) (fun g2 => two g2 (fun g3 => two g3 (fun g4 => ⟨pD 20 1162438636, _, by kernel_rfl, g4⟩) (fun g4 => ⟨pD 20 2324700103, _, by kernel_rfl, g4⟩)) (fun g3 => ⟨pD 20 354316, _, by kernel_rfl, g3⟩))) (fun g1 => two g1 (fun g2 => two g2 (fun g3 => ⟨pD 11 59065, _, by kernel_rfl, g3⟩) (fun g3 => two g3 (fun g4 => two g4 (fun g5 => ⟨pD 20 1162556728, _, by kernel_rfl, g5⟩) (fun g5 => ⟨pD 20 2324818195, _, by kernel_rfl, g5⟩)) (fun g4 => ⟨pD 20 472408, _, by kernel_rfl, g4⟩))) (fun g2 => two g2 (fun g3 => two g3 (fun g4 => ⟨pD 20 1162438639, _, by kernel_rfl, g4⟩) (fun g4 => ⟨pD 20 2324700106, _, by kernel_rfl, g4⟩)) (fun g3 => ⟨pD 20 354319, _, by kernel_rfl, g3⟩)))

theorem rdE (c : Cfg) (u v : Vw) (k : Nat) (Q : VC -> Prop) (H : Q (Exit.exit 0, [some (lkA (List.zip rdH (mrV c k)) 3), some (lkA (List.zip rdH (mrV c k)) 4), some (lkA (List.zip rdH (mrV c k)) 5), some (lkA (List.zip rdH (mrV c k)) 11), some (lkA (List.zip rdH (mrV c k)) 12)], [some (ABlk.mk true false 59 0 (Cs.lit (vwL u))), some (ABlk.mk true false 59 0 (Cs.lit (vwL v))), some (ABlk.mk true false 25 0 (Cs.lit [.v (.int .i64 (c.nodes)), AC.sl 1043 0 0 (c.np) (some (c.np)), AC.sl 1070 0 0 (c.ns) (some (c.ns)), .v (.int .i64 (c.long)), AC.sl 1097 0 0 (c.nb) (some (c.nb)), AC.sl 1114 0 0 (c.nt) (some (c.nt)), .v (.int .i64 (c.miss)), .v (.int .i64 (c.good)), .v (.int .i64 (c.fresh))]))], 99, 1000000000000000000000000000000000000000001, [decide (Int.ofNat k < Int.ofNat (c.np)) == false], [])) :
 ∃ p r, mrR Tryz.prog c u v k p = some r /\ Q r :=
 ⟨pD 1 2, _, by kernel_rfl, H⟩
def PosV (v : Vw) : Prop := ∀ i, i < 8 -> 0 <= v.miss i /\ 0 <= v.good i /\ 0 <= v.score i
def posL (l : List AC) : Bool := (List.range 8).all fun i => decide (0 <= asI (l.getD (8 + i) nov)) && (decide (0 <= asI (l.getD (16 + i) nov)) && decide (0 <= asI (l.getD (24 + i) nov)))
theorem jj75 (v : Vw) : posL (vwL v) = true ↔ PosV v := by
 have e : ∀ i, i < 8 -> asI ((vwL v).getD (8 + i) nov) = v.miss i /\ asI ((vwL v).getD (16 + i) nov) = v.good i /\ asI ((vwL v).getD (24 + i) nov) = v.score i := fun i hi => by
  have a2 := (jj3n v i hi).1; have a3 := (jj3o v i hi).1; have a4 := (jj16 v i hi).1; simp only [Nat.mul_one, Int.ofNat_eq_natCast, Int.toNat_natCast] at a2 a3 a4; exact ⟨a2, a3, a4⟩
 unfold posL; rw [List.all_eq_true]; constructor
 . intro h i hi
   have h := h i (List.mem_range.2 hi); obtain ⟨e1, e2, e3⟩ := e i hi; rw [e1, e2, e3] at h; simp only [Bool.and_eq_true, decide_eq_true_eq] at h; exact h
 . intro h i hi
   have hi := List.mem_range.1 hi; obtain ⟨e1, e2, e3⟩ := e i hi; rw [e1, e2, e3]; simp only [Bool.and_eq_true, decide_eq_true_eq]; exact h i hi
def gvPre (c : Cfg) (nq : Nat) : Bool := decide (0 < nq) && (decide (1 <= c.np /\ 1 <= c.ns /\ 1 <= c.nb) && (decide (c.np <= 1000) && (decide (c.ns <= 1000) && (decide (c.nb <= 1000) && decide (c.nt <= 1000)))))
theorem jj5 {k : Nat} {ms go : Int} {v u : Vw} (hu : rndV ⟨k, ms, go⟩ v = u) {a : Bool} {m x s : Int} (h1 : rIn ⟨k + 1, ms, go⟩ k (v.inn k) (v.got k) (v.miss k) (v.good k) = a := by first | (simp_all [rIn, rMi, rGo, rSc, rndV]; done) | (simp_all [rIn, rMi, rGo, rSc, rndV]; omega) | fail) (h2 : rMi ⟨k + 1, ms, go⟩ k (v.got k) (v.miss k) = m := by first | (simp_all [rIn, rMi, rGo, rSc, rndV]; done) | (simp_all [rIn, rMi, rGo, rSc, rndV]; omega) | fail) (h3 : rGo ⟨k + 1, ms, go⟩ k (v.got k) (v.good k) = x := by first | (simp_all [rIn, rMi, rGo, rSc, rndV]; done) | (simp_all [rIn, rMi, rGo, rSc, rndV]; omega) | fail) (h4 : rSc ⟨k + 1, ms, go⟩ k (v.got k) (v.score k) = s := by first | (simp_all [rIn, rMi, rGo, rSc, rndV]; done) | (simp_all [rIn, rMi, rGo, rSc, rndV]; omega) | fail) :
 rndV ⟨k + 1, ms, go⟩ v = updV k a m x s false u := by
 subst hu h1 h2 h3 h4; unfold rndV updV; have e : ∀ i, i ≠ k -> (i < k + 1 ↔ i < k) := fun i h => by omega
 simp only [Vw.mk.injEq, and_true]; refine ⟨?_, ?_, ?_, ?_, ?_⟩ <;> (funext i; by_cases hi : i = k)
 all_goals (first | (subst hi; simp; done) | (subst hi; simp [rGt]; done) | (have e2 := e i hi; by_cases hk : i < k <;> simp [hi, rIn, rMi, rGo, rSc, rGt, hk, e2]))
theorem jjw {z : Int} (h : 0 <= z) : IntKind.wrap .i64 (upZ z) = upZ z := jj6 _ (by unfold upZ; omega) (by unfold upZ; omega)
def RdNx (c : Cfg) (v w : Vw) (k : Nat) (r : VC) : Prop :=
 allT r.2.2.2.2.2.1 /\ r.2.2.2.2.2.2 = [] /\ r.2.2.2.2.1 <= 100000000000000000000000000000000000000000000000000 /\ r.2.2.2.1 = 99 /\ r.1 = .normal /\ r.2.1 = (mrV c (k + 1)).map some /\ r.2.2.1 = [some (vwB (rndV ⟨k + 1, c.miss, c.good⟩ v)), some (vwB w), some (rdC c)]
set_option maxRecDepth 100000 in
theorem jjjm (c : Cfg) (v w : Vw) (hk : 0 < c.np) (hp : PosV v) : ∃ p r, mrR Tryz.prog c (rndV ⟨0, c.miss, c.good⟩ v) w 0 p = some r /\ RdNx c v w 0 r := by
 obtain ⟨p1, p2, p3⟩ := hp 0 (by omega); obtain ⟨u, hu⟩ : ∃ u, rndV ⟨0, c.miss, c.good⟩ v = u := ⟨_, rfl⟩
 have e1 : u.inn 0 = v.inn 0 := by rw [<- hu]; rfl
 have e2 : u.got 0 = v.got 0 := by rw [<- hu]; rfl
 have e3 : u.miss 0 = v.miss 0 := by rw [<- hu]; rfl
 have e4 : u.good 0 = v.good 0 := by rw [<- hu]; rfl
 have e5 : u.score 0 = v.score 0 := by rw [<- hu]; rfl
 have w1 := jjw p1; have w2 := jjw p2; rw [hu]; refine (mrFz 0 1 ⟨by decide, rfl⟩) c u w _ ?_; simp only [e1, e2, e3, e4, e5, w1, w2]
 (repeat' (first | refine ⟨fun h => ?_, fun h => ?_⟩ | fail))
 all_goals (first | (exfalso; simp_all; done) | skip)
 all_goals (refine ⟨?_, rfl, by dsimp only; omega, rfl, rfl, rfl, ?_⟩)
 all_goals first
  | (rw [jj5 (k := 0) (ms := c.miss) (go := c.good) (v := v) (u := u) hu (a := true) (m := 0) (x := upZ (v.good 0)) (s := rewZ (v.score 0))]; rfl)
  | (rw [jj5 (k := 0) (ms := c.miss) (go := c.good) (v := v) (u := u) hu (a := true) (m := upZ (v.miss 0)) (x := 0) (s := penZ (v.score 0))]; rfl)
  | (rw [jj5 (k := 0) (ms := c.miss) (go := c.good) (v := v) (u := u) hu (a := false) (m := 0) (x := upZ (v.good 0)) (s := rewZ (v.score 0))]; rfl)
  | (rw [jj5 (k := 0) (ms := c.miss) (go := c.good) (v := v) (u := u) hu (a := false) (m := upZ (v.miss 0)) (x := 0) (s := penZ (v.score 0))]; rfl)
  | (rw [jj5 (k := 0) (ms := c.miss) (go := c.good) (v := v) (u := u) hu (a := v.inn 0) (m := 0) (x := upZ (v.good 0)) (s := rewZ (v.score 0))]; rfl)
  | (rw [jj5 (k := 0) (ms := c.miss) (go := c.good) (v := v) (u := u) hu (a := v.inn 0) (m := upZ (v.miss 0)) (x := 0) (s := penZ (v.score 0))]; rfl)
  | (simp_all [allT, scP]; done)
  | (simp_all [allT, scP]; omega)
set_option maxRecDepth 100000 in
theorem jjjl (c : Cfg) (v w : Vw) (hk : 1 < c.np) (hp : PosV v) : ∃ p r, mrR Tryz.prog c (rndV ⟨1, c.miss, c.good⟩ v) w 1 p = some r /\ RdNx c v w 1 r := by
 obtain ⟨p1, p2, p3⟩ := hp 1 (by omega); obtain ⟨u, hu⟩ : ∃ u, rndV ⟨1, c.miss, c.good⟩ v = u := ⟨_, rfl⟩
 have e1 : u.inn 1 = v.inn 1 := by rw [<- hu]; rfl
 have e2 : u.got 1 = v.got 1 := by rw [<- hu]; rfl
 have e3 : u.miss 1 = v.miss 1 := by rw [<- hu]; rfl
 have e4 : u.good 1 = v.good 1 := by rw [<- hu]; rfl
 have e5 : u.score 1 = v.score 1 := by rw [<- hu]; rfl
 have w1 := jjw p1; have w2 := jjw p2; rw [hu]; refine (mrFz 1 2 ⟨by decide, rfl⟩) c u w _ ?_; simp only [e1, e2, e3, e4, e5, w1, w2]
 (repeat' (first | refine ⟨fun h => ?_, fun h => ?_⟩ | fail))
 all_goals (first | (exfalso; simp_all; done) | skip)
 all_goals (refine ⟨?_, rfl, by dsimp only; omega, rfl, rfl, rfl, ?_⟩)
 all_goals first
  | (rw [jj5 (k := 1) (ms := c.miss) (go := c.good) (v := v) (u := u) hu (a := true) (m := 0) (x := upZ (v.good 1)) (s := rewZ (v.score 1))]; rfl)
  | (rw [jj5 (k := 1) (ms := c.miss) (go := c.good) (v := v) (u := u) hu (a := true) (m := upZ (v.miss 1)) (x := 0) (s := penZ (v.score 1))]; rfl)
  | (rw [jj5 (k := 1) (ms := c.miss) (go := c.good) (v := v) (u := u) hu (a := false) (m := 0) (x := upZ (v.good 1)) (s := rewZ (v.score 1))]; rfl)
  | (rw [jj5 (k := 1) (ms := c.miss) (go := c.good) (v := v) (u := u) hu (a := false) (m := upZ (v.miss 1)) (x := 0) (s := penZ (v.score 1))]; rfl)
  | (rw [jj5 (k := 1) (ms := c.miss) (go := c.good) (v := v) (u := u) hu (a := v.inn 1) (m := 0) (x := upZ (v.good 1)) (s := rewZ (v.score 1))]; rfl)
  | (rw [jj5 (k := 1) (ms := c.miss) (go := c.good) (v := v) (u := u) hu (a := v.inn 1) (m := upZ (v.miss 1)) (x := 0) (s := penZ (v.score 1))]; rfl)
  | (simp_all [allT, scP]; done)
  | (simp_all [allT, scP]; omega)
set_option maxRecDepth 100000 in
theorem jjjk (c : Cfg) (v w : Vw) (hk : 2 < c.np) (hp : PosV v) : ∃ p r, mrR Tryz.prog c (rndV ⟨2, c.miss, c.good⟩ v) w 2 p = some r /\ RdNx c v w 2 r := by
 obtain ⟨p1, p2, p3⟩ := hp 2 (by omega); obtain ⟨u, hu⟩ : ∃ u, rndV ⟨2, c.miss, c.good⟩ v = u := ⟨_, rfl⟩
 have e1 : u.inn 2 = v.inn 2 := by rw [<- hu]; rfl
 have e2 : u.got 2 = v.got 2 := by rw [<- hu]; rfl
 have e3 : u.miss 2 = v.miss 2 := by rw [<- hu]; rfl
 have e4 : u.good 2 = v.good 2 := by rw [<- hu]; rfl
 have e5 : u.score 2 = v.score 2 := by rw [<- hu]; rfl
 have w1 := jjw p1; have w2 := jjw p2; rw [hu]; refine (mrFz 2 3 ⟨by decide, rfl⟩) c u w _ ?_; simp only [e1, e2, e3, e4, e5, w1, w2]
 (repeat' (first | refine ⟨fun h => ?_, fun h => ?_⟩ | fail))
 all_goals (first | (exfalso; simp_all; done) | skip)
 all_goals (refine ⟨?_, rfl, by dsimp only; omega, rfl, rfl, rfl, ?_⟩)
 all_goals first
  | (rw [jj5 (k := 2) (ms := c.miss) (go := c.good) (v := v) (u := u) hu (a := true) (m := 0) (x := upZ (v.good 2)) (s := rewZ (v.score 2))]; rfl)
  | (rw [jj5 (k := 2) (ms := c.miss) (go := c.good) (v := v) (u := u) hu (a := true) (m := upZ (v.miss 2)) (x := 0) (s := penZ (v.score 2))]; rfl)
  | (rw [jj5 (k := 2) (ms := c.miss) (go := c.good) (v := v) (u := u) hu (a := false) (m := 0) (x := upZ (v.good 2)) (s := rewZ (v.score 2))]; rfl)
  | (rw [jj5 (k := 2) (ms := c.miss) (go := c.good) (v := v) (u := u) hu (a := false) (m := upZ (v.miss 2)) (x := 0) (s := penZ (v.score 2))]; rfl)
  | (rw [jj5 (k := 2) (ms := c.miss) (go := c.good) (v := v) (u := u) hu (a := v.inn 2) (m := 0) (x := upZ (v.good 2)) (s := rewZ (v.score 2))]; rfl)
  | (rw [jj5 (k := 2) (ms := c.miss) (go := c.good) (v := v) (u := u) hu (a := v.inn 2) (m := upZ (v.miss 2)) (x := 0) (s := penZ (v.score 2))]; rfl)
  | (simp_all [allT, scP]; done)
  | (simp_all [allT, scP]; omega)
set_option maxRecDepth 100000 in
theorem jjjj (c : Cfg) (v w : Vw) (hk : 3 < c.np) (hp : PosV v) : ∃ p r, mrR Tryz.prog c (rndV ⟨3, c.miss, c.good⟩ v) w 3 p = some r /\ RdNx c v w 3 r := by
 obtain ⟨p1, p2, p3⟩ := hp 3 (by omega); obtain ⟨u, hu⟩ : ∃ u, rndV ⟨3, c.miss, c.good⟩ v = u := ⟨_, rfl⟩
 have e1 : u.inn 3 = v.inn 3 := by rw [<- hu]; rfl
 have e2 : u.got 3 = v.got 3 := by rw [<- hu]; rfl
 have e3 : u.miss 3 = v.miss 3 := by rw [<- hu]; rfl
 have e4 : u.good 3 = v.good 3 := by rw [<- hu]; rfl
 have e5 : u.score 3 = v.score 3 := by rw [<- hu]; rfl
 have w1 := jjw p1; have w2 := jjw p2; rw [hu]; refine (mrFz 3 4 ⟨by decide, rfl⟩) c u w _ ?_; simp only [e1, e2, e3, e4, e5, w1, w2]
 (repeat' (first | refine ⟨fun h => ?_, fun h => ?_⟩ | fail))
 all_goals (first | (exfalso; simp_all; done) | skip)
 all_goals (refine ⟨?_, rfl, by dsimp only; omega, rfl, rfl, rfl, ?_⟩)
 all_goals first
  | (rw [jj5 (k := 3) (ms := c.miss) (go := c.good) (v := v) (u := u) hu (a := true) (m := 0) (x := upZ (v.good 3)) (s := rewZ (v.score 3))]; rfl)
  | (rw [jj5 (k := 3) (ms := c.miss) (go := c.good) (v := v) (u := u) hu (a := true) (m := upZ (v.miss 3)) (x := 0) (s := penZ (v.score 3))]; rfl)
  | (rw [jj5 (k := 3) (ms := c.miss) (go := c.good) (v := v) (u := u) hu (a := false) (m := 0) (x := upZ (v.good 3)) (s := rewZ (v.score 3))]; rfl)
  | (rw [jj5 (k := 3) (ms := c.miss) (go := c.good) (v := v) (u := u) hu (a := false) (m := upZ (v.miss 3)) (x := 0) (s := penZ (v.score 3))]; rfl)
  | (rw [jj5 (k := 3) (ms := c.miss) (go := c.good) (v := v) (u := u) hu (a := v.inn 3) (m := 0) (x := upZ (v.good 3)) (s := rewZ (v.score 3))]; rfl)
  | (rw [jj5 (k := 3) (ms := c.miss) (go := c.good) (v := v) (u := u) hu (a := v.inn 3) (m := upZ (v.miss 3)) (x := 0) (s := penZ (v.score 3))]; rfl)
  | (simp_all [allT, scP]; done)
  | (simp_all [allT, scP]; omega)
set_option maxRecDepth 100000 in
theorem jjji (c : Cfg) (v w : Vw) (hk : 4 < c.np) (hp : PosV v) : ∃ p r, mrR Tryz.prog c (rndV ⟨4, c.miss, c.good⟩ v) w 4 p = some r /\ RdNx c v w 4 r := by
 obtain ⟨p1, p2, p3⟩ := hp 4 (by omega); obtain ⟨u, hu⟩ : ∃ u, rndV ⟨4, c.miss, c.good⟩ v = u := ⟨_, rfl⟩
 have e1 : u.inn 4 = v.inn 4 := by rw [<- hu]; rfl
 have e2 : u.got 4 = v.got 4 := by rw [<- hu]; rfl
 have e3 : u.miss 4 = v.miss 4 := by rw [<- hu]; rfl
 have e4 : u.good 4 = v.good 4 := by rw [<- hu]; rfl
 have e5 : u.score 4 = v.score 4 := by rw [<- hu]; rfl
 have w1 := jjw p1; have w2 := jjw p2; rw [hu]; refine (mrFz 4 5 ⟨by decide, rfl⟩) c u w _ ?_; simp only [e1, e2, e3, e4, e5, w1, w2]
 (repeat' (first | refine ⟨fun h => ?_, fun h => ?_⟩ | fail))
 all_goals (first | (exfalso; simp_all; done) | skip)
 all_goals (refine ⟨?_, rfl, by dsimp only; omega, rfl, rfl, rfl, ?_⟩)
 all_goals first
  | (rw [jj5 (k := 4) (ms := c.miss) (go := c.good) (v := v) (u := u) hu (a := true) (m := 0) (x := upZ (v.good 4)) (s := rewZ (v.score 4))]; rfl)
  | (rw [jj5 (k := 4) (ms := c.miss) (go := c.good) (v := v) (u := u) hu (a := true) (m := upZ (v.miss 4)) (x := 0) (s := penZ (v.score 4))]; rfl)
  | (rw [jj5 (k := 4) (ms := c.miss) (go := c.good) (v := v) (u := u) hu (a := false) (m := 0) (x := upZ (v.good 4)) (s := rewZ (v.score 4))]; rfl)
  | (rw [jj5 (k := 4) (ms := c.miss) (go := c.good) (v := v) (u := u) hu (a := false) (m := upZ (v.miss 4)) (x := 0) (s := penZ (v.score 4))]; rfl)
  | (rw [jj5 (k := 4) (ms := c.miss) (go := c.good) (v := v) (u := u) hu (a := v.inn 4) (m := 0) (x := upZ (v.good 4)) (s := rewZ (v.score 4))]; rfl)
  | (rw [jj5 (k := 4) (ms := c.miss) (go := c.good) (v := v) (u := u) hu (a := v.inn 4) (m := upZ (v.miss 4)) (x := 0) (s := penZ (v.score 4))]; rfl)
  | (simp_all [allT, scP]; done)
  | (simp_all [allT, scP]; omega)
set_option maxRecDepth 100000 in
theorem jjjh (c : Cfg) (v w : Vw) (hk : 5 < c.np) (hp : PosV v) : ∃ p r, mrR Tryz.prog c (rndV ⟨5, c.miss, c.good⟩ v) w 5 p = some r /\ RdNx c v w 5 r := by
 obtain ⟨p1, p2, p3⟩ := hp 5 (by omega); obtain ⟨u, hu⟩ : ∃ u, rndV ⟨5, c.miss, c.good⟩ v = u := ⟨_, rfl⟩
 have e1 : u.inn 5 = v.inn 5 := by rw [<- hu]; rfl
 have e2 : u.got 5 = v.got 5 := by rw [<- hu]; rfl
 have e3 : u.miss 5 = v.miss 5 := by rw [<- hu]; rfl
 have e4 : u.good 5 = v.good 5 := by rw [<- hu]; rfl
 have e5 : u.score 5 = v.score 5 := by rw [<- hu]; rfl
 have w1 := jjw p1; have w2 := jjw p2; rw [hu]; refine (mrFz 5 6 ⟨by decide, rfl⟩) c u w _ ?_; simp only [e1, e2, e3, e4, e5, w1, w2]
 (repeat' (first | refine ⟨fun h => ?_, fun h => ?_⟩ | fail))
 all_goals (first | (exfalso; simp_all; done) | skip)
 all_goals (refine ⟨?_, rfl, by dsimp only; omega, rfl, rfl, rfl, ?_⟩)
 all_goals first
  | (rw [jj5 (k := 5) (ms := c.miss) (go := c.good) (v := v) (u := u) hu (a := true) (m := 0) (x := upZ (v.good 5)) (s := rewZ (v.score 5))]; rfl)
  | (rw [jj5 (k := 5) (ms := c.miss) (go := c.good) (v := v) (u := u) hu (a := true) (m := upZ (v.miss 5)) (x := 0) (s := penZ (v.score 5))]; rfl)
  | (rw [jj5 (k := 5) (ms := c.miss) (go := c.good) (v := v) (u := u) hu (a := false) (m := 0) (x := upZ (v.good 5)) (s := rewZ (v.score 5))]; rfl)
  | (rw [jj5 (k := 5) (ms := c.miss) (go := c.good) (v := v) (u := u) hu (a := false) (m := upZ (v.miss 5)) (x := 0) (s := penZ (v.score 5))]; rfl)
  | (rw [jj5 (k := 5) (ms := c.miss) (go := c.good) (v := v) (u := u) hu (a := v.inn 5) (m := 0) (x := upZ (v.good 5)) (s := rewZ (v.score 5))]; rfl)
  | (rw [jj5 (k := 5) (ms := c.miss) (go := c.good) (v := v) (u := u) hu (a := v.inn 5) (m := upZ (v.miss 5)) (x := 0) (s := penZ (v.score 5))]; rfl)
  | (simp_all [allT, scP]; done)
  | (simp_all [allT, scP]; omega)
set_option maxRecDepth 100000 in
theorem jjjg (c : Cfg) (v w : Vw) (hk : 6 < c.np) (hp : PosV v) : ∃ p r, mrR Tryz.prog c (rndV ⟨6, c.miss, c.good⟩ v) w 6 p = some r /\ RdNx c v w 6 r := by
 obtain ⟨p1, p2, p3⟩ := hp 6 (by omega); obtain ⟨u, hu⟩ : ∃ u, rndV ⟨6, c.miss, c.good⟩ v = u := ⟨_, rfl⟩
 have e1 : u.inn 6 = v.inn 6 := by rw [<- hu]; rfl
 have e2 : u.got 6 = v.got 6 := by rw [<- hu]; rfl
 have e3 : u.miss 6 = v.miss 6 := by rw [<- hu]; rfl
 have e4 : u.good 6 = v.good 6 := by rw [<- hu]; rfl
 have e5 : u.score 6 = v.score 6 := by rw [<- hu]; rfl
 have w1 := jjw p1; have w2 := jjw p2; rw [hu]; refine (mrFz 6 7 ⟨by decide, rfl⟩) c u w _ ?_; simp only [e1, e2, e3, e4, e5, w1, w2]
 (repeat' (first | refine ⟨fun h => ?_, fun h => ?_⟩ | fail))
 all_goals (first | (exfalso; simp_all; done) | skip)
 all_goals (refine ⟨?_, rfl, by dsimp only; omega, rfl, rfl, rfl, ?_⟩)
 all_goals first
  | (rw [jj5 (k := 6) (ms := c.miss) (go := c.good) (v := v) (u := u) hu (a := true) (m := 0) (x := upZ (v.good 6)) (s := rewZ (v.score 6))]; rfl)
  | (rw [jj5 (k := 6) (ms := c.miss) (go := c.good) (v := v) (u := u) hu (a := true) (m := upZ (v.miss 6)) (x := 0) (s := penZ (v.score 6))]; rfl)
  | (rw [jj5 (k := 6) (ms := c.miss) (go := c.good) (v := v) (u := u) hu (a := false) (m := 0) (x := upZ (v.good 6)) (s := rewZ (v.score 6))]; rfl)
  | (rw [jj5 (k := 6) (ms := c.miss) (go := c.good) (v := v) (u := u) hu (a := false) (m := upZ (v.miss 6)) (x := 0) (s := penZ (v.score 6))]; rfl)
  | (rw [jj5 (k := 6) (ms := c.miss) (go := c.good) (v := v) (u := u) hu (a := v.inn 6) (m := 0) (x := upZ (v.good 6)) (s := rewZ (v.score 6))]; rfl)
  | (rw [jj5 (k := 6) (ms := c.miss) (go := c.good) (v := v) (u := u) hu (a := v.inn 6) (m := upZ (v.miss 6)) (x := 0) (s := penZ (v.score 6))]; rfl)
  | (simp_all [allT, scP]; done)
  | (simp_all [allT, scP]; omega)
set_option maxRecDepth 100000 in
theorem jjjf (c : Cfg) (v w : Vw) (hk : 7 < c.np) (hp : PosV v) : ∃ p r, mrR Tryz.prog c (rndV ⟨7, c.miss, c.good⟩ v) w 7 p = some r /\ RdNx c v w 7 r := by
 obtain ⟨p1, p2, p3⟩ := hp 7 (by omega); obtain ⟨u, hu⟩ : ∃ u, rndV ⟨7, c.miss, c.good⟩ v = u := ⟨_, rfl⟩
 have e1 : u.inn 7 = v.inn 7 := by rw [<- hu]; rfl
 have e2 : u.got 7 = v.got 7 := by rw [<- hu]; rfl
 have e3 : u.miss 7 = v.miss 7 := by rw [<- hu]; rfl
 have e4 : u.good 7 = v.good 7 := by rw [<- hu]; rfl
 have e5 : u.score 7 = v.score 7 := by rw [<- hu]; rfl
 have w1 := jjw p1; have w2 := jjw p2; rw [hu]; refine (mrFz 7 8 ⟨by decide, rfl⟩) c u w _ ?_; simp only [e1, e2, e3, e4, e5, w1, w2]
 (repeat' (first | refine ⟨fun h => ?_, fun h => ?_⟩ | fail))
 all_goals (first | (exfalso; simp_all; done) | skip)
 all_goals (refine ⟨?_, rfl, by dsimp only; omega, rfl, rfl, rfl, ?_⟩)
 all_goals first
  | (rw [jj5 (k := 7) (ms := c.miss) (go := c.good) (v := v) (u := u) hu (a := true) (m := 0) (x := upZ (v.good 7)) (s := rewZ (v.score 7))]; rfl)
  | (rw [jj5 (k := 7) (ms := c.miss) (go := c.good) (v := v) (u := u) hu (a := true) (m := upZ (v.miss 7)) (x := 0) (s := penZ (v.score 7))]; rfl)
  | (rw [jj5 (k := 7) (ms := c.miss) (go := c.good) (v := v) (u := u) hu (a := false) (m := 0) (x := upZ (v.good 7)) (s := rewZ (v.score 7))]; rfl)
  | (rw [jj5 (k := 7) (ms := c.miss) (go := c.good) (v := v) (u := u) hu (a := false) (m := upZ (v.miss 7)) (x := 0) (s := penZ (v.score 7))]; rfl)
  | (rw [jj5 (k := 7) (ms := c.miss) (go := c.good) (v := v) (u := u) hu (a := v.inn 7) (m := 0) (x := upZ (v.good 7)) (s := rewZ (v.score 7))]; rfl)
  | (rw [jj5 (k := 7) (ms := c.miss) (go := c.good) (v := v) (u := u) hu (a := v.inn 7) (m := upZ (v.miss 7)) (x := 0) (s := penZ (v.score 7))]; rfl)
  | (simp_all [allT, scP]; done)
  | (simp_all [allT, scP]; omega)
theorem jjgy {c : Cfg} {n : Nat} (hn : 1120 <= n) : lowB n (rdC c) := by
 have hc : ∀ i, i < 1120 -> Nat.blt i n = true := fun i h => by rw [Nat.blt_eq]; omega
 exact jjc (by simp [lowC, hc])
theorem jjgw (c : Cfg) (v w : Vw) (h8 : c.np <= 8) (hp : PosV v) (k : Nat) (hk : k < c.np) : ∃ p r, mrR Tryz.prog c (rndV ⟨k, c.miss, c.good⟩ v) w k p = some r /\ RdNx c v w k r := by
 have : k < 8 := by omega
 match k, this with
 | 0, _ => exact jjjm c v w hk hp
 | 1, _ => exact jjjl c v w hk hp
 | 2, _ => exact jjjk c v w hk hp
 | 3, _ => exact jjjj c v w hk hp
 | 4, _ => exact jjji c v w hk hp
 | 5, _ => exact jjjh c v w hk hp
 | 6, _ => exact jjjg c v w hk hp
 | 7, _ => exact jjjf c v w hk hp
theorem jjej (ms go : Int) (v : Vw) : rndV ⟨0, ms, go⟩ v = v := by
 cases v; simp [rndV, rIn, rMi, rGo, rSc, rGt]
theorem jjk1 (c : Cfg) (v w : Vw) (h8 : c.np <= 8) (hp : PosV v) :
 LoopV Tryz.prog (loopAt Tryz.prog 74 0) rdH rdI ((mrV c 0).map some) [some (vwB v), some (vwB w), some (rdC c)] 99 1134 (mkFr 99 [(3, .c (.ptr 1000 0 0)), (4, .c (.ptr 1001 0 0))]) [(1000, vwB (rndV ⟨c.np, c.miss, c.good⟩ v)), (1001, vwB w)] 100000000000000000000000000000000000000000000000000 (.exit 0) none := by
 have hz := jjej c.miss c.good v; refine jjn hENrd (fuel := 100) (str := nSt) (nh := 1000000000000000000000000000000000000000000) (S := Nat) (fun k => k <= c.np) (fun k => c.np - k) rdH [] rdI (mrV c) (fun k => [vwB (rndV ⟨k, c.miss, c.good⟩ v), vwB w, rdC c]) (by decide) (by decide) (by unfold lim; omega) (s0 := 0) (Nat.zero_le _) (fun _ => ⟨rfl, rfl⟩) (by kernel_rfl) (by rw [hz]; exact BL.refl [vwB v, vwB w, rdC c]) (fun k _ => ⟨rfl, ?_⟩) ?_
 . intro b hb
   simp only [List.mem_cons, List.not_mem_nil, or_false] at hb; rcases hb with rfl | rfl | rfl
   . exact jj24
   . exact jj24
   . exact jjgy (by omega)
 intro k hk; rcases Nat.lt_or_ge k c.np with hlt | hge
 . obtain ⟨p, r, h1, a1, a2, a3, a4, a5, a6, a7⟩ := jjgw c v w h8 hp k hlt
   exact ⟨p, [], r, h1, a1, a2, a3, a4, .inl ⟨a5, k + 1, hlt, by show c.np - (k + 1) < c.np - k; omega, by rw [a6]; rfl, by rw [a7]; exact BL.refl [vwB (rndV ⟨k + 1, c.miss, c.good⟩ v), vwB w, rdC c]⟩⟩
 . obtain rfl : k = c.np := by omega
   refine (?_ : (∃ p r, mrR Tryz.prog c (rndV ⟨c.np, c.miss, c.good⟩ v) w c.np p = some r /\ _) -> _) (rdE c (rndV ⟨c.np, c.miss, c.good⟩ v) w c.np (StepV 1134 100000000000000000000000000000000000000000000000000 99 rdH [] rdI (fun k => k <= c.np) (fun k => c.np - k) (mrV c) (fun k => [vwB (rndV ⟨k, c.miss, c.good⟩ v), vwB w, rdC c]) (.exit 0) [(3, .c (.ptr 1000 0 0)), (4, .c (.ptr 1001 0 0))] [(1000, vwB (rndV ⟨c.np, c.miss, c.good⟩ v)), (1001, vwB w)] c.np) ?_)
   . rintro ⟨p, r, h1, h2⟩
     exact ⟨p, [], r, h1, h2⟩
   . refine ⟨by simp [allT], rfl, by dsimp only; omega, rfl, .inr ⟨by simp, rfl, fun q hq => ?_, fun p hpp => ?_⟩⟩
     . simp only [List.mem_cons, List.not_mem_nil, or_false] at hq
       rcases hq with rfl | rfl
       . exact ⟨rfl, by simp [lkA]⟩
       . exact ⟨rfl, by simp [lkA]⟩
     . simp only [List.mem_cons, List.not_mem_nil, or_false] at hpp
       rcases hpp with rfl | rfl
       . exact ⟨by kernel_rfl, jj24, _, List.mem_cons_self .., BEq.refl _⟩
       . exact ⟨by kernel_rfl, jj24, _, List.mem_cons_of_mem _ (List.mem_cons_self ..), BEq.refl _⟩
def mrndR (c : Cfg) (_ : Nat) (_ : Nat -> Int) (l : List AC) : List AV -> AV
 | [] => .agg (rndL ⟨c.np, c.miss, c.good⟩ l)
 | _ => i64 0
def rndP (c : Cfg) (nq : Nat) (l : List AC) : List AV -> Bool
 | [] => decide (c.np <= 8) && (gvPre c nq && posL l)
 | _ => false
def pX (pre : Cfg -> Nat -> List AC -> List AV -> Bool) : NetS -> Bool
 | ⟨c, nq, _, .agg l :: r⟩ => isVw l && pre c nq l r
 | _ => false
theorem jjfw {G : AMem} (hG : (G.all fun p => Nat.ble lim p.1) = true) {E : Env} (hE : EnvOk E) {f : FuncId} {R : Cfg -> Nat -> (Nat -> Int) -> List AC -> List AV -> AV} {pre : Cfg -> Nat -> List AC -> List AV -> Bool} (hf : ∃ (fn : Func) (c : Code), E.P.funcs[f]? = some fn /\ fn.body = some c) (hres : ∀ c nq fq v r, plainR (R c nq fq v r) = true)
 (run : ∀ c nq fq v r, pre c nq (vwL v) r = true -> ∃ p lp q, viewF [] (fCallF E (fC E 300) f (.c (.ptr 5 0 0) :: .agg (vwL v) :: r) 1000 nSt (stA (G ++ netL c nq fq) p lp)) = some q /\ GoodF (R c nq fq (vwL v) r) q) : CtOk E.P f (ctRd (netRdG G hG) (rV R) (pX pre)) := by
 refine jj1e hE (netRdG G hG) (fuel := 300) (str := nSt) hf (jj73 hres) fun s hs => ?_
 unfold pX at hs; split at hs
 . rename_i c nq fq l r
   rw [Bool.and_eq_true] at hs; have e := jjga hs.1; rw [e]; rw [e] at hs; exact run c nq fq (vwOf l) r hs.2
 . cases hs
def ctRnd : CtF := ctRd netRd (rV mrndR) (pX rndP)
set_option maxRecDepth 100000 in
theorem jjkv : CtOk Tryz.prog 74 ctRnd := by
 refine jjfw (G := mS) (by kernel_rfl) (E := ENrd Tryz.prog) hENrd ⟨_, _, Tryz.func74, rfl⟩ (fun c nq fq v r => by unfold mrndR; split <;> rfl) fun c nq fq v r hr => ?_
 unfold rndP at hr; split at hr
 . simp only [gvPre, Bool.and_eq_true, decide_eq_true_eq] at hr
   obtain ⟨h8, ⟨hq, g1, g2, g3, g4, g5⟩, hp⟩ := hr; have hp := (jj75 v).1 hp; refine (?_ : (∃ p q, vwE (ENrd Tryz.prog) 74 c nq fq v [] p [none, some (rdS (rndV ⟨c.np, c.miss, c.good⟩ v))] = some q /\ GoodF (.agg (rndL ⟨c.np, c.miss, c.good⟩ (vwL v))) q) -> _) (mbRdD c nq fq v (rndV ⟨c.np, c.miss, c.good⟩ v) _ ?_)
   . rintro ⟨p, q, h1, h2⟩
     exact ⟨p, _, q, h1, h2⟩
   . have hs := jjk1 c v vw0 h8 hp
     refine ⟨by rw [jjgo]; rfl, (by first | (unfold lim; omega) | (dsimp only; unfold lim; omega)), ?_, fun q hq => ?_⟩
     . simp [allT, jjj, jji, jj0, jj1, jj3, jjb, jj4, slC, slRow, jj2, jj8, Vw.len, hq]
       omega
     . rw [List.mem_singleton.1 hq]
       simp only [Nat.zero_add, Option.getD_some, Int.ofNat_eq_natCast, Int.sub_zero, Int.toNat_natCast] at hs ⊢; exact hs
 . cases hr
def ctsMy : List (FuncId × CtF) := [(16, ctFirst), (12, ctRoundN), (59, ctEmpty)]
theorem jjfp : ∀ f g, (f, g) ∈ ctsMy -> CtOk Tryz.prog f g := by
 intro f g h; simp only [ctsMy, List.mem_cons, Prod.mk.injEq, List.not_mem_nil, or_false] at h; rcases h with ⟨rfl, rfl⟩ | ⟨rfl, rfl⟩ | ⟨rfl, rfl⟩
 . exact jjb2
 . exact jjb1
 . exact jjfv
def ENmy (P : Program) : Env := ⟨P, ctsMy⟩
theorem hENmy : EnvOk (ENmy Tryz.prog) := jj3w jjfp (by kernel_rfl) (by kernel_rfl)
abbrev myH : List Nat := [0, 3, 32]
abbrev myI : List Nat := netIds ++ [1000]
abbrev myV (k : Nat) : List AV := [.c (.ptr 5 0 0), .c (.ptr 1000 0 0), i64 (Int.ofNat k)]
def myRn (P : Program) (c : Cfg) (nq : Nat) (fq : Nat -> Int) (v : Vw) (k : Nat) (path : List Dec) : Option VC :=
 view (myH ++ [4]) myI (fC (ENmy P) 100 (loopAt P 28 0) 1000000000000000000000000000000000000000000 nSt (stH 67 myH myI (myV k) (netBk c nq fq ++ [vwB v]) path []))
theorem mbMy (c : Cfg) (nq : Nat) (fq : Nat -> Int) (v : Vw) (k : Nat) (Q : VC -> Prop) (H : let zI := fun z : Int => AC.v (Value.int .i64 z); let zN := Int.ofNat; let zM := ABlk.mk; let zD := Int.toNat; let yF := fun (t s : Nat) (c : Cs) => some (ABlk.mk false false t s c); let zz0 := [yF 26 0 (Cs.lit [zI (zN 1), zI (Int.negSucc 0)]), yF 3 1 (yP c), yF 3 1 (yS c), yF 3 1 (yB c), yF 51 3 (yT c), yF 3 1 (Cs.arr nq fun k => List.map AC.v ((fun i => [Value.int IntKind.i64 (fq i)]) k)), yF 105 0 (Cs.lit [zI (Cfg.nodes c), AC.sl 0 0 0 (Cfg.np c) none, AC.sl 1 0 0 (Cfg.ns c) none, zI (Cfg.long c), AC.sl 2 0 0 (Cfg.nb c) none, AC.sl 3 0 0 (Cfg.nt c) none, zI (Cfg.miss c), zI (Cfg.good c), zI (Cfg.fresh c), AC.sl 4 0 0 nq none]), some (zM true false 59 0 (Cs.lit (vwL v)))]; let zz1 := (List.getD (vwL v) (8 + zD (zN k) * 1) nov); let zz2 := [some (lkA (List.zip myH (myV k)) 0), some (lkA (List.zip myH (myV k)) 3), some (lkA (List.zip myH (myV k)) 32), some (AV.c (AC.v (Value.bool false)))]; let zz3 := (List.getD (vwL v) (16 + zD (zN k) * 1) nov); let zz4 := (List.getD (vwL v) (24 + zD (zN k) * 1) nov); let zz5 := [AV.agg (vwL v), AV.c (zI (zN k))]; let zz6 := [some (lkA (List.zip myH (myV k)) 0), some (lkA (List.zip myH (myV k)) 3), some (AV.c (zI (IntKind.wrap IntKind.i64 (zN k + zN 1)))), some (lkA (List.zip myH (myV k)) 4)]; let zt : List Bool -> List Bool := fun l => true :: true :: true :: true :: true :: true :: true :: true :: l; let zu : List Bool -> List Bool := fun l => zt (zt (zt (zt l))); let zq0 : List Bool := [netK c nq fq, true, decide (zN k < zN 8) == true]; let zq1 : List Bool := true :: (vwPP emPr zz5) :: (zu (zt (true :: true :: true :: ((decide (headN c nq fq (zN k) < zN 0) == true) :: zq0)))); let zq2 : List Bool := (ABlk.inb (zM true false 59 0 (Cs.lit (vwL v))) 0 (8 + zD (zN k) * 1 + 1)) :: (okl (Kd.i .u8) zz1) :: (decide (zN 0 <= zN k /\ zN k < zN 8)) :: ((!emB (vwL v) (zN k)) == false) :: zq1; let zq3 : List Bool := (ABlk.inb (zM true false 59 0 (Cs.lit (vwL v))) 0 (16 + zD (zN k) * 1 + 1)) :: (okl (Kd.i .u8) zz3) :: (decide (zN 0 <= zN k /\ zN k < zN 8)) :: (decide (asI zz1 > zN 100) == false) :: zq2; let zq4 : List Bool := (ABlk.inb (zM true false 59 0 (Cs.lit (vwL v))) 0 (24 + zD (zN k) * 1 + 1)) :: (okl (Kd.i .u16) zz4) :: (decide (zN 0 <= zN k /\ zN k < zN 8)) :: (decide (asI zz3 > zN 100) == false) :: zq3; let zq5 : List Bool := (ABlk.inb (zM true false 59 0 (Cs.lit (vwL v))) 0 (8 + zD (zN k) * 1 + 1)) :: (okl (Kd.i .u8) zz1) :: (decide (zN 0 <= zN k /\ zN k < zN 8)) :: (decide (headN c nq fq (zN k) < zN 0) == false) :: zq0; let zq6 : List Bool := (ABlk.inb (zM true false 59 0 (Cs.lit (vwL v))) 0 (16 + zD (zN k) * 1 + 1)) :: (okl (Kd.i .u8) zz3) :: (decide (zN 0 <= zN k /\ zN k < zN 8)) :: (decide (asI zz1 > zN 100) == false) :: zq5; let zq7 : List Bool := (ABlk.inb (zM true false 59 0 (Cs.lit (vwL v))) 0 (24 + zD (zN k) * 1 + 1)) :: (okl (Kd.i .u16) zz4) :: (decide (zN 0 <= zN k /\ zN k < zN 8)) :: (decide (asI zz3 > zN 100) == false) :: zq6; (((decide (zN k < zN 8)) = true -> (((decide (headN c nq fq (zN k) < zN 0)) = true -> (((!emB (vwL v) (zN k)) = true -> Q (Exit.ret, zz2, zz0, 67, 1000000000000000000000000000000000000000013, (((!emB (vwL v) (zN k)) == true) :: zq1), [])) /\ ((!emB (vwL v) (zN k)) = false -> (((decide (asI zz1 > zN 100)) = true -> Q (Exit.ret, zz2, zz0, 67, 1000000000000000000000000000000000000000023, ((decide (asI zz1 > zN 100) == true) :: zq2), [])) /\ ((decide (asI zz1 > zN 100)) = false -> (((decide (asI zz3 > zN 100)) = true -> Q (Exit.ret, zz2, zz0, 67, 1000000000000000000000000000000000000000028, ((decide (asI zz3 > zN 100) == true) :: zq3), [])) /\ ((decide (asI zz3 > zN 100)) = false -> (((decide (asI zz4 > zN 1000)) = true -> Q (Exit.ret, zz2, zz0, 67, 1000000000000000000000000000000000000000033, ((decide (asI zz4 > zN 1000) == true) :: zq4), [])) /\ ((decide (asI zz4 > zN 1000)) = false -> Q (Exit.normal, zz6, zz0, 67, 1000000000000000000000000000000000000000034, ((decide (asI zz4 > zN 1000) == false) :: zq4), [])))))))))) /\ ((decide (headN c nq fq (zN k) < zN 0)) = false -> (((decide (asI zz1 > zN 100)) = true -> Q (Exit.ret, zz2, zz0, 67, 1000000000000000000000000000000000000000020, ((decide (asI zz1 > zN 100) == true) :: zq5), [])) /\ ((decide (asI zz1 > zN 100)) = false -> (((decide (asI zz3 > zN 100)) = true -> Q (Exit.ret, zz2, zz0, 67, 1000000000000000000000000000000000000000025, ((decide (asI zz3 > zN 100) == true) :: zq6), [])) /\ ((decide (asI zz3 > zN 100)) = false -> (((decide (asI zz4 > zN 1000)) = true -> Q (Exit.ret, zz2, zz0, 67, 1000000000000000000000000000000000000000030, ((decide (asI zz4 > zN 1000) == true) :: zq7), [])) /\ ((decide (asI zz4 > zN 1000)) = false -> Q (Exit.normal, zz6, zz0, 67, 1000000000000000000000000000000000000000031, ((decide (asI zz4 > zN 1000) == false) :: zq7), [])))))))))) /\ ((decide (zN k < zN 8)) = false -> Q (Exit.exit 0, [some (lkA (List.zip myH (myV k)) 0), some (lkA (List.zip myH (myV k)) 3), some (lkA (List.zip myH (myV k)) 32), some (lkA (List.zip myH (myV k)) 4)], zz0, 67, 1000000000000000000000000000000000000000001, [decide (zN k < zN 8) == false], [])))) :
 ∃ p r, myRn Tryz.prog c nq fq v k p = some r /\ Q r :=
 two H (fun g1 => two g1 (fun g2 => two g2 (fun g3 => ⟨pD 6 247, _, by kernel_rfl, g3⟩) (fun g3 => two g3 (fun g4 => ⟨pD 17 1219, _, by kernel_rfl, g4⟩) (fun g4 => two g4 (fun g5 => ⟨pD 17 179095, _, by kernel_rfl, g5⟩) (fun g5 => two g5 (fun g6 => ⟨pD 17 43402963, _, by kernel_rfl, g6⟩) (fun g6 => ⟨pD 17 86449684, _, by kernel_rfl, g6⟩))))) (fun g2 => two g2 (fun g3 => ⟨pD 17 736, _, by kernel_rfl, g3⟩) (fun g3 => two g3 (fun g4 => ⟨pD 17 178612, _, by kernel_rfl, g4⟩) (fun g4 => two g4 (fun g5 => ⟨pD 17 43402480, _, by kernel_rfl, g5⟩) (fun g5 => ⟨pD 17 86449201, _, by kernel_rfl, g5⟩))))) (fun g1 => ⟨pD 1 2, _, by kernel_rfl, g1⟩)
theorem mbMyN (c : Cfg) (nq : Nat) (fq : Nat -> Int) (v : Vw) (Q : VF -> Prop) (H : let zI := fun z : Int => AC.v (Value.int .i64 z); let zN := Int.ofNat; let yF := fun (t s : Nat) (c : Cs) => some (ABlk.mk false false t s c); let zz0 := [yF 26 0 (Cs.lit [zI (zN 1), zI (Int.negSucc 0)]), yF 3 1 (yP c), yF 3 1 (yS c), yF 3 1 (yB c), yF 51 3 (yT c), yF 3 1 (Cs.arr nq fun k => List.map AC.v ((fun i => [Value.int IntKind.i64 (fq i)]) k)), yF 105 0 (Cs.lit [zI (Cfg.nodes c), AC.sl 0 0 0 (Cfg.np c) none, AC.sl 1 0 0 (Cfg.ns c) none, zI (Cfg.long c), AC.sl 2 0 0 (Cfg.nb c) none, AC.sl 3 0 0 (Cfg.nt c) none, zI (Cfg.miss c), zI (Cfg.good c), zI (Cfg.fresh c), AC.sl 4 0 0 nq none]), some (ABlk.mk true false 59 0 (Cs.lit (vwL v)))]; let zz1 := (headN c nq fq (IntKind.wrap IntKind.i64 (Vw.command v)) < zN 0); let zq0 : List Bool := [netK c nq fq, true]; let zq1 : List Bool := true :: true :: ((roundN c nq == zN 0) == false) :: zq0; let zq2 : List Bool := true :: true :: (decide (Vw.command v < Int.negSucc 0) == false) :: zq1; let zq3 : List Bool := (netK c nq fq) :: true :: true :: true :: (decide (Vw.command v ≥ zN 0) == true) :: zq2; let zq4 : List Bool := true :: true :: (decide zz1 == false) :: zq3; let zq5 : List Bool := true :: true :: (decide (Vw.command v ≥ zN 0) == false) :: zq2; (((roundN c nq == zN 0) = true -> Q (.c (.v (.bool false)), [], 1011, (((roundN c nq == zN 0) == true) :: zq0), [])) /\ ((roundN c nq == zN 0) = false -> (((decide (Vw.command v < Int.negSucc 0)) = true -> Q (.c (.v (.bool false)), [], 1014, ((decide (Vw.command v < Int.negSucc 0) == true) :: zq1), [])) /\ ((decide (Vw.command v < Int.negSucc 0)) = false -> (((decide (Vw.command v ≥ zN 0)) = true -> (((decide zz1) = true -> Q (.c (.v (.bool false)), [], 1024, ((decide zz1 == true) :: zq3), [])) /\ ((decide zz1) = false -> (((decide (Vw.mode v > zN 4)) = true -> Q (.c (.v (.bool false)), [], 1027, ((decide (Vw.mode v > zN 4) == true) :: zq4), [])) /\ ((decide (Vw.mode v > zN 4)) = false -> Q (.c (.v (.bool false)), [], 100000000000000000000000000000000000000000000000000, ((decide (Vw.mode v > zN 4) == false) :: zq4), [LoopV Tryz.prog (loopAt Tryz.prog 28 0) myH myI [some (.c (.ptr 5 0 0)), some (.c (.ptr 1000 0 0)), some (.c (zI (zN 0)))] zz0 67 1027 (mkFr 67 [(4, bo false)]) [] 100000000000000000000000000000000000000000000000000 Exit.ret none])))))) /\ ((decide (Vw.command v ≥ zN 0)) = false -> (((decide (Vw.mode v > zN 4)) = true -> Q (.c (.v (.bool false)), [], 1022, ((decide (Vw.mode v > zN 4) == true) :: zq5), [])) /\ ((decide (Vw.mode v > zN 4)) = false -> Q (.c (.v (.bool false)), [], 100000000000000000000000000000000000000000000000000, ((decide (Vw.mode v > zN 4) == false) :: zq5), [LoopV Tryz.prog (loopAt Tryz.prog 28 0) myH myI [some (.c (.ptr 5 0 0)), some (.c (.ptr 1000 0 0)), some (.c (zI (zN 0)))] zz0 67 1022 (mkFr 67 [(4, bo false)]) [] 100000000000000000000000000000000000000000000000000 Exit.ret none])))))))))) :
 ∃ p r, vwE (ENmy Tryz.prog) 28 c nq fq v [] p [some ⟨myH, myI, mkFr 67 [(4, bo false)], [], 100000000000000000000000000000000000000000000000000, .ret⟩] = some r /\ Q r :=
 two H (fun g1 => ⟨pD 12 1, _, by kernel_rfl, g1⟩) (fun g1 => two g1 (fun g2 => ⟨pD 12 29, _, by kernel_rfl, g2⟩) (fun g2 => two g2 (fun g3 => two g3 (fun g4 => ⟨pD 18 4785212, _, by kernel_rfl, g4⟩) (fun g4 => two g4 (fun g5 => ⟨pD 18 138708344, _, by kernel_rfl, g5⟩) (fun g5 => ⟨pD 18 267848507, _, by kernel_rfl, g5⟩))) (fun g3 => two g3 (fun g4 => ⟨pD 18 129144593, _, by kernel_rfl, g4⟩) (fun g4 => ⟨pD 18 258284756, _, by kernel_rfl, g4⟩))))
theorem mbMyY (c : Cfg) (nq : Nat) (fq : Nat -> Int) (v : Vw) (Q : VF -> Prop) (H : let zI := fun z : Int => AC.v (Value.int .i64 z); let zN := Int.ofNat; let yF := fun (t s : Nat) (c : Cs) => some (ABlk.mk false false t s c); let zz0 := [yF 26 0 (Cs.lit [zI (zN 1), zI (Int.negSucc 0)]), yF 3 1 (yP c), yF 3 1 (yS c), yF 3 1 (yB c), yF 51 3 (yT c), yF 3 1 (Cs.arr nq fun k => List.map AC.v ((fun i => [Value.int IntKind.i64 (fq i)]) k)), yF 105 0 (Cs.lit [zI (Cfg.nodes c), AC.sl 0 0 0 (Cfg.np c) none, AC.sl 1 0 0 (Cfg.ns c) none, zI (Cfg.long c), AC.sl 2 0 0 (Cfg.nb c) none, AC.sl 3 0 0 (Cfg.nt c) none, zI (Cfg.miss c), zI (Cfg.good c), zI (Cfg.fresh c), AC.sl 4 0 0 nq none]), some (ABlk.mk true false 59 0 (Cs.lit (vwL v)))]; let zz1 := (headN c nq fq (IntKind.wrap IntKind.i64 (Vw.command v)) < zN 0); let zq0 : List Bool := [netK c nq fq, true]; let zq1 : List Bool := true :: true :: ((roundN c nq == zN 0) == false) :: zq0; let zq2 : List Bool := true :: true :: (decide (Vw.command v < Int.negSucc 0) == false) :: zq1; let zq3 : List Bool := (netK c nq fq) :: true :: true :: true :: (decide (Vw.command v ≥ zN 0) == true) :: zq2; let zq4 : List Bool := true :: true :: (decide zz1 == false) :: zq3; let zq5 : List Bool := true :: true :: (decide (Vw.command v ≥ zN 0) == false) :: zq2; (((roundN c nq == zN 0) = true -> Q (.c (.v (.bool false)), [], 1011, (((roundN c nq == zN 0) == true) :: zq0), [])) /\ ((roundN c nq == zN 0) = false -> (((decide (Vw.command v < Int.negSucc 0)) = true -> Q (.c (.v (.bool false)), [], 1014, ((decide (Vw.command v < Int.negSucc 0) == true) :: zq1), [])) /\ ((decide (Vw.command v < Int.negSucc 0)) = false -> (((decide (Vw.command v ≥ zN 0)) = true -> (((decide zz1) = true -> Q (.c (.v (.bool false)), [], 1024, ((decide zz1 == true) :: zq3), [])) /\ ((decide zz1) = false -> (((decide (Vw.mode v > zN 4)) = true -> Q (.c (.v (.bool false)), [], 1027, ((decide (Vw.mode v > zN 4) == true) :: zq4), [])) /\ ((decide (Vw.mode v > zN 4)) = false -> Q (.c (.v (.bool true)), [], 100000000000000000000000000000000000000000000000001, ((decide (Vw.mode v > zN 4) == false) :: zq4), [LoopV Tryz.prog (loopAt Tryz.prog 28 0) myH myI [some (.c (.ptr 5 0 0)), some (.c (.ptr 1000 0 0)), some (.c (zI (zN 0)))] zz0 67 1027 (mkFr 67 []) [] 100000000000000000000000000000000000000000000000000 (Exit.exit 0) none])))))) /\ ((decide (Vw.command v ≥ zN 0)) = false -> (((decide (Vw.mode v > zN 4)) = true -> Q (.c (.v (.bool false)), [], 1022, ((decide (Vw.mode v > zN 4) == true) :: zq5), [])) /\ ((decide (Vw.mode v > zN 4)) = false -> Q (.c (.v (.bool true)), [], 100000000000000000000000000000000000000000000000001, ((decide (Vw.mode v > zN 4) == false) :: zq5), [LoopV Tryz.prog (loopAt Tryz.prog 28 0) myH myI [some (.c (.ptr 5 0 0)), some (.c (.ptr 1000 0 0)), some (.c (zI (zN 0)))] zz0 67 1022 (mkFr 67 []) [] 100000000000000000000000000000000000000000000000000 (Exit.exit 0) none])))))))))) :
 ∃ p r, vwE (ENmy Tryz.prog) 28 c nq fq v [] p [some ⟨myH, myI, mkFr 67 [], [], 100000000000000000000000000000000000000000000000000, .exit 0⟩] = some r /\ Q r :=
 two H (fun g1 => ⟨pD 12 1, _, by kernel_rfl, g1⟩) (fun g1 => two g1 (fun g2 => ⟨pD 12 29, _, by kernel_rfl, g2⟩) (fun g2 => two g2 (fun g3 => two g3 (fun g4 => ⟨pD 18 4785212, _, by kernel_rfl, g4⟩) (fun g4 => two g4 (fun g5 => ⟨pD 18 138708344, _, by kernel_rfl, g5⟩) (fun g5 => ⟨pD 18 267848507, _, by kernel_rfl, g5⟩))) (fun g3 => two g3 (fun g4 => ⟨pD 18 129144593, _, by kernel_rfl, g4⟩) (fun g4 => ⟨pD 18 258284756, _, by kernel_rfl, g4⟩))))
theorem jjdb (t : Nat -> Bool) (v : Vw) (k : Nat) : mayP t v k = ((t k || emptyB v k) && (decide (v.miss k <= 100) && (decide (v.good k <= 100) && decide (v.score k <= 1000)))) := rfl
set_option maxHeartbeats 1000000 in
theorem my_ob (c : Cfg) (nq : Nat) (fq : Nat -> Int) (v : Vw) (N : Nat) (hN : 1010 <= N) (hN2 : N <= 1000000000000000000000000000000000000000000) (hk : myI.all (keptB N 100000000000000000000000000000000000000000000000000) = true) (hv : ∀ k, (myV k).all (okV N) = true) (j : Nat) (hj : j <= 8) (hmin : ∀ i, i < j -> mayP (hasB c nq fq) v i = true) (hyes : j < 8 -> mayP (hasB c nq fq) v j = false) {e : Exit} {out : List (Nat × AV)}
 (hF : (j < 8 -> e = .ret /\ out = [(4, bo false)]) /\ (j = 8 -> e = .exit 0 /\ out = [])) :
 LoopV Tryz.prog (loopAt Tryz.prog 28 0) myH myI ((myV 0).map some) ((netBk c nq fq ++ [vwB v]).map some) 67 N (mkFr 67 out) [] 100000000000000000000000000000000000000000000000000 e none := by
 refine jj25 hENmy (fuel := 100) (str := nSt) (nh := 1000000000000000000000000000000000000000000) myH [4] myI myV (netBk c nq fq ++ [vwB v]) j hN2 (by decide) (by unfold lim; omega) ?_ (fun _ => ⟨rfl, rfl⟩) hk (fun k _ => hv k) ?_ ?_ ?_
 . rcases Nat.lt_or_ge j 8 with h | h
   . rw [(hF.1 h).1]; simp
   . rw [(hF.2 (by omega)).1]; simp
 . intro b hb
   rcases List.mem_append.1 hb with h | h
   . exact jj8c (by omega) b h
   . rw [List.mem_singleton.1 h]; exact jj24
 . intro k hkj
   have hm := hmin k hkj; have hk8 : k < 8 := by omega
   refine mbMy c nq fq v k _ ?_; rw [jjdb] at hm; clear hmin hyes hF hv hk; have w1 : IntKind.wrap IntKind.i64 (Int.ofNat k + Int.ofNat 1) = Int.ofNat (k + 1) := by rw [jj6 _ (by simp; omega) (by simp; omega)]; rfl
   rw [show hasB c nq fq k = decide (0 <= headN c nq fq (Int.ofNat k)) from rfl] at hm; obtain ⟨b0, hb0⟩ : ∃ b, emptyB v k = b := ⟨_, rfl⟩
   rw [hb0] at hm; simp only [jjfi hk8, (jj3n v k hk8).1, (jj3o v k hk8).1, (jj16 v k hk8).1, (jj3n v k hk8).2, (jj3o v k hk8).2, (jj16 v k hk8).2, List.headD_cons, w1, hb0]; clear hb0; cases b0
   all_goals (simp only [Bool.or_true, Bool.or_false, Bool.true_and, Bool.and_eq_true, Bool.and_eq_false_iff, decide_eq_true_eq, decide_eq_false_iff_not] at hm)
   all_goals (repeat' (first | refine ⟨fun h => ?_, fun h => ?_⟩ | fail))
   all_goals (first | contradiction | (exfalso; have hx := ‹(!true) = true›; cases hx; done) | (exfalso; have hx := ‹(!false) = false›; cases hx; done) | (exfalso; simp only [decide_eq_true_eq, decide_eq_false_iff_not, Int.ofNat_eq_natCast, Int.cast_ofNat_Int, gt_iff_lt] at *; omega) | skip)
   all_goals (refine ⟨⟨?_, rfl, by dsimp only; omega, rfl⟩, rfl, rfl, BL.refl _⟩)
   all_goals first
    | (simp_all [allT, jjj, jji, jj0, jj1, jj3, jjb, jj8, Vw.len, jj4, vwPP, emPr]; done)
    | (simp_all [allT, jjj, jji, jj0, jj1, jj3, jjb, jj8, Vw.len, jj4, vwPP, emPr]; omega)
    | (simp_all [allT, jjj, jji, jj0, jj1, jj3, jjb, jj8, Vw.len, jj4, vwPP, emPr]; omega)
 . rcases Nat.lt_or_ge j 8 with hk8 | hge
   . obtain ⟨rfl, rfl⟩ := hF.1 hk8
     have hm := hyes hk8; clear hmin hyes hF hv hk; rw [jjdb] at hm; refine mbMy c nq fq v j _ ?_; rw [show hasB c nq fq j = decide (0 <= headN c nq fq (Int.ofNat j)) from rfl] at hm; obtain ⟨b0, hb0⟩ : ∃ b, emptyB v j = b := ⟨_, rfl⟩
     rw [hb0] at hm; simp only [jjfi hk8, (jj3n v j hk8).1, (jj3o v j hk8).1, (jj16 v j hk8).1, (jj3n v j hk8).2, (jj3o v j hk8).2, (jj16 v j hk8).2, List.headD_cons, hb0]; clear hb0; cases b0
     all_goals (simp only [Bool.or_true, Bool.or_false, Bool.true_and, Bool.and_eq_true, Bool.and_eq_false_iff, decide_eq_true_eq, decide_eq_false_iff_not] at hm)
     all_goals (repeat' (first | refine ⟨fun h => ?_, fun h => ?_⟩ | fail))
     all_goals (first | contradiction | (exfalso; have hx := ‹(!true) = true›; cases hx; done) | (exfalso; have hx := ‹(!false) = false›; cases hx; done) | (exfalso; simp only [decide_eq_true_eq, decide_eq_false_iff_not, Int.ofNat_eq_natCast, Int.cast_ofNat_Int, gt_iff_lt] at *; omega) | skip)
     all_goals (refine jjx ⟨?_, rfl, by dsimp only; omega, rfl⟩ rfl rfl ?_)
     all_goals first
      | (simp [bo]; done)
      | (simp_all [allT, jjj, jji, jj0, jj1, jj3, jjb, jj8, Vw.len, jj4, vwPP, emPr]; done)
      | (simp_all [allT, jjj, jji, jj0, jj1, jj3, jjb, jj8, Vw.len, jj4, vwPP, emPr]; omega)
      | (simp_all [allT, jjj, jji, jj0, jj1, jj3, jjb, jj8, Vw.len, jj4, vwPP, emPr]; omega)
   . obtain ⟨rfl, rfl⟩ := hF.2 (by omega)
     refine mbMy c nq fq v j _ ?_; refine ⟨fun h1 => ?_, fun h1 => ?_⟩
     . exfalso; simp at h1; omega
     . refine jj2g ⟨?_, rfl, by dsimp only; omega, rfl⟩ rfl
       simp [allT]; omega
def mayH (c : Cfg) (nq : Nat) (fq : Nat -> Int) (cmd mode : Int) : Bool := decide (roundN c nq ≠ 0) && (decide (-1 <= cmd) && ((decide (cmd < 0) || decide (0 <= headN c nq fq (IntKind.wrap .i64 cmd))) && decide (mode <= 4)))
def mayB (c : Cfg) (nq : Nat) (fq : Nat -> Int) (l : List AC) : Bool := mayH c nq fq (asI (l.getD 40 nov)) (asI (l.getD 41 nov)) && mayL (hasB c nq fq) l
def mayR (c : Cfg) (nq : Nat) (fq : Nat -> Int) (l : List AC) (_ : List AV) : AV := bo (mayB c nq fq l)
def ctMay : CtF := ctRd netRd (rV mayR) (pV fun _ r => r.isEmpty)
theorem jjl0 : CtOk Tryz.prog 28 ctMay := by
 refine jjb3 (E := ENmy Tryz.prog) hENmy ⟨_, _, Tryz.func28, rfl⟩ (fun _ _ _ _ _ => rfl) fun c nq fq v r hr => ?_
 obtain rfl := List.isEmpty_iff.1 hr; have hR : mayR c nq fq (vwL v) [] = bo (mayH c nq fq v.command v.mode && mayL (hasB c nq fq) (vwL v)) := rfl; rw [hR]; obtain ⟨j, hj, hmin, hyes⟩ := jj15 8 fun p => !mayP (hasB c nq fq) v p
 have hmin : ∀ i, i < j -> mayP (hasB c nq fq) v i = true := fun i hi => by simpa using hmin i hi
 have hyes : j < 8 -> mayP (hasB c nq fq) v j = false := fun h => by simpa using hyes h
 rcases Nat.lt_or_ge j 8 with h8 | h8
 . have hL : mayL (hasB c nq fq) (vwL v) = false := by
    cases h : mayL (hasB c nq fq) (vwL v) with
    | false => rfl
    | true => rw [(jjaf _ _).1 h j h8] at hyes; exact absurd (hyes h8) (by simp)
   rw [hL, Bool.and_false]; refine (?_ : (∃ p q, vwE (ENmy Tryz.prog) 28 c nq fq v [] p [some ⟨myH, myI, mkFr 67 [(4, bo false)], [], 100000000000000000000000000000000000000000000000000, .ret⟩] = some q /\ GoodF (bo false) q) -> _) (mbMyN c nq fq v _ ?_)
   . rintro ⟨p, q, h1, h2⟩
     exact ⟨p, _, q, h1, h2⟩
   . have hs : ∀ N, 1010 <= N -> N <= 1000000000000000000000000000000000000000000 -> myI.all (keptB N 100000000000000000000000000000000000000000000000000) = true -> (∀ k, (myV k).all (okV N) = true) -> _ := fun N a b d f => my_ob c nq fq v N a b d f j hj hmin hyes (e := .ret) (out := [(4, bo false)]) ⟨fun _ => ⟨rfl, rfl⟩, fun h => by omega⟩
     (repeat' (first | refine ⟨fun h => ?_, fun h => ?_⟩ | fail))
     all_goals (refine ⟨rfl, (by first | (unfold lim; omega) | (dsimp only; unfold lim; omega)), ?_, fun q hq => ?_⟩)
     all_goals first
      | (cases hq; done)
      | (rw [List.mem_singleton.1 hq]; exact hs _ (by omega) (by omega) (by kernel_rfl) (fun _ => rfl))
      | (simp_all [allT, jjj, jji, jj0, jj1, jj3, jjb, jj4]; done)
      | (simp_all [allT, jjj, jji, jj0, jj1, jj3, jjb, jj4]; omega)
 . obtain rfl : j = 8 := by omega
   have hL : mayL (hasB c nq fq) (vwL v) = true := (jjaf _ _).2 hmin; rw [hL, Bool.and_true]; refine (?_ : (∃ p q, vwE (ENmy Tryz.prog) 28 c nq fq v [] p [some ⟨myH, myI, mkFr 67 [], [], 100000000000000000000000000000000000000000000000000, .exit 0⟩] = some q /\ GoodF (bo (mayH c nq fq v.command v.mode)) q) -> _) (mbMyY c nq fq v _ ?_)
   . rintro ⟨p, q, h1, h2⟩
     exact ⟨p, _, q, h1, h2⟩
   . have hs : ∀ N, 1010 <= N -> N <= 1000000000000000000000000000000000000000000 -> myI.all (keptB N 100000000000000000000000000000000000000000000000000) = true -> (∀ k, (myV k).all (okV N) = true) -> _ := fun N a b d f => my_ob c nq fq v N a b d f 8 hj hmin hyes (e := .exit 0) (out := []) ⟨fun h => by omega, fun _ => ⟨rfl, rfl⟩⟩
     (repeat' (first | refine ⟨fun h => ?_, fun h => ?_⟩ | fail))
     all_goals (refine ⟨?_, (by first | (unfold lim; omega) | (dsimp only; unfold lim; omega)), ?_, fun q hq => ?_⟩)
     all_goals first
      | (cases hq; done)
      | (rw [List.mem_singleton.1 hq]; exact hs _ (by omega) (by omega) (by kernel_rfl) (fun _ => rfl))
      | (simp_all [mayH, bo]; done)
      | (simp_all [mayH, bo]; omega)
      | (simp_all [allT, jjj, jji, jj0, jj1, jj3, jjb, jj4]; done)
      | (simp_all [allT, jjj, jji, jj0, jj1, jj3, jjb, jj4]; omega)
def zsC : List Value := [.bool false, .int .u32 0, .int .u32 0, .int .i64 0]
abbrev zsB (n : Nat) : ABlk := rBlk 86 4 n fun _ => [.bool false, .int .u32 0, .int .u32 0, .int .i64 0]
abbrev zsW (n : Nat) : ABlk := wBlk 86 4 n fun _ => [.bool false, .int .u32 0, .int .u32 0, .int .i64 0]
def isZs : List AC -> Bool
 | [.v (.bool x), .v (.int .u32 a), .v (.int .u32 b), .v (.int .i64 d)] => !x && (decide (a = 0) && (decide (b = 0) && decide (d = 0)))
 | _ => false
theorem jjhq {l : List AC} (h : isZs l = true) : l = zsC.map .v := by
 unfold isZs at h; split at h
 . simp at h
   obtain ⟨rfl, rfl, rfl, rfl⟩ := h; rfl
 . cases h
def zsOk (n : Nat) (F : Nat -> List AC) : Bool := (List.range n).all fun k => isZs (F k)
theorem jjg9 {n : Nat} {F : Nat -> List AC} (h : zsOk n F = true) : ∀ i, i < n -> F i = ((fun _ => zsC) i).map .v := fun i hi => jjhq (List.all_eq_true.1 h i (by simpa using hi))
def czR (P : Program) (a : AV) (m : AMem) (path : List Dec) : Option VF := viewF [1003, 1005] (fCallF (E1 P) (fC (E1 P) 300) 61 [a] 1000 nSt (stA m path []))
theorem czA (n : Nat) (Q : VF -> Prop) (H : Q (.c (.sl 1005 0 0 (0 + n) none), [none, some (ABlk.mk true true 86 4 (Cs.arr (0 + n) fun i => if i < 0 then [] else elt (ABlk.mk false false 86 4 (Cs.arr n fun k => List.map AC.v ((fun x => [Value.bool false, Value.int .u32 0, Value.int .u32 0, Value.int .i64 0]) k))) 0 0 4 (i - 0)))], 1007, [decide (0 + n <= n), true, true, decide ((0 + n) * 24 <= 140737488355328), ABlk.inb (ABlk.mk false false 86 4 (Cs.arr n fun k => List.map AC.v ((fun x => [Value.bool false, Value.int .u32 0, Value.int .u32 0, Value.int .i64 0]) k))) 0 1], [])) :
 ∃ p r, czR Tryz.prog (.c (.sl 0 0 0 n none)) [(0, zsB n)] p = some r /\ Q r :=
 ⟨pD 1 0, _, by kernel_rfl, H⟩
theorem czB  (Q : VF -> Prop) (H : Q (.c (AC.v (Value.slice none 0 0)), [none, none], 1004, [], [])) :
 ∃ p r, czR Tryz.prog (.c (.v (.slice none 0 0))) [] p = some r /\ Q r :=
 ⟨pD 1 0, _, by kernel_rfl, H⟩
theorem czC (b o cc : Nat) (Q : VF -> Prop) (H : Q (.c (.sl 1003 0 0 0 none), [some (ABlk.mk true true 86 4 (Cs.arr 0 fun x => [])), none], 1007, [true, true, true], [])) :
 ∃ p r, czR Tryz.prog (.c (.v (.slice (some ⟨b, o, none⟩) 0 cc))) [] p = some r /\ Q r :=
 ⟨pD 1 0, _, by kernel_rfl, H⟩
def ctClz : CtF
 | [.c a], m, ib => match slOf 4 m a with | some (n, F, b) => some (.c (.sl ib 0 0 n none), [(ib, zsW n)], 1, [b, decide (n <= 1000000), zsOk n F]) | none => none
 | _, _, _ => none
theorem jjl6 : CtOk Tryz.prog 61 ctClz := by
 refine ⟨⟨_, _, Tryz.func61, rfl⟩, fun C β m m2 w args ib r news k' ob vs hct ho hs hr hfree hlim hv => ?_⟩; unfold ctClz at hct; split at hct
 . rename_i a
   split at hct
   . rename_i n F b hsl
     simp only [Option.some.injEq, Prod.mk.injEq] at hct; obtain ⟨rfl, rfl, rfl, rfl⟩ := hct; simp only [allT, List.forall_mem_cons, decide_eq_true_eq] at ho; obtain ⟨rfl, o2, o3, _⟩ := ho; simp only [γt] at hv; split at hv
     . rename_i v0 us hv0 hus
       cases hus; cases hv; have hid : β ib = none := hfree ib (Nat.le_refl _) (by omega)
       have hmid : look m2 ib = none := by
        cases e : look m2 ib with
        | none => rfl
        | some x => obtain ⟨L, hL, _⟩ := hr.blk ib x e; rw [hid] at hL; cases hL
       obtain ⟨L, hk, hL2⟩ := jjv hr (by omega : 0 < 4) (jj10 hs hsl) hv0 86 (jjg9 o3) (fun _ => rfl) (loneC w) (fun _ => none) rfl; have hL3 := hL2 (ext1 (fun _ => none) 0 L) 0 jj7; have hrel := (jjp (jj32 w) (fun _ _ h => by cases h) (id := 0) rfl (fun g => by unfold gid; omega) rfl rfl hk).1; rcases Nat.eq_zero_or_pos n with rfl | hpos
       . cases hnil : L.nil with
         | true =>
          simp only [γc, jj7, hnil, if_true] at hL3; have hv1 : v0 = .slice none 0 0 := by simpa using hL3.symm
          subst hv1; obtain ⟨p, ⟨v, b', n', ob, po⟩, hrun, hvr, hn, hob, hpo⟩ : ∃ p r, czR Tryz.prog (.c (.v (.slice none 0 0))) [] p = some r /\ (r.1 = .c (.v (.slice none 0 0)) /\ r.2.2.1 <= lim /\ allT r.2.2.2.1 /\ ∀ q ∈ r.2.2.2.2, q) := czB _ ⟨rfl, by dsimp only; unfold lim; omega, by simp [allT], by simp⟩
          obtain ⟨s', r1, r2, r3, r4⟩ := jjl hrun; refine (jjz hE1 r1 ⟨by rw [r3]; exact hob, by rw [r4]; exact hpo⟩ (C := loneC w) (β := fun _ => none) (w := w) (vs := [.slice none 0 0]) rfl (jj32 w) (fun _ _ _ => rfl)).mono ?_; rintro e w' ⟨β', u, rfl, _, _, hu, hr'⟩; simp only at hvr; subst hvr; cases hu; refine ⟨ext1 β ib ⟨0, 0, 4, 0, true⟩, _, rfl, jjd hid, fun id h => by unfold ext1; rw [if_neg (by omega)], ?_, jj55 (y := zsW 0) (hr.below (jjk hr')) hid (jj1j (by omega)) rfl⟩; simp [γ, γ1, γc, jj7]
         | false =>
          simp only [γc, jj7, hnil, Bool.false_eq_true, if_false, Option.some.injEq] at hL3; subst hL3; obtain ⟨p, ⟨v, b', n', ob, po⟩, hrun, hvr, hbl, hn, hob, hpo⟩ : ∃ p r, czR Tryz.prog (.c (.v (.slice (some ⟨L.b, L.o + (0 * L.s + 0), none⟩) 0 ((none : Option Nat).getD (L.cap - 0))))) [] p = some r /\ (r.1 = .c (.sl 1003 0 0 0 none) /\ r.2.1 = [some ⟨true, true, 86, 4, .arr 0 fun _ => []⟩, none] /\ r.2.2.1 <= lim /\ allT r.2.2.2.1 /\ ∀ q ∈ r.2.2.2.2, q) := czC _ _ _ _ ⟨rfl, rfl, by dsimp only; unfold lim; omega, by simp [allT], by simp⟩
          obtain ⟨s', r1, r2, r3, r4⟩ := jjl hrun; have hn : n' <= lim := hn; simp only at hvr hbl; subst hvr; subst hbl; refine (jjz hE1 r1 ⟨by rw [r3]; exact hob, by rw [r4]; exact hpo⟩ (C := loneC w) (β := fun _ => none) (w := w) (vs := [_]) rfl (jj32 w) (fun _ _ _ => rfl)).mono ?_; rintro e w' ⟨β', u, rfl, _, _, hu, hr'⟩; simp only [List.map_cons, List.map_nil, List.cons.injEq, and_true] at r2; obtain ⟨r2, _⟩ := r2; obtain ⟨L', hL', hb'⟩ := hr'.blk 1003 _ r2; refine ⟨ext1 β ib L', u, rfl, jjd hid, fun id h => by unfold ext1; rw [if_neg (by omega)], ?_, ?_⟩
          . simp only [γ, γ1, γc, hL'] at hu
            simp only [γ, γ1, γc, jj7]; exact hu
          . exact jj85 (jj1i hr (jjk hr') hid (jj1j (by omega)) hr' r2 rfl rfl (fun k j hi => by simp [ABlk.inb] at hi) hL') hmid rfl rfl
       . have hnil : L.nil = false := (hk.cells 0 0 (by simp [rBlk, ABlk.inb, hpos])).1
         obtain ⟨p, ⟨v, b', n', ob, po⟩, hrun, hvr, hbl, hn, hob, hpo⟩ : ∃ p r, czR Tryz.prog (.c (.sl 0 0 0 n none)) [(0, zsB n)] p = some r /\ (r.1 = .c (.sl 1005 0 0 n none) /\ r.2.1 = [none, some (zsW n)] /\ r.2.2.1 <= lim /\ allT r.2.2.2.1 /\ ∀ q ∈ r.2.2.2.2, q) := by
          refine czA _ _ ?_; simp only [Nat.zero_add]; refine ⟨?_, ?_, (by first | (unfold lim; omega) | (dsimp only; unfold lim; omega)), ?_, by simp⟩
          . first | trivial | rfl
          . simp [elt, wBlk]
          . simp [allT, jj2, hpos]; omega
         obtain ⟨s', r1, r2, r3, r4⟩ := jjl hrun; have hn : n' <= lim := hn; simp only at hvr hbl; subst hvr; subst hbl; refine (jjz hE1 r1 ⟨by rw [r3]; exact hob, by rw [r4]; exact hpo⟩ (C := loneC w) (β := ext1 (fun _ => none) 0 L) (w := w) (vs := [v0]) ?_ hrel (fun id h1 _ => by unfold ext1; rw [if_neg (by omega)])).mono ?_
         . simp only [γt, γ1, hL3]
         . rintro e w' ⟨β', u, rfl, _, _, hu, hr'⟩
           simp only [List.map_cons, List.map_nil, List.cons.injEq, and_true] at r2; obtain ⟨_, r2⟩ := r2; obtain ⟨L', hL', hb'⟩ := hr'.blk 1005 _ r2; refine ⟨ext1 β ib L', u, rfl, jjd hid, fun id h => by unfold ext1; rw [if_neg (by omega)], ?_, ?_⟩
           . simp only [γ, γ1, γc, hL'] at hu
             simp only [γ, γ1, γc, jj7]; exact hu
           . refine jj1i hr (jjk hr') hid (jj1j (by omega)) hr' r2 rfl rfl (fun k j _ => ?_) hL'
             match j with
             | 0 => exact ⟨_, rfl⟩
             | 1 => exact ⟨_, rfl⟩
             | 2 => exact ⟨_, rfl⟩
             | 3 => exact ⟨_, rfl⟩
             | j + 4 => exact ⟨_, rfl⟩
     . cases hv
   . cases hct
 . cases hct
end Go.Proofs.YtfohlkhfnogmdaaGreatDoor
end
