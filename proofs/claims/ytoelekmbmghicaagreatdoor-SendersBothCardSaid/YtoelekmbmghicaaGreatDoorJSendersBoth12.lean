/- Parts, one behind the other. sums.Of within frames.Read: its loops' rounds as the evaluator runs them. -/
import Derived.Test.YtoelekmbmghicaaGreatDoorJSendersBoth11
import Derived.Test.YtoelekmbmghicaaGreatDoorJSendersBoth10
set_option linter.unusedSimpArgs false
set_option linter.unusedVariables false
/- sums.Of within frames.Read: its loops' rounds as the evaluator runs them. -/
section
namespace Go.Proofs.YtoelekmbmghicaaGreatDoor
open Go.RowKit
abbrev wfxR : Nat := 100000000000000000000000000000000000001122
abbrev wfxP : Nat := 100000000000000000000000000000000000001111
structure EtK where
 g : Nat → Int
 h : Nat → Int
 a : Bool
 b : Bool
abbrev wfx1 : Nat := 100000000000000000000000000000000000001013
abbrev wfx2 : Nat := 100000000000000000000000000000000000001041
abbrev wfx3 : Nat := 100000000000000000000000000000000000001020
abbrev wfx4 : Nat := 90000000000000000000000000000000000001010
abbrev wfxI : List Nat := [wfxP, wfxR, wfx1, wfx2, wfx3, wfx4, 1000, 1001]
abbrev etTl (a b : Bool) : ABlk := ⟨true, false, 58, 0, .lit [.v (.bool a), .v (.bool b)]⟩
abbrev noFr : ABlk := ⟨true, false, 56, 0, .lit [.v (.int .i64 0), .v (.int .u8 0), .v (.int .u8 0), .v (.int .u32 0), .v (.int .u32 0)]⟩
abbrev wfxB (K : EtK) (n : Nat) (f : Nat → Int) (z : Int) : List ABlk := [bytW n f, rgB z, bytW 14 K.g, bytW 10 K.h, noFr, etTl K.a K.b, noFr, etTl false false]
/-! a bit -/
abbrev wfaH : List Nat := [0, 13]
abbrev wfaV (j : Nat) : List AV := [.c (.ptr wfxR 0 0), i64 (Int.ofNat j)]
abbrev wfaN : Nat := 100000000010000000000000000000000000000000
def wfaR (P : Program) (K : EtK) (n : Nat) (f : Nat → Int) (z : Int) (j : Nat) (path : List Dec) : Option VC :=
 view wfaH wfxI (fC (EFr P) 100 (loopAt P 133 0) wfaN 100000000 (stH 32 wfaH wfxI (wfaV j) (wfxB K n f z) path []))
/-! a byte -/
abbrev wfbH : List Nat := [3, 4, 11, 12, 16, 17, 18]
abbrev wfbV (n k : Nat) : List AV := [.c (.ptr wfxR 0 0), .c (.mv 133 wfxR 0 0), i64 1, i64 0, .c (.sl wfxP 0 0 n none), i64 (Int.ofNat n), i64 (Int.ofNat k)]
abbrev wfbN : Nat := 100000000001000000000000000000000000000000
abbrev wfaE : Nat := 100000000100000000000000000000000000000000
abbrev wfaS (K : EtK) (n : Nat) (f : Nat → Int) (z : Int) : Option LSum := some ⟨wfaH, wfxI, mkFr 32 [], wfxI.zip (wfxB K n f z), wfaE, .exit 0⟩
def wfbR (P : Program) (K : EtK) (n : Nat) (f : Nat → Int) (z : Int) (k : Nat) (path : List Dec) (lp : List (Option LSum)) : Option VC :=
 view wfbH wfxI (fC (EFr P) 100 (loopAt P 123 1) wfbN 100000000 (stH 29 wfbH wfxI (wfbV n k) (wfxB K n f z) path lp))
theorem wfaT (K : EtK) (n : Nat) (f : Nat → Int) (z : Int) (j : Nat) (Q : VC → Prop) (H : let zz0 := (ABlk.mk true false 56 0 (Cs.lit [AC.v (Value.int IntKind.i64 (Int.ofNat 0)), AC.v (Value.int IntKind.u8 (Int.ofNat 0)), AC.v (Value.int IntKind.u8 (Int.ofNat 0)), AC.v (Value.int IntKind.u32 (Int.ofNat 0)), AC.v (Value.int IntKind.u32 (Int.ofNat 0))])); let zz1 := (IntKind.wrap IntKind.u32 ↑(BitVec.toNat (BitVec.ofInt (IntKind.bits IntKind.u32) z &&& BitVec.ofInt (IntKind.bits IntKind.u32) 2147483648)) != Int.ofNat 0); let zz2 := (ABlk.mk true true 5 1 (Cs.arr 14 fun k => List.map AC.v ((fun i => [Value.int IntKind.u8 (EtK.g K i)]) k))); let zz3 := (ABlk.mk true true 5 1 (Cs.arr 10 fun k => List.map AC.v ((fun i => [Value.int IntKind.u8 (EtK.h K i)]) k))); let zz4 := (ABlk.mk true true 5 1 (Cs.arr n fun k => List.map AC.v ((fun i => [Value.int IntKind.u8 (f i)]) k))); let zz5 := (ABlk.mk true false 58 0 (Cs.lit [AC.v (Value.bool (EtK.a K)), AC.v (Value.bool (EtK.b K))])); (((decide (Int.ofNat j < Int.ofNat 8)) = true → ((zz1 = true → Q (Exit.normal, [some (lkA (List.zip wfaH (wfaV j)) 0), some (.c (.v (.int .i64 (IntKind.wrap .i64 (Int.ofNat j + Int.ofNat 1)))))], [some zz4, some (ABlk.mk true false 182 0 (Cs.lit [.v (.int .u32 (IntKind.wrap .u32 ↑(BitVec.toNat (BitVec.ofInt (IntKind.bits .u32) (IntKind.wrap .u32 (z * Int.ofNat 2)) ^^^ BitVec.ofInt (IntKind.bits .u32) 79764919))))])), some zz2, some zz3, some zz0, some zz5, some zz0, some (ABlk.mk true false 58 0 (Cs.lit [.v (.bool false), .v (.bool false)]))], 32, 100000000010000000000000000000000000000022, [true, true, true, zz1 == true, true, true, true, true, true, true, decide (Int.ofNat j < Int.ofNat 8) == true], [])) ∧ (zz1 = false → Q (Exit.normal, [some (lkA (List.zip wfaH (wfaV j)) 0), some (.c (.v (.int .i64 (IntKind.wrap .i64 (Int.ofNat j + Int.ofNat 1)))))], [some zz4, some (ABlk.mk true false 182 0 (Cs.lit [.v (.int .u32 (IntKind.wrap .u32 (z * Int.ofNat 2)))])), some zz2, some zz3, some zz0, some zz5, some zz0, some (ABlk.mk true false 58 0 (Cs.lit [.v (.bool false), .v (.bool false)]))], 32, 100000000010000000000000000000000000000016, [zz1 == false, true, true, true, true, true, true, decide (Int.ofNat j < Int.ofNat 8) == true], [])))) ∧ ((decide (Int.ofNat j < Int.ofNat 8)) = false → Q (Exit.exit 0, [some (lkA (List.zip wfaH (wfaV j)) 0), some (lkA (List.zip wfaH (wfaV j)) 13)], [some zz4, some (ABlk.mk true false 182 0 (Cs.lit [.v (.int .u32 z)])), some zz2, some zz3, some zz0, some zz5, some zz0, some (ABlk.mk true false 58 0 (Cs.lit [.v (.bool false), .v (.bool false)]))], 32, 100000000010000000000000000000000000000001, [decide (Int.ofNat j < Int.ofNat 8) == false], [])))) :
 ∃ p r, wfaR Tryz.prog K n f z j p = some r ∧ Q r :=
 two H
 (fun g1 => two g1
  (fun g2 => ⟨pD 2 4, _, by kernel_rfl, g2⟩)
  (fun g2 => ⟨pD 2 7, _, by kernel_rfl, g2⟩))
 (fun g1 => ⟨pD 1 2, _, by kernel_rfl, g1⟩)
theorem wfbT (K : EtK) (n : Nat) (f : Nat → Int) (z y : Int) (k : Nat) (Q : VC → Prop) (H : let zz0 := (ABlk.mk true false 56 0 (Cs.lit [AC.v (Value.int IntKind.i64 (Int.ofNat 0)), AC.v (Value.int IntKind.u8 (Int.ofNat 0)), AC.v (Value.int IntKind.u8 (Int.ofNat 0)), AC.v (Value.int IntKind.u32 (Int.ofNat 0)), AC.v (Value.int IntKind.u32 (Int.ofNat 0))])); let zz1 := (ABlk.mk true true 5 1 (Cs.arr n fun k => List.map AC.v ((fun i => [Value.int IntKind.u8 (f i)]) k))); let zz2 := (ABlk.mk true true 5 1 (Cs.arr 14 fun k => List.map AC.v ((fun i => [Value.int IntKind.u8 (EtK.g K i)]) k))); let zz3 := (ABlk.mk true true 5 1 (Cs.arr 10 fun k => List.map AC.v ((fun i => [Value.int IntKind.u8 (EtK.h K i)]) k))); let zz4 := (ABlk.mk true false 58 0 (Cs.lit [AC.v (Value.bool (EtK.a K)), AC.v (Value.bool (EtK.b K))])); (((decide (Int.ofNat k < Int.ofNat n)) = true → Q (Exit.normal, [some (lkA (List.zip wfbH (wfbV n k)) 3), some (lkA (List.zip wfbH (wfbV n k)) 4), some (lkA (List.zip wfbH (wfbV n k)) 11), some (lkA (List.zip wfbH (wfbV n k)) 12), some (lkA (List.zip wfbH (wfbV n k)) 16), some (lkA (List.zip wfbH (wfbV n k)) 17), some (.c (.v (.int .i64 (IntKind.wrap .i64 (Int.ofNat k + Int.ofNat 1)))))], [some zz1, some (ABlk.mk true false 182 0 (Cs.lit [.v (.int .u32 y)])), some zz2, some zz3, some zz0, some zz4, some zz0, some (ABlk.mk true false 58 0 (Cs.lit [.v (.bool false), .v (.bool false)]))], 29, 100000000100000000000000000000000000000002, [true, true, true, true, ABlk.inb zz1 (0 + Int.toNat (Int.ofNat k)) 1, true, decide (Int.ofNat 0 ≤ Int.ofNat k ∧ Int.ofNat k < ↑n), decide (Int.ofNat k < Int.ofNat n) == true], [LoopV Tryz.prog (loopAt Tryz.prog 133 0) wfaH wfxI [some (.c (.ptr 100000000000000000000000000000000000001122 0 0)), some (.c (.v (.int .i64 (Int.ofNat 0))))] [some zz1, some (ABlk.mk true false 182 0 (Cs.lit [.v (.int .u32 (IntKind.wrap .u32 ↑(BitVec.toNat (BitVec.ofInt (IntKind.bits .u32) z ^^^ BitVec.ofInt (IntKind.bits .u32) (IntKind.wrap .u32 (IntKind.wrap .u32 (f (0 + Int.toNat (Int.ofNat k))) * Int.ofNat 16777216))))))])), some zz2, some zz3, some zz0, some zz4, some zz0, some (ABlk.mk true false 58 0 (Cs.lit [.v (.bool false), .v (.bool false)]))] 32 100000000001000000000000000000000000000016 (mkFr 32 []) (List.zip wfxI (wfxB K n f y)) 100000000100000000000000000000000000000000 (Exit.exit 0) none])) ∧ ((decide (Int.ofNat k < Int.ofNat n)) = false → Q (Exit.exit 2, [some (lkA (List.zip wfbH (wfbV n k)) 3), some (lkA (List.zip wfbH (wfbV n k)) 4), some (lkA (List.zip wfbH (wfbV n k)) 11), some (lkA (List.zip wfbH (wfbV n k)) 12), some (lkA (List.zip wfbH (wfbV n k)) 16), some (lkA (List.zip wfbH (wfbV n k)) 17), some (lkA (List.zip wfbH (wfbV n k)) 18)], [some zz1, some (ABlk.mk true false 182 0 (Cs.lit [.v (.int .u32 z)])), some zz2, some zz3, some zz0, some zz4, some zz0, some (ABlk.mk true false 58 0 (Cs.lit [.v (.bool false), .v (.bool false)]))], 29, 100000000001000000000000000000000000000001, [decide (Int.ofNat k < Int.ofNat n) == false], [])))) :
 ∃ p r, wfbR Tryz.prog K n f z k p [wfaS K n f y] = some r ∧ Q r :=
 two H
 (fun g1 => ⟨pD 1 1, _, by kernel_rfl, g1⟩)
 (fun g1 => ⟨pD 1 2, _, by kernel_rfl, g1⟩)
end Go.Proofs.YtoelekmbmghicaaGreatDoor
end
/- sums.Of within frames.Read: its loops' sums. -/
section
namespace Go.Proofs.YtoelekmbmghicaaGreatDoor
open Go.RowKit
theorem wfxB_low {N : Nat} (K : EtK) (n : Nat) (f : Nat → Int) (z : Int) : ∀ b ∈ wfxB K n f z, lowB N b := by
 intro b hb
 simp only [List.mem_cons, List.not_mem_nil, or_false] at hb
 rcases hb with rfl | rfl | rfl | rfl | rfl | rfl | rfl | rfl
 · exact wBlk_low
 · exact low_lit rfl
 · exact wBlk_low
 · exact wBlk_low
 · exact low_lit rfl
 · exact low_lit rfl
 · exact low_lit rfl
 · exact low_lit rfl
abbrev wfa0 : Nat := 100000000001000000000000000000000000000016
theorem wfa_sum (K : EtK) (n : Nat) (f : Nat → Int) (v : BitVec 32) : LoopV Tryz.prog (loopAt Tryz.prog 133 0) wfaH wfxI ((wfaV 0).map some) ((wfxB K n f (v.toNat : Int)).map some) 32 wfa0 (mkFr 32 []) (wfxI.zip (wfxB K n f ((crIt 8 v).toNat : Int))) wfaE (.exit 0) none := by
 have hk : wfxI.all (keptB wfa0 wfaE) = true := by kernel_rfl
 refine loop_viewE (E := EFr Tryz.prog) hEFr (fuel := 100) (str := 100000000) (nh := wfaN) (S := Nat) (fun j => j ≤ 8) (fun j => 8 - j) wfaH [] wfxI wfaV (fun j => wfxB K n f ((crIt j v).toNat : Int)) (Nat.le_of_ble_eq_true rfl) (Nat.le_of_ble_eq_true rfl) (Nat.le_of_ble_eq_true rfl) (s0 := 0) (Nat.zero_le _) (fun _ => ⟨rfl, rfl⟩) hk (BL.refl _) (fun j _ => ⟨rfl, wfxB_low K n f _⟩) ?_
 intro j hj
 refine (?_ : (∃ p r, wfaR Tryz.prog K n f ((crIt j v).toNat : Int) j p = some r ∧ _) → _) (wfaT K n f ((crIt j v).toNat : Int) j (StepV wfa0 wfaE 32 wfaH [] wfxI (fun j => j ≤ 8) (fun j => 8 - j) wfaV (fun j => wfxB K n f ((crIt j v).toNat : Int)) (.exit 0) [] (wfxI.zip (wfxB K n f ((crIt 8 v).toNat : Int))) j) ?_)
 · rintro ⟨p, r, h1, h2⟩
   exact ⟨p, [], r, h1, h2⟩
 · simp only [fr_high]
   refine ⟨fun c1 => ?_, fun c1 => ?_⟩
   · have hlt : j < 8 := by simp at c1; omega
     have w := fr_w1 (show j < 1000000 by omega)
     refine ⟨fun c2 => ?_, fun c2 => ?_⟩
     · refine ⟨by simp only [allT, List.forall_mem_cons, c1, c2]; simp, rfl, by dsimp only [wfaE]; omega, rfl, .inl ⟨rfl, j + 1, hlt, by show 8 - (j + 1) < 8 - j; omega, by dsimp only; rw [w]; rfl, ?_⟩⟩
       rw [fr_step _ c2]
       exact BL.refl (wfxB K n f ((crIt (j + 1) v).toNat : Int))
     · refine ⟨by simp only [allT, List.forall_mem_cons, c1, c2]; simp, rfl, by dsimp only [wfaE]; omega, rfl, .inl ⟨rfl, j + 1, hlt, by show 8 - (j + 1) < 8 - j; omega, by dsimp only; rw [w]; rfl, ?_⟩⟩
       rw [fr_step0 _ c2]
       exact BL.refl (wfxB K n f ((crIt (j + 1) v).toNat : Int))
   · obtain rfl : j = 8 := by simp at c1; omega
     exact ⟨by simp only [allT, List.forall_mem_cons, c1]; simp, rfl, by dsimp only [wfaE]; omega, rfl, .inr ⟨by simp, rfl, (fun _ h => by cases h), mf_all hk (wfxB_low K n f _) rfl⟩⟩
abbrev wfb0 : Nat := 100000000000000000000000000000000000001136
abbrev wfbE : Nat := 100000001000000000000000000000000000000000
abbrev wfbO : List (Nat × AV) := [(3, .c (.ptr wfxR 0 0)), (11, i64 1), (12, i64 0)]
abbrev wfbS (K : EtK) (n : Nat) (f : Nat → Int) : Option LSum := some ⟨wfbH, wfxI, mkFr 29 wfbO, wfxI.zip (wfxB K n f ((crOf (natF f) n).toNat : Int)), wfbE, .exit 2⟩
theorem wfb_sum (K : EtK) (n : Nat) (f : Nat → Int) (hn : n ≤ 1000) (hf : ∀ i, i < n → 0 ≤ f i ∧ f i < 256) {eblks : List (Option ABlk)} (heb : BL (wfxB K n f 4294967295) eblks) : LoopV Tryz.prog (loopAt Tryz.prog 123 1) wfbH wfxI ((wfbV n 0).map some) eblks 29 wfb0 (mkFr 29 wfbO) (wfxI.zip (wfxB K n f ((crOf (natF f) n).toNat : Int))) wfbE (.exit 2) none := by
 have hk : wfxI.all (keptB wfb0 wfbE) = true := by kernel_rfl
 refine loop_viewN (E := EFr Tryz.prog) hEFr (fuel := 100) (str := 100000000) (nh := wfbN) (S := Nat) (fun k => k ≤ n) (fun k => n - k) wfbH [] wfxI (wfbV n) (fun k => wfxB K n f ((crOf (natF f) k).toNat : Int)) (Nat.le_of_ble_eq_true rfl) (Nat.le_of_ble_eq_true rfl) (Nat.le_of_ble_eq_true rfl) (s0 := 0) (Nat.zero_le _) (fun _ => ⟨rfl, rfl⟩) hk heb (fun k _ => ⟨rfl, wfxB_low K n f _⟩) ?_
 intro k hk2
 refine (?_ : (∃ p r, wfbR Tryz.prog K n f ((crOf (natF f) k).toNat : Int) k p [wfaS K n f ((crOf (natF f) (k + 1)).toNat : Int)] = some r ∧ _) → _) (wfbT K n f ((crOf (natF f) k).toNat : Int) ((crOf (natF f) (k + 1)).toNat : Int) k (StepN wfb0 wfbE 29 wfbH [] wfxI (fun k => k ≤ n) (fun k => n - k) (wfbV n) (fun k => wfxB K n f ((crOf (natF f) k).toNat : Int)) (.exit 2) wfbO (wfxI.zip (wfxB K n f ((crOf (natF f) n).toNat : Int))) k) ?_)
 · rintro ⟨p, r, h1, h2⟩
   exact ⟨p, _, r, h1, h2⟩
 · refine ⟨fun c1 => ?_, fun c1 => ?_⟩
   · have hlt : k < n := by simp at c1; omega
     have w := fr_w1 (show k < 1000000 by omega)
     have ez : 0 + Int.toNat (Int.ofNat k) = k := by simp
     obtain ⟨b0, b1⟩ := hf k hlt
     refine ⟨?_, fun q hq => ?_, by dsimp only [wfbE]; omega, rfl, .inl ⟨rfl, k + 1, hlt, by show n - (k + 1) < n - k; omega, by dsimp only; rw [w]; rfl, BL.refl (wfxB K n f ((crOf (natF f) (k + 1)).toNat : Int))⟩⟩
     · simp only [allT, List.forall_mem_cons, c1]
       simp [inb_arr]
       omega
     · rw [List.mem_singleton.1 hq, ez, fr_put _ b0 b1]
       exact wfa_sum K n f (crPut (crOf (natF f) k) (f k).toNat)
   · obtain rfl : k = n := by simp at c1; omega
     refine ⟨by simp only [allT, List.forall_mem_cons, c1]; simp, by simp, by dsimp only [wfbE]; omega, rfl, .inr ⟨by simp, rfl, fun p hp => ?_, mf_all hk (wfxB_low K _ f _) rfl⟩⟩
     simp only [List.mem_cons, List.not_mem_nil, or_false] at hp
     rcases hp with rfl | rfl | rfl
     · exact ⟨rfl, .head _⟩
     · exact ⟨rfl, .tail _ (.tail _ (.head _))⟩
     · exact ⟨rfl, .tail _ (.tail _ (.tail _ (.head _)))⟩
end Go.Proofs.YtoelekmbmghicaaGreatDoor
end
