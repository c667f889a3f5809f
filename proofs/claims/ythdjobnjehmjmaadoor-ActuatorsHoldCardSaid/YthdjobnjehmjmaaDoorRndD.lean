/- The contract of actuators.rounds. -/
import Derived.Test.YthdjobnjehmjmaaDoorRndC
import Derived.Test.YthdjobnjehmjmaaDoorFresh
set_option linter.unusedSimpArgs false
set_option linter.unusedVariables false
namespace Go.Proofs.YthdjobnjehmjmaaDoor
open Go.RowKit

def ctRds : CtF
  | [.c (.v (.int .i64 a)), .c (.v (.int .i64 h))], _, ib => some (.c (.sl ib 0 0 h.toNat none), [(ib, rndB a h.toNat)], 1, [decide (0 ≤ h), decide (h ≤ 1000000), decide (-9223372036854775808 ≤ a), decide (a + h ≤ 9223372036854775807)])
  | _, _, _ => none
theorem ct_rounds : CtOk Tryd.prog 64 ctRds := by
  refine ⟨⟨_, _, Tryd.func64, rfl⟩, fun C β m m2 w args ib r news k' ob vs hct ho hs hr hfree hlim hv => ?_⟩
  unfold ctRds at hct
  split at hct
  · rename_i a h
    simp only [Option.some.injEq, Prod.mk.injEq] at hct
    obtain ⟨rfl, rfl, rfl, rfl⟩ := hct
    simp only [allT, List.forall_mem_cons, decide_eq_true_eq] at ho
    obtain ⟨o1, o2, o3, o4, _⟩ := ho
    cases hv
    obtain ⟨s', r1, r2, r3, r4⟩ := viewF_out (rds_run a h)
    refine (calls_f hE1 r1 ⟨by rw [r3]; simp [allT], by
      rw [r4]
      intro q hq
      rw [List.mem_singleton.1 hq]
      exact rnd_sum a h 14 (by omega) o1 o2 o3 o4⟩ (C := loneC w) (β := fun _ => none) (w := w) (vs := [.int .i64 a, .int .i64 h]) rfl (rel_nil w) (fun _ _ _ => rfl)).mono ?_
    rintro e w' ⟨β', u, rfl, _, _, hu, hr'⟩
    simp only [List.map_cons, List.map_nil, List.cons.injEq, and_true] at r2
    obtain ⟨L, hL, hb⟩ := hr'.blk 22 _ r2
    have hid : β ib = none := hfree ib (Nat.le_refl _) (by omega)
    refine ⟨ext1 β ib L, u, rfl, ext1_ext hid, fun id h => ?_, ?_, ?_⟩
    · unfold ext1
      rw [if_neg (by omega)]
    · simp only [γ, γ1, γc, hL] at hu
      simp only [γ, γ1, γc, ext1_same]
      exact hu
    · refine rel_fresh hr ⟨hr'.os, hr'.tape, hr'.output, hr'.size, fun b hb => hr'.out b hb fun h => h⟩ hid (not_gid (by omega)) hr' r2 rfl rfl (fun k j _ => ?_) hL
      match j with
      | 0 => exact ⟨_, rfl⟩
      | j + 1 => exact ⟨_, rfl⟩
  · cases hct
end Go.Proofs.YthdjobnjehmjmaaDoor
