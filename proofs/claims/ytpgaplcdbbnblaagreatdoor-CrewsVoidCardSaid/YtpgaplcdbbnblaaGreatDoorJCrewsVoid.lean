/- CrewsVoid: for any slot, vector and numbers the law returns true (its tied card). No further condition. -/
import Derived.Test.YtpgaplcdbbnblaaGreatDoorTie
import Derived.Test.YtpgaplcdbbnblaaGreatDoorCards
import Derived.Test.YtpgaplcdbbnblaaGreatDoorJCrewsVoid0
import Derived.Test.YtpgaplcdbbnblaaGreatDoorJCrewsVoid29
import Derived.Test.YtpgaplcdbbnblaaGreatDoorJCrewsVoid27
import Derived.Test.YtpgaplcdbbnblaaGreatDoorJCrewsVoid30
import Derived.Test.YtpgaplcdbbnblaaGreatDoorJCrewsVoid3
import Derived.Test.YtpgaplcdbbnblaaGreatDoorJCrewsVoid32
import Derived.LaidMore
import Derived.LaidHandle
set_option linter.unusedSimpArgs false
set_option linter.unusedVariables false
section
namespace Go.Proofs.YtpgaplcdbbnblaaGreatDoor.crewsVoid
open Go.RowKit Go.WideShapes Go.ChangeShapes Go.ChangeAt

set_option maxRecDepth 1000000 in
theorem run (a : Int) (A : Option Addr) (n c : Nat) (z0 z1 : Int) : ∃ p r, crR Tryz.prog a A n c z0 z1 p = some r ∧ (r.1 = bo true ∧ r.2.2.1 ≤ lim ∧ allT r.2.2.2.1 ∧ ∀ q ∈ r.2.2.2.2, q) := by
  refine cr a A n c z0 z1 _ ?_
  repeat' (first | refine ⟨fun h => ?_, fun h => ?_⟩ | fail)
  all_goals (first | (exfalso; simp at *; done) | (exfalso; simp at *; omega) | skip)
  all_goals (refine ⟨rfl, by dsimp only; unfold lim; omega, ?_, by simp⟩)
  all_goals (first | (simp_all [allT]; done) | (simp_all [allT]; omega))
theorem walk (a : Int) (A : Option Addr) (n c : Nat) (z0 z1 : Int) (w : World) (_ : -9223372036854775808 ≤ z0) (_ : z0 ≤ 9223372036854775807) (_ : -9223372036854775808 ≤ z1) (_ : z1 ≤ 9223372036854775807) (hL : laidMetH Tryz.prog Rows.crewsVoidRow.laid w) :
    Calls Tryz.prog 12 #[.agg #[.int .i64 a, .slice A n c], .agg #[.int .i64 z0, .int .i64 z1]] w fun e w' => e = .returned (.bool true) ∧ Below w.heap.size w w' := by
  have hG : ∀ p ∈ mSE, GlobAt w p := by
    rw [MakeChecks.laidMetH_plain _ _ _ (by kernel_rfl)] at hL
    intro p hp
    rcases List.mem_cons.1 hp with rfl | hp
    · exact globAt_signs hL
    · rw [List.mem_singleton.1 hp]
      exact globAt_edges (laidMet_tail hL)
  obtain ⟨p, ⟨v, b', n', ob, po⟩, hrun, hv, hn, hob, hpo⟩ := run a A n c z0 z1
  obtain ⟨s', r1, r2, r3, r4⟩ := viewF_out hrun
  refine (calls_f hELcr r1 ⟨by rw [r3]; exact hob, by rw [r4]; exact hpo⟩ (C := loneC w) (β := gβ) (w := w) (vs := [.agg #[.int .i64 a, .slice A n c], .agg #[.int .i64 z0, .int .i64 z1]]) ?_ (rel_in hG) ?_).mono ?_
  · simp only [γt, γ1, γs, γc, ag, List.map]
  · intro id _ h2
    exact gβ_lo (Nat.lt_of_lt_of_le h2 hn)
  · rintro e w' ⟨β', u, rfl, _, _, hu, hr⟩
    simp only at hv
    subst hv
    cases hu
    exact ⟨rfl, below_lone hr⟩
set_option maxRecDepth 100000 in
theorem lifted (os : Os) (started : os.Started) (H : Type) (enc : TypeId × Value → H) (F : Stop.Interp) :
    ReturnsInHanded {} Tryz.checked os 12 .any ((OpenSpec.ofChange Rows.crewsVoidSpec).preRow enc Tryz.prog Tryz.f12 Rows.crewsVoidRow.domain false Rows.crewsVoidRow.laid) (((OpenSpec.ofChange Rows.crewsVoidSpec).at F).post enc Tryz.prog Tryz.f12 false true false false) := by
  refine card_lifted (C := Tryz.checked) (by kernel_rfl) started (by kernel_rfl) Tryz.func12 (by kernel_rfl) (by kernel_rfl) rfl Tryz.underlying4 rfl (fun ds h => by match ds, h with | [_, _], _ => rfl)
    (card_witness (enc := enc) (C := Tryz.checked) (World.doorLaid Tryz.prog 1000 os) #[.agg #[.int .i64 0, .slice none 0 0], .agg #[.int .i64 0, .int .i64 0]] rfl (by kernel_rfl) (by kernel_rfl) (by kernel_rfl) (by kernel_rfl) (by kernel_rfl) (laidMetH_of_parts3 (fuel := 8) (laidMet_of_run' 8 (by kernel_rfl) (by kernel_rfl)) (by kernel_rfl) (by kernel_rfl))) ?_
  intro W base args ds p hval hA hL
  change DataW.TrodAll enc Tryz.prog W 0 (fun _ => true) true Tryz.f12.params.toList args.toList ds p at hA
  rw [Tryz.params12] at hA hval
  obtain ⟨v0, vs0, d0, ds0, p0, q0, hargs, rfl, rfl, h0, r0⟩ := trodAll_cons hA
  obtain ⟨v1, vs1, d1, ds1, p1, q1, rfl, rfl, rfl, h1, r1⟩ := trodAll_cons r0
  obtain ⟨rfl, rfl, rfl⟩ := trodAll_nil r1
  obtain rfl : args = #[v0, v1] := by cases args; simp_all
  obtain ⟨z0, A0, n0, c0, rfl⟩ := open_tick (hval 0 130 v0 rfl rfl) h0
  obtain ⟨cs1, fl1, rfl⟩ := open_raw (m := 9) (ks := [some .i64, some .i64]) (by kernel_rfl) (by kernel_rfl) (hval 1 131 v1 rfl rfl) h1
  obtain ⟨_, _, rfl, ⟨e1_0, rfl, w1_0⟩, fl1_0⟩ := fl1.uncons
  have b1_0 := bounds_i64 w1_0
  obtain ⟨_, _, rfl, ⟨e1_1, rfl, w1_1⟩, fl1_1⟩ := fl1_0.uncons
  have b1_1 := bounds_i64 w1_1
  obtain rfl := fl1_1.unnil
  exact walk z0 A0 n0 c0 e1_0 e1_1 W b1_0.1 b1_0.2 b1_1.1 b1_1.2 hL

theorem fact1 : Rows.crewsVoidRow.inPlace = Tryz.pinned.checked.prog.inPlace 12 := by kernel_rfl
theorem fact2 : Rows.crewsVoidRow.unfollowed = Tryz.pinned.checked.prog.unfollowed 12 := by kernel_rfl
theorem fact3 : Rows.crewsVoidRow.recurses = Tryz.pinned.checked.prog.recurses 12 := by kernel_rfl
theorem fact4 : Rows.crewsVoidRow.named = Tryz.pinned.checked.prog.varsNamed 12 := by kernel_rfl
theorem fact5 : Rows.crewsVoidRow.lifted = Tryz.pinned.checked.prog.liftsFinal := by kernel_rfl
theorem fact6 : Tryz.pinned.checked.prog.make = some Rows.crewsVoidRow.make := by kernel_rfl
theorem facts : joinedFacts Tryz.pinned.checked.prog 12 Tryz.f12 (OpenSpec.ofChange Rows.crewsVoidSpec).bare Rows.crewsVoidRow = true := by
  unfold joinedFacts
  rw [← fact1, ← fact2, ← fact3, ← fact4, ← fact5, fact6, factA, factB, factC, factD]
  kernel_rfl
theorem said : Rows.CrewsVoidSaid :=
  OpenClaim.holds_of_cond 12 Tryz.f12 rfl rfl rfl rfl rfl rfl rfl ⟨rfl, rfl, rfl, rfl, rfl⟩ rfl rfl rfl rfl rfl (by kernel_rfl) Tryz.func12 facts
    (of_decide_eq_true (by kernel_rfl)) (by unfold Func.isWrapper; first | (rw [if_pos (by decide +kernel)]; kernel_rfl) | (rw [if_neg (by decide +kernel)]; exact ⟨rfl, rfl⟩))
    (fun os started H enc _ F => by rw [OpenClaim.pre_eq_preRow]; exact lifted os started H enc F)
theorem plain (f : FuncId) (fn : Func) (hf : Tryz.pinned.checked.prog.funcNamed Rows.crewsVoidRow.func = some f) (hfn : Tryz.pinned.checked.prog.funcs[f]? = some fn) :
    true = Tryz.pinned.checked.prog.looks [] ∧ ∀ (j : Nat) t, fn.params[j]? = some t → Tryz.pinned.checked.prog.wantsStandIn t = false := by
  obtain rfl : f = 12 := Option.some.inj ((show Tryz.prog.funcNamed Rows.crewsVoidRow.func = some 12 by kernel_rfl).symm.trans hf) |>.symm
  obtain rfl : fn = Tryz.f12 := (Option.some.inj (Tryz.func12.symm.trans hfn)).symm
  refine ⟨by kernel_rfl, fun j t ht => ?_⟩
  have hm : t ∈ Tryz.f12.params.toList := by rw [← Array.getElem?_toList] at ht; exact List.mem_of_getElem? ht
  have hall : (Tryz.f12.params.toList.all fun u => !Tryz.prog.wantsStandIn u) = true := by kernel_rfl
  exact (show Tryz.prog.wantsStandIn t = false by simpa using List.all_eq_true.1 hall t hm)
theorem proved : Rows.CrewsVoidCardSaid :=
  Claim7.holds_tied_plain_at .later [] _ _ _ _ said (fun _ h => by cases h) (by kernel_rfl) (fun _ h => by cases h) crewsVoid_row_tie rfl ⟨rfl, rfl⟩ (by kernel_rfl) rfl plain (by kernel_rfl)
#print axioms proved
end Go.Proofs.YtpgaplcdbbnblaaGreatDoor.crewsVoid
end
