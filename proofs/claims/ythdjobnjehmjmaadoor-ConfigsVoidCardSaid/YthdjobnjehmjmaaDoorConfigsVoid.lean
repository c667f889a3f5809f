/- ConfigsVoid: for any two directions and steps the law returns true (its tied card). No further condition. -/
import Derived.Test.YthdjobnjehmjmaaDoorTie
import Derived.Test.YthdjobnjehmjmaaDoorCards
import Derived.Test.YthdjobnjehmjmaaDoorCvF
import Derived.Test.YthdjobnjehmjmaaDoorGlobIn
import Derived.Test.YthdjobnjehmjmaaDoorCard
import Derived.Test.YthdjobnjehmjmaaDoorOpen
import Derived.LaidMore
import Derived.LaidHandle
set_option linter.unusedSimpArgs false
set_option linter.unusedVariables false
namespace Go.Proofs.YthdjobnjehmjmaaDoor.configsVoid
open Go.RowKit Go.WideShapes Go.ChangeShapes Go.ChangeAt

theorem run (a b s : Int) : ∃ p r, cvR Tryd.prog a b s p = some r ∧ (r.1 = bo true ∧ r.2.2.1 ≤ lim ∧ allT r.2.2.2.1 ∧ ∀ q ∈ r.2.2.2.2, q) := by
  refine cv a b s _ ⟨fun h1 => ?_, fun h1 => ⟨fun h2 => ?_, fun h2 => ?_⟩⟩
  · simp at h1
    exact ⟨rfl, by dsimp only; unfold lim; omega, by simp [allT]; omega, by simp⟩
  · simp at h1 h2
    exact ⟨rfl, by dsimp only; unfold lim; omega, by simp [allT]; omega, by simp⟩
  · simp at h1 h2
    exact ⟨rfl, by dsimp only; unfold lim; omega, by simp [allT]; omega, by simp⟩
theorem glob (w : World) (hL : laidMetH Tryd.prog Rows.configsVoidRow.laid w) : ∀ p ∈ mS, GlobAt w p := by
  rw [MakeChecks.laidMetH_plain _ _ _ (by kernel_rfl)] at hL
  have h1 : Lib.TabIs Tryd.prog w "sennit/rings.signs" .i64 [1, -1] := Lib.tabIs_of_head (rest := []) (g := 1) (t := 84) (e := 3) (n := 2) (by kernel_rfl) (by kernel_rfl) (by kernel_rfl) (by kernel_rfl) (by kernel_rfl) (by kernel_rfl) hL
  intro p hp
  rcases List.mem_singleton.1 hp with rfl
  exact globAt_tab (ty := 84) h1 (by kernel_rfl) (by decide)
theorem walk (a b s : Int) (w : World) (_ : -9223372036854775808 ≤ a) (_ : a ≤ 9223372036854775807) (_ : -9223372036854775808 ≤ b) (_ : b ≤ 9223372036854775807) (_ : -9223372036854775808 ≤ s) (_ : s ≤ 9223372036854775807) (hL : laidMetH Tryd.prog Rows.configsVoidRow.laid w) :
    Calls Tryd.prog 12 #[.agg #[.int .i64 a, .int .i64 b], .int .i64 s] w fun e w' => e = .returned (.bool true) ∧ Below w.heap.size w w' := by
  obtain ⟨p, ⟨v, b', n, ob, po⟩, hrun, hv, hn, hob, hpo⟩ := run a b s
  obtain ⟨s', r1, r2, r3, r4⟩ := viewF_out hrun
  refine (calls_f hEL04 r1 ⟨by rw [r3]; exact hob, by rw [r4]; exact hpo⟩ (C := loneC w) (β := gβ) (w := w) (vs := [.agg #[.int .i64 a, .int .i64 b], .int .i64 s]) ?_ (rel_in (glob w hL)) ?_).mono ?_
  · simp only [γt, γ1, γs, γc, ag, i64, List.map]
  · intro id _ h2
    exact gβ_lo (Nat.lt_of_lt_of_le h2 hn)
  · rintro e w' ⟨β', u, rfl, _, _, hu, hr⟩
    simp only at hv
    subst hv
    cases hu
    exact ⟨rfl, below_lone hr⟩
set_option maxRecDepth 100000 in
theorem lifted (os : Os) (started : os.Started) (H : Type) (enc : TypeId × Value → H) (F : Stop.Interp) :
    ReturnsInHanded {} Tryd.checked os 12 .any ((OpenSpec.ofChange Rows.configsVoidSpec).preRow enc Tryd.prog Tryd.f12 Rows.configsVoidRow.domain false Rows.configsVoidRow.laid) (((OpenSpec.ofChange Rows.configsVoidSpec).at F).post enc Tryd.prog Tryd.f12 false true false false) := by
  refine card_lifted (C := Tryd.checked) (by kernel_rfl) started (by kernel_rfl) Tryd.func12 (by kernel_rfl) (by kernel_rfl) rfl Tryd.underlying4 rfl (fun ds h => by match ds, h with | [_, _], _ => rfl)
    (card_witness (enc := enc) (C := Tryd.checked) (World.doorLaid Tryd.prog 1000 os) #[.agg #[.int .i64 0, .int .i64 0], .int .i64 0] rfl (by kernel_rfl) (by kernel_rfl) (by kernel_rfl) (by kernel_rfl) (by kernel_rfl) (laidMetH_of_parts3 (fuel := 8) (laidMet_of_run' 8 (by kernel_rfl) (by kernel_rfl)) (by kernel_rfl) (by kernel_rfl))) ?_
  intro W base args ds p hval hA hL
  change DataW.TrodAll enc Tryd.prog W 0 (fun _ => true) true Tryd.f12.params.toList args.toList ds p at hA
  rw [Tryd.params12] at hA hval
  obtain ⟨v0, vs0, d0, ds0, p0, q0, hargs, rfl, rfl, h0, r0⟩ := trodAll_cons hA
  obtain ⟨v1, vs1, d1, ds1, p1, q1, rfl, rfl, rfl, h1, r1⟩ := trodAll_cons r0
  obtain ⟨rfl, rfl, rfl⟩ := trodAll_nil r1
  obtain rfl : args = #[v0, v1] := by cases args; simp_all
  obtain ⟨cs0, fl0, rfl⟩ := open_raw (m := 9) (ks := [some .i64, some .i64]) (by kernel_rfl) (by kernel_rfl) (hval 0 84 v0 rfl rfl) h0
  obtain ⟨_, _, rfl, ⟨e0_0, rfl, w0_0⟩, fl0_0⟩ := fl0.uncons
  have b0_0 := bounds_i64 w0_0
  obtain ⟨_, _, rfl, ⟨e0_1, rfl, w0_1⟩, fl0_1⟩ := fl0_0.uncons
  have b0_1 := bounds_i64 w0_1
  obtain rfl := fl0_1.unnil
  obtain ⟨a1, rfl, rfl, rfl, w1⟩ := open_int Tryd.underlying2 (hval 1 2 v1 rfl rfl) h1
  have b1 := bounds_i64 w1
  exact walk e0_0 e0_1 a1 W b0_0.1 b0_0.2 b0_1.1 b0_1.2 b1.1 b1.2 hL

theorem said : Rows.ConfigsVoidSaid :=
  OpenClaim.holds_of_cond 12 Tryd.f12 rfl rfl rfl rfl rfl rfl rfl ⟨rfl, rfl, rfl, rfl, rfl⟩ rfl rfl rfl rfl rfl (by kernel_rfl) Tryd.func12 (by kernel_rfl)
    (of_decide_eq_true (by kernel_rfl)) (by unfold Func.isWrapper; first | (rw [if_pos (by decide +kernel)]; kernel_rfl) | (rw [if_neg (by decide +kernel)]; exact ⟨rfl, rfl⟩))
    (fun os started H enc _ F => by rw [OpenClaim.pre_eq_preRow]; exact lifted os started H enc F)
theorem plain (f : FuncId) (fn : Func) (hf : Tryd.pinned.checked.prog.funcNamed Rows.configsVoidRow.func = some f) (hfn : Tryd.pinned.checked.prog.funcs[f]? = some fn) :
    false = Tryd.pinned.checked.prog.looks [] ∧ ∀ (j : Nat) t, fn.params[j]? = some t → Tryd.pinned.checked.prog.wantsStandIn t = false := by
  obtain rfl : f = 12 := Option.some.inj ((show Tryd.prog.funcNamed Rows.configsVoidRow.func = some 12 by kernel_rfl).symm.trans hf) |>.symm
  obtain rfl : fn = Tryd.f12 := (Option.some.inj (Tryd.func12.symm.trans hfn)).symm
  refine ⟨by kernel_rfl, fun j t ht => ?_⟩
  have hm : t ∈ Tryd.f12.params.toList := by rw [← Array.getElem?_toList] at ht; exact List.mem_of_getElem? ht
  have hall : (Tryd.f12.params.toList.all fun u => !Tryd.prog.wantsStandIn u) = true := by kernel_rfl
  exact (show Tryd.prog.wantsStandIn t = false by simpa using List.all_eq_true.1 hall t hm)
theorem proved : Rows.ConfigsVoidCardSaid :=
  Claim7.holds_tied_plain_at .later [] _ _ _ _ said (fun _ h => by cases h) (by kernel_rfl) (fun _ h => by cases h) configsVoid_row_tie rfl ⟨rfl, rfl⟩ (by kernel_rfl) rfl plain (by kernel_rfl)
#print axioms proved
end Go.Proofs.YthdjobnjehmjmaaDoor.configsVoid
