/- ActuatorsHold: for any number, any holding and any order the law returns true (its tied card). No further condition. -/
import Derived.Test.YthdjobnjehmjmaaDoorTie
import Derived.Test.YthdjobnjehmjmaaDoorCards
import Derived.Test.YthdjobnjehmjmaaDoorAhA
import Derived.Test.YthdjobnjehmjmaaDoorAhC
import Derived.Test.YthdjobnjehmjmaaDoorGlobIn
import Derived.Test.YthdjobnjehmjmaaDoorCard
import Derived.Test.YthdjobnjehmjmaaDoorOpen
import Derived.LaidMore
import Derived.LaidHandle
set_option linter.unusedSimpArgs false
set_option linter.unusedVariables false
namespace Go.Proofs.YthdjobnjehmjmaaDoor.actuatorsHold
open Go.RowKit Go.WideShapes Go.ChangeShapes Go.ChangeAt

set_option maxRecDepth 1000000 in
theorem run (safe hold x0 x1 x2 : Int) (g0 : 0 ≤ hold) (g1 : hold ≤ 255) (z0 : 0 ≤ x2) (z1 : x2 ≤ 4294967295) : ∃ p r, ahR Tryd.prog safe hold x0 x1 x2 p = some r ∧ (r.1 = bo true ∧ r.2.2.1 ≤ lim ∧ allT r.2.2.2.1 ∧ ∀ q ∈ r.2.2.2.2, q) := by
  refine ah safe hold x0 x1 x2 _ ?_
  have hh : 1 ≤ IntKind.wrap IntKind.i64 (Int.ofNat 1 + Int.tmod (IntKind.wrap IntKind.i64 hold) (Int.ofNat 100)) ∧ IntKind.wrap IntKind.i64 (Int.ofNat 1 + Int.tmod (IntKind.wrap IntKind.i64 hold) (Int.ofNat 100)) ≤ 100 := by
    rw [wrap_nat hold (by omega) (by omega)]
    have e1 : 0 ≤ Int.tmod hold (Int.ofNat 100) := Int.tmod_nonneg _ g0
    have e2 : Int.tmod hold (Int.ofNat 100) < 100 := Int.tmod_lt_of_pos _ (by simp)
    generalize Int.tmod hold (Int.ofNat 100) = t at e1 e2 ⊢
    rw [wrap_nat _ (by simp; omega) (by simp; omega)]
    simp
    omega
  have hr : 0 ≤ Int.tmod (IntKind.wrap IntKind.i64 x2) (Int.ofNat 1000001) ∧ Int.tmod (IntKind.wrap IntKind.i64 x2) (Int.ofNat 1000001) ≤ 1000000 := by
    rw [wrap_nat x2 (by omega) (by omega)]
    have e1 : 0 ≤ Int.tmod x2 (Int.ofNat 1000001) := Int.tmod_nonneg _ z0
    have e2 : Int.tmod x2 (Int.ofNat 1000001) < 1000001 := Int.tmod_lt_of_pos _ (by simp)
    omega
  generalize IntKind.wrap IntKind.i64 (Int.ofNat 1 + Int.tmod (IntKind.wrap IntKind.i64 hold) (Int.ofNat 100)) = hq at hh ⊢
  generalize Int.tmod (IntKind.wrap IntKind.i64 x2) (Int.ofNat 1000001) = rnd at hr ⊢
  obtain ⟨h0, h1⟩ := hh
  obtain ⟨r0, r1⟩ := hr
  repeat' (first | refine ⟨fun h => ?_, fun h => ?_⟩ | fail)
  all_goals (first | (exfalso; simp at *; done) | (exfalso; simp at *; omega) | skip)
  refine ⟨rfl, by dsimp only; unfold lim; omega, ?_, ?_⟩
  · first | (simp at *; simp [allT, *]; done) | (simp at *; simp [allT, *]; omega)
  · intro q hm
    rw [List.mem_singleton.1 hm]
    exact ah_sum safe hq rnd x0 x1 x2 h0 h1 r0 r1
theorem glob (w : World) (hL : laidMetH Tryd.prog Rows.actuatorsHoldRow.laid w) : ∀ p ∈ mS, GlobAt w p := by
  rw [MakeChecks.laidMetH_plain _ _ _ (by kernel_rfl)] at hL
  have h1 : Lib.TabIs Tryd.prog w "sennit/rings.signs" .i64 [1, -1] := Lib.tabIs_of_head (rest := []) (g := 1) (t := 84) (e := 3) (n := 2) (by kernel_rfl) (by kernel_rfl) (by kernel_rfl) (by kernel_rfl) (by kernel_rfl) (by kernel_rfl) hL
  intro p hp
  rcases List.mem_singleton.1 hp with rfl
  exact globAt_tab (ty := 84) h1 (by kernel_rfl) (by decide)
theorem walk (safe hold x0 x1 x2 : Int) (w : World) (_ : 0 ≤ safe) (_ : safe ≤ 4294967295) (g0 : 0 ≤ hold) (g1 : hold ≤ 255) (_ : 0 ≤ x0) (_ : x0 ≤ 4294967295) (_ : 0 ≤ x1) (_ : x1 ≤ 4294967295) (z0 : 0 ≤ x2) (z1 : x2 ≤ 4294967295) (hL : laidMetH Tryd.prog Rows.actuatorsHoldRow.laid w) :
    Calls Tryd.prog 6 #[.int .u32 safe, .int .u8 hold, .agg #[.int .u32 x0, .int .u32 x1, .int .u32 x2]] w fun e w' => e = .returned (.bool true) ∧ Below w.heap.size w w' := by
  obtain ⟨p, ⟨v, b', n, ob, po⟩, hrun, hv, hn, hob, hpo⟩ := run safe hold x0 x1 x2 g0 g1 z0 z1
  obtain ⟨s', r1, r2, r3, r4⟩ := viewF_out hrun
  refine (calls_f hEAc r1 ⟨by rw [r3]; exact hob, by rw [r4]; exact hpo⟩ (C := loneC w) (β := gβ) (w := w) (vs := [.int .u32 safe, .int .u8 hold, .agg #[.int .u32 x0, .int .u32 x1, .int .u32 x2]]) ?_ (rel_in (glob w hL)) ?_).mono ?_
  · simp only [γt, γ1, γs, γc, ag, List.map]
  · intro id _ h2
    exact gβ_lo (Nat.lt_of_lt_of_le h2 hn)
  · rintro e w' ⟨β', u, rfl, _, _, hu, hr⟩
    simp only at hv
    subst hv
    cases hu
    exact ⟨rfl, below_lone hr⟩
set_option maxRecDepth 100000 in
theorem lifted (os : Os) (started : os.Started) (H : Type) (enc : TypeId × Value → H) (F : Stop.Interp) :
    ReturnsInHanded {} Tryd.checked os 6 .any ((OpenSpec.ofChange Rows.actuatorsHoldSpec).preRow enc Tryd.prog Tryd.f6 Rows.actuatorsHoldRow.domain false Rows.actuatorsHoldRow.laid) (((OpenSpec.ofChange Rows.actuatorsHoldSpec).at F).post enc Tryd.prog Tryd.f6 false true false false) := by
  refine card_lifted (C := Tryd.checked) (by kernel_rfl) started (by kernel_rfl) Tryd.func6 (by kernel_rfl) (by kernel_rfl) rfl Tryd.underlying4 rfl (fun ds h => by match ds, h with | [_, _, _], _ => rfl)
    (card_witness (enc := enc) (C := Tryd.checked) (World.doorLaid Tryd.prog 1000 os) #[.int .u32 0, .int .u8 0, .agg #[.int .u32 0, .int .u32 0, .int .u32 0]] rfl (by kernel_rfl) (by kernel_rfl) (by kernel_rfl) (by kernel_rfl) (by kernel_rfl) (laidMetH_of_parts3 (fuel := 8) (laidMet_of_run' 8 (by kernel_rfl) (by kernel_rfl)) (by kernel_rfl) (by kernel_rfl))) ?_
  intro W base args ds p hval hA hL
  change DataW.TrodAll enc Tryd.prog W 0 (fun _ => true) true Tryd.f6.params.toList args.toList ds p at hA
  rw [Tryd.params6] at hA hval
  obtain ⟨v0, vs0, d0, ds0, p0, q0, hargs, rfl, rfl, h0, r0⟩ := trodAll_cons hA
  obtain ⟨v1, vs1, d1, ds1, p1, q1, rfl, rfl, rfl, h1, r1⟩ := trodAll_cons r0
  obtain ⟨v2, vs2, d2, ds2, p2, q2, rfl, rfl, rfl, h2, r2⟩ := trodAll_cons r1
  obtain ⟨rfl, rfl, rfl⟩ := trodAll_nil r2
  obtain rfl : args = #[v0, v1, v2] := by cases args; simp_all
  obtain ⟨a0, rfl, rfl, rfl, w0⟩ := open_int Tryd.underlying46 (hval 0 46 v0 rfl rfl) h0
  have b0 := bounds_u32 w0
  obtain ⟨a1, rfl, rfl, rfl, w1⟩ := open_int Tryd.underlying5 (hval 1 5 v1 rfl rfl) h1
  have b1 := bounds_u8 w1
  obtain ⟨cs2, fl2, rfl⟩ := open_raw (m := 9) (ks := [some .u32, some .u32, some .u32]) (by kernel_rfl) (by kernel_rfl) (hval 2 47 v2 rfl rfl) h2
  obtain ⟨_, _, rfl, ⟨e2_0, rfl, w2_0⟩, fl2_0⟩ := fl2.uncons
  have b2_0 := bounds_u32 w2_0
  obtain ⟨_, _, rfl, ⟨e2_1, rfl, w2_1⟩, fl2_1⟩ := fl2_0.uncons
  have b2_1 := bounds_u32 w2_1
  obtain ⟨_, _, rfl, ⟨e2_2, rfl, w2_2⟩, fl2_2⟩ := fl2_1.uncons
  have b2_2 := bounds_u32 w2_2
  obtain rfl := fl2_2.unnil
  exact walk a0 a1 e2_0 e2_1 e2_2 W b0.1 b0.2 b1.1 b1.2 b2_0.1 b2_0.2 b2_1.1 b2_1.2 b2_2.1 b2_2.2 hL

theorem said : Rows.ActuatorsHoldSaid :=
  OpenClaim.holds_of_cond 6 Tryd.f6 rfl rfl rfl rfl rfl rfl rfl ⟨rfl, rfl, rfl, rfl, rfl⟩ rfl rfl rfl rfl rfl (by kernel_rfl) Tryd.func6 (by kernel_rfl)
    (of_decide_eq_true (by kernel_rfl)) (by unfold Func.isWrapper; first | (rw [if_pos (by decide +kernel)]; kernel_rfl) | (rw [if_neg (by decide +kernel)]; exact ⟨rfl, rfl⟩))
    (fun os started H enc _ F => by rw [OpenClaim.pre_eq_preRow]; exact lifted os started H enc F)
theorem plain (f : FuncId) (fn : Func) (hf : Tryd.pinned.checked.prog.funcNamed Rows.actuatorsHoldRow.func = some f) (hfn : Tryd.pinned.checked.prog.funcs[f]? = some fn) :
    false = Tryd.pinned.checked.prog.looks [] ∧ ∀ (j : Nat) t, fn.params[j]? = some t → Tryd.pinned.checked.prog.wantsStandIn t = false := by
  obtain rfl : f = 6 := Option.some.inj ((show Tryd.prog.funcNamed Rows.actuatorsHoldRow.func = some 6 by kernel_rfl).symm.trans hf) |>.symm
  obtain rfl : fn = Tryd.f6 := (Option.some.inj (Tryd.func6.symm.trans hfn)).symm
  refine ⟨by kernel_rfl, fun j t ht => ?_⟩
  have hm : t ∈ Tryd.f6.params.toList := by rw [← Array.getElem?_toList] at ht; exact List.mem_of_getElem? ht
  have hall : (Tryd.f6.params.toList.all fun u => !Tryd.prog.wantsStandIn u) = true := by kernel_rfl
  exact (show Tryd.prog.wantsStandIn t = false by simpa using List.all_eq_true.1 hall t hm)
theorem proved : Rows.ActuatorsHoldCardSaid :=
  Claim7.holds_tied_plain_at .later [] _ _ _ _ said (fun _ h => by cases h) (by kernel_rfl) (fun _ h => by cases h) actuatorsHold_row_tie rfl ⟨rfl, rfl⟩ (by kernel_rfl) rfl plain (by kernel_rfl)
#print axioms proved
end Go.Proofs.YthdjobnjehmjmaaDoor.actuatorsHold
