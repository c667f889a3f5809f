/- WindowsVoid: for any arguments the law returns true (its tied card). No further condition. -/
import Derived.Test.YtpfkhlfkcmgdlaaDoorTie
import Derived.Test.YtpfkhlfkcmgdlaaDoorCards
import Derived.Test.YtpfkhlfkcmgdlaaDoorWvF
import Derived.Test.YtpfkhlfkcmgdlaaDoorGlobIn
import Derived.Test.YtpfkhlfkcmgdlaaDoorCard
import Derived.Test.YtpfkhlfkcmgdlaaDoorOpen
import Derived.Test.YtpfkhlfkcmgdlaaDoorTyMore
import Derived.LaidMore
import Derived.LaidHandle
set_option linter.unusedSimpArgs false
set_option linter.unusedVariables false
namespace Go.Proofs.YtpfkhlfkcmgdlaaDoor.windowsVoid
open Go.RowKit Go.WideShapes Go.ChangeShapes Go.ChangeAt

set_option maxRecDepth 1000000 in
theorem run (a b c d : Int) : ∃ p r, wvR Tryd.prog a b c d p = some r ∧ (r.1 = bo true ∧ r.2.2.1 ≤ lim ∧ allT r.2.2.2.1 ∧ ∀ q ∈ r.2.2.2.2, q) := by
  refine wv a b c d _ ?_
  repeat' (first | refine ⟨fun h => ?_, fun h => ?_⟩ | fail)
  all_goals (first | (exfalso; simp at *; done) | (exfalso; simp at *; omega) | skip)
  all_goals (refine ⟨rfl, by dsimp only; unfold lim; omega, ?_, by simp⟩)
  all_goals (first | (simp_all [allT]; done) | (simp_all [allT]; omega))
theorem glob (w : World) (hL : laidMetH Tryd.prog Rows.windowsVoidRow.laid w) : ∀ p ∈ mSR, GlobAt w p := by
  rw [MakeChecks.laidMetH_plain _ _ _ (by kernel_rfl)] at hL
  have h1 : Lib.TabIs Tryd.prog w "sennit/rings.signs" .i64 [1, -1] := Lib.tabIs_of_head (g := 1) (t := 152) (e := 3) (n := 2) (by kernel_rfl) (by kernel_rfl) (by kernel_rfl) (by kernel_rfl) (by kernel_rfl) (by kernel_rfl) hL
  replace hL := laidMet_tail hL
  have h2 : Lib.TabIs Tryd.prog w "sennit/windows.roles" .u8 [1, 1, 2] := Lib.tabIs_of_head (g := 0) (t := 118) (e := 31) (n := 3) (by kernel_rfl) (by kernel_rfl) (by kernel_rfl) (by kernel_rfl) (by kernel_rfl) (by kernel_rfl) hL
  intro p hp
  simp only [mSR, List.mem_cons, List.not_mem_nil, or_false] at hp
  rcases hp with rfl | rfl
  · exact globAt_tab (ty := 152) h1 (by kernel_rfl) (by decide)
  · exact globAt_tab (ty := 118) h2 (by kernel_rfl) (by decide)
theorem walk (a b c d : Int) (w : World) (_ : -9223372036854775808 ≤ a) (_ : a ≤ 9223372036854775807) (_ : -9223372036854775808 ≤ b) (_ : b ≤ 9223372036854775807) (_ : -9223372036854775808 ≤ c) (_ : c ≤ 9223372036854775807) (_ : -9223372036854775808 ≤ d) (_ : d ≤ 9223372036854775807) (hL : laidMetH Tryd.prog Rows.windowsVoidRow.laid w) :
    Calls Tryd.prog 3 #[.agg #[.int .i64 a, .int .i64 b, .int .i64 c, .int .i64 d]] w fun e w' => e = .returned (.bool true) ∧ Below w.heap.size w w' := by
  obtain ⟨p, ⟨v, b', n, ob, po⟩, hrun, hv, hn, hob, hpo⟩ := run a b c d
  obtain ⟨s', r1, r2, r3, r4⟩ := viewF_out hrun
  refine (calls_f hEL10 r1 ⟨by rw [r3]; exact hob, by rw [r4]; exact hpo⟩ (C := loneC w) (β := gβ) (w := w) (vs := [.agg #[.int .i64 a, .int .i64 b, .int .i64 c, .int .i64 d]]) ?_ (rel_in (glob w hL)) ?_).mono ?_
  · simp only [γt, γ1, γs, γs_vs, γc, ag, i64, bo, List.map]
  · intro id _ h2
    exact gβ_lo (Nat.lt_of_lt_of_le h2 hn)
  · rintro e w' ⟨β', u, rfl, _, _, hu, hr⟩
    simp only at hv
    subst hv
    cases hu
    exact ⟨rfl, below_lone hr⟩
set_option maxRecDepth 100000 in
theorem lifted (os : Os) (started : os.Started) (H : Type) (enc : TypeId × Value → H) (F : Stop.Interp) :
    ReturnsInHanded {} Tryd.checked os 3 .any ((OpenSpec.ofChange Rows.windowsVoidSpec).preRow enc Tryd.prog Tryd.f3 Rows.windowsVoidRow.domain false Rows.windowsVoidRow.laid) (((OpenSpec.ofChange Rows.windowsVoidSpec).at F).post enc Tryd.prog Tryd.f3 false true false false) := by
  refine card_lifted (C := Tryd.checked) (by kernel_rfl) started (by kernel_rfl) Tryd.func3 (by kernel_rfl) (by kernel_rfl) rfl Tryd.underlying4 rfl (fun ds h => by match ds, h with | [_], _ => rfl)
    (card_witness (enc := enc) (C := Tryd.checked) (World.doorLaid Tryd.prog 1000 os) #[.agg #[.int .i64 0, .int .i64 0, .int .i64 0, .int .i64 0]] rfl (by kernel_rfl) (by kernel_rfl) (by kernel_rfl) (by kernel_rfl) (by kernel_rfl) (laidMetH_of_parts3 (fuel := 8) (laidMet_of_run' 8 (by kernel_rfl) (by kernel_rfl)) (by kernel_rfl) (by kernel_rfl))) ?_
  intro W base args ds p hval hA hL
  change DataW.TrodAll enc Tryd.prog W 0 (fun _ => true) true Tryd.f3.params.toList args.toList ds p at hA
  rw [Tryd.params3] at hA hval
  obtain ⟨v0, vs0, d0, ds0, p0, q0, hargs, rfl, rfl, h0, r0⟩ := trodAll_cons hA
  obtain ⟨rfl, rfl, rfl⟩ := trodAll_nil r0
  obtain rfl : args = #[v0] := by cases args; simp_all
  obtain ⟨cs0, fl0, rfl⟩ := open_raw (m := 9) (ks := [some .i64, some .i64, some .i64, some .i64]) (by kernel_rfl) (by kernel_rfl) (hval 0 22 v0 rfl rfl) h0
  obtain ⟨_, _, rfl, ⟨e0_0, rfl, w0_0⟩, fl0_0⟩ := fl0.uncons
  have b0_0 := bounds_i64 w0_0
  obtain ⟨_, _, rfl, ⟨e0_1, rfl, w0_1⟩, fl0_1⟩ := fl0_0.uncons
  have b0_1 := bounds_i64 w0_1
  obtain ⟨_, _, rfl, ⟨e0_2, rfl, w0_2⟩, fl0_2⟩ := fl0_1.uncons
  have b0_2 := bounds_i64 w0_2
  obtain ⟨_, _, rfl, ⟨e0_3, rfl, w0_3⟩, fl0_3⟩ := fl0_2.uncons
  have b0_3 := bounds_i64 w0_3
  obtain rfl := fl0_3.unnil
  exact walk e0_0 e0_1 e0_2 e0_3 W b0_0.1 b0_0.2 b0_1.1 b0_1.2 b0_2.1 b0_2.2 b0_3.1 b0_3.2 hL

theorem said : Rows.WindowsVoidSaid :=
  OpenClaim.holds_of_cond 3 Tryd.f3 rfl rfl rfl rfl rfl rfl rfl ⟨rfl, rfl, rfl, rfl, rfl⟩ rfl rfl rfl rfl rfl (by kernel_rfl) Tryd.func3 (by kernel_rfl)
    (of_decide_eq_true (by kernel_rfl)) (by unfold Func.isWrapper; first | (rw [if_pos (by decide +kernel)]; kernel_rfl) | (rw [if_neg (by decide +kernel)]; exact ⟨rfl, rfl⟩))
    (fun os started H enc _ F => by rw [OpenClaim.pre_eq_preRow]; exact lifted os started H enc F)
theorem plain (f : FuncId) (fn : Func) (hf : Tryd.pinned.checked.prog.funcNamed Rows.windowsVoidRow.func = some f) (hfn : Tryd.pinned.checked.prog.funcs[f]? = some fn) :
    false = Tryd.pinned.checked.prog.looks [] ∧ ∀ (j : Nat) t, fn.params[j]? = some t → Tryd.pinned.checked.prog.wantsStandIn t = false := by
  obtain rfl : f = 3 := Option.some.inj ((show Tryd.prog.funcNamed Rows.windowsVoidRow.func = some 3 by kernel_rfl).symm.trans hf) |>.symm
  obtain rfl : fn = Tryd.f3 := (Option.some.inj (Tryd.func3.symm.trans hfn)).symm
  refine ⟨by kernel_rfl, fun j t ht => ?_⟩
  have hm : t ∈ Tryd.f3.params.toList := by rw [← Array.getElem?_toList] at ht; exact List.mem_of_getElem? ht
  have hall : (Tryd.f3.params.toList.all fun u => !Tryd.prog.wantsStandIn u) = true := by kernel_rfl
  exact (show Tryd.prog.wantsStandIn t = false by simpa using List.all_eq_true.1 hall t hm)
theorem proved : Rows.WindowsVoidCardSaid :=
  Claim7.holds_tied_plain_at .later [] _ _ _ _ said (fun _ h => by cases h) (by kernel_rfl) (fun _ h => by cases h) windowsVoid_row_tie rfl ⟨rfl, rfl⟩ (by kernel_rfl) rfl plain (by kernel_rfl)
#print axioms proved
end Go.Proofs.YtpfkhlfkcmgdlaaDoor.windowsVoid
