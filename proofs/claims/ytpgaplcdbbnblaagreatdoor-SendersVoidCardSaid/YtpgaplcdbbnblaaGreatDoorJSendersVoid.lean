/- SendersVoid: for any arguments the law returns true (its tied card). No further condition. -/
import Derived.Test.YtpgaplcdbbnblaaGreatDoorTie
import Derived.Test.YtpgaplcdbbnblaaGreatDoorCards
import Derived.Test.YtpgaplcdbbnblaaGreatDoorJSendersVoid0
import Derived.Test.YtpgaplcdbbnblaaGreatDoorJSendersVoid11
import Derived.Test.YtpgaplcdbbnblaaGreatDoorJSendersVoid12
import Derived.Test.YtpgaplcdbbnblaaGreatDoorJSendersVoid13
import Derived.Test.YtpgaplcdbbnblaaGreatDoorJSendersVoid3
import Derived.LaidMore
import Derived.LaidHandle
set_option linter.unusedSimpArgs false
set_option linter.unusedVariables false
section
namespace Go.Proofs.YtpgaplcdbbnblaaGreatDoor.sendersVoid
open Go.RowKit Go.WideShapes Go.ChangeShapes Go.ChangeAt

set_option maxRecDepth 1000000 in
theorem run (a b c : Int) (x y : Said) : ∃ p r, svR Tryz.prog a b c x y p = some r ∧ (r.1 = bo true ∧ r.2.2.1 ≤ lim ∧ allT r.2.2.2.1 ∧ ∀ q ∈ r.2.2.2.2, q) := by
  refine sv a b c x y _ ?_
  repeat' (first | refine ⟨fun h => ?_, fun h => ?_⟩ | fail)
  all_goals (first | (exfalso; simp at *; done) | (exfalso; simp at *; omega) | skip)
  all_goals (refine ⟨rfl, by dsimp only; unfold lim; omega, ?_, by simp⟩)
  all_goals (first | (simp_all [allT]; done) | (simp_all [allT]; omega))
theorem glob (w : World) (hL : laidMetH Tryz.prog Rows.sendersVoidRow.laid w) : ∀ p ∈ mSR, GlobAt w p := by
  rw [MakeChecks.laidMetH_plain _ _ _ (by kernel_rfl)] at hL
  have h1 : Lib.TabIs Tryz.prog w "sennit/rings.signs" .i64 [1, -1] := Lib.tabIs_of_head (g := 2) (t := 131) (e := 3) (n := 2) (by kernel_rfl) (by kernel_rfl) (by kernel_rfl) (by kernel_rfl) (by kernel_rfl) (by kernel_rfl) hL
  replace hL := laidMet_tail hL
  have h2 : Lib.TabIs Tryz.prog w "sennit/windows.roles" .u8 [1, 1, 2] := Lib.tabIs_of_head (g := 1) (t := 262) (e := 79) (n := 3) (by kernel_rfl) (by kernel_rfl) (by kernel_rfl) (by kernel_rfl) (by kernel_rfl) (by kernel_rfl) hL
  intro p hp
  simp only [mSR, List.mem_cons, List.not_mem_nil, or_false] at hp
  rcases hp with rfl | rfl
  · exact globAt_tab (ty := 131) h1 (by kernel_rfl) (by decide)
  · exact globAt_tab (ty := 262) h2 (by kernel_rfl) (by decide)
theorem walk (a b c : Int) (x y : Said) (w : World) (_ : -9223372036854775808 ≤ a) (_ : a ≤ 9223372036854775807) (_ : -9223372036854775808 ≤ b) (_ : b ≤ 9223372036854775807) (_ : -9223372036854775808 ≤ c) (_ : c ≤ 9223372036854775807) (_ : x.Ok) (_ : y.Ok) (hL : laidMetH Tryz.prog Rows.sendersVoidRow.laid w) :
    Calls Tryz.prog 5 #[.agg #[.int .i64 a, .int .i64 b, .int .i64 c], .agg (x.cells ++ y.cells).toArray] w fun e w' => e = .returned (.bool true) ∧ Below w.heap.size w w' := by
  obtain ⟨p, ⟨v, b', n, ob, po⟩, hrun, hv, hn, hob, hpo⟩ := run a b c x y
  obtain ⟨s', r1, r2, r3, r4⟩ := viewF_out hrun
  refine (calls_f hEL11 r1 ⟨by rw [r3]; exact hob, by rw [r4]; exact hpo⟩ (C := loneC w) (β := gβ) (w := w) (vs := [.agg #[.int .i64 a, .int .i64 b, .int .i64 c], .agg (x.cells ++ y.cells).toArray]) ?_ (rel_in (glob w hL)) ?_).mono ?_
  · simp only [γt, γ1, γs, γs_vs, γc, ag, i64, bo, List.map]
  · intro id _ h2
    exact gβ_lo (Nat.lt_of_lt_of_le h2 hn)
  · rintro e w' ⟨β', u, rfl, _, _, hu, hr⟩
    simp only at hv
    subst hv
    cases hu
    exact ⟨rfl, below_lone hr⟩
set_option maxRecDepth 100000 in
theorem lifted (os : Os) (started : os.Started) (H : Type) (enc : TypeId × Value → H) (F : Stop.Interp) :
    ReturnsInHanded {} Tryz.checked os 5 .any ((OpenSpec.ofChange Rows.sendersVoidSpec).preRow enc Tryz.prog Tryz.f5 Rows.sendersVoidRow.domain false Rows.sendersVoidRow.laid) (((OpenSpec.ofChange Rows.sendersVoidSpec).at F).post enc Tryz.prog Tryz.f5 false true false false) := by
  refine card_lifted (C := Tryz.checked) (by kernel_rfl) started (by kernel_rfl) Tryz.func5 (by kernel_rfl) (by kernel_rfl) rfl Tryz.underlying4 rfl (fun ds h => by match ds, h with | [_, _], _ => rfl)
    (card_witness (enc := enc) (C := Tryz.checked) (World.doorLaid Tryz.prog 1000 os) #[.agg #[.int .i64 0, .int .i64 0, .int .i64 0], .agg (Said.zero.cells ++ Said.zero.cells).toArray] rfl (by kernel_rfl) (by kernel_rfl) (by kernel_rfl) (by kernel_rfl) (by kernel_rfl) (laidMetH_of_parts3 (fuel := 8) (laidMet_of_run' 8 (by kernel_rfl) (by kernel_rfl)) (by kernel_rfl) (by kernel_rfl))) ?_
  intro W base args ds p hval hA hL
  change DataW.TrodAll enc Tryz.prog W 0 (fun _ => true) true Tryz.f5.params.toList args.toList ds p at hA
  rw [Tryz.params5] at hA hval
  obtain ⟨v0, vs0, d0, ds0, p0, q0, hargs, rfl, rfl, h0, r0⟩ := trodAll_cons hA
  obtain ⟨v1, vs1, d1, ds1, p1, q1, rfl, rfl, rfl, h1, r1⟩ := trodAll_cons r0
  obtain ⟨rfl, rfl, rfl⟩ := trodAll_nil r1
  obtain rfl : args = #[v0, v1] := by cases args; simp_all
  obtain ⟨cs0, fl0, rfl⟩ := open_raw (m := 9) (ks := [some .i64, some .i64, some .i64]) (by kernel_rfl) (by kernel_rfl) (hval 0 52 v0 rfl rfl) h0
  obtain ⟨_, _, rfl, ⟨e0_0, rfl, w0_0⟩, fl0_0⟩ := fl0.uncons
  have b0_0 := bounds_i64 w0_0
  obtain ⟨_, _, rfl, ⟨e0_1, rfl, w0_1⟩, fl0_1⟩ := fl0_0.uncons
  have b0_1 := bounds_i64 w0_1
  obtain ⟨_, _, rfl, ⟨e0_2, rfl, w0_2⟩, fl0_2⟩ := fl0_1.uncons
  have b0_2 := bounds_i64 w0_2
  obtain rfl := fl0_2.unnil
  obtain ⟨cs1, fl1, rfl⟩ := open_raw (m := 9) (ks := (Said.ks ++ (Said.ks ++ []))) (by kernel_rfl) (by kernel_rfl) (hval 1 59 v1 rfl rfl) h1
  obtain ⟨_, _, rfl, g1_0, fl1_0⟩ := fl1.unapp
  obtain ⟨x1_0, ox1_0, rfl⟩ := Said.of_flat g1_0
  obtain ⟨_, _, rfl, g1_1, fl1_1⟩ := fl1_0.unapp
  obtain ⟨x1_1, ox1_1, rfl⟩ := Said.of_flat g1_1
  obtain rfl := fl1_1.unnil
  try simp only [List.append_nil] at *
  exact walk e0_0 e0_1 e0_2 x1_0 x1_1 W b0_0.1 b0_0.2 b0_1.1 b0_1.2 b0_2.1 b0_2.2 ox1_0 ox1_1 hL

theorem fact1 : Rows.sendersVoidRow.inPlace = Tryz.pinned.checked.prog.inPlace 5 := by kernel_rfl
theorem fact2 : Rows.sendersVoidRow.unfollowed = Tryz.pinned.checked.prog.unfollowed 5 := by kernel_rfl
theorem fact3 : Rows.sendersVoidRow.recurses = Tryz.pinned.checked.prog.recurses 5 := by kernel_rfl
theorem fact4 : Rows.sendersVoidRow.named = Tryz.pinned.checked.prog.varsNamed 5 := by kernel_rfl
theorem fact5 : Rows.sendersVoidRow.lifted = Tryz.pinned.checked.prog.liftsFinal := by kernel_rfl
theorem fact6 : Tryz.pinned.checked.prog.make = some Rows.sendersVoidRow.make := by kernel_rfl
theorem facts : joinedFacts Tryz.pinned.checked.prog 5 Tryz.f5 (OpenSpec.ofChange Rows.sendersVoidSpec).bare Rows.sendersVoidRow = true := by
  unfold joinedFacts
  rw [← fact1, ← fact2, ← fact3, ← fact4, ← fact5, fact6, factA, factB, factC, factD]
  kernel_rfl
theorem said : Rows.SendersVoidSaid :=
  OpenClaim.holds_of_cond 5 Tryz.f5 rfl rfl rfl rfl rfl rfl rfl ⟨rfl, rfl, rfl, rfl, rfl⟩ rfl rfl rfl rfl rfl (by kernel_rfl) Tryz.func5 facts
    (of_decide_eq_true (by kernel_rfl)) (by unfold Func.isWrapper; first | (rw [if_pos (by decide +kernel)]; kernel_rfl) | (rw [if_neg (by decide +kernel)]; exact ⟨rfl, rfl⟩))
    (fun os started H enc _ F => by rw [OpenClaim.pre_eq_preRow]; exact lifted os started H enc F)
theorem plain (f : FuncId) (fn : Func) (hf : Tryz.pinned.checked.prog.funcNamed Rows.sendersVoidRow.func = some f) (hfn : Tryz.pinned.checked.prog.funcs[f]? = some fn) :
    true = Tryz.pinned.checked.prog.looks [] ∧ ∀ (j : Nat) t, fn.params[j]? = some t → Tryz.pinned.checked.prog.wantsStandIn t = false := by
  obtain rfl : f = 5 := Option.some.inj ((show Tryz.prog.funcNamed Rows.sendersVoidRow.func = some 5 by kernel_rfl).symm.trans hf) |>.symm
  obtain rfl : fn = Tryz.f5 := (Option.some.inj (Tryz.func5.symm.trans hfn)).symm
  refine ⟨by kernel_rfl, fun j t ht => ?_⟩
  have hm : t ∈ Tryz.f5.params.toList := by rw [← Array.getElem?_toList] at ht; exact List.mem_of_getElem? ht
  have hall : (Tryz.f5.params.toList.all fun u => !Tryz.prog.wantsStandIn u) = true := by kernel_rfl
  exact (show Tryz.prog.wantsStandIn t = false by simpa using List.all_eq_true.1 hall t hm)
theorem proved : Rows.SendersVoidCardSaid :=
  Claim7.holds_tied_plain_at .later [] _ _ _ _ said (fun _ h => by cases h) (by kernel_rfl) (fun _ h => by cases h) sendersVoid_row_tie rfl ⟨rfl, rfl⟩ (by kernel_rfl) rfl plain (by kernel_rfl)
#print axioms proved
end Go.Proofs.YtpgaplcdbbnblaaGreatDoor.sendersVoid
end
