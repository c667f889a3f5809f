/- SendersOut: for any config, any three numbers and any two offers the law returns true (its tied card). No further condition. -/
import Derived.Test.YtoelekmbmghicaaGreatDoorTie
import Derived.Test.YtoelekmbmghicaaGreatDoorCards
import Derived.Test.YtoelekmbmghicaaGreatDoorJSendersOut0
import Derived.Test.YtoelekmbmghicaaGreatDoorJSendersOut19
import Derived.Test.YtoelekmbmghicaaGreatDoorJSendersOut20
import Derived.Test.YtoelekmbmghicaaGreatDoorJSendersOut3
import Derived.Test.YtoelekmbmghicaaGreatDoorJSendersOut21
import Derived.LaidMore
import Derived.LaidHandle
set_option linter.unusedSimpArgs false
set_option linter.unusedVariables false
section
namespace Go.Proofs.YtoelekmbmghicaaGreatDoor.sendersOut
open Go.RowKit Go.WideShapes Go.ChangeShapes Go.ChangeAt

theorem walk (c : Cfg) (cs : List Value) (y q z : Int) (a b : Said) (w : World) (hc : CfgIn w c cs) (ho : c.Ok) (_ : -9223372036854775808 ≤ y) (_ : y ≤ 9223372036854775807) (_ : -9223372036854775808 ≤ q) (_ : q ≤ 9223372036854775807) (_ : -9223372036854775808 ≤ z) (_ : z ≤ 9223372036854775807) (ha : a.Ok) (_ : b.Ok) (hL : laidMetH Tryz.prog Rows.sendersOutRow.laid w) :
    Calls Tryz.prog 3 #[.agg cs.toArray, .agg #[.int .i64 y, .int .i64 q, .int .i64 z], .agg (a.cells ++ b.cells).toArray] w fun e w' => e = .returned (.bool true) ∧ Below w.heap.size w w' := by
  have hG : ∀ p ∈ mSR, GlobAt w p := by
    rw [MakeChecks.laidMetH_plain _ _ _ (by kernel_rfl)] at hL
    exact glob_mSR hL
  have hr : ∀ β, γt β (nsA y q z a b) = some [.agg #[.int .i64 y, .int .i64 q, .int .i64 z], .agg (a.cells ++ b.cells).toArray] := fun β => by simp only [γt, γ1, γs_vs, γs, γc, ag, List.map]
  by_cases h0 : cfgErr c = 0
  · rcases ns_run0 c y q z a b h0 ho.nb ha.2 with ⟨p, lp, r, h1, h2⟩ | ⟨p, lp, r, h1, h2⟩
    · exact cfg_law (hENl0 ctsN0_ok) hG hc hr ⟨p, lp, r, h1, h2⟩
    · exact cfg_law (hENl0 ctsN1_ok) hG hc hr ⟨p, lp, r, h1, h2⟩
  · exact cfg_law (hENl1 ctsN0_ok) hG hc hr (by obtain ⟨p, r, h1, h2⟩ := ns_run1 c y q z a b h0 ho.nb; exact ⟨p, _, r, h1, h2⟩)
set_option maxRecDepth 100000 in
theorem lifted (os : Os) (started : os.Started) (H : Type) (enc : TypeId × Value → H) (F : Stop.Interp) :
    ReturnsInHanded {} Tryz.checked os 3 .any ((OpenSpec.ofChange Rows.sendersOutSpec).preRow enc Tryz.prog Tryz.f3 Rows.sendersOutRow.domain false Rows.sendersOutRow.laid) (((OpenSpec.ofChange Rows.sendersOutSpec).at F).post enc Tryz.prog Tryz.f3 false true false false) := by
  refine card_lifted (C := Tryz.checked) (by kernel_rfl) started (by kernel_rfl) Tryz.func3 (by kernel_rfl) (by kernel_rfl) rfl Tryz.underlying4 rfl (fun ds h => by match ds, h with | [_, _, _], _ => rfl)
    (card_witness (enc := enc) (C := Tryz.checked) (World.doorLaid Tryz.prog 1000 os) #[.agg #[.int .i64 0, .slice none 0 0, .slice none 0 0, .int .i64 0, .slice none 0 0, .slice none 0 0, .int .i64 0, .int .i64 0, .int .i64 0], .agg #[.int .i64 0, .int .i64 0, .int .i64 0], .agg (Said.zero.cells ++ Said.zero.cells).toArray] rfl (by kernel_rfl) (by kernel_rfl) (by kernel_rfl) (by kernel_rfl) (by kernel_rfl) (laidMetH_of_parts3 (fuel := 8) (laidMet_of_run' 8 (by kernel_rfl) (by kernel_rfl)) (by kernel_rfl) (by kernel_rfl))) ?_
  intro W base args ds p hval hA hL
  change DataW.TrodAll enc Tryz.prog W 0 (fun _ => true) true Tryz.f3.params.toList args.toList ds p at hA
  rw [Tryz.params3] at hA hval
  obtain ⟨v0, vs0, d0, ds0, p0, q0, hargs, rfl, rfl, h0, r0⟩ := trodAll_cons hA
  obtain ⟨v1, vs1, d1, ds1, p1, q1, rfl, rfl, rfl, h1, r1⟩ := trodAll_cons r0
  obtain ⟨v2, vs2, d2, ds2, p2, q2, rfl, rfl, rfl, h2, r2⟩ := trodAll_cons r1
  obtain ⟨rfl, rfl, rfl⟩ := trodAll_nil r2
  obtain rfl : args = #[v0, v1, v2] := by cases args; simp_all
  obtain ⟨c0, cs0, rfl, ic0, oc0⟩ := open_cfg (hval 0 25 v0 rfl rfl) h0
  obtain ⟨cs1, fl1, rfl⟩ := open_raw (m := 9) (ks := [some .i64, some .i64, some .i64]) (by kernel_rfl) (by kernel_rfl) (hval 1 26 v1 rfl rfl) h1
  obtain ⟨_, _, rfl, ⟨e1_0, rfl, w1_0⟩, fl1_0⟩ := fl1.uncons
  have b1_0 := bounds_i64 w1_0
  obtain ⟨_, _, rfl, ⟨e1_1, rfl, w1_1⟩, fl1_1⟩ := fl1_0.uncons
  have b1_1 := bounds_i64 w1_1
  obtain ⟨_, _, rfl, ⟨e1_2, rfl, w1_2⟩, fl1_2⟩ := fl1_1.uncons
  have b1_2 := bounds_i64 w1_2
  obtain rfl := fl1_2.unnil
  obtain ⟨cs2, fl2, rfl⟩ := open_raw (m := 9) (ks := (Said.ks ++ (Said.ks ++ []))) (by kernel_rfl) (by kernel_rfl) (hval 2 33 v2 rfl rfl) h2
  obtain ⟨_, _, rfl, g2_0, fl2_0⟩ := fl2.unapp
  obtain ⟨x2_0, ox2_0, rfl⟩ := Said.of_flat g2_0
  obtain ⟨_, _, rfl, g2_1, fl2_1⟩ := fl2_0.unapp
  obtain ⟨x2_1, ox2_1, rfl⟩ := Said.of_flat g2_1
  obtain rfl := fl2_1.unnil
  try simp only [List.append_nil] at *
  exact walk c0 cs0 e1_0 e1_1 e1_2 x2_0 x2_1 W ic0 oc0 b1_0.1 b1_0.2 b1_1.1 b1_1.2 b1_2.1 b1_2.2 ox2_0 ox2_1 hL

theorem said : Rows.SendersOutSaid :=
  OpenClaim.holds_of_cond 3 Tryz.f3 rfl rfl rfl rfl rfl rfl rfl ⟨rfl, rfl, rfl, rfl, rfl⟩ rfl rfl rfl rfl rfl (by kernel_rfl) Tryz.func3 (by kernel_rfl)
    (of_decide_eq_true (by kernel_rfl)) (by unfold Func.isWrapper; first | (rw [if_pos (by decide +kernel)]; kernel_rfl) | (rw [if_neg (by decide +kernel)]; exact ⟨rfl, rfl⟩))
    (fun os started H enc _ F => by rw [OpenClaim.pre_eq_preRow]; exact lifted os started H enc F)
theorem plain (f : FuncId) (fn : Func) (hf : Tryz.pinned.checked.prog.funcNamed Rows.sendersOutRow.func = some f) (hfn : Tryz.pinned.checked.prog.funcs[f]? = some fn) :
    false = Tryz.pinned.checked.prog.looks [] ∧ ∀ (j : Nat) t, fn.params[j]? = some t → Tryz.pinned.checked.prog.wantsStandIn t = false := by
  obtain rfl : f = 3 := Option.some.inj ((show Tryz.prog.funcNamed Rows.sendersOutRow.func = some 3 by kernel_rfl).symm.trans hf) |>.symm
  obtain rfl : fn = Tryz.f3 := (Option.some.inj (Tryz.func3.symm.trans hfn)).symm
  refine ⟨by kernel_rfl, fun j t ht => ?_⟩
  have hm : t ∈ Tryz.f3.params.toList := by rw [← Array.getElem?_toList] at ht; exact List.mem_of_getElem? ht
  have hall : (Tryz.f3.params.toList.all fun u => !Tryz.prog.wantsStandIn u) = true := by kernel_rfl
  exact (show Tryz.prog.wantsStandIn t = false by simpa using List.all_eq_true.1 hall t hm)
theorem proved : Rows.SendersOutCardSaid :=
  Claim7.holds_tied_plain_at .later [] _ _ _ _ said (fun _ h => by cases h) (by kernel_rfl) (fun _ h => by cases h) sendersOut_row_tie rfl ⟨rfl, rfl⟩ (by kernel_rfl) rfl plain (by kernel_rfl)
#print axioms proved
end Go.Proofs.YtoelekmbmghicaaGreatDoor.sendersOut
end
