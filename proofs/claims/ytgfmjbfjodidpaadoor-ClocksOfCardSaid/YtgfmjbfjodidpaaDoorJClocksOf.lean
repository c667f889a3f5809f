/- ClocksOf: for any config, any age and any time the law returns true (its tied card). No further condition. -/
import Derived.Test.YtgfmjbfjodidpaaDoorTie
import Derived.Test.YtgfmjbfjodidpaaDoorCards
import Derived.Test.YtgfmjbfjodidpaaDoorJClocksOf3
import Derived.Test.YtgfmjbfjodidpaaDoorJB0x2
import Derived.Test.YtgfmjbfjodidpaaDoorJB0x18
import Derived.Test.YtgfmjbfjodidpaaDoorJB0x19
import Derived.LaidMore
import Derived.LaidHandle
set_option linter.unusedSimpArgs false
set_option linter.unusedVariables false
section
namespace Go.Proofs.YtgfmjbfjodidpaaDoor.clocksOf
open Go.RowKit Go.WideShapes Go.ChangeShapes Go.ChangeAt

theorem walk (c : Cfg) (cs : List Value) (a : Int) (t : CTime) (w : World) (hc : CfgIn w c cs) (ho : c.Ok) (_ : -9223372036854775808 ≤ a) (_ : a ≤ 9223372036854775807) (_ : t.Ok) (hL : laidMetH Tryd.prog Rows.clocksOfRow.laid w) :
    Calls Tryd.prog 13 #[.agg cs.toArray, .int .i64 a, .agg t.cells.toArray] w fun e w' => e = .returned (.bool true) ∧ Below w.heap.size w w' := by
  have hG : ∀ p ∈ mS, GlobAt w p := by
    rw [MakeChecks.laidMetH_plain _ _ _ (by kernel_rfl)] at hL
    exact glob_mS hL
  have hr : ∀ β, γt β [i64 a, tmA t.round t.slot t.place] = some [.int .i64 a, .agg t.cells.toArray] := fun β => rfl
  by_cases h0 : cfgErr c = 0
  · exact cfg_law (hENl0 ctsCk_ok) hG hc hr (by obtain ⟨p, r, h1, h2⟩ := co_run0 c a t.round t.slot t.place h0 ho.nb; exact ⟨p, _, r, h1, h2⟩)
  · exact cfg_law (hENl1 ctsCk_ok) hG hc hr (by obtain ⟨p, r, h1, h2⟩ := co_run1 c a t.round t.slot t.place h0 ho.nb; exact ⟨p, _, r, h1, h2⟩)
set_option maxRecDepth 100000 in
theorem lifted (os : Os) (started : os.Started) (H : Type) (enc : TypeId × Value → H) (F : Stop.Interp) :
    ReturnsInHanded {} Tryd.checked os 13 .any ((OpenSpec.ofChange Rows.clocksOfSpec).preRow enc Tryd.prog Tryd.f13 Rows.clocksOfRow.domain false Rows.clocksOfRow.laid) (((OpenSpec.ofChange Rows.clocksOfSpec).at F).post enc Tryd.prog Tryd.f13 false true false false) := by
  refine card_lifted (C := Tryd.checked) (by kernel_rfl) started (by kernel_rfl) Tryd.func13 (by kernel_rfl) (by kernel_rfl) rfl Tryd.underlying4 rfl (fun ds h => by match ds, h with | [_, _, _], _ => rfl)
    (card_witness (enc := enc) (C := Tryd.checked) (World.doorLaid Tryd.prog 1000 os) #[.agg #[.int .i64 0, .slice none 0 0, .slice none 0 0, .int .i64 0, .slice none 0 0, .slice none 0 0, .int .i64 0, .int .i64 0, .int .i64 0], .int .i64 0, .agg CTime.zero.cells.toArray] rfl (by kernel_rfl) (by kernel_rfl) (by kernel_rfl) (by kernel_rfl) (by kernel_rfl) (laidMetH_of_parts3 (fuel := 8) (laidMet_of_run' 8 (by kernel_rfl) (by kernel_rfl)) (by kernel_rfl) (by kernel_rfl))) ?_
  intro W base args ds p hval hA hL
  change DataW.TrodAll enc Tryd.prog W 0 (fun _ => true) true Tryd.f13.params.toList args.toList ds p at hA
  rw [Tryd.params13] at hA hval
  obtain ⟨v0, vs0, d0, ds0, p0, q0, hargs, rfl, rfl, h0, r0⟩ := trodAll_cons hA
  obtain ⟨v1, vs1, d1, ds1, p1, q1, rfl, rfl, rfl, h1, r1⟩ := trodAll_cons r0
  obtain ⟨v2, vs2, d2, ds2, p2, q2, rfl, rfl, rfl, h2, r2⟩ := trodAll_cons r1
  obtain ⟨rfl, rfl, rfl⟩ := trodAll_nil r2
  obtain rfl : args = #[v0, v1, v2] := by cases args; simp_all
  obtain ⟨c0, cs0, rfl, ic0, oc0⟩ := open_cfg (hval 0 25 v0 rfl rfl) h0
  obtain ⟨a1, rfl, rfl, rfl, w1⟩ := open_int Tryd.underlying2 (hval 1 2 v1 rfl rfl) h1
  have b1 := bounds_i64 w1
  obtain ⟨cs2, fl2, rfl⟩ := open_raw (m := 9) (ks := CTime.ks) (by kernel_rfl) (by kernel_rfl) (hval 2 111 v2 rfl rfl) h2
  obtain ⟨x2, ox2, rfl⟩ := CTime.of_flat fl2
  exact walk c0 cs0 a1 x2 W ic0 oc0 b1.1 b1.2 ox2 hL

theorem said : Rows.ClocksOfSaid :=
  OpenClaim.holds_of_cond 13 Tryd.f13 rfl rfl rfl rfl rfl rfl rfl ⟨rfl, rfl, rfl, rfl, rfl⟩ rfl rfl rfl rfl rfl (by kernel_rfl) Tryd.func13 (by kernel_rfl)
    (of_decide_eq_true (by kernel_rfl)) (by unfold Func.isWrapper; first | (rw [if_pos (by decide +kernel)]; kernel_rfl) | (rw [if_neg (by decide +kernel)]; exact ⟨rfl, rfl⟩))
    (fun os started H enc _ F => by rw [OpenClaim.pre_eq_preRow]; exact lifted os started H enc F)
theorem plain (f : FuncId) (fn : Func) (hf : Tryd.pinned.checked.prog.funcNamed Rows.clocksOfRow.func = some f) (hfn : Tryd.pinned.checked.prog.funcs[f]? = some fn) :
    false = Tryd.pinned.checked.prog.looks [] ∧ ∀ (j : Nat) t, fn.params[j]? = some t → Tryd.pinned.checked.prog.wantsStandIn t = false := by
  obtain rfl : f = 13 := Option.some.inj ((show Tryd.prog.funcNamed Rows.clocksOfRow.func = some 13 by kernel_rfl).symm.trans hf) |>.symm
  obtain rfl : fn = Tryd.f13 := (Option.some.inj (Tryd.func13.symm.trans hfn)).symm
  refine ⟨by kernel_rfl, fun j t ht => ?_⟩
  have hm : t ∈ Tryd.f13.params.toList := by rw [← Array.getElem?_toList] at ht; exact List.mem_of_getElem? ht
  have hall : (Tryd.f13.params.toList.all fun u => !Tryd.prog.wantsStandIn u) = true := by kernel_rfl
  exact (show Tryd.prog.wantsStandIn t = false by simpa using List.all_eq_true.1 hall t hm)
theorem proved : Rows.ClocksOfCardSaid :=
  Claim7.holds_tied_plain_at .later [] _ _ _ _ said (fun _ h => by cases h) (by kernel_rfl) (fun _ h => by cases h) clocksOf_row_tie rfl ⟨rfl, rfl⟩ (by kernel_rfl) rfl plain (by kernel_rfl)
#print axioms proved
end Go.Proofs.YtgfmjbfjodidpaaDoor.clocksOf
end
