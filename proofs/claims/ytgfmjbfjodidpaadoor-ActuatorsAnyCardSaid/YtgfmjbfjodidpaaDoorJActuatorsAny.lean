/- ActuatorsAny: for any config, any station, state, delivery and round the law returns true (its tied card). No further condition. -/
import Derived.Test.YtgfmjbfjodidpaaDoorTie
import Derived.Test.YtgfmjbfjodidpaaDoorCards
import Derived.Test.YtgfmjbfjodidpaaDoorJActuatorsAny3
import Derived.Test.YtgfmjbfjodidpaaDoorJActuatorsAny4
import Derived.Test.YtgfmjbfjodidpaaDoorJB0x18
import Derived.Test.YtgfmjbfjodidpaaDoorJB0x19
import Derived.LaidMore
import Derived.LaidHandle
set_option linter.unusedSimpArgs false
set_option linter.unusedVariables false
section
namespace Go.Proofs.YtgfmjbfjodidpaaDoor.actuatorsAny
open Go.RowKit Go.WideShapes Go.ChangeShapes Go.ChangeAt

theorem walk (c : Cfg) (cs : List Value) (x : Trial) (w : World) (hc : CfgIn w c cs) (ho : c.Ok) (hx : x.Ok) (hL : laidMetH Tryd.prog Rows.actuatorsAnyRow.laid w) :
    Calls Tryd.prog 6 #[.agg cs.toArray, .agg x.cells.toArray] w fun e w' => e = .returned (.bool true) ∧ Below w.heap.size w w' := by
  have hG : ∀ p ∈ mS, GlobAt w p := by
    rw [MakeChecks.laidMetH_plain _ _ _ (by kernel_rfl)] at hL
    exact glob_mS hL
  have hr : ∀ β, γt β [trA x.station x.any x.seq x.value x.since x.d.is x.d.at_ x.d.p.kind x.d.p.st x.d.p.seq x.d.p.val x.pair x.command x.dround x.round] = some [.agg x.cells.toArray] := fun β => rfl
  obtain ⟨_, _, _, ⟨t0, t1⟩, _, _, _, _, v0, v1⟩ := hx
  by_cases h0 : cfgErr c = 0
  · exact cfg_law (hENl0 ctsAa_ok) hG hc hr (by obtain ⟨p, r, h1, h2⟩ := aa_run0 c x.station x.any x.seq x.value x.since x.d.is x.d.at_ x.d.p.kind x.d.p.st x.d.p.seq x.d.p.val x.pair x.command x.dround x.round h0 ho.nb t0 t1 v0 v1; exact ⟨p, _, r, h1, h2⟩)
  · exact cfg_law (hENl1 ctsAa_ok) hG hc hr (by obtain ⟨p, r, h1, h2⟩ := aa_run1 c x.station x.any x.seq x.value x.since x.d.is x.d.at_ x.d.p.kind x.d.p.st x.d.p.seq x.d.p.val x.pair x.command x.dround x.round h0 ho.nb; exact ⟨p, _, r, h1, h2⟩)
set_option maxRecDepth 100000 in
theorem lifted (os : Os) (started : os.Started) (H : Type) (enc : TypeId × Value → H) (F : Stop.Interp) :
    ReturnsInHanded {} Tryd.checked os 6 .any ((OpenSpec.ofChange Rows.actuatorsAnySpec).preRow enc Tryd.prog Tryd.f6 Rows.actuatorsAnyRow.domain false Rows.actuatorsAnyRow.laid) (((OpenSpec.ofChange Rows.actuatorsAnySpec).at F).post enc Tryd.prog Tryd.f6 false true false false) := by
  refine card_lifted (C := Tryd.checked) (by kernel_rfl) started (by kernel_rfl) Tryd.func6 (by kernel_rfl) (by kernel_rfl) rfl Tryd.underlying4 rfl (fun ds h => by match ds, h with | [_, _], _ => rfl)
    (card_witness (enc := enc) (C := Tryd.checked) (World.doorLaid Tryd.prog 1000 os) #[.agg #[.int .i64 0, .slice none 0 0, .slice none 0 0, .int .i64 0, .slice none 0 0, .slice none 0 0, .int .i64 0, .int .i64 0, .int .i64 0], .agg Trial.zero.cells.toArray] rfl (by kernel_rfl) (by kernel_rfl) (by kernel_rfl) (by kernel_rfl) (by kernel_rfl) (laidMetH_of_parts3 (fuel := 8) (laidMet_of_run' 8 (by kernel_rfl) (by kernel_rfl)) (by kernel_rfl) (by kernel_rfl))) ?_
  intro W base args ds p hval hA hL
  change DataW.TrodAll enc Tryd.prog W 0 (fun _ => true) true Tryd.f6.params.toList args.toList ds p at hA
  rw [Tryd.params6] at hA hval
  obtain ⟨v0, vs0, d0, ds0, p0, q0, hargs, rfl, rfl, h0, r0⟩ := trodAll_cons hA
  obtain ⟨v1, vs1, d1, ds1, p1, q1, rfl, rfl, rfl, h1, r1⟩ := trodAll_cons r0
  obtain ⟨rfl, rfl, rfl⟩ := trodAll_nil r1
  obtain rfl : args = #[v0, v1] := by cases args; simp_all
  obtain ⟨c0, cs0, rfl, ic0, oc0⟩ := open_cfg (hval 0 25 v0 rfl rfl) h0
  obtain ⟨cs1, fl1, rfl⟩ := open_raw (m := 9) (ks := Trial.ks) (by kernel_rfl) (by kernel_rfl) (hval 1 59 v1 rfl rfl) h1
  obtain ⟨x1, ox1, rfl⟩ := Trial.of_flat fl1
  exact walk c0 cs0 x1 W ic0 oc0 ox1 hL

theorem said : Rows.ActuatorsAnySaid :=
  OpenClaim.holds_of_cond 6 Tryd.f6 rfl rfl rfl rfl rfl rfl rfl ⟨rfl, rfl, rfl, rfl, rfl⟩ rfl rfl rfl rfl rfl (by kernel_rfl) Tryd.func6 (by kernel_rfl)
    (of_decide_eq_true (by kernel_rfl)) (by unfold Func.isWrapper; first | (rw [if_pos (by decide +kernel)]; kernel_rfl) | (rw [if_neg (by decide +kernel)]; exact ⟨rfl, rfl⟩))
    (fun os started H enc _ F => by rw [OpenClaim.pre_eq_preRow]; exact lifted os started H enc F)
theorem plain (f : FuncId) (fn : Func) (hf : Tryd.pinned.checked.prog.funcNamed Rows.actuatorsAnyRow.func = some f) (hfn : Tryd.pinned.checked.prog.funcs[f]? = some fn) :
    false = Tryd.pinned.checked.prog.looks [] ∧ ∀ (j : Nat) t, fn.params[j]? = some t → Tryd.pinned.checked.prog.wantsStandIn t = false := by
  obtain rfl : f = 6 := Option.some.inj ((show Tryd.prog.funcNamed Rows.actuatorsAnyRow.func = some 6 by kernel_rfl).symm.trans hf) |>.symm
  obtain rfl : fn = Tryd.f6 := (Option.some.inj (Tryd.func6.symm.trans hfn)).symm
  refine ⟨by kernel_rfl, fun j t ht => ?_⟩
  have hm : t ∈ Tryd.f6.params.toList := by rw [← Array.getElem?_toList] at ht; exact List.mem_of_getElem? ht
  have hall : (Tryd.f6.params.toList.all fun u => !Tryd.prog.wantsStandIn u) = true := by kernel_rfl
  exact (show Tryd.prog.wantsStandIn t = false by simpa using List.all_eq_true.1 hall t hm)
theorem proved : Rows.ActuatorsAnyCardSaid :=
  Claim7.holds_tied_plain_at .later [] _ _ _ _ said (fun _ h => by cases h) (by kernel_rfl) (fun _ h => by cases h) actuatorsAny_row_tie rfl ⟨rfl, rfl⟩ (by kernel_rfl) rfl plain (by kernel_rfl)
#print axioms proved
end Go.Proofs.YtgfmjbfjodidpaaDoor.actuatorsAny
end
