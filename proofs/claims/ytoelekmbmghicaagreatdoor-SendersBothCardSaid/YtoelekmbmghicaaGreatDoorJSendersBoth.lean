/- SendersBoth: for any config, any pair and any payload the law returns true (its tied card). No further condition. -/
import Derived.Test.YtoelekmbmghicaaGreatDoorTie
import Derived.Test.YtoelekmbmghicaaGreatDoorCards
import Derived.Test.YtoelekmbmghicaaGreatDoorJSendersBoth0
import Derived.Test.YtoelekmbmghicaaGreatDoorJSendersBoth20
import Derived.Test.YtoelekmbmghicaaGreatDoorJSendersBoth21
import Derived.Test.YtoelekmbmghicaaGreatDoorJSendersBoth3
import Derived.Test.YtoelekmbmghicaaGreatDoorJSendersBoth22
import Derived.LaidMore
import Derived.LaidHandle
set_option linter.unusedSimpArgs false
set_option linter.unusedVariables false
section
namespace Go.Proofs.YtoelekmbmghicaaGreatDoor.sendersBoth
open Go.RowKit Go.WideShapes Go.ChangeShapes Go.ChangeAt

theorem walk (c : Cfg) (cs : List Value) (y : Int) (pa : Payload) (w : World) (hc : CfgIn w c cs) (ho : c.Ok) (y0 : 0 ≤ y) (y1 : y ≤ 255) (hp : pa.Ok) (hL : laidMetH Tryz.prog Rows.sendersBothRow.laid w) :
    Calls Tryz.prog 4 #[.agg cs.toArray, .int .u8 y, .agg pa.cells.toArray] w fun e w' => e = .returned (.bool true) ∧ Below w.heap.size w w' := by
  have hG : ∀ p ∈ mSR, GlobAt w p := by
    rw [MakeChecks.laidMetH_plain _ _ _ (by kernel_rfl)] at hL
    exact glob_mSR hL
  have hr : ∀ β, γt β (nbA y pa) = some [.int .u8 y, .agg pa.cells.toArray] := fun β => by simp only [γt, γ1, γs_vs, γs, γc, ag, List.map]
  by_cases h0 : cfgErr c = 0
  · exact cfg_law (hENl0 ctsNb_ok) hG hc hr (vb_run0 c y pa h0 y0 y1 hp)
  · exact cfg_law (hENl1 ctsNb_ok) hG hc hr (by obtain ⟨p, r, h1, h2⟩ := vb_run1 c y pa h0 ho.nb; exact ⟨p, _, r, h1, h2⟩)
set_option maxRecDepth 100000 in
theorem lifted (os : Os) (started : os.Started) (H : Type) (enc : TypeId × Value → H) (F : Stop.Interp) :
    ReturnsInHanded {} Tryz.checked os 4 .any ((OpenSpec.ofChange Rows.sendersBothSpec).preRow enc Tryz.prog Tryz.f4 Rows.sendersBothRow.domain false Rows.sendersBothRow.laid) (((OpenSpec.ofChange Rows.sendersBothSpec).at F).post enc Tryz.prog Tryz.f4 false true false false) := by
  refine card_lifted (C := Tryz.checked) (by kernel_rfl) started (by kernel_rfl) Tryz.func4 (by kernel_rfl) (by kernel_rfl) rfl Tryz.underlying4 rfl (fun ds h => by match ds, h with | [_, _, _], _ => rfl)
    (card_witness (enc := enc) (C := Tryz.checked) (World.doorLaid Tryz.prog 1000 os) #[.agg #[.int .i64 0, .slice none 0 0, .slice none 0 0, .int .i64 0, .slice none 0 0, .slice none 0 0, .int .i64 0, .int .i64 0, .int .i64 0], .int .u8 0, .agg Payload.zero.cells.toArray] rfl (by kernel_rfl) (by kernel_rfl) (by kernel_rfl) (by kernel_rfl) (by kernel_rfl) (laidMetH_of_parts3 (fuel := 8) (laidMet_of_run' 8 (by kernel_rfl) (by kernel_rfl)) (by kernel_rfl) (by kernel_rfl))) ?_
  intro W base args ds p hval hA hL
  change DataW.TrodAll enc Tryz.prog W 0 (fun _ => true) true Tryz.f4.params.toList args.toList ds p at hA
  rw [Tryz.params4] at hA hval
  obtain ⟨v0, vs0, d0, ds0, p0, q0, hargs, rfl, rfl, h0, r0⟩ := trodAll_cons hA
  obtain ⟨v1, vs1, d1, ds1, p1, q1, rfl, rfl, rfl, h1, r1⟩ := trodAll_cons r0
  obtain ⟨v2, vs2, d2, ds2, p2, q2, rfl, rfl, rfl, h2, r2⟩ := trodAll_cons r1
  obtain ⟨rfl, rfl, rfl⟩ := trodAll_nil r2
  obtain rfl : args = #[v0, v1, v2] := by cases args; simp_all
  obtain ⟨c0, cs0, rfl, ic0, oc0⟩ := open_cfg (hval 0 25 v0 rfl rfl) h0
  obtain ⟨a1, rfl, rfl, rfl, w1⟩ := open_int Tryz.underlying5 (hval 1 5 v1 rfl rfl) h1
  have b1 := bounds_u8 w1
  obtain ⟨cs2, fl2, rfl⟩ := open_raw (m := 9) (ks := Payload.ks) (by kernel_rfl) (by kernel_rfl) (hval 2 30 v2 rfl rfl) h2
  obtain ⟨x2, ox2, rfl⟩ := Payload.of_flat fl2
  exact walk c0 cs0 a1 x2 W ic0 oc0 b1.1 b1.2 ox2 hL

theorem said : Rows.SendersBothSaid :=
  OpenClaim.holds_of_cond 4 Tryz.f4 rfl rfl rfl rfl rfl rfl rfl ⟨rfl, rfl, rfl, rfl, rfl⟩ rfl rfl rfl rfl rfl (by kernel_rfl) Tryz.func4 (by kernel_rfl)
    (of_decide_eq_true (by kernel_rfl)) (by unfold Func.isWrapper; first | (rw [if_pos (by decide +kernel)]; kernel_rfl) | (rw [if_neg (by decide +kernel)]; exact ⟨rfl, rfl⟩))
    (fun os started H enc _ F => by rw [OpenClaim.pre_eq_preRow]; exact lifted os started H enc F)
theorem plain (f : FuncId) (fn : Func) (hf : Tryz.pinned.checked.prog.funcNamed Rows.sendersBothRow.func = some f) (hfn : Tryz.pinned.checked.prog.funcs[f]? = some fn) :
    false = Tryz.pinned.checked.prog.looks [] ∧ ∀ (j : Nat) t, fn.params[j]? = some t → Tryz.pinned.checked.prog.wantsStandIn t = false := by
  obtain rfl : f = 4 := Option.some.inj ((show Tryz.prog.funcNamed Rows.sendersBothRow.func = some 4 by kernel_rfl).symm.trans hf) |>.symm
  obtain rfl : fn = Tryz.f4 := (Option.some.inj (Tryz.func4.symm.trans hfn)).symm
  refine ⟨by kernel_rfl, fun j t ht => ?_⟩
  have hm : t ∈ Tryz.f4.params.toList := by rw [← Array.getElem?_toList] at ht; exact List.mem_of_getElem? ht
  have hall : (Tryz.f4.params.toList.all fun u => !Tryz.prog.wantsStandIn u) = true := by kernel_rfl
  exact (show Tryz.prog.wantsStandIn t = false by simpa using List.all_eq_true.1 hall t hm)
theorem proved : Rows.SendersBothCardSaid :=
  Claim7.holds_tied_plain_at .later [] _ _ _ _ said (fun _ h => by cases h) (by kernel_rfl) (fun _ h => by cases h) sendersBoth_row_tie rfl ⟨rfl, rfl⟩ (by kernel_rfl) rfl plain (by kernel_rfl)
#print axioms proved
end Go.Proofs.YtoelekmbmghicaaGreatDoor.sendersBoth
end
