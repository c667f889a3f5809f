/- CrewsEdges: for any config and any view the law returns true (its tied card). No further condition. -/
import Derived.Test.YtpgaplcdbbnblaaGreatDoorTie
import Derived.Test.YtpgaplcdbbnblaaGreatDoorCards
import Derived.Test.YtpgaplcdbbnblaaGreatDoorJCrewsEdges0
import Derived.Test.YtpgaplcdbbnblaaGreatDoorJCrewsEdges30
import Derived.Test.YtpgaplcdbbnblaaGreatDoorJCrewsEdges10
import Derived.Test.YtpgaplcdbbnblaaGreatDoorJCrewsEdges31
import Derived.Test.YtpgaplcdbbnblaaGreatDoorJCrewsEdges3
import Derived.Test.YtpgaplcdbbnblaaGreatDoorJCrewsEdges33
import Derived.LaidMore
import Derived.LaidHandle
set_option linter.unusedSimpArgs false
set_option linter.unusedVariables false
section
namespace Go.Proofs.YtpgaplcdbbnblaaGreatDoor.crewsEdges
open Go.RowKit Go.WideShapes Go.ChangeShapes Go.ChangeAt

theorem walk (c : Cfg) (cs : List Value) (x : View) (w : World) (hc : CfgIn w c cs) (ho : c.Ok) (hx : x.Ok) (hL : laidMetH Tryz.prog Rows.crewsEdgesRow.laid w) :
    Calls Tryz.prog 11 #[.agg cs.toArray, .agg x.cells.toArray] w fun e w' => e = .returned (.bool true) ∧ Below w.heap.size w w' := by
  have hG : ∀ p ∈ mSE, GlobAt w p := by
    rw [MakeChecks.laidMetH_plain _ _ _ (by kernel_rfl)] at hL
    intro p hp
    rcases List.mem_cons.1 hp with rfl | hp
    · exact globAt_signs hL
    · rw [List.mem_singleton.1 hp]
      exact globAt_edges (laidMet_tail hL)
  have hr : ∀ β, γt β [.agg (vwL (vwI x))] = some [.agg x.cells.toArray] := fun β => by simp only [γt, γ1, vwL, γs_vs, vwI_cells]
  by_cases h0 : cfgErr c = 0
  · exact cfg_law (hENl0 ctsCd_ok) hG hc hr (by obtain ⟨p, lp, r, h1, h2⟩ := cd_run0 c (vwI x) h0 ho.nb (vwI_ok hx); exact ⟨p, lp, r, h1, h2⟩)
  · exact cfg_law (hENl1 ctsCd_ok) hG hc hr (by obtain ⟨p, r, h1, h2⟩ := cd_run1 c (vwI x) h0 ho.nb; exact ⟨p, _, r, h1, h2⟩)
set_option maxRecDepth 100000 in
theorem lifted (os : Os) (started : os.Started) (H : Type) (enc : TypeId × Value → H) (F : Stop.Interp) :
    ReturnsInHanded {} Tryz.checked os 11 .any ((OpenSpec.ofChange Rows.crewsEdgesSpec).preRow enc Tryz.prog Tryz.f11 Rows.crewsEdgesRow.domain false Rows.crewsEdgesRow.laid) (((OpenSpec.ofChange Rows.crewsEdgesSpec).at F).post enc Tryz.prog Tryz.f11 false true false false) := by
  refine card_lifted (C := Tryz.checked) (by kernel_rfl) started (by kernel_rfl) Tryz.func11 (by kernel_rfl) (by kernel_rfl) rfl Tryz.underlying4 rfl (fun ds h => by match ds, h with | [_, _], _ => rfl)
    (card_witness (enc := enc) (C := Tryz.checked) (World.doorLaid Tryz.prog 1000 os) #[.agg #[.int .i64 0, .slice none 0 0, .slice none 0 0, .int .i64 0, .slice none 0 0, .slice none 0 0, .int .i64 0, .int .i64 0, .int .i64 0], .agg View.zero.cells.toArray] rfl (by kernel_rfl) (by kernel_rfl) (by kernel_rfl) (by kernel_rfl) (by kernel_rfl) (laidMetH_of_parts3 (fuel := 8) (laidMet_of_run' 8 (by kernel_rfl) (by kernel_rfl)) (by kernel_rfl) (by kernel_rfl))) ?_
  intro W base args ds p hval hA hL
  change DataW.TrodAll enc Tryz.prog W 0 (fun _ => true) true Tryz.f11.params.toList args.toList ds p at hA
  rw [Tryz.params11] at hA hval
  obtain ⟨v0, vs0, d0, ds0, p0, q0, hargs, rfl, rfl, h0, r0⟩ := trodAll_cons hA
  obtain ⟨v1, vs1, d1, ds1, p1, q1, rfl, rfl, rfl, h1, r1⟩ := trodAll_cons r0
  obtain ⟨rfl, rfl, rfl⟩ := trodAll_nil r1
  obtain rfl : args = #[v0, v1] := by cases args; simp_all
  obtain ⟨c0, cs0, rfl, ic0, oc0⟩ := open_cfg (hval 0 25 v0 rfl rfl) h0
  obtain ⟨cs1, fl1, rfl⟩ := open_raw (m := 9) (ks := View.ks) (by kernel_rfl) (by kernel_rfl) (hval 1 32 v1 rfl rfl) h1
  obtain ⟨x1, ox1, rfl⟩ := View.of_flat fl1
  exact walk c0 cs0 x1 W ic0 oc0 ox1 hL

theorem fact1 : Rows.crewsEdgesRow.inPlace = Tryz.pinned.checked.prog.inPlace 11 := by kernel_rfl
theorem fact2 : Rows.crewsEdgesRow.unfollowed = Tryz.pinned.checked.prog.unfollowed 11 := by kernel_rfl
theorem fact3 : Rows.crewsEdgesRow.recurses = Tryz.pinned.checked.prog.recurses 11 := by kernel_rfl
theorem fact4 : Rows.crewsEdgesRow.named = Tryz.pinned.checked.prog.varsNamed 11 := by kernel_rfl
theorem fact5 : Rows.crewsEdgesRow.lifted = Tryz.pinned.checked.prog.liftsFinal := by kernel_rfl
theorem fact6 : Tryz.pinned.checked.prog.make = some Rows.crewsEdgesRow.make := by kernel_rfl
theorem facts : joinedFacts Tryz.pinned.checked.prog 11 Tryz.f11 (OpenSpec.ofChange Rows.crewsEdgesSpec).bare Rows.crewsEdgesRow = true := by
  unfold joinedFacts
  rw [← fact1, ← fact2, ← fact3, ← fact4, ← fact5, fact6, factA, factB, factC, factD]
  kernel_rfl
theorem said : Rows.CrewsEdgesSaid :=
  OpenClaim.holds_of_cond 11 Tryz.f11 rfl rfl rfl rfl rfl rfl rfl ⟨rfl, rfl, rfl, rfl, rfl⟩ rfl rfl rfl rfl rfl (by kernel_rfl) Tryz.func11 facts
    (of_decide_eq_true (by kernel_rfl)) (by unfold Func.isWrapper; first | (rw [if_pos (by decide +kernel)]; kernel_rfl) | (rw [if_neg (by decide +kernel)]; exact ⟨rfl, rfl⟩))
    (fun os started H enc _ F => by rw [OpenClaim.pre_eq_preRow]; exact lifted os started H enc F)
theorem plain (f : FuncId) (fn : Func) (hf : Tryz.pinned.checked.prog.funcNamed Rows.crewsEdgesRow.func = some f) (hfn : Tryz.pinned.checked.prog.funcs[f]? = some fn) :
    true = Tryz.pinned.checked.prog.looks [] ∧ ∀ (j : Nat) t, fn.params[j]? = some t → Tryz.pinned.checked.prog.wantsStandIn t = false := by
  obtain rfl : f = 11 := Option.some.inj ((show Tryz.prog.funcNamed Rows.crewsEdgesRow.func = some 11 by kernel_rfl).symm.trans hf) |>.symm
  obtain rfl : fn = Tryz.f11 := (Option.some.inj (Tryz.func11.symm.trans hfn)).symm
  refine ⟨by kernel_rfl, fun j t ht => ?_⟩
  have hm : t ∈ Tryz.f11.params.toList := by rw [← Array.getElem?_toList] at ht; exact List.mem_of_getElem? ht
  have hall : (Tryz.f11.params.toList.all fun u => !Tryz.prog.wantsStandIn u) = true := by kernel_rfl
  exact (show Tryz.prog.wantsStandIn t = false by simpa using List.all_eq_true.1 hall t hm)
theorem proved : Rows.CrewsEdgesCardSaid :=
  Claim7.holds_tied_plain_at .later [] _ _ _ _ said (fun _ h => by cases h) (by kernel_rfl) (fun _ h => by cases h) crewsEdges_row_tie rfl ⟨rfl, rfl⟩ (by kernel_rfl) rfl plain (by kernel_rfl)
#print axioms proved
end Go.Proofs.YtpgaplcdbbnblaaGreatDoor.crewsEdges
end
