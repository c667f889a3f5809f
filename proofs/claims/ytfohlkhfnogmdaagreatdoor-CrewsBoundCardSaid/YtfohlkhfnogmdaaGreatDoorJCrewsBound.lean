/- CrewsBound: for any config and any view the law returns true (its tied card). No further condition. -/
import Derived.Test.YtfohlkhfnogmdaaGreatDoorTie
import Derived.Test.YtfohlkhfnogmdaaGreatDoorCards
import Derived.Test.YtfohlkhfnogmdaaGreatDoorJCrewsBound27
import Derived.Test.YtfohlkhfnogmdaaGreatDoorJCrewsBound9
import Derived.Test.YtfohlkhfnogmdaaGreatDoorJCrewsBound28
import Derived.Test.YtfohlkhfnogmdaaGreatDoorJCrewsBound2
import Derived.Test.YtfohlkhfnogmdaaGreatDoorJCrewsBound30
import Derived.LaidMore
import Derived.LaidHandle
set_option linter.unusedSimpArgs false
set_option linter.unusedVariables false
section
namespace Go.Proofs.YtfohlkhfnogmdaaGreatDoor.crewsBound
open Go.RowKit Go.WideShapes Go.ChangeShapes Go.ChangeAt

theorem walk (c : Cfg) (cs : List Value) (x : View) (w : World) (hc : CfgIn w c cs) (ho : c.Ok) (hx : x.Ok) (hL : laidMetH Tryz.prog Rows.crewsBoundRow.laid w) :
    Calls Tryz.prog 6 #[.agg cs.toArray, .agg x.cells.toArray] w fun e w' => e = .returned (.bool true) ∧ Below w.heap.size w w' := by
  have hG : ∀ p ∈ mSE, GlobAt w p := by
    rw [MakeChecks.laidMetH_plain _ _ _ (by kernel_rfl)] at hL
    intro p hp
    rcases List.mem_cons.1 hp with rfl | hp
    · exact jj8b hL
    · rw [List.mem_singleton.1 hp]
      exact jj8c (jj85 hL)
  have hr : ∀ β, γt β [.agg (vwL (vwI x))] = some [.agg x.cells.toArray] := fun β => by simp only [γt, γ1, vwL, jj5q, jjcw]
  by_cases h0 : cfgErr c = 0
  · exact jjff (hENl0 jjc5) hG hc hr (by obtain ⟨p, r, h1, h2⟩ := jjk6 c (vwI x) h0 ho.nb (jjko hx); exact ⟨p, _, r, h1, h2⟩)
  · exact jjff (hENl1 jjc5) hG hc hr (by obtain ⟨p, r, h1, h2⟩ := jjk5 c (vwI x) h0 ho.nb; exact ⟨p, _, r, h1, h2⟩)
set_option maxRecDepth 100000 in
theorem lifted (os : Os) (started : os.Started) (H : Type) (enc : TypeId × Value → H) (F : Stop.Interp) :
    ReturnsInHanded {} Tryz.checked os 6 .any ((OpenSpec.ofChange Rows.crewsBoundSpec).preRow enc Tryz.prog Tryz.f6 Rows.crewsBoundRow.domain false Rows.crewsBoundRow.laid) (((OpenSpec.ofChange Rows.crewsBoundSpec).at F).post enc Tryz.prog Tryz.f6 false true false false) := by
  refine jja1 (C := Tryz.checked) (by kernel_rfl) started (by kernel_rfl) Tryz.func6 (by kernel_rfl) (by kernel_rfl) rfl Tryz.underlying4 rfl (fun ds h => by match ds, h with | [_, _], _ => rfl)
    (jj8m (enc := enc) (C := Tryz.checked) (World.doorLaid Tryz.prog 1000 os) #[.agg #[.int .i64 0, .slice none 0 0, .slice none 0 0, .int .i64 0, .slice none 0 0, .slice none 0 0, .int .i64 0, .int .i64 0, .int .i64 0], .agg View.zero.cells.toArray] rfl (by kernel_rfl) (by kernel_rfl) (by kernel_rfl) (by kernel_rfl) (by kernel_rfl) (laidMetH_of_parts3 (fuel := 8) (laidMet_of_run' 8 (by kernel_rfl) (by kernel_rfl)) (by kernel_rfl) (by kernel_rfl))) ?_
  intro W base args ds p hval hA hL
  change DataW.TrodAll enc Tryz.prog W 0 (fun _ => true) true Tryz.f6.params.toList args.toList ds p at hA
  rw [Tryz.params6] at hA hval
  obtain ⟨v0, vs0, d0, ds0, p0, q0, hargs, rfl, rfl, h0, r0⟩ := trodAll_cons hA
  obtain ⟨v1, vs1, d1, ds1, p1, q1, rfl, rfl, rfl, h1, r1⟩ := trodAll_cons r0
  obtain ⟨rfl, rfl, rfl⟩ := trodAll_nil r1
  obtain rfl : args = #[v0, v1] := by cases args; simp_all
  obtain ⟨c0, cs0, rfl, ic0, oc0⟩ := jjgc (hval 0 25 v0 rfl rfl) h0
  obtain ⟨cs1, fl1, rfl⟩ := jjgb (m := 9) (ks := View.ks) (by kernel_rfl) (by kernel_rfl) (hval 1 59 v1 rfl rfl) h1
  obtain ⟨x1, ox1, rfl⟩ := View.of_flat fl1
  exact walk c0 cs0 x1 W ic0 oc0 ox1 hL

theorem said : Rows.CrewsBoundSaid :=
  OpenClaim.holds_of_cond 6 Tryz.f6 rfl rfl rfl rfl rfl rfl rfl ⟨rfl, rfl, rfl, rfl, rfl⟩ rfl rfl rfl rfl rfl (by kernel_rfl) Tryz.func6 (by kernel_rfl)
    (of_decide_eq_true (by kernel_rfl)) (by unfold Func.isWrapper; first | (rw [if_pos (by decide +kernel)]; kernel_rfl) | (rw [if_neg (by decide +kernel)]; exact ⟨rfl, rfl⟩))
    (fun os started H enc _ F => by rw [OpenClaim.pre_eq_preRow]; exact lifted os started H enc F)
theorem plain (f : FuncId) (fn : Func) (hf : Tryz.pinned.checked.prog.funcNamed Rows.crewsBoundRow.func = some f) (hfn : Tryz.pinned.checked.prog.funcs[f]? = some fn) :
    false = Tryz.pinned.checked.prog.looks [] ∧ ∀ (j : Nat) t, fn.params[j]? = some t → Tryz.pinned.checked.prog.wantsStandIn t = false := by
  obtain rfl : f = 6 := Option.some.inj ((show Tryz.prog.funcNamed Rows.crewsBoundRow.func = some 6 by kernel_rfl).symm.trans hf) |>.symm
  obtain rfl : fn = Tryz.f6 := (Option.some.inj (Tryz.func6.symm.trans hfn)).symm
  refine ⟨by kernel_rfl, fun j t ht => ?_⟩
  have hm : t ∈ Tryz.f6.params.toList := by rw [← Array.getElem?_toList] at ht; exact List.mem_of_getElem? ht
  have hall : (Tryz.f6.params.toList.all fun u => !Tryz.prog.wantsStandIn u) = true := by kernel_rfl
  exact (show Tryz.prog.wantsStandIn t = false by simpa using List.all_eq_true.1 hall t hm)
theorem proved : Rows.CrewsBoundCardSaid :=
  Claim7.holds_tied_plain_at .later [] _ _ _ _ said (fun _ h => by cases h) (by kernel_rfl) (fun _ h => by cases h) crewsBound_row_tie rfl ⟨rfl, rfl⟩ (by kernel_rfl) rfl plain (by kernel_rfl)
#print axioms proved
end Go.Proofs.YtfohlkhfnogmdaaGreatDoor.crewsBound
end
