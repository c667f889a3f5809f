/- MembersView: for any config, any two views and any number the law returns true (its tied card). No further condition. -/
import Derived.Test.YtpgaplcdbbnblaaGreatDoorTie
import Derived.Test.YtpgaplcdbbnblaaGreatDoorCards
import Derived.Test.YtpgaplcdbbnblaaGreatDoorJMembersView0
import Derived.Test.YtpgaplcdbbnblaaGreatDoorJMembersView23
import Derived.Test.YtpgaplcdbbnblaaGreatDoorJMembersView24
import Derived.Test.YtpgaplcdbbnblaaGreatDoorJMembersView3
import Derived.Test.YtpgaplcdbbnblaaGreatDoorJMembersView25
import Derived.LaidMore
import Derived.LaidHandle
set_option linter.unusedSimpArgs false
set_option linter.unusedVariables false
section
namespace Go.Proofs.YtpgaplcdbbnblaaGreatDoor.membersView
open Go.RowKit Go.WideShapes Go.ChangeShapes Go.ChangeAt

theorem walk (c : Cfg) (cs : List Value) (x y : View) (z : Int) (w : World) (hc : CfgIn w c cs) (ho : c.Ok) (hx : x.Ok) (hy : y.Ok) (_ : -9223372036854775808 ≤ z) (_ : z ≤ 9223372036854775807) (hL : laidMetH Tryz.prog Rows.membersViewRow.laid w) :
    Calls Tryz.prog 3 #[.agg cs.toArray, .agg (x.cells ++ y.cells).toArray, .int .i64 z] w fun e w' => e = .returned (.bool true) ∧ Below w.heap.size w w' := by
  have hG : ∀ p ∈ mS, GlobAt w p := by
    rw [MakeChecks.laidMetH_plain _ _ _ (by kernel_rfl)] at hL
    exact glob_mS hL
  have hr : ∀ β, γt β [.agg (vwL (vwI x) ++ vwL (vwI y)), i64 z] = some [.agg (x.cells ++ y.cells).toArray, .int .i64 z] := fun β => by
    have e : vwL (vwI x) ++ vwL (vwI y) = (x.cells ++ y.cells).map .v := by rw [List.map_append, ← vwI_cells, ← vwI_cells]
    rw [e]
    simp only [γt, γ1, γs_vs, i64, γc]
  by_cases h0 : cfgErr c = 0
  · exact cfg_law (hENl0 ctsMv_ok) hG hc hr (by obtain ⟨p, r, h1, h2⟩ := mv_run0 c (vwI x) (vwI y) z h0 ho.nb (vwI_ok hx) (vwI_ok hy); exact ⟨p, _, r, h1, h2⟩)
  · exact cfg_law (hENl1 ctsMv_ok) hG hc hr (by obtain ⟨p, r, h1, h2⟩ := mv_run1 c (vwI x) (vwI y) z h0 ho.nb; exact ⟨p, _, r, h1, h2⟩)
set_option maxRecDepth 100000 in
theorem lifted (os : Os) (started : os.Started) (H : Type) (enc : TypeId × Value → H) (F : Stop.Interp) :
    ReturnsInHanded {} Tryz.checked os 3 .any ((OpenSpec.ofChange Rows.membersViewSpec).preRow enc Tryz.prog Tryz.f3 Rows.membersViewRow.domain false Rows.membersViewRow.laid) (((OpenSpec.ofChange Rows.membersViewSpec).at F).post enc Tryz.prog Tryz.f3 false true false false) := by
  refine card_lifted (C := Tryz.checked) (by kernel_rfl) started (by kernel_rfl) Tryz.func3 (by kernel_rfl) (by kernel_rfl) rfl Tryz.underlying4 rfl (fun ds h => by match ds, h with | [_, _, _], _ => rfl)
    (card_witness (enc := enc) (C := Tryz.checked) (World.doorLaid Tryz.prog 1000 os) #[.agg #[.int .i64 0, .slice none 0 0, .slice none 0 0, .int .i64 0, .slice none 0 0, .slice none 0 0, .int .i64 0, .int .i64 0, .int .i64 0], .agg (View.zero.cells ++ View.zero.cells).toArray, .int .i64 0] rfl (by kernel_rfl) (by kernel_rfl) (by kernel_rfl) (by kernel_rfl) (by kernel_rfl) (laidMetH_of_parts3 (fuel := 8) (laidMet_of_run' 8 (by kernel_rfl) (by kernel_rfl)) (by kernel_rfl) (by kernel_rfl))) ?_
  intro W base args ds p hval hA hL
  change DataW.TrodAll enc Tryz.prog W 0 (fun _ => true) true Tryz.f3.params.toList args.toList ds p at hA
  rw [Tryz.params3] at hA hval
  obtain ⟨v0, vs0, d0, ds0, p0, q0, hargs, rfl, rfl, h0, r0⟩ := trodAll_cons hA
  obtain ⟨v1, vs1, d1, ds1, p1, q1, rfl, rfl, rfl, h1, r1⟩ := trodAll_cons r0
  obtain ⟨v2, vs2, d2, ds2, p2, q2, rfl, rfl, rfl, h2, r2⟩ := trodAll_cons r1
  obtain ⟨rfl, rfl, rfl⟩ := trodAll_nil r2
  obtain rfl : args = #[v0, v1, v2] := by cases args; simp_all
  obtain ⟨c0, cs0, rfl, ic0, oc0⟩ := open_cfg (hval 0 25 v0 rfl rfl) h0
  obtain ⟨cs1, fl1, rfl⟩ := open_raw (m := 9) (ks := (View.ks ++ (View.ks ++ []))) (by kernel_rfl) (by kernel_rfl) (hval 1 33 v1 rfl rfl) h1
  obtain ⟨_, _, rfl, g1_0, fl1_0⟩ := fl1.unapp
  obtain ⟨x1_0, ox1_0, rfl⟩ := View.of_flat g1_0
  obtain ⟨_, _, rfl, g1_1, fl1_1⟩ := fl1_0.unapp
  obtain ⟨x1_1, ox1_1, rfl⟩ := View.of_flat g1_1
  obtain rfl := fl1_1.unnil
  try simp only [List.append_nil] at *
  obtain ⟨a2, rfl, rfl, rfl, w2⟩ := open_int Tryz.underlying3 (hval 2 3 v2 rfl rfl) h2
  have b2 := bounds_i64 w2
  exact walk c0 cs0 x1_0 x1_1 a2 W ic0 oc0 ox1_0 ox1_1 b2.1 b2.2 hL

theorem fact1 : Rows.membersViewRow.inPlace = Tryz.pinned.checked.prog.inPlace 3 := by kernel_rfl
theorem fact2 : Rows.membersViewRow.unfollowed = Tryz.pinned.checked.prog.unfollowed 3 := by kernel_rfl
theorem fact3 : Rows.membersViewRow.recurses = Tryz.pinned.checked.prog.recurses 3 := by kernel_rfl
theorem fact4 : Rows.membersViewRow.named = Tryz.pinned.checked.prog.varsNamed 3 := by kernel_rfl
theorem fact5 : Rows.membersViewRow.lifted = Tryz.pinned.checked.prog.liftsFinal := by kernel_rfl
theorem fact6 : Tryz.pinned.checked.prog.make = some Rows.membersViewRow.make := by kernel_rfl
theorem facts : joinedFacts Tryz.pinned.checked.prog 3 Tryz.f3 (OpenSpec.ofChange Rows.membersViewSpec).bare Rows.membersViewRow = true := by
  unfold joinedFacts
  rw [← fact1, ← fact2, ← fact3, ← fact4, ← fact5, fact6, factA, factB, factC, factD]
  kernel_rfl
theorem said : Rows.MembersViewSaid :=
  OpenClaim.holds_of_cond 3 Tryz.f3 rfl rfl rfl rfl rfl rfl rfl ⟨rfl, rfl, rfl, rfl, rfl⟩ rfl rfl rfl rfl rfl (by kernel_rfl) Tryz.func3 facts
    (of_decide_eq_true (by kernel_rfl)) (by unfold Func.isWrapper; first | (rw [if_pos (by decide +kernel)]; kernel_rfl) | (rw [if_neg (by decide +kernel)]; exact ⟨rfl, rfl⟩))
    (fun os started H enc _ F => by rw [OpenClaim.pre_eq_preRow]; exact lifted os started H enc F)
theorem plain (f : FuncId) (fn : Func) (hf : Tryz.pinned.checked.prog.funcNamed Rows.membersViewRow.func = some f) (hfn : Tryz.pinned.checked.prog.funcs[f]? = some fn) :
    true = Tryz.pinned.checked.prog.looks [] ∧ ∀ (j : Nat) t, fn.params[j]? = some t → Tryz.pinned.checked.prog.wantsStandIn t = false := by
  obtain rfl : f = 3 := Option.some.inj ((show Tryz.prog.funcNamed Rows.membersViewRow.func = some 3 by kernel_rfl).symm.trans hf) |>.symm
  obtain rfl : fn = Tryz.f3 := (Option.some.inj (Tryz.func3.symm.trans hfn)).symm
  refine ⟨by kernel_rfl, fun j t ht => ?_⟩
  have hm : t ∈ Tryz.f3.params.toList := by rw [← Array.getElem?_toList] at ht; exact List.mem_of_getElem? ht
  have hall : (Tryz.f3.params.toList.all fun u => !Tryz.prog.wantsStandIn u) = true := by kernel_rfl
  exact (show Tryz.prog.wantsStandIn t = false by simpa using List.all_eq_true.1 hall t hm)
theorem proved : Rows.MembersViewCardSaid :=
  Claim7.holds_tied_plain_at .later [] _ _ _ _ said (fun _ h => by cases h) (by kernel_rfl) (fun _ h => by cases h) membersView_row_tie rfl ⟨rfl, rfl⟩ (by kernel_rfl) rfl plain (by kernel_rfl)
#print axioms proved
end Go.Proofs.YtpgaplcdbbnblaaGreatDoor.membersView
end
