/- HostsVoid: for any arguments the law returns true (its tied card). No further condition. -/
import Derived.Test.YtpfkhlfkcmgdlaaDoorTie
import Derived.Test.YtpfkhlfkcmgdlaaDoorCards
import Derived.Test.YtpfkhlfkcmgdlaaDoorHvF
import Derived.Test.YtpfkhlfkcmgdlaaDoorGlobIn
import Derived.Test.YtpfkhlfkcmgdlaaDoorCard
import Derived.Test.YtpfkhlfkcmgdlaaDoorOpen
import Derived.Test.YtpfkhlfkcmgdlaaDoorTyMore
import Derived.LaidMore
import Derived.LaidHandle
set_option linter.unusedSimpArgs false
set_option linter.unusedVariables false
namespace Go.Proofs.YtpfkhlfkcmgdlaaDoor.hostsVoid
open Go.RowKit Go.WideShapes Go.ChangeShapes Go.ChangeAt

set_option maxRecDepth 1000000 in
theorem run (x : Act) : ∃ p r, hvR Tryd.prog x p = some r ∧ (r.1 = bo true ∧ r.2.2.1 ≤ lim ∧ allT r.2.2.2.1 ∧ ∀ q ∈ r.2.2.2.2, q) := by
  refine hv x _ ?_
  repeat' (first | refine ⟨fun h => ?_, fun h => ?_⟩ | fail)
  all_goals (first | (exfalso; simp at *; done) | (exfalso; simp at *; omega) | skip)
  all_goals (refine ⟨rfl, by dsimp only; unfold lim; omega, ?_, by simp⟩)
  all_goals (first | (simp_all [allT, Act.cells]; done) | (simp_all [allT, Act.cells]; omega))
theorem glob (w : World) (hL : laidMetH Tryd.prog Rows.hostsVoidRow.laid w) : ∀ p ∈ mS, GlobAt w p := by
  rw [MakeChecks.laidMetH_plain _ _ _ (by kernel_rfl)] at hL
  have h1 : Lib.TabIs Tryd.prog w "sennit/rings.signs" .i64 [1, -1] := Lib.tabIs_of_head (g := 1) (t := 152) (e := 3) (n := 2) (by kernel_rfl) (by kernel_rfl) (by kernel_rfl) (by kernel_rfl) (by kernel_rfl) (by kernel_rfl) hL
  intro p hp
  rcases List.mem_singleton.1 hp with rfl
  exact globAt_tab (ty := 152) h1 (by kernel_rfl) (by decide)
theorem walk (x : Act) (w : World) (_ : x.Ok) (hL : laidMetH Tryd.prog Rows.hostsVoidRow.laid w) :
    Calls Tryd.prog 6 #[.agg x.cells.toArray] w fun e w' => e = .returned (.bool true) ∧ Below w.heap.size w w' := by
  obtain ⟨p, ⟨v, b', n, ob, po⟩, hrun, hv, hn, hob, hpo⟩ := run x
  obtain ⟨s', r1, r2, r3, r4⟩ := viewF_out hrun
  refine (calls_f hEL19 r1 ⟨by rw [r3]; exact hob, by rw [r4]; exact hpo⟩ (C := loneC w) (β := gβ) (w := w) (vs := [.agg x.cells.toArray]) ?_ (rel_in (glob w hL)) ?_).mono ?_
  · simp only [γt, γ1, γs, γs_vs, γc, ag, i64, bo, List.map]
  · intro id _ h2
    exact gβ_lo (Nat.lt_of_lt_of_le h2 hn)
  · rintro e w' ⟨β', u, rfl, _, _, hu, hr⟩
    simp only at hv
    subst hv
    cases hu
    exact ⟨rfl, below_lone hr⟩
set_option maxRecDepth 100000 in
theorem lifted (os : Os) (started : os.Started) (H : Type) (enc : TypeId × Value → H) (F : Stop.Interp) :
    ReturnsInHanded {} Tryd.checked os 6 .any ((OpenSpec.ofChange Rows.hostsVoidSpec).preRow enc Tryd.prog Tryd.f6 Rows.hostsVoidRow.domain false Rows.hostsVoidRow.laid) (((OpenSpec.ofChange Rows.hostsVoidSpec).at F).post enc Tryd.prog Tryd.f6 false true false false) := by
  refine card_lifted (C := Tryd.checked) (by kernel_rfl) started (by kernel_rfl) Tryd.func6 (by kernel_rfl) (by kernel_rfl) rfl Tryd.underlying4 rfl (fun ds h => by match ds, h with | [_], _ => rfl)
    (card_witness (enc := enc) (C := Tryd.checked) (World.doorLaid Tryd.prog 1000 os) #[.agg Act.zero.cells.toArray] rfl (by kernel_rfl) (by kernel_rfl) (by kernel_rfl) (by kernel_rfl) (by kernel_rfl) (laidMetH_of_parts3 (fuel := 8) (laidMet_of_run' 8 (by kernel_rfl) (by kernel_rfl)) (by kernel_rfl) (by kernel_rfl))) ?_
  intro W base args ds p hval hA hL
  change DataW.TrodAll enc Tryd.prog W 0 (fun _ => true) true Tryd.f6.params.toList args.toList ds p at hA
  rw [Tryd.params6] at hA hval
  obtain ⟨v0, vs0, d0, ds0, p0, q0, hargs, rfl, rfl, h0, r0⟩ := trodAll_cons hA
  obtain ⟨rfl, rfl, rfl⟩ := trodAll_nil r0
  obtain rfl : args = #[v0] := by cases args; simp_all
  obtain ⟨cs0, fl0, rfl⟩ := open_raw (m := 9) (ks := Act.ks) (by kernel_rfl) (by kernel_rfl) (hval 0 72 v0 rfl rfl) h0
  obtain ⟨x0, ox0, rfl⟩ := Act.of_flat fl0
  exact walk x0 W ox0 hL

theorem said : Rows.HostsVoidSaid :=
  OpenClaim.holds_of_cond 6 Tryd.f6 rfl rfl rfl rfl rfl rfl rfl ⟨rfl, rfl, rfl, rfl, rfl⟩ rfl rfl rfl rfl rfl (by kernel_rfl) Tryd.func6 (by kernel_rfl)
    (of_decide_eq_true (by kernel_rfl)) (by unfold Func.isWrapper; first | (rw [if_pos (by decide +kernel)]; kernel_rfl) | (rw [if_neg (by decide +kernel)]; exact ⟨rfl, rfl⟩))
    (fun os started H enc _ F => by rw [OpenClaim.pre_eq_preRow]; exact lifted os started H enc F)
theorem plain (f : FuncId) (fn : Func) (hf : Tryd.pinned.checked.prog.funcNamed Rows.hostsVoidRow.func = some f) (hfn : Tryd.pinned.checked.prog.funcs[f]? = some fn) :
    false = Tryd.pinned.checked.prog.looks [] ∧ ∀ (j : Nat) t, fn.params[j]? = some t → Tryd.pinned.checked.prog.wantsStandIn t = false := by
  obtain rfl : f = 6 := Option.some.inj ((show Tryd.prog.funcNamed Rows.hostsVoidRow.func = some 6 by kernel_rfl).symm.trans hf) |>.symm
  obtain rfl : fn = Tryd.f6 := (Option.some.inj (Tryd.func6.symm.trans hfn)).symm
  refine ⟨by kernel_rfl, fun j t ht => ?_⟩
  have hm : t ∈ Tryd.f6.params.toList := by rw [← Array.getElem?_toList] at ht; exact List.mem_of_getElem? ht
  have hall : (Tryd.f6.params.toList.all fun u => !Tryd.prog.wantsStandIn u) = true := by kernel_rfl
  exact (show Tryd.prog.wantsStandIn t = false by simpa using List.all_eq_true.1 hall t hm)
theorem proved : Rows.HostsVoidCardSaid :=
  Claim7.holds_tied_plain_at .later [] _ _ _ _ said (fun _ h => by cases h) (by kernel_rfl) (fun _ h => by cases h) hostsVoid_row_tie rfl ⟨rfl, rfl⟩ (by kernel_rfl) rfl plain (by kernel_rfl)
#print axioms proved
end Go.Proofs.YtpfkhlfkcmgdlaaDoor.hostsVoid
