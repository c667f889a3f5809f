/- ModelsChoose: for any two offers, number and bool the law returns true (its tied card). No further condition. -/
import Derived.Test.YtphjkkfkegdgoaaDoorTie
import Derived.Test.YtphjkkfkegdgoaaDoorCards
import Derived.Test.YtphjkkfkegdgoaaDoorChooseD
import Derived.Test.YtphjkkfkegdgoaaDoorCard
import Derived.Test.YtphjkkfkegdgoaaDoorOpen
import Derived.LaidMore
import Derived.LaidHandle
set_option linter.unusedSimpArgs false
set_option linter.unusedVariables false
namespace Go.Proofs.YtphjkkfkegdgoaaDoor.modelsChoose
open Go.RowKit Go.WideShapes Go.ChangeShapes Go.ChangeAt

theorem eqF_refl : ∀ (ks : List (Option IntKind)) (xs : List AC), eqF ks xs xs = true
  | none :: ks, x :: xs => by simp [eqF, eqF_refl ks xs]
  | some _ :: ks, x :: xs => by simp [eqF, eqF_refl ks xs]
  | [], _ => by simp [eqF]
  | none :: _, [] => by simp [eqF]
  | some _ :: _, [] => by simp [eqF]
theorem below_lone {w w' : World} {β : Nm} {m : AMem} (h : Rel (loneC w) β m w') : Below w.heap.size w w' := ⟨h.os, h.tape, h.output, h.size, fun b hb => h.out b hb fun h => h⟩
set_option maxRecDepth 1000000 in
theorem run (x y : Said) (k : Int) (d : Bool) : ∃ p r, mcR Tryd.prog x y k d p = some r ∧ (r.1 = bo true ∧ r.2.2.1 ≤ lim ∧ allT r.2.2.2.1 ∧ ∀ q ∈ r.2.2.2.2, q) := by
  refine mc x y k d _ ⟨fun h1 => ?_, fun h1 => ?_⟩
  · refine ⟨rfl, by dsimp only; unfold lim; omega, ?_, by simp⟩
    simp only [allT, List.forall_mem_cons, h1, isSa, beq_self_eq_true, true_and]
    simp
  · rw [eqF_refl] at h1
    cases h1
theorem walk (x y : Said) (k : Int) (d : Bool) (w : World) (_ : x.Ok) (_ : y.Ok) (_ : -9223372036854775808 ≤ k) (_ : k ≤ 9223372036854775807) (hL : laidMetH Tryd.prog Rows.modelsChooseRow.laid w) :
    Calls Tryd.prog 3 #[.agg (x.cells ++ y.cells).toArray, .int .i64 k, .bool d] w fun e w' => e = .returned (.bool true) ∧ Below w.heap.size w w' := by
  obtain ⟨p, ⟨v, b, n, ob, po⟩, hrun, hv, hn, hob, hpo⟩ := run x y k d
  obtain ⟨s', r1, r2, r3, r4⟩ := viewF_out hrun
  refine (calls_f hEL28 r1 ⟨by rw [r3]; exact hob, by rw [r4]; exact hpo⟩ (C := loneC w) (β := fun _ => none) (w := w) (vs := [.agg (x.cells ++ y.cells).toArray, .int .i64 k, .bool d]) ?_ (rel_nil w) (fun _ _ _ => rfl)).mono ?_
  · simp only [γt, γ1, γs_vs, γc, i64, bo]
  · rintro e w' ⟨β', u, rfl, _, _, hu, hr⟩
    simp only at hv
    subst hv
    cases hu
    exact ⟨rfl, below_lone hr⟩
set_option maxRecDepth 100000 in
theorem lifted (os : Os) (started : os.Started) (H : Type) (enc : TypeId × Value → H) (F : Stop.Interp) :
    ReturnsInHanded {} Tryd.checked os 3 .any ((OpenSpec.ofChange Rows.modelsChooseSpec).preRow enc Tryd.prog Tryd.f3 Rows.modelsChooseRow.domain false Rows.modelsChooseRow.laid) (((OpenSpec.ofChange Rows.modelsChooseSpec).at F).post enc Tryd.prog Tryd.f3 false true false false) := by
  refine card_lifted (C := Tryd.checked) (by kernel_rfl) started (by kernel_rfl) Tryd.func3 (by kernel_rfl) (by kernel_rfl) rfl Tryd.underlying4 rfl (fun ds h => by match ds, h with | [_, _, _], _ => rfl)
    (card_witness (enc := enc) (C := Tryd.checked) (World.doorLaid Tryd.prog 1000 os) #[.agg (Said.zero.cells ++ Said.zero.cells).toArray, .int .i64 0, .bool false] rfl (by kernel_rfl) (by kernel_rfl) (by kernel_rfl) (by kernel_rfl) (by kernel_rfl) (laidMetH_of_parts3 (fuel := 8) (laidMet_of_run' 8 (by kernel_rfl) (by kernel_rfl)) (by kernel_rfl) (by kernel_rfl))) ?_
  intro W base args ds p hval hA hL
  change DataW.TrodAll enc Tryd.prog W 0 (fun _ => true) true Tryd.f3.params.toList args.toList ds p at hA
  rw [Tryd.params3] at hA hval
  obtain ⟨v0, vs0, d0, ds0, p0, q0, hargs, rfl, rfl, h0, r0⟩ := trodAll_cons hA
  obtain ⟨v1, vs1, d1, ds1, p1, q1, rfl, rfl, rfl, h1, r1⟩ := trodAll_cons r0
  obtain ⟨v2, vs2, d2, ds2, p2, q2, rfl, rfl, rfl, h2, r2⟩ := trodAll_cons r1
  obtain ⟨rfl, rfl, rfl⟩ := trodAll_nil r2
  obtain rfl : args = #[v0, v1, v2] := by cases args; simp_all
  obtain ⟨cs0, fl0, rfl⟩ := open_raw (m := 9) (ks := (Said.ks ++ (Said.ks ++ []))) (by kernel_rfl) (by kernel_rfl) (hval 0 28 v0 rfl rfl) h0
  obtain ⟨_, _, rfl, g0_0, fl0_0⟩ := fl0.unapp
  obtain ⟨x0_0, ox0_0, rfl⟩ := Said.of_flat g0_0
  obtain ⟨_, _, rfl, g0_1, fl0_1⟩ := fl0_0.unapp
  obtain ⟨x0_1, ox0_1, rfl⟩ := Said.of_flat g0_1
  obtain rfl := fl0_1.unnil
  try simp only [List.append_nil] at *
  obtain ⟨a1, rfl, rfl, rfl, w1⟩ := open_int Tryd.underlying3 (hval 1 3 v1 rfl rfl) h1
  have b1 := bounds_i64 w1
  obtain ⟨a2, rfl, rfl, rfl⟩ := open_bool Tryd.underlying4 (hval 2 4 v2 rfl rfl) h2
  exact walk x0_0 x0_1 a1 a2 W ox0_0 ox0_1 b1.1 b1.2 hL

theorem said : Rows.ModelsChooseSaid :=
  OpenClaim.holds_of_cond 3 Tryd.f3 rfl rfl rfl rfl rfl rfl rfl ⟨rfl, rfl, rfl, rfl, rfl⟩ rfl rfl rfl rfl rfl (by kernel_rfl) Tryd.func3 (by kernel_rfl)
    (of_decide_eq_true (by kernel_rfl)) (by unfold Func.isWrapper; first | (rw [if_pos (by decide +kernel)]; kernel_rfl) | (rw [if_neg (by decide +kernel)]; exact ⟨rfl, rfl⟩))
    (fun os started H enc _ F => by rw [OpenClaim.pre_eq_preRow]; exact lifted os started H enc F)
theorem plain (f : FuncId) (fn : Func) (hf : Tryd.pinned.checked.prog.funcNamed Rows.modelsChooseRow.func = some f) (hfn : Tryd.pinned.checked.prog.funcs[f]? = some fn) :
    false = Tryd.pinned.checked.prog.looks [] ∧ ∀ (j : Nat) t, fn.params[j]? = some t → Tryd.pinned.checked.prog.wantsStandIn t = false := by
  obtain rfl : f = 3 := Option.some.inj ((show Tryd.prog.funcNamed Rows.modelsChooseRow.func = some 3 by kernel_rfl).symm.trans hf) |>.symm
  obtain rfl : fn = Tryd.f3 := (Option.some.inj (Tryd.func3.symm.trans hfn)).symm
  refine ⟨by kernel_rfl, fun j t ht => ?_⟩
  have hm : t ∈ Tryd.f3.params.toList := by rw [← Array.getElem?_toList] at ht; exact List.mem_of_getElem? ht
  have hall : (Tryd.f3.params.toList.all fun u => !Tryd.prog.wantsStandIn u) = true := by kernel_rfl
  exact (show Tryd.prog.wantsStandIn t = false by simpa using List.all_eq_true.1 hall t hm)
theorem proved : Rows.ModelsChooseCardSaid :=
  Claim7.holds_tied_plain_at .later [] _ _ _ _ said (fun _ h => by cases h) (by kernel_rfl) (fun _ h => by cases h) modelsChoose_row_tie rfl ⟨rfl, rfl⟩ (by kernel_rfl) rfl plain (by kernel_rfl)
#print axioms proved
end Go.Proofs.YtphjkkfkegdgoaaDoor.modelsChoose
