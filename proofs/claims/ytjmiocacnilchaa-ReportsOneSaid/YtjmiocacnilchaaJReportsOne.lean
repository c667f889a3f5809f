/- ReportsOne: for any numbers and entry the law returns true (its '..Said'). No further condition. -/
import Derived.Test.YtjmiocacnilchaaRows
import Derived.Test.YtjmiocacnilchaaJReportsOne15
import Derived.Test.YtjmiocacnilchaaJReportsOne2
set_option linter.unusedSimpArgs false
set_option linter.unusedVariables false
section
namespace Go.Proofs.Ytjmiocacnilchaa.reportsOne
open Go.RowKit Go.WideShapes Go.ChangeShapes Go.ChangeAt

theorem below_lone {w w' : World} {β : Nm} {m : AMem} (h : Rel (loneC w) β m w') : Below w.heap.size w w' := ⟨h.os, h.tape, h.output, h.size, fun b hb => h.out b hb fun h => h⟩
theorem lives20 (w : World) : Calls Try.prog 20 #[] w fun e w' => e = .returned (.bool true) ∧ Below w.heap.size w w' := by
  obtain ⟨s', r1, r2, r3, r4⟩ := viewF_out lv20_run
  refine (calls_f hEL20 r1 ⟨by rw [r3]; simp [allT], by rw [r4]; simp⟩ (C := loneC w) (β := fun _ => none) (w := w) (vs := []) rfl (rel_nil w) (fun _ _ _ => rfl)).mono ?_
  rintro e w' ⟨β', v, rfl, _, _, hv, hr⟩
  cases hv
  exact ⟨rfl, below_lone hr⟩
theorem hERo : EnvOk (ERo Try.prog) := by
  refine envOk (fun f g h => ?_) (by kernel_rfl) (by kernel_rfl)
  simp only [ERo, List.mem_cons, Prod.mk.injEq, List.not_mem_nil, or_false] at h
  rcases h with ⟨rfl, rfl⟩ | ⟨rfl, rfl⟩
  · exact ct_reports_Deliver
  · exact ctT_of ⟨_, _, Try.func20, rfl⟩ lives20

theorem walk (z0 z1 : Int) (x : Held) (x0 x1 : Int) (w : World) (a1 : 0 ≤ z0) (a2 : z0 ≤ 255) (a3 : 0 ≤ z1) (a4 : z1 ≤ 255) (hx : x.Ok) (a5 : 0 ≤ x0) (a6 : x0 ≤ 4294967295) (a7 : 0 ≤ x1) (a8 : x1 ≤ 4294967295) :
    Calls Try.prog 7 #[.agg #[.int .u8 z0, .int .u8 z1], .agg x.cells.toArray, .agg #[.int .u32 x0, .int .u32 x1]] w fun e w' => e = .returned (.bool true) ∧ Below w.heap.size w w' := by
  obtain ⟨p, lp, r, hrun, hv1, hn, hob, hpo⟩ := ro_run x z0 z1 x0 x1 hx a1 a2 a3 a4 a5 a6 a7 a8
  obtain ⟨s', r1, r2, r3, r4⟩ := viewF_out hrun
  have hcalls := calls_f hERo r1 ⟨by rw [r3]; exact hob, by rw [r4]; exact hpo⟩ (C := loneC w) (β := fun _ => none) (w := w) (vs := [.agg #[.int .u8 z0, .int .u8 z1], .agg x.cells.toArray, .agg #[.int .u32 x0, .int .u32 x1]]) (by rw [Held.cellsE_eq]; simp [γt, γ, γs_vs, γs, γ1, γc]) (rel_nil w) (fun _ _ _ => rfl)
  refine hcalls.mono ?_
  rintro e w' ⟨β', v, rfl, _, _, hv, hr⟩
  refine ⟨?_, below_lone hr⟩
  rw [hv1] at hv
  cases hv
  rfl

set_option maxRecDepth 100000 in
theorem lifted (os : Os) (started : os.Started) (H : Type) (enc : TypeId × Value → H) :
    ReturnsInHanded {} Try.checked os 7 .any (Rows.reportsOneSpec.pre6 enc Try.prog Try.f7 [] false) (Rows.reportsOneSpec.post enc Try.prog Try.f7 false true false false) := by
  refine law_lifted (C := Try.checked) (by kernel_rfl) started (by kernel_rfl) Try.func7 (by kernel_rfl) (by kernel_rfl) rfl Try.underlying4 rfl
    (fun ds h => by match ds, h with | [_, _, _], _ => rfl)
    (ChangeSpec.witness6 (enc := enc) (C := Try.checked) false ⟨#[], #[.agg #[.int .u8 0, .int .u8 0], .agg Held.zero.cells.toArray, .agg #[.int .u32 0, .int .u32 0]], []⟩ 8 (by kernel_rfl) (by kernel_rfl) (by kernel_rfl) (by kernel_rfl)) ?_
  intro W base args ds p hval hA _
  change DataW.TrodAll enc Try.prog W 0 (fun _ => true) true Try.f7.params.toList args.toList ds p at hA
  rw [Try.params7] at hA hval
  obtain ⟨v0, vs0, d0, ds0, p0, q0, hargs, rfl, rfl, h0, r0⟩ := trodAll_cons hA
  obtain ⟨v1, vs1, d1, ds1, p1, q1, rfl, rfl, rfl, h1, r1⟩ := trodAll_cons r0
  obtain ⟨v2, vs2, d2, ds2, p2, q2, rfl, rfl, rfl, h2, r2⟩ := trodAll_cons r1
  obtain ⟨rfl, rfl, rfl⟩ := trodAll_nil r2
  obtain rfl : args = #[v0, v1, v2] := by cases args; simp_all
  obtain ⟨cs0, fl0, rfl⟩ := open_raw (m := 9) (ks := [some .u8, some .u8]) (by kernel_rfl) (by kernel_rfl) (hval 0 59 v0 rfl rfl) h0
  obtain ⟨_, _, rfl, ⟨e0_0, rfl, w0_0⟩, fl0_0⟩ := fl0.uncons
  have b0_0 := bounds_u8 w0_0
  obtain ⟨_, _, rfl, ⟨e0_1, rfl, w0_1⟩, fl0_1⟩ := fl0_0.uncons
  have b0_1 := bounds_u8 w0_1
  obtain rfl := fl0_1.unnil
  obtain ⟨cs1, fl1, rfl⟩ := open_raw (m := 9) (ks := Held.ks) (by kernel_rfl) (by kernel_rfl) (hval 1 53 v1 rfl rfl) h1
  obtain ⟨x1, ox1, rfl⟩ := Held.of_flat fl1
  obtain ⟨cs2, fl2, rfl⟩ := open_raw (m := 9) (ks := [some .u32, some .u32]) (by kernel_rfl) (by kernel_rfl) (hval 2 60 v2 rfl rfl) h2
  obtain ⟨_, _, rfl, ⟨e2_0, rfl, w2_0⟩, fl2_0⟩ := fl2.uncons
  have b2_0 := bounds_u32 w2_0
  obtain ⟨_, _, rfl, ⟨e2_1, rfl, w2_1⟩, fl2_1⟩ := fl2_0.uncons
  have b2_1 := bounds_u32 w2_1
  obtain rfl := fl2_1.unnil
  exact walk e0_0 e0_1 x1 e2_0 e2_1 W b0_0.1 b0_0.2 b0_1.1 b0_1.2 ox1 b2_0.1 b2_0.2 b2_1.1 b2_1.2

theorem proved : Rows.ReportsOneSaid :=
  OpenClaim.holds_of_wide 7 Try.f7 rfl rfl rfl rfl rfl rfl rfl ⟨rfl, rfl, rfl, rfl, rfl⟩ rfl rfl rfl rfl rfl (by kernel_rfl) Try.func7 (by kernel_rfl)
    (of_decide_eq_true (by kernel_rfl)) (by unfold Func.isWrapper; first | (rw [if_pos (by decide +kernel)]; kernel_rfl) | (rw [if_neg (by decide +kernel)]; exact ⟨rfl, rfl⟩))
    (fun os started H enc _ => lifted os started H enc)
#print axioms proved
end Go.Proofs.Ytjmiocacnilchaa.reportsOne
end
