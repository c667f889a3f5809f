/- Contracts: both Reports; the examples. -/
import Derived.Test.YtjmiocacnilchaaRepD
set_option linter.unusedSimpArgs false
set_option linter.unusedVariables false
namespace Go.Proofs.Ytjmiocacnilchaa
open Go.RowKit

def isSa : List AC → Bool
  | [.v (.bool _), .v (.int .i64 _), .v (.int .u8 _), .v (.int .u8 _), .v (.int .u32 _), .v (.int .u32 _)] => true
  | _ => false
theorem isSa_cells : ∀ {l : List AC}, isSa l = true → l = (saA l 0).cells.map .v := by
  intro l h
  unfold isSa at h
  split at h
  · rfl
  · cases h
theorem isSa_mk (x : Said) : isSa (x.cells.map .v) = true := rfl
theorem saA_mk (x : Said) : saA (x.cells.map .v) 0 = x := rfl
def ctR : CtF
  | [.agg s, .agg h, .c (.v (.int .i64 a))], _, _ => some (.agg ((reportF (saA s 0) (saA h 0) a).cells.map .v), [], 0, [isSa s, isSa h])
  | _, _, _ => none
theorem ctR_of {P : Program} {f : FuncId} (hf : ∃ (fn : Func) (c : Code), P.funcs[f]? = some fn ∧ fn.body = some c)
    (h : ∀ (s h : Said) (a : Int) (w : World), Calls P f #[.agg s.cells.toArray, .agg h.cells.toArray, .int .i64 a] w fun e w' => e = .returned (.agg (reportF s h a).cells.toArray) ∧ Below w.heap.size w w') : CtOk P f ctR := by
  refine ⟨hf, fun C β m m2 w args ib r news k ob vs hct ho hs hr hfree hlim hv => ?_⟩
  unfold ctR at hct
  split at hct
  · rename_i s hh a
    simp only [Option.some.injEq, Prod.mk.injEq] at hct
    obtain ⟨rfl, rfl, rfl, rfl⟩ := hct
    simp only [allT, List.forall_mem_cons] at ho
    obtain ⟨o1, o2, _⟩ := ho
    obtain ⟨v1, u1, rfl, e1, ha1⟩ := γt_cons hv
    obtain ⟨v2, u2, rfl, e2, ha2⟩ := γt_cons ha1
    obtain ⟨v3, u3, rfl, e3, ha3⟩ := γt_cons ha2
    clear hv ha1 ha2
    rw [isSa_cells o1] at e1
    rw [isSa_cells o2] at e2
    simp only [γ1, γs_vs, Option.some.injEq] at e1 e2
    cases e3
    cases ha3
    subst e1
    subst e2
    refine (h (saA s 0) (saA hh 0) a w).mono ?_
    rintro e w' ⟨rfl, hb⟩
    exact ⟨β, _, rfl, Ext.refl _, fun _ _ => rfl, by simp only [γ, γ1, γs_vs], by rw [List.append_nil]; exact hr.below hb⟩
  · cases hct
/-- a contract: it returns true and writes nothing -/
def ctT : CtF
  | [], _, _ => some (.c (.v (.bool true)), [], 0, [])
  | _, _, _ => none
theorem ctT_of {P : Program} {f : FuncId} (hf : ∃ (fn : Func) (c : Code), P.funcs[f]? = some fn ∧ fn.body = some c)
    (h : ∀ (w : World), Calls P f #[] w fun e w' => e = .returned (.bool true) ∧ Below w.heap.size w w') : CtOk P f ctT := by
  refine ⟨hf, fun C β m m2 w args ib r news k ob vs hct ho hs hr hfree hlim hv => ?_⟩
  unfold ctT at hct
  split at hct
  · simp only [Option.some.injEq, Prod.mk.injEq] at hct
    obtain ⟨rfl, rfl, rfl, rfl⟩ := hct
    cases hv
    refine (h w).mono ?_
    rintro e w' ⟨rfl, hb⟩
    exact ⟨β, _, rfl, Ext.refl _, fun _ _ => rfl, rfl, by rw [List.append_nil]; exact hr.below hb⟩
  · cases hct
def E2 (P : Program) (fD fE fR fS : Nat) : Env := ⟨P, [(fD, ctD), (fE, ctD), (fR, ctR), (fS, ctR)]⟩
theorem hE2 : EnvOk (E2 Try.prog 23 24 21 22) := by
  refine envOk (fun f g h => ?_) (by kernel_rfl) (by kernel_rfl)
  simp only [E2, List.mem_cons, Prod.mk.injEq, List.not_mem_nil, or_false] at h
  rcases h with ⟨rfl, rfl⟩ | ⟨rfl, rfl⟩ | ⟨rfl, rfl⟩ | ⟨rfl, rfl⟩
  · exact ct_reports_Deliver
  · exact ct_ref20_Deliver
  · exact ctR_of ⟨_, _, Try.func21, rfl⟩ reports_Report
  · exact ctR_of ⟨_, _, Try.func22, rfl⟩ ref20_Report
def lvs (P : Program) (fD fE fR fS f : Nat) : Option (AV × List (Option ABlk) × Nat × List Bool × List Prop) :=
  viewF [] (fCallF (E2 P fD fE fR fS) (fC (E2 P fD fE fR fS) 300) f [] 1 1048576 ⟨[], [], 0, 0, true, [], [], []⟩)
theorem lives20_run  : lvs Try.prog 23 24 21 22 20 =
    some (AV.c (AC.v (Value.bool true)), [], 67108882, [], []) := by kernel_rfl
end Go.Proofs.Ytjmiocacnilchaa
