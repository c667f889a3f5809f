/- ClocksVoid as the evaluator runs it. -/
import Derived.Test.YtpfkhlfkcmgdlaaDoorLv06
import Derived.Test.YtpfkhlfkcmgdlaaDoorGlob
import Derived.Test.YtpfkhlfkcmgdlaaDoorTyMore
set_option linter.unusedSimpArgs false
set_option linter.unusedVariables false
namespace Go.Proofs.YtpfkhlfkcmgdlaaDoor
open Go.RowKit

def EL06 (P : Program) : Env := ⟨P, [(34, ctTG mS)]⟩
theorem hEL06 : EnvOk (EL06 Tryd.prog) := by
  refine envOk (fun f g h => ?_) (by kernel_rfl) (by kernel_rfl)
  simp only [EL06, List.mem_cons, Prod.mk.injEq, List.not_mem_nil, or_false] at h
  obtain ⟨rfl, rfl⟩ := h
  exact ctTG_of (E := E1 Tryd.prog) (envOk (fun _ _ h => by cases h) (by kernel_rfl) (by kernel_rfl)) ⟨_, _, Tryd.func34, rfl⟩ (by kernel_rfl) (by unfold lim; omega) lv06_run
def kvR (P : Program) (a : Int) (t : CTime) (path : List Dec) : Option VF :=
  viewF [] (fCallF (EL06 P) (fC (EL06 P) 300) 9 [i64 a, .agg (t.cells.map .v)] 10 10000000000000000000000000000000000000000 (stA mS path []))
set_option maxRecDepth 1000000
theorem kv_0 (a : Int) (t : CTime) : kvR Tryd.prog a t ([.a, .a, .a, .a, .a, .a, .a, .a, .a, .a, .a, .a, .a, .a, .a, .a, .a, .a, .a, .a, .a, .a, .a, .a, .a, .a, .a, .a, .a, .a, .a, .a, .a, .a, .a, .a, .a, .a, .a, .a, .a, .a, .a, .a, .a, .a, .a, .a, .a, .a, .a, .a, .a, .a, .a, .a, .a, .a, .a, .a, .a, .a, .a, .a, .a, .a, .a, .a, .a, .a, .a, .a, .a, .a, .a, .a, .a, .a, .a, .a, .a, .a, .a, .a, .a, .a, .a, .a, .a, .a, .a, .a, .a, .a, .a, .a, .a, .a, .a, .a, .a, .a, .a, .a, .a, .a, .a, .a, .a, .a, .a, .a, .a, .a, .a, .a, .a, .a, .a, .a, .a, .a, .a, .a, .a, .a, .a, .a, .a, .a, .a, .a, .a, .a, .a, .a, .a, .a, .a, .a, .a, .a, .a, .a, .a, .a, .a, .a, .a, .a, .a, .a, .a, .a, .a, .a, .a, .a] : List Dec) =
    some (AV.c (AC.v (Value.bool true)), [], 860000000000000000000000000000000000000227, [true, true, true, true, true, true, true, true, true, true, true, true, true, true, true, true, true, true, true, true, true, true, true, true, true, true, true, true, true, true, true, true, true, true, true, true, true, true, true, true, true, true, true, true, true, true, true, true, true, true, true, true, true, true, true, true, true, true, true, true, true, true, true, true, true, true, true, true, true, true, true, true, true, true, true, true, true, true, true, true, true, true, true, true, true, true, true, true, true, true, true, true, true, true, true, true, true, true, true, true, true, true, true, true, true, true, true, true, true, true, true, true, true, true, true, true, true, true, true, true, true, true, true, true, true, true], []) := by kernel_rfl
theorem kv (a : Int) (t : CTime) (Q : VF → Prop) (H : Q (AV.c (AC.v (Value.bool true)), [], 860000000000000000000000000000000000000227, [true, true, true, true, true, true, true, true, true, true, true, true, true, true, true, true, true, true, true, true, true, true, true, true, true, true, true, true, true, true, true, true, true, true, true, true, true, true, true, true, true, true, true, true, true, true, true, true, true, true, true, true, true, true, true, true, true, true, true, true, true, true, true, true, true, true, true, true, true, true, true, true, true, true, true, true, true, true, true, true, true, true, true, true, true, true, true, true, true, true, true, true, true, true, true, true, true, true, true, true, true, true, true, true, true, true, true, true, true, true, true, true, true, true, true, true, true, true, true, true, true, true, true, true, true, true], [])) :
    ∃ p r, kvR Tryd.prog a t p = some r ∧ Q r := by
  exact ⟨_, _, kv_0 a t, H⟩
end Go.Proofs.YtpfkhlfkcmgdlaaDoor
