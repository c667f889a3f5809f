/- WindowsVoid as the evaluator runs it. -/
import Derived.Test.YtpfkhlfkcmgdlaaDoorLv10
import Derived.Test.YtpfkhlfkcmgdlaaDoorGlob
set_option linter.unusedSimpArgs false
set_option linter.unusedVariables false
namespace Go.Proofs.YtpfkhlfkcmgdlaaDoor
open Go.RowKit

def EL10 (P : Program) : Env := ⟨P, [(16, ctTG mSR)]⟩
theorem hEL10 : EnvOk (EL10 Tryd.prog) := by
  refine envOk (fun f g h => ?_) (by kernel_rfl) (by kernel_rfl)
  simp only [EL10, List.mem_cons, Prod.mk.injEq, List.not_mem_nil, or_false] at h
  obtain ⟨rfl, rfl⟩ := h
  exact ctTG_of (E := E1 Tryd.prog) (envOk (fun _ _ h => by cases h) (by kernel_rfl) (by kernel_rfl)) ⟨_, _, Tryd.func16, rfl⟩ (by kernel_rfl) (by unfold lim; omega) lv10_run
def wvR (P : Program) (a b c d : Int) (path : List Dec) : Option VF :=
  viewF [] (fCallF (EL10 P) (fC (EL10 P) 300) 3 [ag [.int .i64 a, .int .i64 b, .int .i64 c, .int .i64 d]] 10 10000000000000000000000000000000000000000 (stA mSR path []))
set_option maxRecDepth 1000000
theorem wv_0 (a b c d : Int) : wvR Tryd.prog a b c d ([.a, .a, .a, .a, .a, .a, .a, .a, .a, .a, .a, .a, .a, .a, .a, .a, .a, .a, .a, .a, .a, .a, .a, .a, .a, .a, .a, .a, .a, .a, .a, .a, .a, .a, .a, .a, .a, .a, .a, .a, .a, .a, .a, .a, .a, .a, .a, .a, .a, .a, .a, .a, .a, .a, .a, .a, .a, .a, .a, .a, .a, .a, .a, .a, .a, .a, .a, .a, .a, .a, .a, .a, .a, .a, .a, .a, .a, .a, .a, .a, .a, .a, .a, .a, .a, .a, .a, .a, .a, .a, .a, .a, .a, .a, .a, .a, .a, .a, .a, .a, .a, .a, .a, .a, .a, .a, .a, .a, .a, .a, .a, .a, .a, .a, .a, .a, .a, .a, .a, .a, .a, .a, .a, .a, .a, .a, .a, .a, .a, .a, .a, .a, .a] : List Dec) =
    some (AV.c (AC.v (Value.bool true)), [], 600000000000000000000000000000000000000221, [true, true, true, true, true, true, true, true, true, true, true, true, true, true, true, true, true, true, true, true, true, true, true, true, true, true, true, true, true, true, true, true, true, true, true, true, true, true, true, true, true, true, true, true, true, true, true, true, true, true, true, true, true, true, true, true, true, true, true, true, true, true, true, true, true, true, true, true, true, true, true, true, true, true, true, true, true, true, true, true, true, true, true, true, true, true, true, true, true, true, true, true, true, true, true, true, true, true, true, true, true, true, true, true, true, true, true, true, true, true, true, true, true, true, true, true, true, true, true, true, true, true, true, true, true, true, true, true, true, true, true, true, true, true, true, true, true, true, true, true, true, true, true, true, true, true, true, true, true, true, true, true, true, true, true, true, true, true, true, true, true, true, true, true, true, true, true, true, true, true, true, true, true], []) := by kernel_rfl
theorem wv (a b c d : Int) (Q : VF → Prop) (H : Q (AV.c (AC.v (Value.bool true)), [], 600000000000000000000000000000000000000221, [true, true, true, true, true, true, true, true, true, true, true, true, true, true, true, true, true, true, true, true, true, true, true, true, true, true, true, true, true, true, true, true, true, true, true, true, true, true, true, true, true, true, true, true, true, true, true, true, true, true, true, true, true, true, true, true, true, true, true, true, true, true, true, true, true, true, true, true, true, true, true, true, true, true, true, true, true, true, true, true, true, true, true, true, true, true, true, true, true, true, true, true, true, true, true, true, true, true, true, true, true, true, true, true, true, true, true, true, true, true, true, true, true, true, true, true, true, true, true, true, true, true, true, true, true, true, true, true, true, true, true, true, true, true, true, true, true, true, true, true, true, true, true, true, true, true, true, true, true, true, true, true, true, true, true, true, true, true, true, true, true, true, true, true, true, true, true, true, true, true, true, true, true], [])) :
    ∃ p r, wvR Tryd.prog a b c d p = some r ∧ Q r := by
  exact ⟨_, _, wv_0 a b c d, H⟩
end Go.Proofs.YtpfkhlfkcmgdlaaDoor
