/- HostsVoid as the evaluator runs it. -/
import Derived.Test.YtpfkhlfkcmgdlaaDoorLv19
import Derived.Test.YtpfkhlfkcmgdlaaDoorGlob
import Derived.Test.YtpfkhlfkcmgdlaaDoorTyMore
set_option linter.unusedSimpArgs false
set_option linter.unusedVariables false
namespace Go.Proofs.YtpfkhlfkcmgdlaaDoor
open Go.RowKit

def EL19 (P : Program) : Env := ⟨P, [(17, ctTG mS)]⟩
theorem hEL19 : EnvOk (EL19 Tryd.prog) := by
  refine envOk (fun f g h => ?_) (by kernel_rfl) (by kernel_rfl)
  simp only [EL19, List.mem_cons, Prod.mk.injEq, List.not_mem_nil, or_false] at h
  obtain ⟨rfl, rfl⟩ := h
  exact ctTG_of (E := E1 Tryd.prog) (envOk (fun _ _ h => by cases h) (by kernel_rfl) (by kernel_rfl)) ⟨_, _, Tryd.func17, rfl⟩ (by kernel_rfl) (by unfold lim; omega) lv19_run
def hvR (P : Program) (x : Act) (path : List Dec) : Option VF :=
  viewF [] (fCallF (EL19 P) (fC (EL19 P) 300) 6 [.agg (x.cells.map .v)] 10 10000000000000000000000000000000000000000 (stA mS path []))
set_option maxRecDepth 1000000
theorem hv_0 (x : Act) : hvR Tryd.prog x ([.a, .a, .a, .a, .a, .a, .a, .a, .a, .a, .a, .a, .a, .a, .a, .a, .a, .a, .a, .a, .a, .a, .a, .a, .a, .a, .a, .a, .a, .a, .a, .a, .a, .a, .a, .a, .a, .a, .a, .a, .a, .a, .a, .a, .a, .a, .a, .a, .a, .a, .a, .a, .a, .a, .a, .a, .a, .a, .a, .a, .a, .a, .a, .a, .a, .a, .a, .a, .a, .a, .a, .a, .a, .a, .a, .a, .a, .a, .a, .a] : List Dec) =
    some (AV.c (AC.v (Value.bool true)), [], 580000000000000000000000000000000000000098, [true, true, true, true, true, true, true, true, true, true, true, true, true, true, true, true, true, true, true, true, true, true, true, true, true, true, true, true, true, true, true, true, true, true, true, true, true, true, true, true, true, true, true, true, true, true, true, true, true, true, true, true, true, true, true, true, true, true, true, true, true, true, true, true, true, true, true, true, true, true, true, true, true, true, true, true, true, true, true, true, true, true, true, true, true, true, true], []) := by kernel_rfl
theorem hv (x : Act) (Q : VF → Prop) (H : Q (AV.c (AC.v (Value.bool true)), [], 580000000000000000000000000000000000000098, [true, true, true, true, true, true, true, true, true, true, true, true, true, true, true, true, true, true, true, true, true, true, true, true, true, true, true, true, true, true, true, true, true, true, true, true, true, true, true, true, true, true, true, true, true, true, true, true, true, true, true, true, true, true, true, true, true, true, true, true, true, true, true, true, true, true, true, true, true, true, true, true, true, true, true, true, true, true, true, true, true, true, true, true, true, true, true], [])) :
    ∃ p r, hvR Tryd.prog x p = some r ∧ Q r := by
  exact ⟨_, _, hv_0 x, H⟩
end Go.Proofs.YtpfkhlfkcmgdlaaDoor
