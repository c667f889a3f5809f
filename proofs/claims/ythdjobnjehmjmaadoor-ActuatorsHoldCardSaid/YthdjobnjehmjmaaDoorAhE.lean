/- The contracts that ActuatorsHold and ActuatorsRun use. -/
import Derived.Test.YthdjobnjehmjmaaDoorAcE
import Derived.Test.YthdjobnjehmjmaaDoorGlob
import Derived.Test.YthdjobnjehmjmaaDoorRndD
import Derived.Test.YthdjobnjehmjmaaDoorIdxD
set_option linter.unusedSimpArgs false
set_option linter.unusedVariables false
namespace Go.Proofs.YthdjobnjehmjmaaDoor
open Go.RowKit

def EAc (P : Program) : Env := ⟨P, [(27, ctTG mS), (64, ctRds), (98, ctIdx)]⟩
theorem hEAc : EnvOk (EAc Tryd.prog) := by
  refine envOk (fun f g h => ?_) (by kernel_rfl) (by kernel_rfl)
  simp only [List.mem_cons, Prod.mk.injEq, List.not_mem_nil, or_false] at h
  rcases h with ⟨rfl, rfl⟩ | ⟨rfl, rfl⟩ | ⟨rfl, rfl⟩
  · exact ctTG_of (E := E1 Tryd.prog) hE1 ⟨_, _, Tryd.func27, rfl⟩ (by kernel_rfl) (by unfold lim; omega) lv26_run
  · exact ct_rounds
  · exact ct_index
abbrev no26 : List (Option LSum) := [none, none, none, none, none, none, none, none, none, none, none, none, none, none, none, none, none, none, none, none, none, none, none, none, none, none]
end Go.Proofs.YthdjobnjehmjmaaDoor
