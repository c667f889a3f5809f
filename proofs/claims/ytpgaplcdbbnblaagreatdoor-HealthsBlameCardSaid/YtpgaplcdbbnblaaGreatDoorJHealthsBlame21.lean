/- The examples of layer 23 as the evaluator runs them. -/
import Derived.Test.YtpgaplcdbbnblaaGreatDoorJHealthsBlame17
import Derived.Test.YtpgaplcdbbnblaaGreatDoorJHealthsBlame15
import Derived.Test.YtpgaplcdbbnblaaGreatDoorJHealthsBlame20
set_option linter.unusedSimpArgs false
set_option linter.unusedVariables false
section
namespace Go.Proofs.YtpgaplcdbbnblaaGreatDoor
open Go.RowKit
def cts23 : List (FuncId × CtF) := [(15, ctNew0 cfgErr), (95, ctFit), (97, ctHl), (35, ctNet1 pairN), (140, ctClnSt)]
def EN23 (P : Program) : Env := ⟨P, cts23⟩
theorem hEN23 : EnvOk (EN23 Tryz.prog) := by
 refine envOk (fun f g h => ?_) (by kernel_rfl) (by kernel_rfl)
 simp only [EN23, cts23, List.mem_cons, Prod.mk.injEq, List.not_mem_nil, or_false] at h
 rcases h with ⟨rfl, rfl⟩ | ⟨rfl, rfl⟩ | ⟨rfl, rfl⟩ | ⟨rfl, rfl⟩ | ⟨rfl, rfl⟩
 · exact ct_new0
 · exact ct_fit
 · exact ct_hl
 · exact ct_pair
 · exact ct_clnSt
def lv23 (P : Program) : Option VF := viewF [] (fCallF (EN23 P) (fC (EN23 P) 300) 36 [] 10 10000000000000000000000000000000000000000 (stC mS))
theorem lv23_run  : lv23 Tryz.prog =
 some (.c (.v (.bool true)), [], 280000000000000000000000000000000000000285, [], []) := by kernel_rfl
end Go.Proofs.YtpgaplcdbbnblaaGreatDoor
end
