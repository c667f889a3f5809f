/- The contracts of package reports, and of its reference. -/
import Derived.Test.YtjmiocacnilchaaTyProg
import Derived.RegionTactic
set_option linter.unusedSimpArgs false
set_option linter.unusedVariables false
namespace Go.Proofs.Ytjmiocacnilchaa
open Go.RowKit

def inAge (a : Int) : Bool := decide (0 ≤ a) && decide (a ≤ 1099511627776)
theorem inAge_iff {a : Int} : inAge a = true ↔ 0 ≤ a ∧ a ≤ 1099511627776 := by simp [inAge]

theorem reports_is (a : Int) (w : World) :
    Calls Try.prog 27 #[.int .i64 a] w fun e w' => e = .returned (.bool (inAge a)) ∧ w = w' := by
  go_enter Try.func27, Try.ntmps27
  go_wp2
  all_goals (go_ret; exact ⟨ret_bool (by simp [inAge]; omega), rfl⟩)

def reportF (sent heard : Said) (at_ : Int) : Said :=
  if inAge at_ then (if sent.is then ⟨true, at_, sent.p⟩ else if heard.is then ⟨true, at_, heard.p⟩ else Said.zero) else Said.zero

theorem reports_Report (sent heard : Said) (a : Int) (w : World) :
    Calls Try.prog 21 #[.agg sent.cells.toArray, .agg heard.cells.toArray, .int .i64 a] w fun e w' => e = .returned (.agg (reportF sent heard a).cells.toArray) ∧ Below w.heap.size w w' := by
  go_enter Try.func21, Try.ntmps21
  go_wp2_with (go_at_call 27; refine (reports_is _ _).mono ?_; rintro e w' ⟨rfl, rfl⟩)
  all_goals
    refine bodyPost_ret (results_c rfl (k := 6) (by kernel_rfl) rfl (by go_simp; rfl)) rfl ⟨ret_cells ?_, by (repeat' (first | exact bel_refl _ _ | assumption | refine bel_drew ?_ | refine bel_drewN _ ?_ | refine bel_alloc _ (by first | omega | (simp [size_setB, size_put] <;> omega)) ?_ | refine bel_setB (by first | omega | (simp [size_setB, size_put] <;> omega)) ?_ | refine bel_setCell (by first | omega | (simp [size_setB, size_put] <;> omega)) ?_ | refine bel_put (by first | omega | (simp [size_setB, size_put] <;> omega)) ?_))⟩
    simp_all [reportF]
end Go.Proofs.Ytjmiocacnilchaa
