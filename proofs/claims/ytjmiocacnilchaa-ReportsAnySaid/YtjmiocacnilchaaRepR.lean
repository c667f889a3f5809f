/- The reference of package reports: Report. -/
import Derived.Test.YtjmiocacnilchaaRepA
set_option linter.unusedSimpArgs false
set_option linter.unusedVariables false
namespace Go.Proofs.Ytjmiocacnilchaa
open Go.RowKit

theorem ref20_Report (sent heard : Said) (a : Int) (w : World) :
    Calls Try.prog 22 #[.agg sent.cells.toArray, .agg heard.cells.toArray, .int .i64 a] w fun e w' => e = .returned (.agg (reportF sent heard a).cells.toArray) ∧ Below w.heap.size w w' := by
  by_cases ha : 0 ≤ a ∧ a ≤ 1099511627776
  · have hA : inAge a = true := inAge_iff.2 ha
    obtain ⟨h0, h1⟩ := ha
    have HA := Lib.hid hA
    clear hA
    cases hs : sent.is
    · cases hh : heard.is
      · go_enter Try.func22, Try.ntmps22
        go_wp2
        all_goals refine bodyPost_ret (results_c rfl (k := 6) (by kernel_rfl) rfl (by first | (go_simp; done) | (go_simp; rfl))) rfl ⟨ret_cells ?_, by (repeat' (first | exact bel_refl _ _ | assumption | refine bel_drew ?_ | refine bel_drewN _ ?_ | refine bel_alloc _ (by first | omega | (simp [size_setB, size_put] <;> omega)) ?_ | refine bel_setB (by first | omega | (simp [size_setB, size_put] <;> omega)) ?_ | refine bel_setCell (by first | omega | (simp [size_setB, size_put] <;> omega)) ?_ | refine bel_put (by first | omega | (simp [size_setB, size_put] <;> omega)) ?_))⟩
        all_goals simp [reportF, HA.out, hs, hh]
      · go_enter Try.func22, Try.ntmps22
        go_wp2
        all_goals refine bodyPost_ret (results_c rfl (k := 6) (by kernel_rfl) rfl (by first | (go_simp; done) | (go_simp; rfl))) rfl ⟨ret_cells ?_, by (repeat' (first | exact bel_refl _ _ | assumption | refine bel_drew ?_ | refine bel_drewN _ ?_ | refine bel_alloc _ (by first | omega | (simp [size_setB, size_put] <;> omega)) ?_ | refine bel_setB (by first | omega | (simp [size_setB, size_put] <;> omega)) ?_ | refine bel_setCell (by first | omega | (simp [size_setB, size_put] <;> omega)) ?_ | refine bel_put (by first | omega | (simp [size_setB, size_put] <;> omega)) ?_))⟩
        all_goals simp [reportF, HA.out, hs, hh]
    · go_enter Try.func22, Try.ntmps22
      go_wp2
      all_goals refine bodyPost_ret (results_c rfl (k := 6) (by kernel_rfl) rfl (by first | (go_simp; done) | (go_simp; rfl))) rfl ⟨ret_cells ?_, by (repeat' (first | exact bel_refl _ _ | assumption | refine bel_drew ?_ | refine bel_drewN _ ?_ | refine bel_alloc _ (by first | omega | (simp [size_setB, size_put] <;> omega)) ?_ | refine bel_setB (by first | omega | (simp [size_setB, size_put] <;> omega)) ?_ | refine bel_setCell (by first | omega | (simp [size_setB, size_put] <;> omega)) ?_ | refine bel_put (by first | omega | (simp [size_setB, size_put] <;> omega)) ?_))⟩
      all_goals simp [reportF, HA.out, hs]
  · have hA : inAge a = false := by rw [Bool.eq_false_iff]; exact fun h => ha (inAge_iff.1 h)
    have HA := Lib.hid hA
    clear hA
    have h : a < 0 ∨ 1099511627776 < a := by omega
    clear ha
    rcases h with h | h
    · go_enter Try.func22, Try.ntmps22
      go_wp2
      all_goals refine bodyPost_ret (results_c rfl (k := 6) (by kernel_rfl) rfl (by first | (go_simp; done) | (go_simp; rfl))) rfl ⟨ret_cells ?_, by (repeat' (first | exact bel_refl _ _ | assumption | refine bel_drew ?_ | refine bel_drewN _ ?_ | refine bel_alloc _ (by first | omega | (simp [size_setB, size_put] <;> omega)) ?_ | refine bel_setB (by first | omega | (simp [size_setB, size_put] <;> omega)) ?_ | refine bel_setCell (by first | omega | (simp [size_setB, size_put] <;> omega)) ?_ | refine bel_put (by first | omega | (simp [size_setB, size_put] <;> omega)) ?_))⟩
      all_goals simp [reportF, HA.out]
    · go_enter Try.func22, Try.ntmps22
      go_wp2
      all_goals refine bodyPost_ret (results_c rfl (k := 6) (by kernel_rfl) rfl (by first | (go_simp; done) | (go_simp; rfl))) rfl ⟨ret_cells ?_, by (repeat' (first | exact bel_refl _ _ | assumption | refine bel_drew ?_ | refine bel_drewN _ ?_ | refine bel_alloc _ (by first | omega | (simp [size_setB, size_put] <;> omega)) ?_ | refine bel_setB (by first | omega | (simp [size_setB, size_put] <;> omega)) ?_ | refine bel_setCell (by first | omega | (simp [size_setB, size_put] <;> omega)) ?_ | refine bel_put (by first | omega | (simp [size_setB, size_put] <;> omega)) ?_))⟩
      all_goals simp [reportF, HA.out]
end Go.Proofs.Ytjmiocacnilchaa
