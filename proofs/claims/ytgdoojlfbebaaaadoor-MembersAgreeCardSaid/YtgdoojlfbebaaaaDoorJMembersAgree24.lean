/- Parts, one behind the other. sennitref22.Base as the evaluator runs it. -/
import Derived.Test.YtgdoojlfbebaaaaDoorJMembersAgree14
import Derived.Test.YtgdoojlfbebaaaaDoorJMembersAgree23
import Derived.Test.YtgdoojlfbebaaaaDoorJMembersAgree18
import Derived.Test.YtgdoojlfbebaaaaDoorJMembersAgree9
set_option linter.unusedSimpArgs false
set_option linter.unusedVariables false
/- sennitref22.Base: the sums of its loops. -/
section
namespace Go.Proofs.YtgdoojlfbebaaaaDoor
open Go.RowKit
theorem bq_w {k : Nat} (h : k ≤ 1000000) : IntKind.wrap IntKind.i64 (Int.ofNat k + Int.ofNat 1) = Int.ofNat (k + 1) := by rw [wrap_nat _ (by simp; omega) (by simp; omega)]; rfl
theorem bq_e (k : Nat) : 0 + Int.toNat (Int.ofNat k) = k := by simp
end Go.Proofs.YtgdoojlfbebaaaaDoor
end
/- sennitref22.Base: its contract. -/
section
namespace Go.Proofs.YtgdoojlfbebaaaaDoor
open Go.RowKit
theorem hq_view {l : List AC} (h : flatB Held.ks l = true) : ∃ v : Vw, v.Ok ∧ vwA l = vwL v ∧ vwL (hqA l).u = vwA l := by
 obtain ⟨x, hx, e1, e2⟩ := hq_flat h
 refine ⟨vwI x.cell.view, vwI_ok hx.2.2.2, by rw [e1]; rfl, ?_⟩
 have : vwA (hqL (hqA l)) = vwL (hqA l).u := rfl
 rw [← this, e2]
end Go.Proofs.YtgdoojlfbebaaaaDoor
end
