/- Laws of a list that came in: from their runs to their calls. -/
import Derived.Test.YtgfmjbfjodidpaaDoorJB0x15
import Derived.Test.YtgfmjbfjodidpaaDoorJB0x9
set_option linter.unusedSimpArgs false
set_option linter.unusedVariables false
section
namespace Go.Proofs.YtgfmjbfjodidpaaDoor
open Go.RowKit

theorem lst_law {E : Env} (hE : EnvOk E) {f : FuncId} {G : AMem} {w : World} (hG : ∀ p ∈ G, GlobAt w p) {sz n ty : Nat} {F : Nat → List Value} {v : Value} (hl : LstIn w sz n F v) {args : List AV} {vs : List Value} (hargs : ∀ β, γc β (.sl 0 0 0 n none) = some v → γt β args = some vs)
    (run : ∃ p lp q, viewF [] (fCallF E (fC E 300) f args 10 10000000000000000000000000000000000000000 (stA (G ++ [(0, rBlk ty sz n F)]) p lp)) = some q ∧ GoodF (bo true) q) : Calls E.P f vs.toArray w fun e w' => e = .returned (.bool true) ∧ Below w.heap.size w w' := by
  obtain ⟨p, lp, ⟨u, b', n', ob, po⟩, hrun, hv, hn, hob, hpo⟩ := run
  obtain ⟨s', r1, r2, r3, r4⟩ := viewF_out hrun
  have hn : n' ≤ lim := hn
  obtain ⟨L, q1, _, q2⟩ := rel_lst (rel_in hG) (ro_in hG) (id := 0) (gβ_lo (by unfold lim; omega)) (not_gid (by unfold lim; omega)) hl ty
  refine (calls_f hE r1 ⟨by rw [r3]; exact hob, by rw [r4]; exact hpo⟩ (C := loneC w) (β := ext1 gβ 0 L) (w := w) (vs := vs) (hargs _ (q2 _ (by simp [ext1]))) q1 (fun id h1 h2 => ?_)).mono ?_
  · unfold ext1
    rw [if_neg (by omega)]
    exact gβ_lo (by omega)
  · rintro e w' ⟨β', x, rfl, _, _, hu, hr'⟩
    simp only at hv
    subst hv
    cases hu
    exact ⟨rfl, below_lone hr'⟩
end Go.Proofs.YtgfmjbfjodidpaaDoor
end
