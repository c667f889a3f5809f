/- Parts, one behind the other. Package variables as they lie, for the evaluator. No Go text is in sight. -/
import Derived.Test.YtpgaplcdbbnblaaGreatDoorJCrewsVoid15
import Derived.Lib.LaidTab
import Derived.MakeChecks
import Derived.Test.YtpgaplcdbbnblaaGreatDoorJCrewsVoid3
set_option linter.unusedSimpArgs false
set_option linter.unusedVariables false
/- Package variables as they lie, for the evaluator. No Go text is in sight. -/
section
namespace Go.Proofs.YtpgaplcdbbnblaaGreatDoor
open Go.RowKit

def gβ : Nm := fun id => if lim ≤ id then some ⟨id - lim, 0, 0, 0, false⟩ else none
/-- memory of variables alone: each with a list of plain cells -/
def GlobAt (w : World) (p : Nat × ABlk) : Prop :=
  ∃ g l, p.1 = gid g ∧ p.2.own = false ∧ p.2.row = false ∧ p.2.sz = 0 ∧ p.2.cs = .lit l ∧ 0 < l.length ∧ ∀ j, j < l.length → ∃ u, l.getD j nov = .v u ∧ u.oneCell' = true ∧ w.cell? ⟨g, j, none⟩ = some u
theorem gβ_gid (g : Nat) : gβ (gid g) = some ⟨g, 0, 0, 0, false⟩ := by
  unfold gβ
  rw [if_pos (by unfold gid lim; omega)]
  have : gid g - lim = g := by unfold gid lim; omega
  rw [this]
theorem gβ_lo {id : Nat} (h : id < lim) : gβ id = none := by unfold gβ; rw [if_neg (by omega)]
theorem rel_in {w : World} {m : AMem} (h : ∀ p ∈ m, GlobAt w p) : Rel (loneC w) gβ m w := by
  refine ⟨rfl, rfl, rfl, Nat.le_refl _, Nat.le_refl _, fun _ _ _ => rfl, fun id x hx => ?_, fun id id' x x' L L' hx _ _ ho => ?_, fun k L hL => ?_, fun id x o hx ho => ?_⟩
  · obtain ⟨g, l, h1, h2, h3, h4, h5, h6, h7⟩ := h _ (look_mem hx)
    simp only at h1 h2 h3 h4 h5
    subst h1
    refine ⟨⟨g, 0, 0, 0, false⟩, gβ_gid g, ?_⟩
    refine ⟨h4.symm, fun _ _ => h4, fun k j hi => ?_, fun _ => ?_, fun ho => (by rw [h2] at ho; cases ho), fun n f hc => (by rw [h5] at hc; cases hc), fun ho => (by rw [h3] at ho; cases ho)⟩
    · unfold ABlk.inb at hi
      rw [h5] at hi
      simp only [decide_eq_true_eq, h4] at hi
      obtain ⟨u, e1, e2, e3⟩ := h7 j (by omega)
      refine ⟨rfl, u, ?_, e2, by simpa using e3⟩
      rw [h5]
      simp only [Cs.get, e1, γc]
    · obtain ⟨u, _, _, e3⟩ := h7 0 h6
      rcases Nat.lt_or_ge g w.heap.size with hlt | hge
      · exact hlt
      · unfold World.cell? at e3
        simp [show w.heap[g]? = none by simp [hge]] at e3
  · obtain ⟨g, l, _, h2, _⟩ := h _ (look_mem hx)
    simp only at h2
    rw [h2] at ho; cases ho
  · rw [gβ_gid] at hL; cases hL; exact ⟨rfl, rfl, rfl, rfl⟩
  · obtain ⟨g, l, _, _, _, _, h5, _⟩ := h _ (look_mem hx)
    simp only at h5
    rw [h5] at ho; cases ho
/-- a table of integers -/
def tabBlk (ty : Nat) (k : IntKind) (zs : List Int) : ABlk := ⟨false, false, ty, 0, .lit (zs.map fun z => .v (.int k z))⟩
theorem globAt_tab {P : Program} {w : World} {name : String} {k : IntKind} {zs : List Int} {g ty : Nat} (h : Lib.TabIs P w name k zs) (hg : P.globalNamed name = some g) (hp : 0 < zs.length) : GlobAt w (gid g, tabBlk ty k zs) := by
  refine ⟨g, _, rfl, rfl, rfl, rfl, rfl, by simpa using hp, fun j hj => ?_⟩
  have hj : j < zs.length := by simpa using hj
  refine ⟨.int k (zs.getD j 0), ?_, rfl, h.cell hg j hj⟩
  simp [List.getD, List.getElem?_map, List.getElem?_eq_getElem hj]
theorem laidMet_tail {P : Program} {w : World} {x : String × DataW Unit} {l : List (String × DataW Unit)} (h : laidMet P (x :: l) w) : laidMet P l w := by
  obtain ⟨n, d⟩ := x
  obtain ⟨ps, ⟨g, t, cs, fuel, p, q, h1, h2, h3, h4, h5, rfl⟩, hn, hb⟩ := h
  exact ⟨q, h5, (List.nodup_append.1 hn).2.1, fun b off hm => hb b off (List.mem_append_right _ hm)⟩
end Go.Proofs.YtpgaplcdbbnblaaGreatDoor
end
