/- Empty lists that are handed out. No Go text is in sight. -/
import Derived.Test.YthekiiagacnhkaaDoorJB0x9
set_option linter.unusedSimpArgs false
set_option linter.unusedVariables false
section
namespace Go.Proofs.YthekiiagacnhkaaDoor
open Go.RowKit

theorem look_last {m : AMem} {id i : Nat} {y z : ABlk} (h : look (m ++ [(id, y)]) i = some z) : look m i = some z ∨ (look m i = none ∧ i = id ∧ z = y) := by
  rw [look_append] at h
  cases e : look m i with
  | some z' => rw [e] at h; exact .inl h
  | none =>
    rw [e] at h
    simp only [look_cons] at h
    cases hb : Nat.beq id i with
    | true => rw [hb] at h; cases h; exact .inr ⟨rfl, (Nat.eq_of_beq_eq_true hb).symm, rfl⟩
    | false => rw [hb] at h; cases h
/-- a list without elements, of nowhere -/
theorem rel_add_nil {C : Ctx} {β : Nm} {m : AMem} {w : World} (h : Rel C β m w) {id : Nat} (hid : β id = none) (hg : ∀ g, id ≠ gid g) {y : ABlk} {f : Nat → List AC} (hy : y.cs = .arr 0 f) : Rel C (ext1 β id ⟨0, 0, y.sz, 0, true⟩) (m ++ [(id, y)]) w := by
  have he : Ext β (ext1 β id ⟨0, 0, y.sz, 0, true⟩) := ext1_ext hid
  have hne : ∀ i x, look m i = some x → i ≠ id := by
    intro i x e e2
    subst e2
    obtain ⟨L, hL, _⟩ := h.blk i x e
    rw [hid] at hL; cases hL
  have hold : ∀ i M, i ≠ id → ext1 β id ⟨0, 0, y.sz, 0, true⟩ i = some M → β i = some M := fun i M hi e => by simpa [ext1, hi] using e
  refine ⟨h.os, h.tape, h.output, h.size, h.base, h.out, fun i z e => ?_, fun i i' z z' M M' e e' hn ho hM hM' n1 n2 => ?_, fun g M e => ?_, fun i z o e ho => ?_⟩
  · rcases look_last e with e | ⟨_, rfl, rfl⟩
    · obtain ⟨M, hM, hk⟩ := h.blk i z e
      exact ⟨M, he i M hM, hk.keep he (Nat.le_refl _) (fun _ => rfl)⟩
    · refine ⟨_, ext1_same, rfl, fun l hl => (by rw [hy] at hl; cases hl), fun k j hi => (by simp [ABlk.inb, hy] at hi), fun h => (by cases h), fun _ h => (by cases h), fun n g hc i hi => (by rw [hy] at hc; cases hc; omega), fun _ h => (by cases h)⟩
  · rcases look_last e with e | ⟨_, rfl, rfl⟩
    · rcases look_last e' with e' | ⟨_, rfl, rfl⟩
      · exact h.sep i i' z z' M M' e e' hn ho (hold _ _ (hne i z e) hM) (hold _ _ (hne i' z' e') hM') n1 n2
      · rw [ext1_same] at hM'; cases hM'; cases n2
    · rw [ext1_same] at hM; cases hM; cases n1
  · exact h.glob g M (hold _ _ (fun e => hg g e.symm) e)
  · rcases look_last e with e | ⟨_, rfl, rfl⟩
    · obtain ⟨M, g1, g2, g3, g4, g5⟩ := h.objs i z o e ho
      refine ⟨M, he i M g1, g2, g3, g4.keep he rfl, fun i' z' K q1 q2 q3 q4 => ?_⟩
      rcases look_last q2 with q2 | ⟨_, rfl, rfl⟩
      · exact g5 i' z' K q1 q2 (hold _ _ (hne i' z' q2) q3) q4
      · rw [ext1_same] at q3; cases q3; cases q4
    · rw [hy] at ho; cases ho
/-- of a list without elements the elements may be told in any way -/
theorem rel_swap0 {C : Ctx} {β : Nm} {m : AMem} {w : World} {id : Nat} {x y : ABlk} (h : Rel C β (m ++ [(id, x)]) w) (hid : look m id = none) {f g : Nat → List AC} (hx : x.cs = .arr 0 f) (hy : y = { x with cs := .arr 0 g }) : Rel C β (m ++ [(id, y)]) w := by
  subst hy
  have lx : look (m ++ [(id, x)]) id = some x := by rw [look_append, hid]; exact look_eq _ _ _
  have conv : ∀ i z, look (m ++ [(id, ({ x with cs := .arr 0 g } : ABlk))]) i = some z → ∃ z', look (m ++ [(id, x)]) i = some z' ∧ z'.own = z.own ∧ (z' = z ∨ (i = id ∧ z' = x ∧ z = { x with cs := .arr 0 g })) := by
    intro i z e
    rcases look_last e with e | ⟨_, rfl, rfl⟩
    · exact ⟨z, by rw [look_append, e], rfl, .inl rfl⟩
    · exact ⟨x, lx, rfl, .inr ⟨rfl, rfl, rfl⟩⟩
  refine ⟨h.os, h.tape, h.output, h.size, h.base, h.out, fun i z e => ?_, fun i i' z z' M M' e e' hn ho hM hM' n1 n2 => ?_, h.glob, fun i z o e ho => ?_⟩
  · obtain ⟨z', h1, _, h3 | ⟨rfl, rfl, rfl⟩⟩ := conv i z e
    · subst h3; exact h.blk i z' h1
    · obtain ⟨L, hL, hk⟩ := h.blk i z' h1
      refine ⟨L, hL, hk.sz, fun l hl => (by cases hl), fun k j hi => (by simp [ABlk.inb] at hi), hk.lt, fun ho hn => ?_, fun n q hc i hi => (by cases hc; omega), fun _ _ n q hc => (by cases hc; exact Nat.zero_le _)⟩
      obtain ⟨a1, a2, cs, a3, a4⟩ := hk.own ho hn
      refine ⟨a1, a2, cs, a3, fun hr => ?_⟩
      obtain ⟨b1, b2, n, q, b3, b4⟩ := a4 hr
      exact ⟨b1, b2, 0, g, rfl, Nat.zero_le _, b4.2⟩
  · obtain ⟨u, h1, h2, _⟩ := conv i z e
    obtain ⟨u', h1', _, _⟩ := conv i' z' e'
    exact h.sep i i' u u' M M' h1 h1' hn (by rw [h2]; exact ho) hM hM' n1 n2
  · obtain ⟨z', h1, _, h3 | ⟨rfl, rfl, rfl⟩⟩ := conv i z e
    · subst h3
      obtain ⟨M, g1, g2, g3, g4, g5⟩ := h.objs i z' o h1 ho
      refine ⟨M, g1, g2, g3, g4, fun i' u K q1 q2 q3 q4 => ?_⟩
      obtain ⟨u', k1, _, _⟩ := conv i' u q2
      exact g5 i' u' K q1 k1 q3 q4
    · cases ho
end Go.Proofs.YthekiiagacnhkaaDoor
end
