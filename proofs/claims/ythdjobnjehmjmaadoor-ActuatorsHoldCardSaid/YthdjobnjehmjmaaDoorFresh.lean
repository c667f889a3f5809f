/- A call that hands out one new list of plain cells: from what it does alone to what it does anywhere. No Go text is in sight. -/
import Derived.Test.YthdjobnjehmjmaaDoorSxUse
set_option linter.unusedSimpArgs false
set_option linter.unusedVariables false
namespace Go.Proofs.YthdjobnjehmjmaaDoor
open Go.RowKit

theorem γc_plain {β β' : Nm} {c : AC} {u : Value} (h : ∃ v, c = .v v) (e : γc β c = some u) : γc β' c = some u := by
  obtain ⟨v, rfl⟩ := h
  exact e
theorem rel_fresh {C : Ctx} {β β1 : Nm} {m m1 : AMem} {w w' : World} (h : Rel C β m w) (hb : Below w.heap.size w w') {id : Nat} (hid : β id = none) (hg : ∀ g, id ≠ gid g) (h1 : Rel (loneC w) β1 m1 w') {i1 : Nat} {x : ABlk} (hx : look m1 i1 = some x) (hown : x.own = true)
    {n : Nat} {f : Nat → List AC} (hcs : x.cs = .arr n f) (hpl : ∀ k j, x.inb k (j + 1) = true → ∃ v, x.cs.get k j = .v v) {L : Loc} (hL1 : β1 i1 = some L) :
    Rel C (ext1 β id L) (m ++ [(id, x)]) w' := by
  have hw' : Rel C β m w' := h.below hb
  obtain ⟨L', e, hbk⟩ := h1.blk i1 x hx
  rw [hL1] at e
  cases e
  have hnewb : L.nil = false → w.heap.size ≤ L.b := fun hn => by
    obtain ⟨_, h2, _⟩ := hbk.own hown hn
    rcases h2 with h2 | h2
    · exact h2
    · exact h2.elim
  have hbase : C.base ≤ w.heap.size := by have := h.size; have := h.base; omega
  have he : Ext β (ext1 β id L) := ext1_ext hid
  have hno : look m id = none := by
    cases e : look m id with
    | none => rfl
    | some x => obtain ⟨L, hL, _⟩ := h.blk id x e; rw [hid] at hL; cases hL
  have hlk : ∀ i y, look (m ++ [(id, x)]) i = some y → (look m i = some y ∧ i ≠ id) ∨ (i = id ∧ y = x) := by
    intro i y e
    rw [look_append] at e
    cases e' : look m i with
    | some z =>
      rw [e'] at e
      cases e
      exact .inl ⟨rfl, fun h' => by subst h'; rw [hno] at e'; cases e'⟩
    | none =>
      rw [e'] at e
      simp only [look_cons] at e
      cases hb : Nat.beq id i with
      | true => rw [hb] at e; cases e; exact .inr ⟨(Nat.eq_of_beq_eq_true hb).symm, rfl⟩
      | false => rw [hb] at e; cases e
  refine ⟨hw'.os, hw'.tape, hw'.output, hw'.size, hw'.base, hw'.out, fun i y e => ?_, ?_, ?_, ?_⟩
  · rcases hlk i y e with ⟨e1, hne⟩ | ⟨rfl, rfl⟩
    · obtain ⟨M, hM, hk⟩ := hw'.blk i y e1
      exact ⟨M, he i M hM, hk.keep he (Nat.le_refl _) (fun _ => rfl)⟩
    · refine ⟨L, ext1_same, hbk.sz, hbk.lit, fun k j hi => ?_, hbk.lt, fun ho hn => ?_, hbk.arrl, hbk.rowc⟩
      · obtain ⟨g1, u, g2, g3, g4⟩ := hbk.cells k j hi
        exact ⟨g1, u, γc_plain (hpl k j hi) g2, g3, g4⟩
      · obtain ⟨g1, _, g3⟩ := hbk.own ho hn
        exact ⟨g1, .inl (by have := hnewb hn; omega), g3⟩
  · intro i i' y y' M M' e e' hne ho hM hM' hn hn'
    rcases hlk i y e with ⟨e1, g1⟩ | ⟨rfl, rfl⟩
    · rcases hlk i' y' e' with ⟨e2, g2⟩ | ⟨rfl, rfl⟩
      · simp only [ext1, g1, g2, if_false] at hM hM'
        exact hw'.sep i i' y y' M M' e1 e2 hne ho hM hM' hn hn'
      · simp only [ext1, g1, if_false, if_true] at hM hM'
        cases hM'
        obtain ⟨K, hK, hk⟩ := h.blk i y e1
        rw [hK] at hM
        cases hM
        have := hk.lt hn
        have := hnewb hn'
        omega
    · rcases hlk i' y' e' with ⟨e2, g2⟩ | ⟨rfl, rfl⟩
      · simp only [ext1, g2, if_false, if_true] at hM hM'
        cases hM
        obtain ⟨K, hK, hk⟩ := h.blk i' y' e2
        rw [hK] at hM'
        cases hM'
        have := hk.lt hn'
        have := hnewb hn
        omega
      · exact absurd rfl hne
  · intro g M e
    have : gid g ≠ id := fun e => hg g e.symm
    simp only [ext1, this, if_false] at e
    exact h.glob g M e
  · intro i y o e ho
    rcases hlk i y e with ⟨e1, hne⟩ | ⟨rfl, rfl⟩
    · obtain ⟨M, g1, g2, g3, g4, g5⟩ := hw'.objs i y o e1 ho
      obtain ⟨M', hM', hk⟩ := h.blk i y e1
      rw [g1] at hM'
      cases hM'
      refine ⟨M, he i M g1, g2, g3, g4.keep he rfl, fun i' y' K q1 q2 q3 q4 => ?_⟩
      rcases hlk i' y' q2 with ⟨e2, hne2⟩ | ⟨rfl, rfl⟩
      · simp only [ext1, hne2, if_false] at q3
        exact g5 i' y' K q1 e2 q3 q4
      · simp only [ext1, if_true] at q3
        cases q3
        have := hk.lt g2
        have := hnewb q4
        omega
    · rw [hcs] at ho; cases ho
theorem not_gid {id : Nat} (h : id < lim) (g : Nat) : id ≠ gid g := by unfold lim at h; unfold gid; omega
end Go.Proofs.YthdjobnjehmjmaaDoor
