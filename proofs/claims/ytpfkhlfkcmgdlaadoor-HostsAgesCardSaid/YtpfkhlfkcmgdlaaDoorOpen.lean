/- What came in, opened: slices of flat things, flat structs and arrays. No Go text is in sight. -/
import Derived.Test.YtpfkhlfkcmgdlaaDoorFlat
set_option linter.unusedSimpArgs false
set_option linter.unusedVariables false
namespace Go.Proofs.YtpfkhlfkcmgdlaaDoor
open Go.RowKit Go.WideShapes Go.ChangeShapes

section
variable {H : Type} {enc : TypeId × Value → H} {P : Program} {w : World}
/-- where a slice lies, if it is any -/
def SlAt (w : World) (A : Option Addr) (n c : Nat) : Prop := (A = none ∧ n = 0 ∧ c = 0) ∨ ∃ b o, A = some ⟨b, o, none⟩ ∧ b < w.heap.size
theorem okWide_slAt {t e : TypeId} {r : Reach} {b0 : Nat} {A : Option Addr} {n c : Nat} (ht : P.underlying t = some (.slice e)) (hv : Value.okWide P w r b0 t (.slice A n c)) : SlAt w A n c := by
  simp only [Value.okWide, ht, Cell.okWide, Cell.ok] at hv
  split at hv <;> try contradiction
  · rename_i h1 h2
    cases h2
    exact .inl ⟨rfl, rfl, rfl⟩
  · rename_i a _ _ h1 h2
    cases h2
    obtain ⟨_, _, _, hs, row, cells, hsh, _⟩ := hv
    obtain ⟨b, o, s⟩ := a
    subst hs
    refine .inr ⟨b, o, rfl, ?_⟩
    rcases Nat.lt_or_ge b w.heap.size with h | h
    · exact h
    · unfold World.shape? at hsh
      simp [show w.heap[b]? = none by simp [h]] at hsh
theorem open_slflat {S : Type} {t e : TypeId} {r : Reach} {b0 m C : Nat} {v : Value} {d : DataW H} {p : List MemPlace} {ks : List (Option IntKind)} (ht : P.underlying t = some (.slice e)) (cells : S → List Value) (ok : S → Prop) (hlen : ∀ x, (cells x).length = C)
    (hk : flatOf P m e = some ks) (hC : P.cellsOf e = C) (hof : ∀ cs, Flat ks cs → ∃ x, ok x ∧ cs = cells x) (hpos : 0 < C) (hv : Value.okWide P w r b0 t v) (h : DataW.Trod enc P w 0 (fun _ => true) true t v d p) :
    ∃ (A : Option Addr) (n c : Nat) (l : List S), v = .slice A n c ∧ n ≤ c ∧ c ≤ maxLen ∧ SlAt w A n c ∧ Sl w w.heap.size C A n (l.flatMap cells) ∧ l.length = n ∧ ∀ x ∈ l, ok x := by
  obtain ⟨A, n, c, xs, rfl, h1, h2, h3, h4, _⟩ := open_sl ht hv (by rw [hC]; omega) h
  rw [hC] at h3 h4
  obtain ⟨l, hl, rfl, hok⟩ := chunks cells C hlen ok n xs h3.len (fun i hi => by
    obtain ⟨k, y, hy⟩ := h4 i hi
    obtain ⟨x, hx1, hx2⟩ := hof _ (trod_flat _ _ _ _ _ _ hk hy)
    exact ⟨x, hx1, hx2⟩)
  exact ⟨A, n, c, l, rfl, h1, h2, okWide_slAt ht hv, h3, hl, hok⟩
/-- an array or struct of flat things -/
theorem open_raw {t : TypeId} {r : Reach} {b0 m : Nat} {v : Value} {d : DataW H} {p : List MemPlace} {ks : List (Option IntKind)} (hs : (aggSize P t).isSome = true) (hk : flatOf P m t = some ks) (hv : Value.okWide P w r b0 t v) (h : DataW.Trod enc P w 0 (fun _ => true) true t v d p) :
    ∃ cs : List Value, Flat ks cs ∧ v = .agg cs.toArray := by
  obtain ⟨cs, rfl⟩ : ∃ cs, v = .agg cs := by
    simp only [Value.okWide] at hv
    unfold aggSize at hs
    split at hv
    · obtain ⟨cs, rfl, _⟩ := hv; exact ⟨cs, rfl⟩
    · obtain ⟨cs, rfl, _⟩ := hv; exact ⟨cs, rfl⟩
    · split at hs <;> simp_all
  obtain ⟨fuel, hf⟩ := h
  exact ⟨cs.toList, trod_flat _ _ _ _ _ _ hk hf, by simp⟩
end
end Go.Proofs.YtpfkhlfkcmgdlaaDoor
