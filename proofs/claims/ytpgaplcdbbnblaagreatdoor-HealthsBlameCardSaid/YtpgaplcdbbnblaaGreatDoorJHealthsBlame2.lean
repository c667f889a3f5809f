/- Many cells at once: the pieces of a block as lists of cells, read and written without unrolling; blocks that are known whole. No Go text is in sight. -/
import Derived.Test.YtpgaplcdbbnblaaGreatDoorJHealthsBlame1
import Derived.Laws.IdiomCopy
import Derived.Deep.Draws
set_option linter.unusedSimpArgs false
set_option linter.unusedVariables false
section
namespace Go.Proofs.YtpgaplcdbbnblaaGreatDoor
open Go.RowKit
def lay (l : List Value) (o : Nat) (vs : List Value) : List Value := l.take o ++ vs ++ l.drop (o + vs.length)
theorem lay_length {l : List Value} {o : Nat} {vs : List Value} (h : o + vs.length ≤ l.length) : (lay l o vs).length = l.length := by simp [lay]; omega
theorem lay_get {l : List Value} {o : Nat} {vs : List Value} (h : o + vs.length ≤ l.length) (i : Nat) : (lay l o vs)[i]? = if o ≤ i ∧ i < o + vs.length then vs[i - o]? else l[i]? := by
 unfold lay
 by_cases h1 : i < o
 · rw [if_neg (by omega), List.append_assoc, List.getElem?_append_left (by simp; omega), List.getElem?_take, if_pos h1]
 · by_cases h2 : i < o + vs.length
   · rw [if_pos ⟨by omega, h2⟩, List.append_assoc, List.getElem?_append_right (by simp; omega), List.getElem?_append_left (by simp; omega)]
     congr 1
     simp; omega
   · rw [if_neg (by omega), List.getElem?_append_right (by simp; omega), List.getElem?_drop]
     congr 1
     simp; omega
def put (w : World) (b o : Nat) (vs : List Value) : World :=
 { w with heap := w.heap.modify b fun
    | .cells c t fr => .cells (lay c.toList o vs).toArray t fr
    | x => x }
def allOne (vs : List Value) : Bool := vs.all (·.oneCell')
section
variable {w : World} {b o k : Nat}
theorem modify_at (heap : Array Obj) (b : Nat) (f g : Obj → Obj) (h : ∀ x, heap[b]? = some x → f x = g x) : heap.modify b f = heap.modify b g := by
 apply Array.ext_getElem?
 intro i
 rw [Array.getElem?_modify, Array.getElem?_modify]
 split
 · rename_i e
   subst e
   cases hx : heap[b]? with
   | none => rfl
   | some x => simp [h x hx]
 · rfl
theorem setCells_put (b : Nat) (t : TypeId) : ∀ (vs : List Value) (o : Nat) (w : World) (c : Array Value), w.heap[b]? = some (.cells c t (0, 0)) → o + vs.length ≤ c.size → w.setCells b o vs = put w b o vs
 | [], o, w, c, hb, _ => by
  show w = put w b o []
  unfold put
  cases w with
  | mk heap tape drawn os output =>
   congr 1
   rw [modify_at heap b _ id (fun x hx => by rw [hb] at hx; cases hx; simp [lay])]
   apply Array.ext_getElem?
   intro i
   rw [Array.getElem?_modify]
   split
   · rename_i e; subst e; simp
   · rfl
 | v :: r, o, w, c, hb, hl => by
  simp only [List.length_cons] at hl
  rw [World.setCells]
  have hb' : (w.setCell ⟨b, o, none⟩ v).heap[b]? = some (.cells (c.setIfInBounds o v) t (0, 0)) := by
   rw [setCell_eq_setRow w b o c t (0, 0) v hb]; exact setRow_heap w b c _ t _ hb
  rw [setCells_put b t r (o + 1) _ _ hb' (by simp; omega)]
  unfold put World.setCell
  congr 1
  apply Array.ext_getElem?
  intro i
  simp only [Array.getElem?_modify]
  by_cases e : b = i
  · subst e
    simp only [if_true, hb, Option.map_some]
    have : lay (c.setIfInBounds o v).toList (o + 1) r = lay c.toList o (v :: r) := by
     apply List.ext_getElem?
     intro j
     rw [lay_get (by simp; omega), lay_get (by simp; omega)]
     simp only [List.length_cons]
     by_cases h1 : o + 1 ≤ j ∧ j < o + 1 + r.length
     · rw [if_pos h1, if_pos ⟨by omega, by omega⟩]
       rw [show j - o = (j - (o + 1)) + 1 by omega]; rfl
     · rw [if_neg h1]
       by_cases h2 : j = o
       · subst h2
         rw [if_pos ⟨by omega, by omega⟩]
         simp [show j < c.size by omega]
       · rw [if_neg (by omega)]
         simp [List.getElem?_set, show ¬ o = j by omega]
    simp only [Array.toList_setIfInBounds] at this
    simp [this]
  · simp [e]
end
/-! ### the load and the store of an aggregate, as the walk meets them -/
def aggSize (P : Program) (t : TypeId) : Option Nat :=
 match P.underlying t with
 | some (.struct _) | some (.array _ _) => (P.info? t).map (·.size)
 | _ => none
/-! ### results that lie in memory -/
section
variable {P : Program} {fn : Func} {tmps : Array Value} {w : World} {p q u v t t' k k' b o b' o' : Nat} {cs cs' : List Value}
end
/-! ### how pieces are kept -/
section
variable {w : World} {b n o k : Nat}
theorem heap_past (x : Obj) (hn : n < w.heap.size) : (w.alloc x).heap[n]? = w.heap[n]? := by
 show (w.heap.push x)[n]? = _
 rw [Array.getElem?_push, if_neg (by omega)]
theorem size_put (vs : List Value) : (put w n o vs).heap.size = w.heap.size := by simp [put]
end
attribute [go_sem] size_put Option.elim_some Option.elim_none
/-! ### a block that is known whole -/
section
variable {w w' : World} {b b' : Nat} {t t' : TypeId} {c c' : List Value}
end
/-! ### 'Below' by simp: behind what a walk writes -/
section
variable {B : Nat} {a w w1 : World}
end
end Go.Proofs.YtpgaplcdbbnblaaGreatDoor
end
