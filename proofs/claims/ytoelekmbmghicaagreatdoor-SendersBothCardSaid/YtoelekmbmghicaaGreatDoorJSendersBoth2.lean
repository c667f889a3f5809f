/- Many cells at once: the pieces of a block as lists of cells, read and written without unrolling; blocks that are known whole. No Go text is in sight. -/
import Derived.Test.YtoelekmbmghicaaGreatDoorJSendersBoth1
import Derived.Laws.IdiomCopy
import Derived.Deep.Draws
set_option linter.unusedSimpArgs false
set_option linter.unusedVariables false
section
namespace Go.Proofs.YtoelekmbmghicaaGreatDoor
open Go.RowKit
def cut (l : List Value) (o k : Nat) : List Value := (l.drop o).take k
def lay (l : List Value) (o : Nat) (vs : List Value) : List Value := l.take o ++ vs ++ l.drop (o + vs.length)
theorem lay_length {l : List Value} {o : Nat} {vs : List Value} (h : o + vs.length ≤ l.length) : (lay l o vs).length = l.length := by simp [lay]; omega
theorem lay_get {l : List Value} {o : Nat} {vs : List Value} (h : o + vs.length ≤ l.length) (i : Nat) : (lay l o vs)[i]? = if o ≤ i ∧ i < o + vs.length then vs[i - o]? else l[i]? := by
 unfold lay
 by_cases h1 : i < o
 · rw [if_neg (by omega), List.append_assoc, List.getElem?_append_left (by simp; omega), List.getElem?_take, if_pos h1]
 · by_cases h2 : i < o + vs.length
   · rw [if_pos ⟨by omega, h2⟩, List.append_assoc, List.getElem?_append_right (by simp; omega), List.getElem?_append_left (by simp; omega)]
     congr 1
     simp; omega
   · rw [if_neg (by omega), List.getElem?_append_right (by simp; omega), List.getElem?_drop]
     congr 1
     simp; omega
def grab (w : World) (b o k : Nat) : Option (List Value) :=
 match w.heap[b]? with
 | some (.cells c _ _) => if o + k ≤ c.size then some (cut c.toList o k) else none
 | _ => none
def putOk (w : World) (b o k : Nat) : Bool :=
 match w.heap[b]? with
 | some (.cells c _ fr) => decide (o + k ≤ c.size) && decide (fr = (0, 0))
 | _ => false
def put (w : World) (b o : Nat) (vs : List Value) : World :=
 { w with heap := w.heap.modify b fun
    | .cells c t fr => .cells (lay c.toList o vs).toArray t fr
    | x => x }
def allOne (vs : List Value) : Bool := vs.all (·.oneCell')
section
variable {w : World} {b o k : Nat}
theorem modify_at (heap : Array Obj) (b : Nat) (f g : Obj → Obj) (h : ∀ x, heap[b]? = some x → f x = g x) : heap.modify b f = heap.modify b g := by
 apply Array.ext_getElem?
 intro i
 rw [Array.getElem?_modify, Array.getElem?_modify]
 split
 · rename_i e
   subst e
   cases hx : heap[b]? with
   | none => rfl
   | some x => simp [h x hx]
 · rfl
theorem setCells_put (b : Nat) (t : TypeId) : ∀ (vs : List Value) (o : Nat) (w : World) (c : Array Value), w.heap[b]? = some (.cells c t (0, 0)) → o + vs.length ≤ c.size → w.setCells b o vs = put w b o vs
 | [], o, w, c, hb, _ => by
  show w = put w b o []
  unfold put
  cases w with
  | mk heap tape drawn os output =>
   congr 1
   rw [modify_at heap b _ id (fun x hx => by rw [hb] at hx; cases hx; simp [lay])]
   apply Array.ext_getElem?
   intro i
   rw [Array.getElem?_modify]
   split
   · rename_i e; subst e; simp
   · rfl
 | v :: r, o, w, c, hb, hl => by
  simp only [List.length_cons] at hl
  rw [World.setCells]
  have hb' : (w.setCell ⟨b, o, none⟩ v).heap[b]? = some (.cells (c.setIfInBounds o v) t (0, 0)) := by
   rw [setCell_eq_setRow w b o c t (0, 0) v hb]; exact setRow_heap w b c _ t _ hb
  rw [setCells_put b t r (o + 1) _ _ hb' (by simp; omega)]
  unfold put World.setCell
  congr 1
  apply Array.ext_getElem?
  intro i
  simp only [Array.getElem?_modify]
  by_cases e : b = i
  · subst e
    simp only [if_true, hb, Option.map_some]
    have : lay (c.setIfInBounds o v).toList (o + 1) r = lay c.toList o (v :: r) := by
     apply List.ext_getElem?
     intro j
     rw [lay_get (by simp; omega), lay_get (by simp; omega)]
     simp only [List.length_cons]
     by_cases h1 : o + 1 ≤ j ∧ j < o + 1 + r.length
     · rw [if_pos h1, if_pos ⟨by omega, by omega⟩]
       rw [show j - o = (j - (o + 1)) + 1 by omega]; rfl
     · rw [if_neg h1]
       by_cases h2 : j = o
       · subst h2
         rw [if_pos ⟨by omega, by omega⟩]
         simp [show j < c.size by omega]
       · rw [if_neg (by omega)]
         simp [List.getElem?_set, show ¬ o = j by omega]
    simp only [Array.toList_setIfInBounds] at this
    simp [this]
  · simp [e]
end
/-! ### the load and the store of an aggregate, as the walk meets them -/
def aggSize (P : Program) (t : TypeId) : Option Nat :=
 match P.underlying t with
 | some (.struct _) | some (.array _ _) => (P.info? t).map (·.size)
 | _ => none
/-! ### results that lie in memory -/
section
variable {P : Program} {fn : Func} {tmps : Array Value} {w : World} {p q u v t t' k k' b o b' o' : Nat} {cs cs' : List Value}
end
/-! ### how pieces are kept -/
section
variable {w : World} {b n o k : Nat}
theorem grab_alloc_at (c : Array Value) (t : TypeId) (hn : n = w.heap.size) : grab (w.alloc (.cells c t)) n o k = if o + k ≤ c.size then some (cut c.toList o k) else none := by
 subst hn
 have hb : (w.alloc (.cells c t)).heap[w.heap.size]? = some (.cells c t) := by show (w.heap.push _)[w.heap.size]? = _; simp
 unfold grab
 rw [hb]
theorem heap_past (x : Obj) (hn : n < w.heap.size) : (w.alloc x).heap[n]? = w.heap[n]? := by
 show (w.heap.push x)[n]? = _
 rw [Array.getElem?_push, if_neg (by omega)]
theorem grab_alloc_past (x : Obj) (hn : n < w.heap.size) : grab (w.alloc x) n o k = grab w n o k := by unfold grab; rw [heap_past x hn]
theorem grab_drew : grab w.drew n o k = grab w n o k := rfl
theorem grab_drewN (m : Nat) : grab (w.drewN m) n o k = grab w n o k := rfl
theorem putOk_alloc_at (c : Array Value) (t : TypeId) (hn : n = w.heap.size) : putOk (w.alloc (.cells c t)) n o k = decide (o + k ≤ c.size) := by
 subst hn
 have hb : (w.alloc (.cells c t)).heap[w.heap.size]? = some (.cells c t) := by show (w.heap.push _)[w.heap.size]? = _; simp
 unfold putOk
 rw [hb]
 simp
theorem putOk_alloc_past (x : Obj) (hn : n < w.heap.size) : putOk (w.alloc x) n o k = putOk w n o k := by unfold putOk; rw [heap_past x hn]
theorem putOk_drew : putOk w.drew n o k = putOk w n o k := rfl
theorem putOk_drewN (m : Nat) : putOk (w.drewN m) n o k = putOk w n o k := rfl
theorem put_alloc_at (c : Array Value) (t : TypeId) (vs : List Value) (hn : n = w.heap.size) : put (w.alloc (.cells c t)) n o vs = w.alloc (.cells (lay c.toList o vs).toArray t) := by
 subst hn
 unfold put World.alloc
 congr 1
 apply Array.ext_getElem?
 intro i
 simp only [Array.getElem?_modify, Array.getElem?_push]
 by_cases h : w.heap.size = i
 · subst h; simp
 · have h' : ¬ i = w.heap.size := fun e => h e.symm
   simp [h, h']
theorem put_alloc_past (x : Obj) (vs : List Value) (hn : n < w.heap.size) : put (w.alloc x) n o vs = (put w n o vs).alloc x := by
 unfold put World.alloc
 congr 1
 apply Array.ext_getElem?
 intro i
 simp only [Array.getElem?_modify, Array.getElem?_push, Array.size_modify]
 by_cases h : i = w.heap.size
 · subst h
   simp [show ¬ n = w.heap.size by omega]
 · simp [h]
theorem put_drew (vs : List Value) : put w.drew n o vs = (put w n o vs).drew := rfl
theorem put_drewN (m : Nat) (vs : List Value) : put (w.drewN m) n o vs = (put w n o vs).drewN m := rfl
theorem size_put (vs : List Value) : (put w n o vs).heap.size = w.heap.size := by simp [put]
theorem grab_setCell (p : Addr) (v : Value) (h : n ≠ p.block) : grab (w.setCell p v) n o k = grab w n o k := by
 unfold grab; rw [Below.heap_setCell w p v n h]
theorem putOk_setCell (p : Addr) (v : Value) (h : n ≠ p.block) : putOk (w.setCell p v) n o k = putOk w n o k := by
 unfold putOk; rw [Below.heap_setCell w p v n h]
end
attribute [go_sem] grab_alloc_at grab_alloc_past grab_drew grab_drewN putOk_alloc_at putOk_alloc_past putOk_drew putOk_drewN put_alloc_at put_alloc_past put_drew put_drewN size_put grab_setCell putOk_setCell Option.elim_some Option.elim_none
/-! ### a block that is known whole -/
def setB (w : World) (b : Nat) (t : TypeId) (c : List Value) : World := { w with heap := w.heap.setIfInBounds b (.cells c.toArray t) }
def Blk (w : World) (b : Nat) (t : TypeId) (c : List Value) : Prop := w.heap[b]? = some (.cells c.toArray t)
section
variable {w w' : World} {b b' : Nat} {t t' : TypeId} {c c' : List Value}
theorem Blk.lt (h : Blk w b t c) : b < w.heap.size := (Array.getElem?_eq_some_iff.1 h).1
theorem Blk.cell (h : Blk w b t c) (o : Nat) : w.cell? ⟨b, o, none⟩ = c[o]? := by rw [cell_of_row w b o c.toArray t (0, 0) h]; simp
theorem Blk.frozen (h : Blk w b t c) (o : Nat) : w.frozen? ⟨b, o, none⟩ = false := by unfold Blk at h; simp [World.frozen?, h]
theorem Blk.grab (h : Blk w b t c) (o k : Nat) : grab w b o k = if o + k ≤ c.length then some (cut c o k) else none := by
 unfold Blk at h; unfold Go.Proofs.YtoelekmbmghicaaGreatDoor.grab; rw [h]; simp
theorem Blk.putOk (h : Blk w b t c) (o k : Nat) : putOk w b o k = decide (o + k ≤ c.length) := by
 unfold Blk at h; unfold Go.Proofs.YtoelekmbmghicaaGreatDoor.putOk; rw [h]; simp
theorem Blk.setCell (h : Blk w b t c) (o : Nat) (v : Value) : w.setCell ⟨b, o, none⟩ v = setB w b t (c.set o v) := by
 unfold Blk at h
 unfold World.setCell setB
 congr 1
 apply Array.ext_getElem?
 intro i
 have hlt := (Array.getElem?_eq_some_iff.1 h).1
 have hv := (Array.getElem?_eq_some_iff.1 h).2
 simp only [Array.getElem?_modify, Array.getElem?_setIfInBounds]
 by_cases e : b = i
 · subst e; simp [hv, hlt]
 · simp [e]
theorem Blk.put (h : Blk w b t c) (o : Nat) (vs : List Value) : put w b o vs = setB w b t (lay c o vs) := by
 unfold Blk at h
 unfold Go.Proofs.YtoelekmbmghicaaGreatDoor.put setB
 congr 1
 apply Array.ext_getElem?
 intro i
 have hlt := (Array.getElem?_eq_some_iff.1 h).1
 have hv := (Array.getElem?_eq_some_iff.1 h).2
 simp only [Array.getElem?_modify, Array.getElem?_setIfInBounds]
 by_cases e : b = i
 · subst e; simp [hv, hlt]
 · simp [e]
theorem Blk.new (w : World) (t : TypeId) (c : List Value) : Blk (w.alloc (.cells c.toArray t)) w.heap.size t c := by
 show (w.heap.push _)[w.heap.size]? = _; simp
theorem Blk.alloc (h : Blk w b t c) (x : Obj) : Blk (w.alloc x) b t c := (heap_past x h.lt).trans h
theorem Blk.below {B : Nat} (h : Blk w b t c) (hb : Below B w w') (hB : b < B) : Blk w' b t c := (hb.block b hB).trans h
theorem Blk.drew (h : Blk w b t c) : Blk w.drew b t c := h
theorem Blk.drewN (h : Blk w b t c) (m : Nat) : Blk (w.drewN m) b t c := h
theorem Blk.same (h : Blk w b t c) (c' : List Value) : Blk (setB w b t c') b t c' := by
 have := h.lt
 unfold Blk setB
 simp [this]
theorem size_setB : (setB w b t c).heap.size = w.heap.size := by simp [setB]
theorem cell_setB_same (h : b < w.heap.size) (o : Nat) : (setB w b t c).cell? ⟨b, o, none⟩ = c[o]? := by
 rw [cell_of_row _ b o c.toArray t (0, 0) (by simp [setB, h])]; simp
theorem cell_setB_other (h : b' ≠ b) (o : Nat) (s : Option Nat) : (setB w b t c).cell? ⟨b', o, s⟩ = w.cell? ⟨b', o, s⟩ :=
 World.cell?_of_block (by simp only [setB, Array.getElem?_setIfInBounds]; rw [if_neg (fun e => h e.symm)])
theorem frozen_setB_same (h : b < w.heap.size) (o : Nat) : (setB w b t c).frozen? ⟨b, o, none⟩ = false := by simp [World.frozen?, setB, h]
theorem frozen_setB_other (h : b' ≠ b) (o : Nat) (s : Option Nat) : (setB w b t c).frozen? ⟨b', o, s⟩ = w.frozen? ⟨b', o, s⟩ :=
 World.frozen?_of_block (by simp only [setB, Array.getElem?_setIfInBounds]; rw [if_neg (fun e => h e.symm)])
theorem grab_setB_same (h : b < w.heap.size) (o k : Nat) : grab (setB w b t c) b o k = if o + k ≤ c.length then some (cut c o k) else none := by
 unfold grab setB; simp [h]
theorem grab_setB_other (h : b' ≠ b) (o k : Nat) : grab (setB w b t c) b' o k = grab w b' o k := by
 unfold grab setB; simp only [Array.getElem?_setIfInBounds]; rw [if_neg (fun e => h e.symm)]
theorem putOk_setB_same (h : b < w.heap.size) (o k : Nat) : putOk (setB w b t c) b o k = decide (o + k ≤ c.length) := by
 unfold putOk setB; simp [h]
theorem putOk_setB_other (h : b' ≠ b) (o k : Nat) : putOk (setB w b t c) b' o k = putOk w b' o k := by
 unfold putOk setB; simp only [Array.getElem?_setIfInBounds]; rw [if_neg (fun e => h e.symm)]
theorem setB_setB : setB (setB w b t c) b t' c' = setB w b t' c' := by unfold setB; simp
theorem setCell_setB (h : b < w.heap.size) (o : Nat) (v : Value) : (setB w b t c).setCell ⟨b, o, none⟩ v = setB w b t (c.set o v) := by
 have : Blk (setB w b t c) b t c := by unfold Blk setB; simp [h]
 rw [this.setCell, setB_setB]
theorem put_setB (h : b < w.heap.size) (o : Nat) (vs : List Value) : put (setB w b t c) b o vs = setB w b t (lay c o vs) := by
 have : Blk (setB w b t c) b t c := by unfold Blk setB; simp [h]
 rw [this.put, setB_setB]
theorem setB_drew : setB w.drew b t c = (setB w b t c).drew := rfl
theorem setB_drewN (m : Nat) : setB (w.drewN m) b t c = (setB w b t c).drewN m := rfl
end
attribute [go_sem] size_setB cell_setB_same cell_setB_other frozen_setB_same frozen_setB_other grab_setB_same grab_setB_other putOk_setB_same putOk_setB_other setCell_setB put_setB setB_drew setB_drewN setB_setB
/-! ### 'Below' by simp: behind what a walk writes -/
section
variable {B : Nat} {a w w1 : World}
end
end Go.Proofs.YtoelekmbmghicaaGreatDoor
end
