/- Aggregates that are built part by part, and slices of them. No Go text is in sight. -/
import Derived.Test.YtpfkhlfkcmgdlaaDoorFlat
set_option linter.unusedSimpArgs false
set_option linter.unusedVariables false
namespace Go.Proofs.YtpfkhlfkcmgdlaaDoor
open Go.RowKit

/-- parts laid over cells, place by place -/
def bld (places : List (Nat × Nat)) : List Value → List (Nat × Value) → Option (List Value)
  | acc, [] => some acc
  | acc, (i, v) :: rest =>
    match places[i]? with
    | some (o, k) => if v.cells.size = k ∧ o + k ≤ acc.length then bld places (lay acc o v.cells.toList) rest else none
    | none => none

theorem lay_cons (l : List Value) (o : Nat) (v : Value) (r : List Value) (h : o + (r.length + 1) ≤ l.length) : lay (l.set o v) (o + 1) r = lay l o (v :: r) := by
  apply List.ext_getElem?
  intro j
  rw [lay_get (by simp; omega), lay_get (by simp; omega)]
  simp only [List.length_cons]
  by_cases h1 : o + 1 ≤ j ∧ j < o + 1 + r.length
  · rw [if_pos h1, if_pos ⟨by omega, by omega⟩]
    rw [show j - o = (j - (o + 1)) + 1 by omega]; rfl
  · rw [if_neg h1]
    by_cases h2 : j = o
    · subst h2
      rw [if_pos ⟨by omega, by omega⟩]
      simp [show j < l.length by omega]
    · rw [if_neg (by omega)]
      simp [List.getElem?_set, show ¬ o = j by omega]

theorem zip_lay (off : Nat) : ∀ (vs : List Value) (j : Nat) (acc : Array Value), off + j + vs.length ≤ acc.size →
    (vs.zipIdx j).foldl (fun (cs : Array Value) (x : Value × Nat) => cs.setIfInBounds (off + x.2) x.1) acc = (lay acc.toList (off + j) vs).toArray
  | [], j, acc, _ => by simp [lay]
  | v :: r, j, acc, h => by
    simp only [List.length_cons] at h
    rw [List.zipIdx_cons, List.foldl_cons, zip_lay off r (j + 1) _ (by simp; omega)]
    simp only [Array.toList_setIfInBounds]
    rw [show off + (j + 1) = off + j + 1 by omega, lay_cons _ _ _ _ (by simp; omega)]

theorem fill_bld (places : List (Nat × Nat)) (f : Nat → Option (Nat × Nat)) (hf : ∀ i, f i = places[i]?) : ∀ (parts : List (Nat × Value)) (acc : List Value), (bld places acc parts).isSome = true →
    Instr.fill f acc.toArray parts = (bld places acc parts).map List.toArray
  | [], acc, _ => rfl
  | (i, v) :: rest, acc, h => by
    unfold bld at h ⊢
    unfold Instr.fill
    rw [hf i]
    cases hp : places[i]? with
    | none => rw [hp] at h; cases h
    | some ok =>
      obtain ⟨o, k⟩ := ok
      rw [hp] at h
      simp only at h ⊢
      split at h
      · rename_i hc
        rw [if_pos hc, if_neg (by simp; omega)]
        have hz : v.cells.zipIdx.foldl (fun (cs : Array Value) (x : Value × Nat) => cs.setIfInBounds (o + x.2) x.1) acc.toArray = (lay acc o v.cells.toList).toArray := by
          have := zip_lay o v.cells.toList 0 acc.toArray (by simp; omega)
          rw [Nat.add_zero] at this
          simp only [List.toList_toArray] at this
          rw [← this]
          rw [← Array.foldl_toList]
          simp
        rw [← fill_bld places f hf rest _ h]
        congr 1
      · cases h

/-- where a type's parts lie, and its zero value -/
def placesOf (P : Program) (t : TypeId) : Option (List (Nat × Nat) × List Value) :=
  match P.info? t, P.underlying t with
  | some it, some (.struct fields) =>
    match it.zero, fields.toList.mapM (fun f => (P.info? f.type).map fun i => (f.offset, i.size)) with
    | some z, some places => some (places, z.cells.toList)
    | _, _ => none
  | _, _ => none

def zvAt (t : TypeId) : Sem Value := zeroValue t
def bdAt (t : TypeId) (parts : Array (Nat × Value)) : Sem Value := Instr.build t parts
def bdAlt (P : Program) (t : TypeId) (parts : Array (Nat × Value)) (w : World) : Result Value := (Instr.build t parts).run P w

theorem run_bdAt {P : Program} {t : TypeId} {places : List (Nat × Nat)} {zero : List Value} (h : placesOf P t = some (places, zero)) (parts : Array (Nat × Value)) (w : World) :
    (bdAt t parts).run P w = (bld places zero parts.toList).elim (bdAlt P t parts w) (fun cs => .ok (.agg cs.toArray) w) := by
  cases hb : bld places zero parts.toList with
  | none => rfl
  | some cs =>
    show (Instr.build t parts).run P w = .ok (.agg cs.toArray) w
    apply run_build
    unfold placesOf at h
    unfold Program.built
    split at h
    · rename_i it fields hi hu
      split at h
      · rename_i z pl hz hp
        simp only [Option.some.injEq, Prod.mk.injEq] at h
        obtain ⟨rfl, rfl⟩ := h
        simp only [hi, hu, hz, hp]
        have hsome : (bld pl z.cells.toList parts.toList).isSome = true := by rw [hb]; rfl
        have := fill_bld pl (fun i => pl.toArray[i]?) (fun i => by simp) parts.toList z.cells.toList hsome
        simp only [Array.toArray_toList] at this
        rw [this, hb]
        rfl
      · cases h
    · cases h

/-! ### a slice of aggregates, each given -/
def fullFrom (k : Nat) : Nat → List (Nat × Value) → Bool
  | _, [] => true
  | i, (j, v) :: r => (j == i) && (v.cells.size == k) && fullFrom k (i + 1) r

theorem full_fill (k : Nat) : ∀ (parts : List (Nat × Value)) (i : Nat) (acc : List Value), fullFrom k i parts = true → acc.length = (i + parts.length) * k →
    Instr.fill (fun j => some (j * k, k)) acc.toArray parts = some (acc.take (i * k) ++ parts.flatMap (·.2.cells.toList)).toArray
  | [], i, acc, _, hl => by
    simp only [List.length_nil, Nat.add_zero] at hl
    simp [Instr.fill, ← hl]
  | (j, v) :: rest, i, acc, h, hl => by
    unfold fullFrom at h
    simp only [Bool.and_eq_true, beq_iff_eq] at h
    obtain ⟨⟨rfl, hk⟩, hr⟩ := h
    simp only [List.length_cons] at hl
    have e1 : (j + (rest.length + 1)) * k = j * k + k + rest.length * k := by rw [Nat.add_mul, Nat.succ_mul]; omega
    unfold Instr.fill
    simp only
    rw [if_neg (by simp [hk]; omega)]
    have hz : v.cells.zipIdx.foldl (fun (cs : Array Value) (x : Value × Nat) => cs.setIfInBounds (j * k + x.2) x.1) acc.toArray = (lay acc (j * k) v.cells.toList).toArray := by
      have := zip_lay (j * k) v.cells.toList 0 acc.toArray (by simp; omega)
      rw [Nat.add_zero] at this
      rw [← this, ← Array.foldl_toList]
      simp
    rw [hz, full_fill k rest (j + 1) _ hr (by rw [lay_length (by simp; omega), hl, show j + 1 + rest.length = j + (rest.length + 1) by omega])]
    congr 2
    rw [List.flatMap_cons, ← List.append_assoc]
    congr 1
    unfold lay
    have hkk : v.cells.toList.length = k := by simpa using hk
    have htl : (acc.take (j * k)).length = j * k := by simp; omega
    rw [Nat.succ_mul, List.append_assoc, List.take_append, htl, List.take_of_length_le (by omega)]
    congr 1
    rw [show j * k + k - j * k = k by omega, List.take_append, List.take_of_length_le (by omega), hkk]
    simp

def bsAt (t : TypeId) (n : Nat) (parts : Array (Nat × Value)) : Sem Value := Instr.buildSlice t n parts
def bsAlt (P : Program) (t : TypeId) (n : Nat) (parts : Array (Nat × Value)) (w : World) : Result Value := (Instr.buildSlice t n parts).run P w

theorem run_bsAt {P : Program} {t e : TypeId} {i : TypeInfo} {z : Value} (ht : P.underlying t = some (.slice e)) (hi : P.info? e = some i) (hz : i.zero = some z) (n : Nat) (parts : Array (Nat × Value)) (w : World) :
    (bsAt t n parts).run P w = if fullFrom i.size 0 parts.toList = true ∧ parts.size = n ∧ 0 < n * i.size ∧ n * i.size ≤ 16777216 then
      .ok (.slice (some ⟨w.heap.size, 0, none⟩) n n) (w.alloc (.cells (parts.toList.flatMap (·.2.cells.toList)).toArray e)) else bsAlt P t n parts w := by
  split
  · rename_i h
    obtain ⟨h1, h2, h3, h4⟩ := h
    show (Instr.buildSlice t n parts).run P w = _
    have hf := full_fill i.size parts.toList 0 ((List.range (n * i.size)).map fun j => z.cells[j % z.cells.size]!) h1 (by simp [h2])
    simp only [Nat.zero_mul, List.take_zero, List.nil_append] at hf
    have e1 : ((Array.range (n * i.size)).map fun x => z.cells[x % z.cells.size]!) = ((List.range (n * i.size)).map fun j => z.cells[j % z.cells.size]!).toArray := by
      apply Array.ext'
      simp
    have hne : ¬ n * i.size = 0 := by omega
    have hle : ¬ n * i.size > 2 ^ 24 := by omega
    rw [← e1] at hf
    have q1 : (underlying t).run P w = .ok (.slice e) w := run_underlying ht w
    have q2 : (sizeOf e).run P w = .ok i.size w := by simp [sizeOf, typeInfo, hi]
    have q3 : (zeroValue e).run P w = .ok z w := by simp [zeroValue, typeInfo, hi, hz]
    unfold Instr.buildSlice
    rw [Sem.run_bind, q1]
    simp only [Result.andThen_ok]
    rw [Sem.run_bind, q2]
    simp only [Result.andThen_ok]
    rw [if_neg hle, if_neg hne]
    simp only [Sem.run_bind, Sem.run_pure, Result.andThen_ok, q3, hf]
    rfl
  · rfl
end Go.Proofs.YtpfkhlfkcmgdlaaDoor
