/- Values of types that are made of bools and integers alone, to whatever depth: their cells, one by one; '==' between two of them. No Go text is in sight. -/
import Derived.Test.YtpfkhlfkcmgdlaaDoorMem
import Derived.DeepKeys
import Derived.Deep.Slices
set_option linter.unusedSimpArgs false
set_option linter.unusedVariables false
namespace Go.Proofs.YtpfkhlfkcmgdlaaDoor
open Go.RowKit Go.WideShapes Go.ChangeShapes

/-- is the cell a bool ('none'), or an integer of that kind? -/
def KOk : Option IntKind → Value → Prop
  | none, v => ∃ b, v = .bool b
  | some k, v => ∃ n, v = .int k n ∧ (Lit.int k n).wf = true

def Flat (ks : List (Option IntKind)) (cs : List Value) : Prop := cs.length = ks.length ∧ ∀ (i : Nat) k, ks[i]? = some k → ∃ v, cs[i]? = some v ∧ KOk k v

/-- the kinds of a struct's fields, which lie one behind the other -/
def flatFields (P : Program) (g : TypeId → Option (List (Option IntKind))) : List Field → Nat → Option (List (Option IntKind))
  | [], _ => some []
  | f :: fs, off =>
    if f.offset = off then
      match g f.type with
      | some l => if l.length = P.cellsOf f.type then (flatFields P g fs (off + l.length)).map (l ++ ·) else none
      | none => none
    else none
/-- the kinds of a type's cells; none: another thing than a bool or an integer is among them -/
def flatOf (P : Program) : Nat → TypeId → Option (List (Option IntKind))
  | 0, _ => none
  | n + 1, t =>
    match P.underlying t with
    | some .bool => some [none]
    | some (.int k) => some [some k]
    | some (.struct fs) =>
      match flatFields P (flatOf P n) fs.toList 0 with
      | some l => if l.length = P.cellsOf t ∧ fs.all (·.name != "_") = true ∧ P.stoodInHeld t = false then some l else none
      | none => none
    | some (.array m e) =>
      match flatOf P n e with
      | some l => if l.length = P.cellsOf e ∧ m * l.length = P.cellsOf t then some ((List.replicate m l).flatten) else none
      | none => none
    | _ => none

theorem Flat.append {k1 k2 : List (Option IntKind)} {c1 c2 : List Value} (h1 : Flat k1 c1) (h2 : Flat k2 c2) : Flat (k1 ++ k2) (c1 ++ c2) := by
  refine ⟨by simp [h1.1, h2.1], fun i k hk => ?_⟩
  by_cases hi : i < k1.length
  · rw [List.getElem?_append_left hi] at hk
    rw [List.getElem?_append_left (by rw [h1.1]; exact hi)]
    exact h1.2 i k hk
  · rw [List.getElem?_append_right (by omega)] at hk
    rw [List.getElem?_append_right (by rw [h1.1]; omega), h1.1]
    exact h2.2 _ k hk

theorem take_split (cs : List Value) (o a b : Nat) : (cs.drop o).take (a + b) = (cs.drop o).take a ++ (cs.drop (o + a)).take b := by
  rw [List.take_add, List.drop_drop]

theorem flatFields_flat {P : Program} {g : TypeId → Option (List (Option IntKind))} {cs : List Value} (G : ∀ t l off, g t = some l → l.length = P.cellsOf t → Prop)
    (hG : ∀ t l off h1 h2, G t l off h1 h2 → Flat l ((cs.drop off).take (P.cellsOf t))) :
    ∀ (fs : List Field) (off : Nat) (ks : List (Option IntKind)), flatFields P g fs off = some ks → (∀ f ∈ fs, ∀ l h1 h2, G f.type l f.offset h1 h2) → Flat ks ((cs.drop off).take ks.length)
  | [], off, ks, h, _ => by
    simp [flatFields] at h
    subst h
    exact ⟨by simp, fun i k hk => by simp at hk⟩
  | f :: fs, off, ks, h, hf => by
    unfold flatFields at h
    split at h
    · rename_i ho
      split at h
      · rename_i l hl
        split at h
        · rename_i hlen
          simp only [Option.map_eq_some_iff] at h
          obtain ⟨r, hr, rfl⟩ := h
          have h1 := hG f.type l f.offset hl hlen (hf f (by simp) l hl hlen)
          rw [ho, ← hlen] at h1
          have h2 := flatFields_flat G hG fs (off + l.length) r hr (fun f' hf' => hf f' (by simp [hf']))
          rw [List.length_append, take_split]
          exact h1.append h2
        · cases h
      · cases h
    · cases h

theorem flat_replicate {cs : List Value} {l : List (Option IntKind)} : ∀ (m off : Nat), (∀ i, i < m → Flat l ((cs.drop (off + i * l.length)).take l.length)) → Flat ((List.replicate m l).flatten) ((cs.drop off).take (m * l.length))
  | 0, off, _ => ⟨by simp, fun i k hk => by simp at hk⟩
  | m + 1, off, h => by
    rw [List.replicate_succ, List.flatten_cons, Nat.succ_mul, Nat.add_comm (m * l.length), take_split]
    have h0 := h 0 (by omega)
    simp only [Nat.zero_mul, Nat.add_zero] at h0
    refine h0.append (flat_replicate m (off + l.length) fun i hi => ?_)
    have := h (i + 1) (by omega)
    rwa [show off + (i + 1) * l.length = off + l.length + i * l.length by rw [Nat.succ_mul]; omega] at this

section
variable {H : Type} {enc : TypeId × Value → H} {P : Program} {w : World} {base : Nat} {spare : Nat → Bool} {held : Bool}

/-- What has been read of a flat type is flat. -/
theorem trod_flat : ∀ (n fuel : Nat) (t : TypeId) (cs : List Value) (x : DataW H × List MemPlace) (ks : List (Option IntKind)),
    flatOf P n t = some ks → DataW.trod enc P w base spare held fuel t cs = some x → Flat ks cs
  | 0, _, _, _, _, _, h, _ => by simp [flatOf] at h
  | n + 1, fuel, t, cs, x, ks, h, ht => by
    unfold flatOf at h
    split at h
    · rename_i hu
      cases h
      obtain ⟨b, rfl, _⟩ := DataW.trod_bool hu ht
      exact ⟨rfl, fun i k hk => by cases i <;> simp at hk; subst hk; exact ⟨_, rfl, b, rfl⟩⟩
    · rename_i q hu
      cases h
      obtain ⟨m, rfl, _, hw⟩ := DataW.trod_int hu ht
      exact ⟨rfl, fun i k hk => by cases i <;> simp at hk; subst hk; exact ⟨_, rfl, m, rfl, hw⟩⟩
    · rename_i fs hu
      split at h
      · rename_i l hl
        split at h
        · rename_i hlen
          cases h
          obtain ⟨xs, n', rfl, _, hcl, hxl, hf⟩ := DataW.trod_struct hu ht
          have := flatFields_flat (P := P) (cs := cs) (G := fun t' l' off' _ _ => Flat l' ((cs.drop off').take (P.cellsOf t'))) (fun _ _ _ _ _ h => h) fs.toList 0 _ hl (fun f hfm l' h1 h2 => by
            obtain ⟨i, hi⟩ := List.getElem?_of_mem hfm
            rw [Array.getElem?_toList] at hi
            have hi' := hf i f hi
            have hx : i < xs.length := by rw [hxl]; exact (Array.getElem?_eq_some_iff.1 hi).1
            rw [List.getElem?_eq_getElem hx] at hi'
            exact trod_flat n n' f.type _ _ l' h1 hi')
          rw [List.drop_zero, hlen.1, ← hcl, List.take_length] at this
          exact this
        · cases h
      · cases h
    · rename_i m e hu
      split at h
      · rename_i l hl
        split at h
        · rename_i hlen
          cases h
          obtain ⟨xs, n', rfl, _, hcl, hxl, hf⟩ := DataW.trod_array hu ht
          have := flat_replicate (cs := cs) (l := l) m 0 (fun i hi => by
            have hi' := hf i hi
            rw [List.getElem?_eq_getElem (by omega)] at hi'
            rw [Nat.zero_add, hlen.1]
            exact trod_flat n n' e _ _ l hl hi')
          rw [List.drop_zero, hlen.2, ← hcl, List.take_length] at this
          exact this
        · cases h
      · cases h
    · cases h
end

/-- a cell as a literal -/
def litOf : Value → Lit
  | .bool b => .bool b
  | .int k n => .int k n
  | _ => .bool false

theorem mapM_flatten {α β : Type} (f : α → Option (List β)) : ∀ (l : List α) (g : α → List β), (∀ x ∈ l, f x = some (g x)) → (l.mapM f).map List.flatten = some (l.flatMap g)
  | [], g, _ => by simp
  | x :: l, g, h => by
    have ih := mapM_flatten f l g (fun y hy => h y (by simp [hy]))
    simp only [Option.map_eq_some_iff] at ih
    obtain ⟨r, hr, hr2⟩ := ih
    simp [List.mapM_cons, h x (by simp), hr, hr2]

theorem flatFields_pieces {P : Program} {g : TypeId → Option (List (Option IntKind))} {cs : List Value} : ∀ (fs : List Field) (off : Nat) (ks : List (Option IntKind)), flatFields P g fs off = some ks →
    (fs.flatMap fun f => (((cs.drop f.offset).take (P.cellsOf f.type)).map litOf)) = ((cs.drop off).take ks.length).map litOf ∧ ∀ f ∈ fs, ∃ l, g f.type = some l ∧ l.length = P.cellsOf f.type ∧ off ≤ f.offset ∧ f.offset + l.length ≤ off + ks.length ∧
      ∀ i, i < l.length → ks[f.offset - off + i]? = l[i]?
  | [], off, ks, h => by simp [flatFields] at h; subst h; simp
  | f :: fs, off, ks, h => by
    unfold flatFields at h
    split at h
    · rename_i ho
      split at h
      · rename_i l hl
        split at h
        · rename_i hlen
          simp only [Option.map_eq_some_iff] at h
          obtain ⟨r, hr, rfl⟩ := h
          obtain ⟨e1, e2⟩ := flatFields_pieces (cs := cs) fs (off + l.length) r hr
          refine ⟨by rw [List.flatMap_cons, e1, List.length_append, take_split, List.map_append, ho, hlen], fun f' hf' => ?_⟩
          rcases List.mem_cons.1 hf' with rfl | hf'
          · exact ⟨l, hl, hlen, by omega, by simp; omega, fun i hi => by rw [show f'.offset - off + i = i by omega, List.getElem?_append_left hi]⟩
          · obtain ⟨l', a1, a2, a3, a4, a5⟩ := e2 f' hf'
            refine ⟨l', a1, a2, by omega, by simp; omega, fun i hi => ?_⟩
            rw [List.getElem?_append_right (by omega), ← a5 i hi]
            congr 1; omega
        · cases h
      · cases h
    · cases h

theorem Flat.piece {ks l : List (Option IntKind)} {cs : List Value} {o : Nat} (h : Flat ks cs) (ho : o + l.length ≤ ks.length) (hl : ∀ i, i < l.length → ks[o + i]? = l[i]?) : Flat l ((cs.drop o).take l.length) := by
  refine ⟨by simp [h.1]; omega, fun i k hk => ?_⟩
  have hi : i < l.length := (List.getElem?_eq_some_iff.1 hk).1
  obtain ⟨v, hv, hok⟩ := h.2 (o + i) k (by rw [hl i hi, hk])
  exact ⟨v, by simp [List.getElem?_take, hi, hv], hok⟩

theorem replicate_piece {l : List (Option IntKind)} : ∀ (m i j : Nat), i < m → j < l.length → ((List.replicate m l).flatten)[i * l.length + j]? = l[j]?
  | 0, _, _, h, _ => by omega
  | m + 1, 0, j, _, hj => by rw [List.replicate_succ, List.flatten_cons, Nat.zero_mul, Nat.zero_add, List.getElem?_append_left hj]
  | m + 1, i + 1, j, hi, hj => by
    rw [List.replicate_succ, List.flatten_cons, List.getElem?_append_right (by rw [Nat.succ_mul]; omega)]
    rw [show (i + 1) * l.length + j - l.length = i * l.length + j by rw [Nat.succ_mul]; omega]
    exact replicate_piece m i j (by omega) hj

/-- The literals of a flat value. -/
theorem flat_keyLits {P : Program} : ∀ (n : Nat) (t : TypeId) (cs : List Value) (ks : List (Option IntKind)), flatOf P n t = some ks → Flat ks cs → P.keyLits n t cs = some (cs.map litOf)
  | 0, _, _, _, h, _ => by simp [flatOf] at h
  | n + 1, t, cs, ks, h, hf => by
    unfold flatOf at h
    split at h
    · rename_i hu
      cases h
      obtain ⟨v, hv, b, rfl⟩ := hf.2 0 none rfl
      match cs, hf.1, hv with
      | [c], _, hv => simp at hv; subst hv; simp [Program.keyLits, hu, litOf]
    · rename_i q hu
      cases h
      obtain ⟨v, hv, m, rfl, hw⟩ := hf.2 0 (some q) rfl
      match cs, hf.1, hv with
      | [c], _, hv => simp at hv; subst hv; simp [Program.keyLits, hu, litOf, hw]
    · rename_i fs hu
      split at h
      · rename_i l hl
        split at h
        · rename_i hlen
          cases h
          obtain ⟨e1, e2⟩ := flatFields_pieces (cs := cs) fs.toList 0 _ hl
          have hcl : cs.length = P.cellsOf t := by rw [hf.1, hlen.1]
          unfold Program.keyLits
          rw [hu]
          simp only [hcl, hlen.2.1, and_self, if_true]
          rw [mapM_flatten _ fs.toList (fun f => (((cs.drop f.offset).take (P.cellsOf f.type)).map litOf)) (fun f hfm => by
            obtain ⟨l', a1, a2, a3, a4, a5⟩ := e2 f hfm
            refine flat_keyLits n f.type _ l' a1 ?_
            rw [← a2]
            exact hf.piece (by omega) (fun i hi => by have := a5 i hi; rwa [Nat.sub_zero] at this))]
          rw [e1, List.drop_zero, ← hf.1, List.take_length]
        · cases h
      · cases h
    · rename_i m e hu
      split at h
      · rename_i l hl
        split at h
        · rename_i hlen
          cases h
          have hks : (List.replicate m l).flatten.length = m * l.length := by simp
          have hcl : cs.length = P.cellsOf t := by rw [hf.1, hks, hlen.2]
          unfold Program.keyLits
          rw [hu]
          simp only [hcl, if_true]
          rw [mapM_flatten _ (List.range m) (fun i => (((cs.drop (i * P.cellsOf e)).take (P.cellsOf e)).map litOf)) (fun i hi => by
            rw [List.mem_range] at hi
            refine flat_keyLits n e _ l hl ?_
            rw [← hlen.1]
            have h1 : (i + 1) * l.length ≤ m * l.length := Nat.mul_le_mul_right _ (by omega)
            rw [Nat.succ_mul] at h1
            exact hf.piece (by omega) (fun j hj => replicate_piece m i j hi hj))]
          congr 1
          have key : ∀ (m o : Nat), o + m * l.length ≤ cs.length → ((List.range m).flatMap fun i => ((cs.drop (o + i * l.length)).take l.length).map litOf) = ((cs.drop o).take (m * l.length)).map litOf := by
            intro m
            induction m with
            | zero => intro o _; simp
            | succ m ih =>
              intro o ho
              rw [List.range_succ, List.flatMap_append, ih o (by rw [Nat.succ_mul] at ho; omega), Nat.succ_mul, take_split, List.map_append]
              simp
          have := key m 0 (by rw [hcl, hlen.2]; omega)
          simp only [Nat.zero_add, List.drop_zero] at this
          rw [← hlen.1, this, hlen.2, ← hcl, List.take_length]
        · cases h
      · cases h
    · cases h

theorem litOf_inj {ks : List (Option IntKind)} {xs ys : List Value} (hx : Flat ks xs) (hy : Flat ks ys) (h : xs.map litOf = ys.map litOf) : xs = ys := by
  apply List.ext_getElem?
  intro i
  by_cases hi : i < ks.length
  · obtain ⟨v, hv, kv⟩ := hx.2 i _ (List.getElem?_eq_getElem hi)
    obtain ⟨u, hu, ku⟩ := hy.2 i _ (List.getElem?_eq_getElem hi)
    have e : (xs.map litOf)[i]? = (ys.map litOf)[i]? := by rw [h]
    rw [List.getElem?_map, List.getElem?_map, hv, hu] at e
    simp only [Option.map_some, Option.some.injEq] at e
    rw [hv, hu]
    generalize ks[i] = k at kv ku
    cases k with
    | none =>
      obtain ⟨a, rfl⟩ := kv
      obtain ⟨b, rfl⟩ := ku
      simp [litOf] at e
      rw [e]
    | some q =>
      obtain ⟨a, rfl, _⟩ := kv
      obtain ⟨b, rfl, _⟩ := ku
      simp [litOf] at e
      rw [e]
  · rw [List.getElem?_eq_none (by rw [hx.1]; omega), List.getElem?_eq_none (by rw [hy.1]; omega)]

/-! ### '==' between two values of a flat type: the kinds alone are asked -/
def Shp : Option IntKind → Value → Prop
  | none, v => ∃ b, v = .bool b
  | some k, v => ∃ n, v = .int k n
def FlatS (ks : List (Option IntKind)) (cs : List Value) : Prop := cs.length = ks.length ∧ ∀ (i : Nat) k, ks[i]? = some k → ∃ v, cs[i]? = some v ∧ Shp k v
theorem Flat.shape {ks : List (Option IntKind)} {cs : List Value} (h : Flat ks cs) : FlatS ks cs :=
  ⟨h.1, fun i k hk => by
    obtain ⟨v, hv, ok⟩ := h.2 i k hk
    refine ⟨v, hv, ?_⟩
    cases k with
    | none => exact ok
    | some q => obtain ⟨n, e, _⟩ := ok; exact ⟨n, e⟩⟩
theorem FlatS.nil : FlatS [] [] := ⟨rfl, fun i k hk => by simp at hk⟩
theorem FlatS.cons {k : Option IntKind} {ks : List (Option IntKind)} {c : Value} {cs : List Value} (h : Shp k c) (hs : FlatS ks cs) : FlatS (k :: ks) (c :: cs) :=
  ⟨by simp [hs.1], fun i q hq => by
    cases i with
    | zero => simp at hq; subst hq; exact ⟨c, rfl, h⟩
    | succ i => simp at hq; simpa using hs.2 i q hq⟩
theorem FlatS.append {k1 k2 : List (Option IntKind)} {c1 c2 : List Value} (h1 : FlatS k1 c1) (h2 : FlatS k2 c2) : FlatS (k1 ++ k2) (c1 ++ c2) := by
  refine ⟨by simp [h1.1, h2.1], fun i k hk => ?_⟩
  by_cases hi : i < k1.length
  · rw [List.getElem?_append_left hi] at hk
    rw [List.getElem?_append_left (by rw [h1.1]; exact hi)]
    exact h1.2 i k hk
  · rw [List.getElem?_append_right (by omega)] at hk
    rw [List.getElem?_append_right (by rw [h1.1]; omega), h1.1]
    exact h2.2 _ k hk
theorem FlatS.rep {α : Type} {k : Option IntKind} {f : α → Value} (hf : ∀ a, Shp k (f a)) (l : List α) {n : Nat} (hn : l.length = n) : FlatS (List.replicate n k) (l.map f) := by
  subst hn
  refine ⟨by simp, fun i q hq => ?_⟩
  have hi : i < l.length := by have := (List.getElem?_eq_some_iff.1 hq).1; simpa using this
  simp [List.getElem?_replicate, hi] at hq
  subst hq
  exact ⟨f l[i], by simp [hi], hf _⟩
theorem FlatS.piece {ks l : List (Option IntKind)} {cs : List Value} {o : Nat} (h : FlatS ks cs) (ho : o + l.length ≤ ks.length) (hl : ∀ i, i < l.length → ks[o + i]? = l[i]?) : FlatS l ((cs.drop o).take l.length) := by
  refine ⟨by simp [h.1]; omega, fun i k hk => ?_⟩
  have hi : i < l.length := (List.getElem?_eq_some_iff.1 hk).1
  obtain ⟨v, hv, hok⟩ := h.2 (o + i) k (by rw [hl i hi, hk])
  exact ⟨v, by simp [List.getElem?_take, hi, hv], hok⟩

/-- a value of a type, out of its cells -/
def packV (P : Program) (t : TypeId) (cs : List Value) : Value :=
  match P.underlying t with
  | some (.struct _) | some (.array _ _) => .agg cs.toArray
  | _ => cs.headD undef

open Classical in
def EqS (P : Program) (dd : Nat) (t : TypeId) (ks : List (Option IntKind)) : Prop :=
  ∀ (w : World) (xs ys : List Value), FlatS ks xs → FlatS ks ys → (Op.equalIn dd t (packV P t xs) (packV P t ys)).run P w = .ok (decide (xs = ys)) w

theorem run_part_pack {P : Program} {n : Nat} {t : TypeId} {ks : List (Option IntKind)} (h : flatOf P n t = some ks) (hk : ks.length = P.cellsOf t) {cs : List Value} {o : Nat} (hf : FlatS ks ((cs.drop o).take ks.length)) (w : World) :
    (part t cs.toArray o).run P w = .ok (packV P t ((cs.drop o).take ks.length)) w := by
  have agg : ∀ d, P.underlying t = some d → (∃ n e', d = .array n e') ∨ (∃ fs, d = .struct fs) → (part t cs.toArray o).run P w = .ok (.agg ((cs.drop o).take ks.length).toArray) w := by
    intro d hu hd
    obtain ⟨i, hi⟩ := info_of_underlying hu
    have e1 : cs.toArray.extract o (o + P.cellsOf t) = ((cs.drop o).take ks.length).toArray := by
      rw [hk]
      simp [List.extract]
    rw [← e1]
    rcases hd with ⟨n, e', rfl⟩ | ⟨fs, rfl⟩ <;> simp [part, isAgg, run_underlying hu, run_sizeOf w hi]
  cases n with
  | zero => simp [flatOf] at h
  | succ n =>
    unfold flatOf at h
    split at h
    · rename_i hu
      cases h
      obtain ⟨v, hv, _⟩ := hf.2 0 none rfl
      simp [packV, part, isAgg, run_underlying hu, hu]
      simp [List.getElem?_take] at hv
      rw [List.head?_take, List.head?_drop, hv]
      simp
    · rename_i q hu
      cases h
      obtain ⟨v, hv, _⟩ := hf.2 0 (some q) rfl
      simp [packV, part, isAgg, run_underlying hu, hu]
      simp [List.getElem?_take] at hv
      rw [List.head?_take, List.head?_drop, hv]
      simp
    · rename_i fs hu
      rw [agg _ hu (.inr ⟨_, rfl⟩)]
      simp [packV, hu]
    · rename_i m e hu
      rw [agg _ hu (.inl ⟨_, _, rfl⟩)]
      simp [packV, hu]
    · cases h

open Classical in
theorem run_eqFields_flat {P : Program} {dd n : Nat} (IH : ∀ t l, flatOf P n t = some l → l.length = P.cellsOf t → EqS P dd t l) (w : World) (xs ys : List Value) :
    ∀ (fs : List Field) (off : Nat) (ks : List (Option IntKind)), flatFields P (flatOf P n) fs off = some ks → (∀ f ∈ fs, f.name ≠ "_") → FlatS ks ((xs.drop off).take ks.length) → FlatS ks ((ys.drop off).take ks.length) →
      (Op.eqFields dd xs.toArray ys.toArray fs).run P w = .ok (decide ((xs.drop off).take ks.length = (ys.drop off).take ks.length)) w
  | [], off, ks, h, _, _, _ => by simp [flatFields] at h; subst h; simp [Op.eqFields]
  | f :: fs, off, ks, h, hn, hx, hy => by
    unfold flatFields at h
    split at h
    · rename_i ho
      split at h
      · rename_i l hl
        split at h
        · rename_i hlen
          simp only [Option.map_eq_some_iff] at h
          obtain ⟨r, hr, rfl⟩ := h
          rw [List.length_append, take_split] at hx hy
          have hxl : ((xs.drop off).take l.length).length = l.length := by have := hx.1; simp at this ⊢; omega
          have hyl : ((ys.drop off).take l.length).length = l.length := by have := hy.1; simp at this ⊢; omega
          have hx1 : FlatS l ((xs.drop off).take l.length) := ⟨hxl, fun i k hk => by
            have hi : i < l.length := (List.getElem?_eq_some_iff.1 hk).1
            have := hx.2 i k (by rw [List.getElem?_append_left hi]; exact hk)
            rwa [List.getElem?_append_left (by omega)] at this⟩
          have hy1 : FlatS l ((ys.drop off).take l.length) := ⟨hyl, fun i k hk => by
            have hi : i < l.length := (List.getElem?_eq_some_iff.1 hk).1
            have := hy.2 i k (by rw [List.getElem?_append_left hi]; exact hk)
            rwa [List.getElem?_append_left (by omega)] at this⟩
          have hx2 : FlatS r ((xs.drop (off + l.length)).take r.length) := ⟨by have := hx.1; rw [List.length_append, hxl] at this; simp at this ⊢; omega, fun i k hk => by
            have := hx.2 (l.length + i) k (by rw [List.getElem?_append_right (by omega)]; simpa using hk)
            rw [List.getElem?_append_right (by omega), hxl] at this
            simpa using this⟩
          have hy2 : FlatS r ((ys.drop (off + l.length)).take r.length) := ⟨by have := hy.1; rw [List.length_append, hyl] at this; simp at this ⊢; omega, fun i k hk => by
            have := hy.2 (l.length + i) k (by rw [List.getElem?_append_right (by omega)]; simpa using hk)
            rw [List.getElem?_append_right (by omega), hyl] at this
            simpa using this⟩
          have p1 := run_part_pack hl hlen hx1 w
          have p2 := run_part_pack hl hlen hy1 w
          have p3 := IH f.type l hl hlen w _ _ hx1 hy1
          have p4 := run_eqFields_flat IH w xs ys fs (off + l.length) r hr (fun g hg => hn g (by simp [hg])) hx2 hy2
          simp only [Op.eqFields, hn f (by simp), ne_eq, not_false_eq_true, if_true, Sem.run_bind, ho, p1, p2, p3, Result.andThen_ok]
          rw [List.length_append, take_split, take_split]
          by_cases e : (xs.drop off).take l.length = (ys.drop off).take l.length
          · rw [decide_eq_true e]
            simp only [Bool.not_true, Bool.false_eq_true, if_false]
            rw [p4, e]
            congr 1
            simp
          · rw [decide_eq_false e, decide_eq_false (fun e' => e (List.append_inj e' (by omega)).1)]
            simp
        · cases h
      · cases h
    · cases h

open Classical in
theorem run_eqItems_flat {P : Program} {dd n : Nat} {e : TypeId} {l : List (Option IntKind)} (hl : flatOf P n e = some l) (hlen : l.length = P.cellsOf e) (IH : EqS P dd e l) (w : World) (xs ys : List Value) :
    ∀ (m i0 : Nat), (∀ i, i < m → FlatS l ((xs.drop ((i0 + i) * l.length)).take l.length)) → (∀ i, i < m → FlatS l ((ys.drop ((i0 + i) * l.length)).take l.length)) →
      (Op.eqItems dd e (P.cellsOf e) xs.toArray ys.toArray (List.range' i0 m)).run P w = .ok (decide ((xs.drop (i0 * l.length)).take (m * l.length) = (ys.drop (i0 * l.length)).take (m * l.length))) w
  | 0, i0, _, _ => by simp [Op.eqItems]
  | m + 1, i0, hx, hy => by
    have hx1 := hx 0 (by omega)
    have hy1 := hy 0 (by omega)
    rw [Nat.add_zero] at hx1 hy1
    have p1 := run_part_pack hl hlen hx1 w
    have p2 := run_part_pack hl hlen hy1 w
    have p3 := IH w _ _ hx1 hy1
    have p4 := run_eqItems_flat hl hlen IH w xs ys m (i0 + 1) (fun i hi => by have := hx (i + 1) (by omega); rwa [show i0 + (i + 1) = i0 + 1 + i by omega] at this) (fun i hi => by have := hy (i + 1) (by omega); rwa [show i0 + (i + 1) = i0 + 1 + i by omega] at this)
    rw [hlen] at p1 p2
    rw [← hlen] at p4
    simp only [List.range'_succ, Op.eqItems, Sem.run_bind, p1, p2, Result.andThen_ok]
    rw [← hlen, p3]
    simp only [Result.andThen_ok]
    rw [Nat.succ_mul m, Nat.add_comm (m * l.length), take_split, take_split]
    rw [Nat.succ_mul i0] at p4
    by_cases e : (xs.drop (i0 * l.length)).take l.length = (ys.drop (i0 * l.length)).take l.length
    · rw [decide_eq_true e]
      simp only [Bool.not_true, Bool.false_eq_true, if_false]
      rw [p4, e]
      congr 1
      simp
    · have hxl := hx1.1
      have hyl := hy1.1
      rw [decide_eq_false e, decide_eq_false (fun e' => e (List.append_inj e' (by omega)).1)]
      simp

open Classical in
theorem flat_eqS {P : Program} (d : Nat) : ∀ (n : Nat) (t : TypeId) (ks : List (Option IntKind)), flatOf P n t = some ks → EqS P (d + n) t ks
  | 0, _, _, h => by simp [flatOf] at h
  | n + 1, t, ks, h => by
    intro w xs ys hx hy
    have IH : ∀ t l, flatOf P n t = some l → l.length = P.cellsOf t → EqS P (d + n) t l := fun t l hl _ => flat_eqS d n t l hl
    unfold flatOf at h
    split at h
    · rename_i hu
      cases h
      obtain ⟨v, hv, a, rfl⟩ := hx.2 0 none rfl
      obtain ⟨u, hu', b, rfl⟩ := hy.2 0 none rfl
      match xs, ys, hx.1, hy.1, hv, hu' with
      | [x], [y], _, _, hv, hu' =>
        simp at hv hu'
        subst hv; subst hu'
        simp [packV, hu, ← Nat.add_assoc, Op.equalIn, run_underlying hu]
        by_cases e : a = b <;> simp [e]
    · rename_i q hu
      cases h
      obtain ⟨v, hv, a, rfl⟩ := hx.2 0 (some q) rfl
      obtain ⟨u, hu', b, rfl⟩ := hy.2 0 (some q) rfl
      match xs, ys, hx.1, hy.1, hv, hu' with
      | [x], [y], _, _, hv, hu' =>
        simp at hv hu'
        subst hv; subst hu'
        simp [packV, hu, ← Nat.add_assoc, Op.equalIn, run_underlying hu]
        by_cases e : a = b <;> simp [e]
    · rename_i fs hu
      split at h
      · rename_i l hl
        split at h
        · rename_i hlen
          cases h
          have hfo : P.fieldsOf t = fs := by simp [Program.fieldsOf, hu]
          have hu' : P.underlying t = some (.struct (P.fieldsOf t)) := by rw [hfo]; exact hu
          have hnames : ∀ f ∈ fs.toList, f.name ≠ "_" := by
            intro f hf
            have := Array.all_eq_true_iff_forall_mem.1 hlen.2.1 f (by simpa using hf)
            simpa using this
          have p := run_eqFields_flat IH w xs ys fs.toList 0 _ hl hnames (by rw [List.drop_zero, ← hx.1, List.take_length]; exact hx) (by rw [List.drop_zero, ← hy.1, List.take_length]; exact hy)
          have e1 : packV P t xs = .agg xs.toArray := by simp [packV, hu]
          have e2 : packV P t ys = .agg ys.toArray := by simp [packV, hu]
          rw [e1, e2, ← Nat.add_assoc, run_equalIn_struct w (d + n) t _ _ hu' hlen.2.2, hfo, p]
          rw [List.drop_zero, List.drop_zero, List.take_of_length_le (by rw [hx.1]; omega), List.take_of_length_le (by rw [hy.1]; omega)]
        · cases h
      · cases h
    · rename_i m e hu
      split at h
      · rename_i l hl
        split at h
        · rename_i hlen
          cases h
          have hks : (List.replicate m l).flatten.length = m * l.length := by simp
          have hpx : ∀ i, i < m → FlatS l ((xs.drop ((0 + i) * l.length)).take l.length) := fun i hi => by
            have h1 : (i + 1) * l.length ≤ m * l.length := Nat.mul_le_mul_right _ (by omega)
            rw [Nat.succ_mul] at h1
            rw [Nat.zero_add]
            exact hx.piece (by omega) (fun j hj => replicate_piece m i j hi hj)
          have hpy : ∀ i, i < m → FlatS l ((ys.drop ((0 + i) * l.length)).take l.length) := fun i hi => by
            have h1 : (i + 1) * l.length ≤ m * l.length := Nat.mul_le_mul_right _ (by omega)
            rw [Nat.succ_mul] at h1
            rw [Nat.zero_add]
            exact hy.piece (by omega) (fun j hj => replicate_piece m i j hi hj)
          have p := run_eqItems_flat hl hlen.1 (IH e l hl hlen.1) w xs ys m 0 hpx hpy
          have e1 : packV P t xs = .agg xs.toArray := by simp [packV, hu]
          have e2 : packV P t ys = .agg ys.toArray := by simp [packV, hu]
          have hie : ∃ i, P.info? e = some i := by
            cases n with
            | zero => simp [flatOf] at hl
            | succ n =>
              unfold flatOf at hl
              split at hl
              all_goals first
                | (rename_i hu2; exact info_of_underlying hu2)
                | cases hl
          obtain ⟨i, hi⟩ := hie
          rw [e1, e2, ← Nat.add_assoc, run_equalIn_array w (d + n) _ _ hu hi, List.range_eq_range', p]
          rw [Nat.zero_mul, List.drop_zero, List.drop_zero, ← hks, List.take_of_length_le (by rw [hx.1]; omega), List.take_of_length_le (by rw [hy.1]; omega)]
        · cases h
      · cases h
    · cases h

open Classical in
/-- '==' between two values of a flat aggregate's type, as the walk meets it. -/
theorem run_equalIn_flat {P : Program} {t : TypeId} {n d : Nat} {ks : List (Option IntKind)} (hn : n ≤ d) (hk : flatOf P n t = some ks) (hagg : (aggSize P t).isSome = true)
    {xs ys : List Value} (hx : FlatS ks xs) (hy : FlatS ks ys) (w : World) : (Op.equalIn d t (.agg xs.toArray) (.agg ys.toArray)).run P w = .ok (decide (xs = ys)) w := by
  have h := flat_eqS (P := P) (d - n) n t ks hk w xs ys hx hy
  rw [show d - n + n = d by omega] at h
  have hp : ∀ zs : List Value, packV P t zs = .agg zs.toArray := by
    intro zs
    unfold aggSize at hagg
    unfold packV
    split at hagg
    · rename_i hu; rw [hu]
    · rename_i hu; rw [hu]
    · simp at hagg
  rwa [hp, hp] at h

/-! ### a slice that came in -/
section
variable {H : Type} {enc : TypeId × Value → H} {P : Program} {w : World} {base : Nat}

/-- A slice of elements of whatever type: its cells, and the reading of each element. -/
theorem open_sl {t e : TypeId} {r : Reach} {b0 : Nat} {v : Value} {d : DataW H} {p : List MemPlace} (ht : P.underlying t = some (.slice e)) (hv : Value.okWide P w r b0 t v)
    (hC : 0 < P.cellsOf e) (h : DataW.Trod enc P w 0 (fun _ => true) true t v d p) :
    ∃ (A : Option Addr) (len cap : Nat) (xs : List Value), v = .slice A len cap ∧ len ≤ cap ∧ cap ≤ maxLen ∧ Sl w w.heap.size (P.cellsOf e) A len xs ∧
      (∀ i, i < len → ∃ n y, DataW.trod enc P w 0 (fun _ => true) true n e ((xs.drop (i * P.cellsOf e)).take (P.cellsOf e)) = some y) ∧ (A = none → len = 0 ∧ cap = 0) ∧
      (d = .nil ∧ cap = 0 ∨ ∃ es sp, d = .slice es sp ∧ es.length + sp.length = cap) := by
  obtain ⟨A, len, cap, rfl⟩ := okWide_slice ht hv
  obtain ⟨fuel, hf⟩ := h
  rcases Go.Deep.open_slice ht hf with ⟨hcs, hx⟩ | ⟨a, len', cap', m, n, D, Pl, hcs, hb, hl, hm, hmm, hx, hi⟩
  · simp [Value.cells] at hcs
    obtain ⟨rfl, rfl, rfl⟩ := hcs
    simp only [Prod.mk.injEq] at hx
    exact ⟨none, 0, 0, [], rfl, Nat.le_refl _, Nat.zero_le _, by simpa using ⟨by simp, fun h => absurd h (by omega)⟩, fun i hi => absurd hi (by omega), fun _ => ⟨rfl, rfl⟩, .inl ⟨hx.1, rfl⟩⟩
  · simp [Value.cells] at hcs
    obtain ⟨rfl, rfl, rfl⟩ := hcs
    simp only [if_true] at hmm
    subst hmm
    have hcells : ∀ i, i < m → ∃ cs', cs'.length = P.cellsOf e ∧ (∀ j, j < P.cellsOf e → w.cell? (a.add (i * P.cellsOf e + j)) = cs'[j]?) ∧ DataW.trod enc P w 0 (fun _ => true) true n e cs' = some (D i, Pl i) := by
      intro i him
      obtain ⟨cs', hc, ht'⟩ := hi i him
      obtain ⟨_, hcl, hat⟩ := World.cells?_some hc
      exact ⟨cs', hcl, fun j hj => by rw [← hat j hj, Go.Deep.add_add], ht'⟩
    let xs := (List.range (len * P.cellsOf e)).map fun j => (w.cell? (a.add j)).getD undef
    have hxs : ∀ i, i < len → ∀ j, j < P.cellsOf e → xs[i * P.cellsOf e + j]? = w.cell? (a.add (i * P.cellsOf e + j)) := by
      intro i hil j hj
      obtain ⟨cs', hcl, hat, _⟩ := hcells i (by omega)
      have h1 : (i + 1) * P.cellsOf e ≤ len * P.cellsOf e := Nat.mul_le_mul_right _ (by omega)
      rw [Nat.succ_mul] at h1
      have hc2 : cs'[j]? = some (cs'[j]'(by omega)) := List.getElem?_eq_getElem (by omega)
      rw [hat j hj, hc2]
      simp only [xs, List.getElem?_map, List.getElem?_range (show i * P.cellsOf e + j < len * P.cellsOf e by omega), Option.map_some, hat j hj, hc2, Option.getD_some]
    have hxl : xs.length = len * P.cellsOf e := by simp [xs]
    refine ⟨some a, len, m, xs, rfl, hl, hm, ⟨hxl, fun hn => ?_⟩, fun i hil => ?_, (fun h => by cases h), .inr ⟨_, _, (Prod.mk.inj hx).1, by simp; omega⟩⟩
    · obtain ⟨b, o, s⟩ := a
      obtain ⟨cs', hcl, hat, _⟩ := hcells 0 (by omega)
      have h2 := hat 0 hC
      rw [List.getElem?_eq_getElem (by omega)] at h2
      simp [Addr.add] at h2
      have hs : s = none := World.cell?_spot h2
      subst hs
      refine ⟨b, o, rfl, World.block_lt_of_cell? w _ h2, fun i u hu => ?_⟩
      have hil : i < len * P.cellsOf e := by have := (List.getElem?_eq_some_iff.1 hu).1; omega
      have e1 : i / P.cellsOf e * P.cellsOf e + i % P.cellsOf e = i := by rw [Nat.mul_comm]; exact Nat.div_add_mod i _
      have h3 := hxs (i / P.cellsOf e) ((Nat.div_lt_iff_lt_mul hC).2 hil) (i % P.cellsOf e) (Nat.mod_lt _ hC)
      rw [e1, hu, Addr.add_lit] at h3
      exact h3.symm
    · obtain ⟨cs', hcl, hat, ht'⟩ := hcells i (by omega)
      refine ⟨n, (D i, Pl i), ?_⟩
      have : (xs.drop (i * P.cellsOf e)).take (P.cellsOf e) = cs' := by
        apply List.ext_getElem?
        intro j
        simp only [List.getElem?_take, List.getElem?_drop]
        split
        · rename_i hj
          rw [hxs i hil j hj, hat j hj]
        · rw [List.getElem?_eq_none (by omega)]
      rw [this]; exact ht'
end

/-- pieces of one length, each the cells of something -/
theorem chunks {α : Type} (enc : α → List Value) (C : Nat) (hC : ∀ a, (enc a).length = C) (ok : α → Prop) : ∀ (n : Nat) (xs : List Value), xs.length = n * C →
    (∀ i, i < n → ∃ a, ok a ∧ (xs.drop (i * C)).take C = enc a) → ∃ l : List α, l.length = n ∧ xs = l.flatMap enc ∧ ∀ a ∈ l, ok a
  | 0, xs, hl, _ => ⟨[], rfl, by simpa using hl, by simp⟩
  | n + 1, xs, hl, h => by
    obtain ⟨a, ha, e⟩ := h 0 (by omega)
    rw [Nat.zero_mul, List.drop_zero] at e
    obtain ⟨l, h1, h2, h3⟩ := chunks enc C hC ok n (xs.drop C) (by simp [hl, Nat.succ_mul]) (fun i hi => by
      obtain ⟨b, hb, eb⟩ := h (i + 1) (by omega)
      exact ⟨b, hb, by rw [List.drop_drop, ← eb, Nat.succ_mul, Nat.add_comm]⟩)
    refine ⟨a :: l, by simp [h1], ?_, by simpa using ⟨ha, h3⟩⟩
    rw [List.flatMap_cons, ← h2, ← e, List.take_append_drop]

section
variable {H : Type} {enc : TypeId × Value → H} {P : Program} {w : World}
theorem open_bools {t e : TypeId} {r : Reach} {b0 : Nat} {v : Value} {d : DataW H} {p : List MemPlace} (ht : P.underlying t = some (.slice e)) (he : P.underlying e = some .bool) (hC : P.cellsOf e = 1) (hv : Value.okWide P w r b0 t v)
    (h : DataW.Trod enc P w 0 (fun _ => true) true t v d p) :
    ∃ (A : Option Addr) (len cap : Nat) (l : List Bool), v = .slice A len cap ∧ len ≤ cap ∧ cap ≤ maxLen ∧ Sl w w.heap.size 1 A len (bools l) := by
  obtain ⟨A, len, cap, xs, rfl, h1, h2, h3, h4, _⟩ := open_sl ht hv (by rw [hC]; omega) h
  rw [hC] at h3 h4
  obtain ⟨l, _, rfl, _⟩ := chunks (fun b : Bool => [Value.bool b]) 1 (fun _ => rfl) (fun _ => True) len xs h3.len (fun i hi => by
    obtain ⟨n, y, hy⟩ := h4 i hi
    obtain ⟨b, hb, _⟩ := DataW.trod_bool he hy
    exact ⟨b, trivial, hb⟩)
  exact ⟨A, len, cap, l, rfl, h1, h2, by rw [show bools l = l.flatMap fun b => [Value.bool b] from List.map_eq_flatMap]; exact h3⟩
end
end Go.Proofs.YtpfkhlfkcmgdlaaDoor
