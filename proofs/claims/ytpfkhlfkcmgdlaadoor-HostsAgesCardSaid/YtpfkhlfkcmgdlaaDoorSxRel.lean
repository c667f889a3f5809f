/- The symbolic evaluator: what its states say of the model's frame and world. No Go text is in sight. -/
import Derived.Test.YtpfkhlfkcmgdlaaDoorSxDef
set_option linter.unusedSimpArgs false
set_option linter.unusedVariables false
namespace Go.Proofs.YtpfkhlfkcmgdlaaDoor
open Go.RowKit

def Ext (β β' : Nm) : Prop := ∀ id L, β id = some L → β' id = some L
theorem Ext.refl (β : Nm) : Ext β β := fun _ _ h => h
theorem Ext.trans {a b c : Nm} (h : Ext a b) (k : Ext b c) : Ext a c := fun id L e => k id L (h id L e)

section
variable {β β' : Nm}
theorem ad_ext (h : Ext β β') {id k j : Nat} {a : Addr} (e : ad β id k j = some a) : ad β' id k j = some a := by
  unfold ad at *
  cases hb : β id with
  | none => simp [hb] at e
  | some L => rw [h id L hb]; simpa [hb] using e
theorem γp_ext (h : Ext β β') : ∀ {l : List (Nat × Nat × Nat)} {vs : List Value}, γp β l = some vs → γp β' l = some vs
  | [], vs, e => e
  | (id, k, j) :: r, vs, e => by
    simp only [γp] at e ⊢
    cases ha : ad β id k j with
    | none => simp [ha] at e
    | some a =>
      cases hr : γp β r with
      | none => simp [ha, hr] at e
      | some us => rw [ad_ext h ha, γp_ext h hr]; simpa [ha, hr] using e
theorem γc_ext (h : Ext β β') {x : AC} {v : Value} (e : γc β x = some v) : γc β' x = some v := by
  cases x with
  | v x => exact e
  | ptr id k j =>
    simp only [γc] at e ⊢
    cases ha : ad β id k j with
    | none => simp [ha] at e
    | some a => rw [ad_ext h ha]; simpa [ha] using e
  | sl id k j len cap =>
    simp only [γc] at e ⊢
    cases hb : β id with
    | none => simp [hb] at e
    | some L => rw [h id L hb]; simpa [hb] using e
  | fn f caps =>
    simp only [γc] at e ⊢
    cases hp : γp β caps with
    | none => simp [hp] at e
    | some vs => rw [γp_ext h hp]; simpa [hp] using e
  | yld id =>
    simp only [γc] at e ⊢
    cases hb : β id with
    | none => simp [hb] at e
    | some L => rw [h id L hb]; simpa [hb] using e
theorem γs_ext (h : Ext β β') : ∀ {l : List AC} {vs : List Value}, γs β l = some vs → γs β' l = some vs
  | [], vs, e => e
  | x :: r, vs, e => by
    simp only [γs] at e ⊢
    cases hx : γc β x with
    | none => simp [hx] at e
    | some u =>
      cases hr : γs β r with
      | none => simp [hx, hr] at e
      | some us => rw [γc_ext h hx, γs_ext h hr]; simpa [hx, hr] using e
theorem γ1_ext (h : Ext β β') {x : AV} {v : Value} (e : γ1 β x = some v) : γ1 β' x = some v := by
  cases x with
  | c x => exact γc_ext h e
  | agg l =>
    simp only [γ1] at e ⊢
    cases hp : γs β l with
    | none => simp [hp] at e
    | some vs => rw [γs_ext h hp]; simpa [hp] using e
  | tup l => cases e
  | any => cases e
theorem γt_ext (h : Ext β β') : ∀ {l : List AV} {vs : List Value}, γt β l = some vs → γt β' l = some vs
  | [], vs, e => e
  | x :: r, vs, e => by
    simp only [γt] at e ⊢
    cases hx : γ1 β x with
    | none => simp [hx] at e
    | some u =>
      cases hr : γt β r with
      | none => simp [hx, hr] at e
      | some us => rw [γ1_ext h hx, γt_ext h hr]; simpa [hx, hr] using e
theorem γ_ext (h : Ext β β') {x : AV} {v : Value} (e : γ β x = some v) : γ β' x = some v := by
  cases x with
  | tup l =>
    simp only [γ] at e ⊢
    cases hp : γt β l with
    | none => simp [hp] at e
    | some vs => rw [γt_ext h hp]; simpa [hp] using e
  | c x => exact γ1_ext (x := .c x) h e
  | agg x => exact γ1_ext (x := .agg x) h e
  | any => cases e

theorem γs_iff : ∀ {l : List AC} {vs : List Value}, γs β l = some vs ↔ vs.length = l.length ∧ ∀ (i : Nat) x, l[i]? = some x → ∃ u, vs[i]? = some u ∧ γc β x = some u
  | [], vs => by
    constructor
    · intro h; simp [γs] at h; subst h; simp
    · rintro ⟨h, _⟩; simp at h; subst h; rfl
  | x :: r, vs => by
    constructor
    · intro h
      simp only [γs] at h
      cases hx : γc β x with
      | none => simp [hx] at h
      | some u =>
        cases hr : γs β r with
        | none => simp [hx, hr] at h
        | some us =>
          simp [hx, hr] at h
          subst h
          obtain ⟨h1, h2⟩ := γs_iff.1 hr
          refine ⟨by simp [h1], fun i y hy => ?_⟩
          cases i with
          | zero => simp at hy; subst hy; exact ⟨u, rfl, hx⟩
          | succ i => simp at hy; simpa using h2 i y hy
    · rintro ⟨h1, h2⟩
      cases vs with
      | nil => simp at h1
      | cons u us =>
        obtain ⟨u', hu, hx⟩ := h2 0 x rfl
        simp at hu
        subst hu
        have hr : γs β r = some us := γs_iff.2 ⟨by simpa using h1, fun i y hy => by simpa using h2 (i + 1) y (by simpa using hy)⟩
        simp only [γs]
        rw [hx, hr]
theorem γs_length {l : List AC} {vs : List Value} (h : γs β l = some vs) : vs.length = l.length := (γs_iff.1 h).1
theorem γs_get {l : List AC} {vs : List Value} (h : γs β l = some vs) {i : Nat} {x : AC} (hx : l[i]? = some x) : ∃ u, vs[i]? = some u ∧ γc β x = some u := (γs_iff.1 h).2 i x hx
theorem γs_append {l l' : List AC} {vs vs' : List Value} (h : γs β l = some vs) (h' : γs β l' = some vs') : γs β (l ++ l') = some (vs ++ vs') := by
  rw [γs_iff]
  refine ⟨by simp [γs_length h, γs_length h'], fun i x hx => ?_⟩
  by_cases hi : i < l.length
  · rw [List.getElem?_append_left hi] at hx
    rw [List.getElem?_append_left (by rw [γs_length h]; exact hi)]
    exact γs_get h hx
  · rw [List.getElem?_append_right (by omega)] at hx
    rw [List.getElem?_append_right (by rw [γs_length h]; omega), γs_length h]
    exact γs_get h' hx
theorem γs_drop {l : List AC} {vs : List Value} (h : γs β l = some vs) (n : Nat) : γs β (l.drop n) = some (vs.drop n) := by
  rw [γs_iff]
  refine ⟨by simp [γs_length h], fun i x hx => ?_⟩
  rw [List.getElem?_drop] at hx ⊢
  exact γs_get h hx
theorem γs_take {l : List AC} {vs : List Value} (h : γs β l = some vs) (n : Nat) : γs β (l.take n) = some (vs.take n) := by
  rw [γs_iff]
  refine ⟨by simp [γs_length h], fun i x hx => ?_⟩
  rw [List.getElem?_take] at hx ⊢
  split at hx
  · rename_i hi; rw [if_pos hi]; exact γs_get h hx
  · cases hx
theorem γs_vs : ∀ (l : List Value), γs β (l.map AC.v) = some l
  | [] => rfl
  | x :: r => by rw [List.map_cons]; simp only [γs, γc]; rw [γs_vs r]
theorem γ_ofV (v : Value) : γ β (ofV v) = some v := by
  cases v <;> first
    | rfl
    | (rename_i cs
       simp [ofV, γ, γ1, γs_vs])
theorem one_γc {x : AC} {u : Value} (h : AC.one x = true) (e : γc β x = some u) : u.oneCell' = true := by
  cases x with
  | v x => cases e; exact h
  | ptr id k j => simp only [γc] at e; split at e <;> simp at e; subst e; rfl
  | sl id k j len cap =>
    simp only [γc] at e
    split at e
    · split at e
      · split at e <;> simp at e
        subst e; rfl
      · simp at e; subst e; rfl
    · cases e
  | fn f caps => simp only [γc] at e; split at e <;> simp at e; subst e; rfl
  | yld id =>
    simp only [γc] at e
    split at e
    · split at e <;> simp at e
      subst e; rfl
    · cases e
theorem one_γs {l : List AC} {vs : List Value} (h : l.all AC.one = true) (e : γs β l = some vs) : ∀ v ∈ vs, v.oneCell' = true := by
  intro v hv
  obtain ⟨i, hi⟩ := List.getElem?_of_mem hv
  have hlt : i < l.length := by have := (List.getElem?_eq_some_iff.1 hi).1; rw [γs_length e] at this; exact this
  obtain ⟨u, hu, hg⟩ := γs_get e (List.getElem?_eq_getElem hlt)
  rw [hi] at hu
  cases hu
  exact one_γc (List.all_eq_true.1 h _ (List.getElem_mem hlt)) hg
theorem γ_cells {x : AV} {l : List AC} {v : Value} (h : x.cells = some l) (e : γ β x = some v) : ∃ vs, γs β l = some vs ∧ (vs.all (·.oneCell') = true → v.cells.toList = vs) ∧ ((∃ y, x = .c y ∧ l = [y] ∧ vs = [v]) ∨ (x = .agg l ∧ v = .agg vs.toArray)) := by
  cases x with
  | c y =>
    cases h
    have e' : γc β y = some v := e
    refine ⟨[v], by simp only [γs]; rw [e'], fun h1 => ?_, .inl ⟨y, rfl, rfl, rfl⟩⟩
    simp at h1
    cases v <;> first | rfl | (simp [Value.oneCell'] at h1)
  | agg l' =>
    cases h
    simp only [γ, γ1] at e
    split at e
    · rename_i vs hvs
      cases e
      exact ⟨vs, hvs, fun _ => by simp [Value.cells], .inr ⟨rfl, rfl⟩⟩
    · cases e
  | tup l => cases h
  | any => cases h
end

/-- the frame -/
def FrOk (β : Nm) (tm : List AV) (tmps : Array Value) : Prop :=
  tmps.size = tm.length ∧ ∀ (t : Nat) av, tm[t]? = some av → av = .any ∨ ∃ v, γ β av = some v ∧ tmps[t]? = some v
theorem FrOk.ext {β β' : Nm} {tm : List AV} {tmps : Array Value} (h : FrOk β tm tmps) (e : Ext β β') : FrOk β' tm tmps :=
  ⟨h.1, fun t av ht => (h.2 t av ht).imp id fun ⟨v, h1, h2⟩ => ⟨v, γ_ext e h1, h2⟩⟩

/-! ### memory -/
structure Ctx where
  w0 : World
  base : Nat
  S : Nat → Prop

structure BlkOk (C : Ctx) (β : Nm) (w : World) (L : Loc) (x : ABlk) : Prop where
  sz : L.s = x.sz
  lit : ∀ l, x.cs = .lit l → x.sz = 0
  cells : ∀ k j, x.inb k (j + 1) = true → L.nil = false ∧ ∃ u, γc β (x.cs.get k j) = some u ∧ u.oneCell' = true ∧ w.cell? ⟨L.b, L.o + (k * L.s + j), none⟩ = some u
  lt : L.nil = false → L.b < w.heap.size
  own : x.own = true → L.nil = false → L.o = 0 ∧ (C.base ≤ L.b ∨ C.S L.b) ∧ ∃ cs, w.heap[L.b]? = some (.cells cs x.ty (0, 0)) ∧
    (x.row = true → cs.size = L.cap * x.sz ∧ 0 < x.sz ∧ ∃ n f, x.cs = .arr n f ∧ n ≤ L.cap ∧ L.cap ≤ maxLen)
  arrl : ∀ n f, x.cs = .arr n f → ∀ i, i < n → (f i).length = x.sz
  rowc : x.row = true → L.nil = false → ∀ n f, x.cs = .arr n f → n ≤ L.cap

/-- a range over a function, or the block of its deferred calls, as it lies in the heap -/
def ObjOk (β : Nm) (w : World) (b : Nat) : AObj → Prop
  | .loop st pd tm ps as bd dn => ∃ (fn : FuncId) (tmps : Array Value) (D : Loc), FrOk β tm tmps ∧ β dn = some D ∧ D.nil = false ∧
      w.heap[b]? = some (.loop { state := st, pending := pd, fn := fn, tmps := tmps, params := ps, assign := as, body := bd, defers := D.b })
  | .dfr op => w.heap[b]? = some (.deferred (if op then some [] else none))
theorem ObjOk.keep {β β' : Nm} {w w' : World} {b : Nat} {o : AObj} (h : ObjOk β w b o) (he : Ext β β') (hh : w'.heap[b]? = w.heap[b]?) : ObjOk β' w' b o := by
  cases o with
  | loop st pd tm ps as bd dn =>
    obtain ⟨fn, tmps, D, h1, h2, h3, h4⟩ := h
    exact ⟨fn, tmps, D, h1.ext he, he _ _ h2, h3, by rw [hh]; exact h4⟩
  | dfr op => show w'.heap[b]? = _; rw [hh]; exact h
structure Rel (C : Ctx) (β : Nm) (m : AMem) (w : World) : Prop where
  os : w.os = C.w0.os
  tape : w.tape = C.w0.tape
  output : w.output = C.w0.output
  size : C.w0.heap.size ≤ w.heap.size
  base : C.base ≤ C.w0.heap.size
  out : ∀ b, b < C.base → ¬ C.S b → w.heap[b]? = C.w0.heap[b]?
  blk : ∀ id x, look m id = some x → ∃ L, β id = some L ∧ BlkOk C β w L x
  sep : ∀ id id' x x' L L', look m id = some x → look m id' = some x' → id ≠ id' → x.own = true → β id = some L → β id' = some L' → L.nil = false → L'.nil = false → L.b ≠ L'.b
  glob : ∀ g L, β (gid g) = some L → L.b = g ∧ L.o = 0 ∧ L.s = 0 ∧ L.nil = false
  objs : ∀ id x o, look m id = some x → x.cs = .obj o → ∃ L, β id = some L ∧ L.nil = false ∧ (C.base ≤ L.b ∨ C.S L.b) ∧ ObjOk β w L.b o ∧
    ∀ id' x' L', id' ≠ id → look m id' = some x' → β id' = some L' → L'.nil = false → L'.b ≠ L.b

def Sub (m m2 : AMem) : Prop := ∀ id x, look m id = some x → look m2 id = some x
theorem Sub.refl (m : AMem) : Sub m m := fun _ _ h => h
theorem Sub.trans {a b c : AMem} (h : Sub a b) (k : Sub b c) : Sub a c := fun id x e => k id x (h id x e)

theorem Rel.weaken {C : Ctx} {β : Nm} {m m2 : AMem} {w : World} (h : Rel C β m2 w) (hs : Sub m m2) : Rel C β m w :=
  ⟨h.os, h.tape, h.output, h.size, h.base, h.out, fun id x e => h.blk id x (hs id x e), fun id id' x x' L L' e e' hne ho => h.sep id id' x x' L L' (hs _ _ e) (hs _ _ e') hne ho, h.glob,
    fun id x o e ho => by
      obtain ⟨L, h1, h2, h3, h4, h5⟩ := h.objs id x o (hs _ _ e) ho
      exact ⟨L, h1, h2, h3, h4, fun id' x' L' g1 g2 => h5 id' x' L' g1 (hs _ _ g2)⟩⟩

theorem look_cons (i : Nat) (b : ABlk) (r : AMem) (id : Nat) : look ((i, b) :: r) id = match Nat.beq i id with | true => some b | false => look r id := rfl
theorem look_append (m n : AMem) (id : Nat) : look (m ++ n) id = match look m id with | some x => some x | none => look n id := by
  induction m with
  | nil => rfl
  | cons h t ih =>
    obtain ⟨i, b⟩ := h
    rw [List.cons_append, look_cons, look_cons]
    cases Nat.beq i id with
    | true => rfl
    | false => exact ih
theorem look_updM (m : AMem) (id id' : Nat) (b : ABlk) (x : ABlk) (h : look m id = some x) : look (updM m id b) id' = if id' = id then some b else look m id' := by
  induction m with
  | nil => cases h
  | cons y t ih =>
    obtain ⟨i, z⟩ := y
    simp only [updM]
    rw [look_cons] at h
    cases hb : Nat.beq i id with
    | true =>
      have hi : i = id := Nat.eq_of_beq_eq_true hb
      subst hi
      simp only [look_cons]
      by_cases e : id' = i
      · subst e; rw [hb]; simp
      · have : Nat.beq i id' = false := by
          cases h' : Nat.beq i id' with
          | true => exact absurd (Nat.eq_of_beq_eq_true h').symm e
          | false => rfl
        rw [this]; simp [e]
    | false =>
      rw [hb] at h
      simp only [look_cons]
      cases hb' : Nat.beq i id' with
      | true =>
        have hi : i = id' := Nat.eq_of_beq_eq_true hb'
        subst hi
        have : i ≠ id := fun e => by subst e; rw [hb'] at hb; cases hb
        simp [this]
      | false => simpa using ih h

theorem evA_ok {C : Ctx} {β : Nm} {tm : List AV} {m m2 : AMem} {w : World} {a : Act} {x : Operand} {av : AV} (hf : FrOk β tm a.tmps) (hr : Rel C β m2 w) (hs : Sub m m2) (h : evA tm m x = some av) :
    av = .any ∨ γ β av = some (a.eval x) := by
  cases x with
  | tmp t =>
    simp only [evA] at h
    rcases hf.2 t av h with h1 | ⟨v, h1, h2⟩
    · exact .inl h1
    · exact .inr (by rw [h1]; simp [Act.eval, h2])
  | const v => simp only [evA, Option.some.injEq] at h; subst h; exact .inr (γ_ofV v)
  | global g =>
    simp only [evA] at h
    split at h
    · rename_i x hx
      simp only [Option.some.injEq] at h
      subst h
      obtain ⟨L, hL, _⟩ := hr.blk _ _ (hs _ _ hx)
      obtain ⟨h1, h2, h3, h4⟩ := hr.glob g L hL
      refine .inr ?_
      simp [γ, γ1, γc, ad, hL, h1, h2, h3, h4, Act.eval]
    · cases h
  | func f => simp only [evA, Option.some.injEq] at h; subst h; exact .inr rfl
end Go.Proofs.YtpfkhlfkcmgdlaaDoor
