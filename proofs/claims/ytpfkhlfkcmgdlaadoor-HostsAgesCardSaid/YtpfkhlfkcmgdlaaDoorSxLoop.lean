/- The symbolic evaluator: loops by a relation at the head of each round; names given anew. No Go text is in sight. -/
import Derived.Test.YtpfkhlfkcmgdlaaDoorSxFast
set_option linter.unusedSimpArgs false
set_option linter.unusedVariables false
namespace Go.Proofs.YtpfkhlfkcmgdlaaDoor
open Go.RowKit

def mkE (P : Program) (ct : List (FuncId × CtF)) : Env := ⟨P, ct⟩
def lkA : List (Nat × AV) → Nat → AV
  | [], _ => .any
  | (i, v) :: r, t => match Nat.beq i t with | true => v | false => lkA r t
def mkFrG (lv : List (Nat × AV)) : Nat → Nat → List AV
  | 0, _ => []
  | n + 1, i => lkA lv i :: mkFrG lv n (i + 1)
/-- a frame of 'n' slots of which these are known -/
def mkFr (n : Nat) (lv : List (Nat × AV)) : List AV := mkFrG lv n 0
theorem mkFrG_length (lv : List (Nat × AV)) : ∀ n i, (mkFrG lv n i).length = n
  | 0, _ => rfl
  | n + 1, i => by simp [mkFrG, mkFrG_length lv n (i + 1)]
theorem mkFrG_get (lv : List (Nat × AV)) : ∀ n i t, (mkFrG lv n i)[t]? = if t < n then some (lkA lv (i + t)) else none
  | 0, _, t => by simp [mkFrG]
  | n + 1, i, 0 => by simp [mkFrG]
  | n + 1, i, t + 1 => by
    simp only [mkFrG, List.getElem?_cons_succ]
    rw [mkFrG_get lv n (i + 1) t, show i + 1 + t = i + (t + 1) by omega]
    simp
theorem lkA_mem : ∀ {lv : List (Nat × AV)} {t : Nat}, lkA lv t = .any ∨ (t, lkA lv t) ∈ lv
  | [], t => .inl rfl
  | (i, v) :: r, t => by
    simp only [lkA]
    split
    · rename_i h
      have := Nat.eq_of_beq_eq_true h
      subst this
      exact .inr (by simp)
    · rcases @lkA_mem r t with h | h
      · exact .inl h
      · exact .inr (List.mem_cons_of_mem _ h)

/-- what a name was: another one; or it is new, and nil (of a block of that stride) -/
abbrev Rn := Nat → Nat ⊕ Nat
def rnm (n nh n' : Nat) (ρ : Rn) (β : Nm) : Nm := fun id =>
  if id < n ∨ n' ≤ id then β id else if id < nh then (match ρ id with | .inl o => β o | .inr s => some ⟨0, 0, s, 0, true⟩) else none

/-- From one state to another one of the same frame and world: names of [n, nh) given anew, those of [nh, n') free. -/
def Wk (n nh n' : Nat) (tm1 : List AV) (m1 : AMem) (tm2 : List AV) (m2 : AMem) : Prop :=
  ∀ (C : Ctx) (β1 : Nm) (w : World) (tmps : Array Value), FrOk β1 tm1 tmps → Rel C β1 m1 w →
    ∃ β2 : Nm, (∀ id, id < n ∨ n' ≤ id → β2 id = β1 id) ∧ (∀ id, nh ≤ id → id < n' → β2 id = none) ∧ FrOk β2 tm2 tmps ∧ Rel C β2 m2 w

section
variable {n nh n' : Nat} {ρ : Rn} {tm1 : List AV} {m1 : AMem}

def GW (n nh n' : Nat) (ρ : Rn) (a1 a2 : AV) : Prop := ∀ (β : Nm) (v : Value), γ β a1 = some v → γ (rnm n nh n' ρ β) a2 = some v
def FrW (n nh n' : Nat) (ρ : Rn) (tm1 : List AV) : List (Nat × AV) → Prop
  | [] => True
  | (t, av) :: r => (∃ a1, tm1[t]? = some a1 ∧ a1 ≠ .any ∧ GW n nh n' ρ a1 av) ∧ FrW n nh n' ρ tm1 r
/-- cells that bear no name, or an old one -/
def lowC (n : Nat) : AC → Bool
  | .v _ => true
  | .ptr id _ _ => Nat.blt id n
  | .sl id _ _ _ _ => Nat.blt id n
  | .fn _ caps => caps.all fun p => Nat.blt p.1 n
  | .yld id => Nat.blt id n
mutual
def lowV (n : Nat) : AV → Bool
  | .c x => lowC n x
  | .agg l => l.all (lowC n)
  | .tup l => lowT n l
  | .any => true
def lowT (n : Nat) : List AV → Bool
  | [] => true
  | x :: r => lowV n x && lowT n r
end
def lowO (n : Nat) : AObj → Bool
  | .loop _ _ tm _ _ _ dn => lowT n tm && Nat.blt dn n
  | .dfr _ => true
def lowB (n : Nat) (x : ABlk) : Prop := (∀ k j, x.inb k (j + 1) = true → lowC n (x.cs.get k j) = true) ∧ ∀ o, x.cs = .obj o → lowO n o = true
theorem lowB_cells {n : Nat} {x : ABlk} (h : ∀ k j, lowC n (x.cs.get k j) = true) (ho : ∀ o, x.cs = .obj o → False) : lowB n x := ⟨fun k j _ => h k j, fun o e => (ho o e).elim⟩
/-- of a frame less is known -/
def tmLe (tm tm' : List AV) : Prop := tm.length = tm'.length ∧ ∀ (t : Nat) av, tm'[t]? = some av → av = .any ∨ tm[t]? = some av
def OLe : AObj → AObj → Prop
  | .loop st pd tm ps as bd dn, .loop st' pd' tm' ps' as' bd' dn' => st = st' ∧ pd = pd' ∧ tmLe tm tm' ∧ ps = ps' ∧ as = as' ∧ bd = bd' ∧ dn = dn'
  | .dfr a, .dfr b => a = b
  | _, _ => False
theorem tmLe.refl (tm : List AV) : tmLe tm tm := ⟨rfl, fun _ _ h => .inr h⟩
theorem OLe.refl : ∀ (o : AObj), OLe o o
  | .loop _ _ _ _ _ _ _ => ⟨rfl, rfl, tmLe.refl _, rfl, rfl, rfl, rfl⟩
  | .dfr _ => rfl
theorem FrOk.le {β : Nm} {tm tm' : List AV} {tmps : Array Value} (h : FrOk β tm tmps) (hl : tmLe tm tm') : FrOk β tm' tmps :=
  ⟨h.1.trans hl.1, fun t av ht => (hl.2 t av ht).elim .inl (h.2 t av)⟩
theorem ObjOk.le {β : Nm} {w : World} {b : Nat} {o o' : AObj} (h : ObjOk β w b o) (hl : OLe o o') : ObjOk β w b o' := by
  cases o with
  | loop st pd tm ps as bd dn =>
    cases o' with
    | loop st' pd' tm' ps' as' bd' dn' =>
      obtain ⟨rfl, rfl, hl, rfl, rfl, rfl, rfl⟩ := hl
      obtain ⟨fn, tmps, D, h1, h2, h3, h4⟩ := h
      exact ⟨fn, tmps, D, h1.le hl, h2, h3, h4⟩
    | dfr _ => exact hl.elim
  | dfr a =>
    cases o' with
    | loop _ _ _ _ _ _ _ => exact hl.elim
    | dfr _ => obtain rfl := hl; exact h
/-- two blocks alike -/
structure BEq (x y : ABlk) : Prop where
  own : y.own = x.own
  row : y.row = x.row
  ty : y.ty = x.ty
  sz : y.sz = x.sz
  cs : (∃ l, x.cs = .lit l ∧ y.cs = .lit l) ∨ (∃ q f g, x.cs = .arr q f ∧ y.cs = .arr q g ∧ ∀ k, k < q → f k = g k) ∨ ∃ o o', x.cs = .obj o ∧ y.cs = .obj o' ∧ OLe o o'
theorem BEq.refl (x : ABlk) : BEq x x := ⟨rfl, rfl, rfl, rfl, by cases h : x.cs with | lit l => exact .inl ⟨l, rfl, rfl⟩ | arr q f => exact .inr (.inl ⟨q, f, f, rfl, rfl, fun _ _ => rfl⟩) | obj o => exact .inr (.inr ⟨o, o, rfl, rfl, OLe.refl o⟩)⟩
def MemC (n nh n' : Nat) (ρ : Rn) (m1 : AMem) (id : Nat) (x : ABlk) : Prop :=
  ((id < n ∨ n' ≤ id) ∧ look m1 id = some x ∧ lowB n x) ∨
  (n ≤ id ∧ id < nh ∧ ∃ o y, ρ id = .inl o ∧ look m1 o = some y ∧ BEq y x ∧ lowB n x) ∨
  (n ≤ id ∧ id < nh ∧ ρ id = .inr x.sz ∧ 0 < x.sz ∧ ∃ f, x.cs = .arr 0 f) ∨
  ((id < n ∨ n' ≤ id) ∧ ∃ y, look m1 id = some y ∧ BEq y x ∧ lowB n x)
def MemW (n nh n' : Nat) (ρ : Rn) (m1 : AMem) : AMem → Prop
  | [] => True
  | (id, x) :: r => MemC n nh n' ρ m1 id x ∧ MemW n nh n' ρ m1 r
def oldId (n nh n' : Nat) (ρ : Rn) (id : Nat) : Option Nat :=
  match Nat.blt id n || Nat.ble n' id with
  | true => some id
  | false => match ρ id with | .inl o => some o | .inr _ => none
def rnOk (n nh n' : Nat) (ρ : Rn) : AMem → Bool
  | [] => true
  | (id, _) :: r => (r.all fun p => Nat.beq p.1 id || match oldId n nh n' ρ id, oldId n nh n' ρ p.1 with | some a, some b => !(Nat.beq a b) | _, _ => true) && rnOk n nh n' ρ r

theorem γc_low {β : Nm} {x : AC} {v : Value} (h : lowC n x = true) (e : γc β x = some v) : γc (rnm n nh n' ρ β) x = some v := by
  have hr : ∀ id, Nat.blt id n = true → rnm n nh n' ρ β id = β id := fun id hid => by
    rw [Nat.blt_eq] at hid
    simp [rnm, hid]
  cases x with
  | v x => exact e
  | ptr id k j => simp only [γc, ad] at e ⊢; rw [hr id h]; exact e
  | sl id k j len cap => simp only [γc] at e ⊢; rw [hr id h]; exact e
  | fn f caps =>
    simp only [γc] at e ⊢
    have key : ∀ {l : List (Nat × Nat × Nat)} {vs : List Value}, (l.all fun p => Nat.blt p.1 n) = true → γp β l = some vs → γp (rnm n nh n' ρ β) l = some vs := by
      intro l
      induction l with
      | nil => intro vs _ h; exact h
      | cons p r ih =>
        intro vs hl hp
        obtain ⟨id, k, j⟩ := p
        simp only [List.all_cons, Bool.and_eq_true] at hl
        simp only [γp] at hp ⊢
        split at hp
        · rename_i a us ha hus
          simp only [ad] at ha ⊢
          rw [hr id hl.1, ha, ih hl.2 hus]
          exact hp
        · cases hp
    split at e
    · rename_i vs hvs
      rw [key h hvs]
      exact e
    · cases e
  | yld id => simp only [γc] at e ⊢; rw [hr id h]; exact e
theorem GW_low {x : AC} (h : lowC n x = true) : GW n nh n' ρ (.c x) (.c x) := fun _ _ e => γc_low h e
theorem GW_agg {l : List AC} (h : l.all (lowC n) = true) : GW n nh n' ρ (.agg l) (.agg l) := fun β v e => by
  simp only [γ, γ1] at e ⊢
  split at e
  · rename_i vs hvs
    have : γs (rnm n nh n' ρ β) l = some vs := by
      rw [γs_iff]
      refine ⟨γs_length hvs, fun i x hx => ?_⟩
      obtain ⟨u, h1, h2⟩ := γs_get hvs hx
      exact ⟨u, h1, γc_low (List.all_eq_true.1 h x (List.mem_of_getElem? hx)) h2⟩
    rw [this]
    exact e
  · cases e
theorem γ1_low {β : Nm} {x : AV} {v : Value} (h : lowV n x = true) (e : γ1 β x = some v) : γ1 (rnm n nh n' ρ β) x = some v := by
  cases x with
  | c x => exact γc_low (by simpa [lowV] using h) e
  | agg l =>
    have := GW_agg (nh := nh) (n' := n') (ρ := ρ) (l := l) (by simpa [lowV] using h) β v e
    exact this
  | tup l => cases e
  | any => cases e
theorem γt_low {β : Nm} : ∀ {l : List AV} {vs : List Value}, lowT n l = true → γt β l = some vs → γt (rnm n nh n' ρ β) l = some vs
  | [], vs, _, e => e
  | x :: r, vs, h, e => by
    simp only [lowT, Bool.and_eq_true] at h
    simp only [γt] at e ⊢
    split at e
    · rename_i v us hv hus
      rw [γ1_low h.1 hv, γt_low h.2 hus]
      exact e
    · cases e
theorem γ_low {β : Nm} {x : AV} {v : Value} (h : lowV n x = true) (e : γ β x = some v) : γ (rnm n nh n' ρ β) x = some v := by
  cases x with
  | tup l =>
    simp only [γ] at e ⊢
    split at e
    · rename_i vs hvs
      rw [γt_low (by simpa [lowV] using h) hvs]
      exact e
    · cases e
  | c x => exact γ1_low (x := .c x) h e
  | agg l => exact γ1_low (x := .agg l) h e
  | any => cases e
theorem lowT_get : ∀ {l : List AV} {t : Nat} {x : AV}, lowT n l = true → l[t]? = some x → lowV n x = true
  | [], t, x, _, h => by simp at h
  | y :: r, 0, x, hl, h => by simp only [lowT, Bool.and_eq_true] at hl; simp at h; subst h; exact hl.1
  | y :: r, t + 1, x, hl, h => by simp only [lowT, Bool.and_eq_true] at hl; exact lowT_get hl.2 (by simpa using h)
theorem FrOk.low {β : Nm} {tm : List AV} {tmps : Array Value} (h : lowT n tm = true) (hf : FrOk β tm tmps) : FrOk (rnm n nh n' ρ β) tm tmps :=
  ⟨hf.1, fun t av ht => (hf.2 t av ht).imp id fun ⟨v, h1, h2⟩ => ⟨v, γ_low (lowT_get h ht) h1, h2⟩⟩
theorem ObjOk.low {β : Nm} {w : World} {b : Nat} {o : AObj} (h : lowO n o = true) (ho : ObjOk β w b o) : ObjOk (rnm n nh n' ρ β) w b o := by
  cases o with
  | loop st pd tm ps as bd dn =>
    simp only [lowO, Bool.and_eq_true] at h
    obtain ⟨fn, tmps, D, h1, h2, h3, h4⟩ := ho
    have hdn : dn < n := by have := h.2; rwa [Nat.blt_eq] at this
    exact ⟨fn, tmps, D, h1.low h.1, by simp [rnm, hdn, h2], h3, h4⟩
  | dfr op => exact ho
theorem GW_sl {id o k j len : Nat} {cap : Option Nat} (h1 : n ≤ id) (h2 : id < nh) (h3 : id < n') (h : ρ id = .inl o) : GW n nh n' ρ (.c (.sl o k j len cap)) (.c (.sl id k j len cap)) := fun β v e => by
  simp only [γ, γ1, γc] at e ⊢
  have : rnm n nh n' ρ β id = β o := by simp [rnm, show ¬ (id < n ∨ n' ≤ id) by omega, h2, h]
  rw [this]; exact e
theorem GW_ptr {id o k j : Nat} (h1 : n ≤ id) (h2 : id < nh) (h3 : id < n') (h : ρ id = .inl o) : GW n nh n' ρ (.c (.ptr o k j)) (.c (.ptr id k j)) := fun β v e => by
  simp only [γ, γ1, γc, ad] at e ⊢
  have : rnm n nh n' ρ β id = β o := by simp [rnm, show ¬ (id < n ∨ n' ≤ id) by omega, h2, h]
  rw [this]; exact e
theorem GW_nil {id s : Nat} (h1 : n ≤ id) (h2 : id < nh) (h3 : id < n') (h : ρ id = .inr s) : GW n nh n' ρ (.c (.v (.slice none 0 0))) (.c (.sl id 0 0 0 none)) := fun β v e => by
  cases e
  simp only [γ, γ1, γc]
  have : rnm n nh n' ρ β id = some ⟨0, 0, s, 0, true⟩ := by simp [rnm, show ¬ (id < n ∨ n' ≤ id) by omega, h2, h]
  rw [this]; rfl

theorem FrW_mem : ∀ {lv : List (Nat × AV)}, FrW n nh n' ρ tm1 lv → ∀ {t av}, (t, av) ∈ lv → ∃ a1, tm1[t]? = some a1 ∧ a1 ≠ .any ∧ GW n nh n' ρ a1 av
  | (t', av') :: r, h, t, av, hm => by
    rcases List.mem_cons.1 hm with e | e
    · cases e; exact h.1
    · exact FrW_mem h.2 e
theorem MemW_look : ∀ {m2 : AMem}, MemW n nh n' ρ m1 m2 → ∀ {id x}, look m2 id = some x → MemC n nh n' ρ m1 id x
  | (i, b) :: r, h, id, x, hx => by
    simp only [look_cons] at hx
    split at hx
    · rename_i hb
      cases hx
      have := Nat.eq_of_beq_eq_true hb
      subst this
      exact h.1
    · exact MemW_look h.2 hx
theorem rnOk_apart : ∀ {m2 : AMem}, rnOk n nh n' ρ m2 = true → ∀ {id id' x x'}, look m2 id = some x → look m2 id' = some x' → id ≠ id' → ∀ a, oldId n nh n' ρ id = some a → oldId n nh n' ρ id' ≠ some a
  | (i, b) :: r, h, id, id', x, x', hx, hx', hne, a, ha => by
    simp only [rnOk, Bool.and_eq_true] at h
    have hall := fun p hp => List.all_eq_true.1 h.1 p hp
    simp only [look_cons] at hx hx'
    split at hx
    · rename_i hb
      have := Nat.eq_of_beq_eq_true hb
      subst this
      split at hx'
      · rename_i hb'
        exact absurd (Nat.eq_of_beq_eq_true hb') hne
      · have h1 := hall _ (look_mem hx')
        simp only [Bool.or_eq_true] at h1
        rcases h1 with h1 | h1
        · exact absurd (Nat.eq_of_beq_eq_true h1).symm hne
        · rw [ha] at h1
          intro e
          rw [e] at h1
          simp at h1
    · split at hx'
      · rename_i hb'
        have := Nat.eq_of_beq_eq_true hb'
        subst this
        have h1 := hall _ (look_mem hx)
        simp only [Bool.or_eq_true] at h1
        rcases h1 with h1 | h1
        · exact absurd (Nat.eq_of_beq_eq_true h1) hne
        · intro e
          rw [e, ha] at h1
          simp at h1
      · exact rnOk_apart h.2 hx hx' hne a ha

theorem inb_beq {x y : ABlk} (h : BEq x y) (k j : Nat) : y.inb k j = x.inb k j := by
  rcases h.cs with ⟨l, h1, h2⟩ | ⟨q, f, g, h1, h2, _⟩ | ⟨o, o', h1, h2, _⟩ <;> simp only [ABlk.inb, h1, h2, h.sz]

theorem wk_mk (h1 : n ≤ nh) (h2 : nh ≤ n') (h3 : n' ≤ lim) {N : Nat} {lv : List (Nat × AV)} {m2 : AMem} (hlen : tm1.length = N) (hrn : rnOk n nh n' ρ m2 = true) (hm : MemW n nh n' ρ m1 m2) (hf : FrW n nh n' ρ tm1 lv) :
    Wk n nh n' tm1 m1 (mkFr N lv) m2 := by
  intro C β w tmps hfr hr
  have hgid : ∀ g, rnm n nh n' ρ β (gid g) = β (gid g) := fun g => by
    have : n' ≤ gid g := by unfold gid; unfold lim at h3; omega
    simp [rnm, this]
  -- a block's place
  have hpl : ∀ id x, look m2 id = some x → ∃ L, rnm n nh n' ρ β id = some L ∧ BlkOk C (rnm n nh n' ρ β) w L x ∧ (L.nil = false → ∃ o y, oldId n nh n' ρ id = some o ∧ look m1 o = some y ∧ y.own = x.own ∧ β o = some L) := by
    intro id x hx
    have conv : ∀ (L : Loc) (y : ABlk), BEq y x → lowB n x → BlkOk C β w L y → BlkOk C (rnm n nh n' ρ β) w L x := by
      intro L y hb hlow hk
      refine ⟨by rw [hb.sz]; exact hk.sz, fun l hl => ?_, fun k j hi => ?_, hk.lt, fun ho hn => ?_, fun q g hg i hi => ?_, fun hrw hn q g hg => ?_⟩
      · rcases hb.cs with ⟨l', e1, e2⟩ | ⟨q, f, g, e1, e2, _⟩ | ⟨o, o'', e1, e2, _⟩
        · rw [hb.sz]; exact hk.lit l' e1
        · rw [e2] at hl; cases hl
        · rw [e2] at hl; cases hl
      · have hlow' := hlow.1 k j hi
        have hi' := hi
        rw [inb_beq hb] at hi
        obtain ⟨g1, u, g2, g3, g4⟩ := hk.cells k j hi
        refine ⟨g1, u, ?_, g3, g4⟩
        have e : x.cs.get k j = y.cs.get k j := by
          rcases hb.cs with ⟨l', e1, e2⟩ | ⟨q, f, g, e1, e2, e3⟩ | ⟨o, o'', e1, e2, _⟩
          · rw [e1, e2]
          rotate_left
          · simp only [e1, e2, Cs.get]
          · rw [e1, e2]
            have : k < q := by
              simp only [ABlk.inb, e1, Bool.and_eq_true, decide_eq_true_eq] at hi
              exact hi.1
            simp only [Cs.get]
            rw [e3 k this]
        rw [e] at hlow' ⊢
        exact γc_low hlow' g2
      · rw [hb.own] at ho
        obtain ⟨o1, o2, cs, o3, o4⟩ := hk.own ho hn
        refine ⟨o1, o2, cs, by rw [hb.ty]; exact o3, fun hrw => ?_⟩
        rw [hb.row] at hrw
        obtain ⟨r1, r2, q, f, r3, r4⟩ := o4 hrw
        rcases hb.cs with ⟨l', e1, e2⟩ | ⟨q', f', g, e1, e2, e3⟩ | ⟨o, o'', e1, e2, _⟩
        · rw [e1] at r3; cases r3
        rotate_left
        · rw [e1] at r3; cases r3
        · rw [e1] at r3
          cases r3
          exact ⟨by rw [hb.sz]; exact r1, by rw [hb.sz]; exact r2, _, g, e2, r4⟩
      · rcases hb.cs with ⟨l', e1, e2⟩ | ⟨q', f', g', e1, e2, e3⟩ | ⟨o, o'', e1, e2, _⟩
        · rw [e2] at hg; cases hg
        rotate_left
        · rw [e2] at hg; cases hg
        · rw [e2] at hg
          cases hg
          rw [← e3 i hi, hb.sz]
          exact hk.arrl _ f' e1 i hi
      · rw [hb.row] at hrw
        rcases hb.cs with ⟨l', e1, e2⟩ | ⟨q', f', g', e1, e2, e3⟩ | ⟨o, o'', e1, e2, _⟩
        · rw [e2] at hg; cases hg
        rotate_left
        · rw [e2] at hg; cases hg
        · rw [e2] at hg
          cases hg
          exact hk.rowc hrw hn _ f' e1
    rcases MemW_look hm hx with ⟨c1, c2, c3⟩ | ⟨c1, c2, o, y, c3, c4, c5, c6⟩ | ⟨c1, c2, c3, c4, f, c5⟩ | ⟨c1, y, c4, c5, c6⟩
    rotate_left 3
    · obtain ⟨L, hL, hk⟩ := hr.blk id y c4
      refine ⟨L, by simp [rnm, c1, hL], conv L y c5 c6 hk, fun hn => ⟨id, y, ?_, c4, c5.own.symm, hL⟩⟩
      unfold oldId
      have : (Nat.blt id n || Nat.ble n' id) = true := by
        rcases c1 with h | h
        · have : Nat.blt id n = true := by rw [Nat.blt_eq]; exact h
          rw [this]; rfl
        · rw [Nat.ble_eq_true_of_le h, Bool.or_true]
      rw [this]
    · obtain ⟨L, hL, hk⟩ := hr.blk id x c2
      refine ⟨L, by simp [rnm, c1, hL], conv L x (BEq.refl x) c3 hk, fun hn => ⟨id, x, ?_, c2, rfl, hL⟩⟩
      unfold oldId
      have : (Nat.blt id n || Nat.ble n' id) = true := by
        rcases c1 with h | h
        · have : Nat.blt id n = true := by rw [Nat.blt_eq]; exact h
          rw [this]; rfl
        · rw [Nat.ble_eq_true_of_le h, Bool.or_true]
      rw [this]
    · obtain ⟨L, hL, hk⟩ := hr.blk o y c4
      have hnot : ¬ (id < n ∨ n' ≤ id) := by omega
      refine ⟨L, by simp [rnm, hnot, c2, c3, hL], conv L y c5 c6 hk, fun hn => ⟨o, y, ?_, c4, c5.own.symm, hL⟩⟩
      unfold oldId
      have : (Nat.blt id n || Nat.ble n' id) = false := by
        rw [Bool.or_eq_false_iff]
        refine ⟨?_, ?_⟩
        · rw [Bool.eq_false_iff]; intro h; rw [Nat.blt_eq] at h; omega
        · rw [Bool.eq_false_iff]; intro h; have := Nat.le_of_ble_eq_true h; omega
      rw [this, c3]
    · have hnot : ¬ (id < n ∨ n' ≤ id) := by omega
      refine ⟨⟨0, 0, x.sz, 0, true⟩, by simp [rnm, hnot, c2, c3], ⟨rfl, fun l hl => (by rw [c5] at hl; cases hl), fun k j hi => ?_, fun h => (by cases h), fun _ h => (by cases h), fun q g hg i hi => ?_, fun _ h => (by cases h)⟩, fun h => (by cases h)⟩
      · simp [ABlk.inb, c5] at hi
      · rw [c5] at hg; cases hg; omega
  refine ⟨rnm n nh n' ρ β, fun id hid => by simp [rnm, hid], fun id hid1 hid2 => ?_, ⟨?_, fun t av ht => ?_⟩, hr.os, hr.tape, hr.output, hr.size, hr.base, hr.out, fun id x hx => ?_, ?_, fun g L hL => hr.glob g L (by rw [hgid g] at hL; exact hL), fun id x ob hx hxo => ?_⟩
  · have : ¬ (id < n ∨ n' ≤ id) := by omega
    simp [rnm, this, show ¬ id < nh by omega]
  · rw [mkFr, mkFrG_length, ← hlen]; exact hfr.1
  · rw [mkFr, mkFrG_get, Nat.zero_add] at ht
    split at ht
    · cases ht
      rcases @lkA_mem lv t with h | h
      · exact .inl h
      · obtain ⟨a1, e1, e2, e3⟩ := FrW_mem hf h
        rcases hfr.2 t a1 e1 with h4 | ⟨v, h4, h5⟩
        · exact absurd h4 e2
        · exact .inr ⟨v, e3 β v h4, h5⟩
    · cases ht
  · obtain ⟨L, hL, hk, _⟩ := hpl id x hx
    exact ⟨L, hL, hk⟩
  · intro id id' x x' L L' hx hx' hne ho hL hL' hn hn'
    obtain ⟨M, hM, _, hM2⟩ := hpl id x hx
    rw [hL] at hM
    cases hM
    obtain ⟨M', hM', _, hM2'⟩ := hpl id' x' hx'
    rw [hL'] at hM'
    cases hM'
    obtain ⟨o, y, o1, o2, o3, o4⟩ := hM2 hn
    obtain ⟨o', y', p1, p2, p3, p4⟩ := hM2' hn'
    have hoo : o ≠ o' := fun e => by
      subst e
      exact rnOk_apart hrn hx hx' hne _ o1 p1
    exact hr.sep o o' y y' L L' o2 p2 hoo (by rw [o3]; exact ho) o4 p4 hn hn'
  · obtain ⟨oi, y, q1, q2, q3, q4, q5⟩ : ∃ oi y, oldId n nh n' ρ id = some oi ∧ look m1 oi = some y ∧ (∃ ob', y.cs = .obj ob' ∧ OLe ob' ob) ∧ lowO n ob = true ∧ rnm n nh n' ρ β id = β oi := by
      rcases MemW_look hm hx with ⟨c1, c2, c3⟩ | ⟨c1, c2, o, y, c3, c4, c5, c6⟩ | ⟨c1, c2, c3, c4, f, c5⟩ | ⟨c1, y, c4, c5, c6⟩
      rotate_left 3
      · refine ⟨id, y, ?_, c4, ?_, c6.2 ob hxo, by simp [rnm, c1]⟩
        · unfold oldId
          have : (Nat.blt id n || Nat.ble n' id) = true := by
            rcases c1 with h | h
            · have : Nat.blt id n = true := by rw [Nat.blt_eq]; exact h
              rw [this]; rfl
            · rw [Nat.ble_eq_true_of_le h, Bool.or_true]
          rw [this]
        · rcases c5.cs with ⟨l, e1, e2⟩ | ⟨q, f, g, e1, e2, _⟩ | ⟨o', o2, e1, e2, e3⟩
          · rw [hxo] at e2; cases e2
          · rw [hxo] at e2; cases e2
          · rw [hxo] at e2; cases e2; exact ⟨_, e1, e3⟩
      · refine ⟨id, x, ?_, c2, ⟨_, hxo, OLe.refl _⟩, c3.2 ob hxo, by simp [rnm, c1]⟩
        unfold oldId
        have : (Nat.blt id n || Nat.ble n' id) = true := by
          rcases c1 with h | h
          · have : Nat.blt id n = true := by rw [Nat.blt_eq]; exact h
            rw [this]; rfl
          · rw [Nat.ble_eq_true_of_le h, Bool.or_true]
        rw [this]
      · have hnot : ¬ (id < n ∨ n' ≤ id) := by omega
        refine ⟨o, y, ?_, c4, ?_, c6.2 ob hxo, by simp [rnm, hnot, c2, c3]⟩
        · unfold oldId
          have : (Nat.blt id n || Nat.ble n' id) = false := by
            rw [Bool.or_eq_false_iff]
            refine ⟨?_, ?_⟩
            · rw [Bool.eq_false_iff]; intro h; rw [Nat.blt_eq] at h; omega
            · rw [Bool.eq_false_iff]; intro h; have := Nat.le_of_ble_eq_true h; omega
          rw [this, c3]
        · rcases c5.cs with ⟨l, e1, e2⟩ | ⟨q, f, g, e1, e2, _⟩ | ⟨o', o2, e1, e2, e3⟩
          · rw [hxo] at e2; cases e2
          · rw [hxo] at e2; cases e2
          · rw [hxo] at e2; cases e2; exact ⟨_, e1, e3⟩
      · rw [hxo] at c5; cases c5
    obtain ⟨ob', q3, q6⟩ := q3
    obtain ⟨L, k1, k2, k3, k4, k5⟩ := hr.objs oi y ob' q2 q3
    refine ⟨L, by rw [q5]; exact k1, k2, k3, (k4.le q6).low q4, fun id' x' L' g1 g2 g3 g4 => ?_⟩
    obtain ⟨M', hM', _, hM2'⟩ := hpl id' x' g2
    rw [g3] at hM'
    cases hM'
    obtain ⟨o', y', p1, p2, p3, p4⟩ := hM2' g4
    refine k5 o' y' L' (fun e => ?_) p2 p4 g4
    subst e
    exact rnOk_apart hrn hx g2 (fun e => g1 e.symm) _ q1 p1
end

/-- what is looked at in a result -/
def view (slots ids : List Nat) (r : Option (Exit × Nat × St)) : Option (Exit × List (Option AV) × List (Option ABlk) × Nat × Nat × List Bool × List Prop) :=
  match r with
  | some (e, n, s) => match s.ms with | [] => some (e, slots.map (fun t => s.tm[t]?), ids.map (look s.m), s.tm.length, n, s.ob, s.po) | _ :: _ => none
  | none => none
theorem view_out {slots ids : List Nat} {r : Option (Exit × Nat × St)} {e : Exit} {l : List (Option AV)} {b : List (Option ABlk)} {len n : Nat} {ob : List Bool} {po : List Prop} (h : view slots ids r = some (e, l, b, len, n, ob, po)) :
    ∃ s, r = some (e, n, s) ∧ slots.map (fun t => s.tm[t]?) = l ∧ ids.map (look s.m) = b ∧ s.tm.length = len ∧ s.ob = ob ∧ s.po = po ∧ s.ms = [] := by
  unfold view at h
  split at h
  · rename_i e' n' s
    split at h
    · rename_i hms
      simp only [Option.some.injEq, Prod.mk.injEq] at h
      obtain ⟨rfl, h1, h2, h3, rfl, h5, h6⟩ := h
      exact ⟨s, rfl, h1, h2, h3, h5, h6, hms⟩
    · cases h
  · cases h

/-- A loop whose rounds the evaluator runs through, by a state at each head. -/
theorem loop_ob {E : Env} (hE : EnvOk E) {fuel : Nat} {body : Code} {S : Type} (inv : S → Prop) (μ : S → Nat) (tmI : S → List AV) (mI : S → AMem) {tmF : List AV} {mF : AMem} {n nh n' str : Nat} {e : Exit} {rd : Option Nat} (hn1 : n ≤ nh) (hn2 : nh ≤ n') (hrd : ∀ id, rd = some id → id < n)
    {slots ids : List Nat} {vals : List (Option AV)} {blks : List (Option ABlk)} {len : Nat}
    {s0 : S} (h0 : inv s0) (start : ∀ tm m, slots.map (fun t => tm[t]?) = vals → ids.map (look m) = blks → tm.length = len → Wk n nh n' tm m (tmI s0) (mI s0))
    (step : ∀ s, inv s → ∃ path lp e' n1 st', fC E fuel body nh str ⟨tmI s, mI s, 0, 0, false, path, [], [], [], rd, lp⟩ = some (e', n1, st') ∧ n1 ≤ n' ∧ Obs st' ∧ st'.ms = [] ∧
      ((e' = .normal ∧ ∃ s', inv s' ∧ μ s' < μ s ∧ Wk n nh n' st'.tm st'.m (tmI s') (mI s')) ∨ (e' ≠ .normal ∧ e' = e ∧ Wk n n' n' st'.tm st'.m tmF mF))) :
    LoopV E.P body slots ids vals blks len n tmF mF n' e rd := by
  intro tm0 m0 hv1 hv2 hv3 ro C β a w hrdo hf hr hfree
  have hrd' : ∀ β', (∀ id, id < n ∨ n' ≤ id → β' id = β id) → RdOk β' rd ro := by
    intro β' hs
    cases rd with
    | none => cases ro with
      | none => trivial
      | some _ => exact hrdo
    | some id => cases ro with
      | none => exact hrdo
      | some b => obtain ⟨L, h1, h2⟩ := hrdo; exact ⟨L, by rw [hs id (.inl (hrd id rfl))]; exact h1, h2⟩
  have key : ∀ k a1 w, (∃ s, μ s = k ∧ inv s ∧ a1.defers = a.defers ∧ ∃ β', (∀ id, id < n ∨ n' ≤ id → β' id = β id) ∧ (∀ id, nh ≤ id → id < n' → β' id = none) ∧ FrOk β' (tmI s) a1.tmps ∧ Rel C β' (mI s) w) →
      lwp ro E.P body (fun e' a' w' => e' = e ∧ a'.defers = a.defers ∧ ∃ β', Ext β β' ∧ (∀ id, id < n ∨ n' ≤ id → β' id = β id) ∧ FrOk β' tmF a'.tmps ∧ Rel C β' mF w') a1 w := by
    refine lwp_ind _ fun k a1 w ⟨s, hk, hi, hd, β', g1, g2, g3, g4⟩ => ?_
    obtain ⟨path, lp, e', n1, st', hsx, hle, ho, hms, hres⟩ := step s hi
    obtain ⟨gr, hwp⟩ := sxC_ok hE fuel _ _ _ _ (fC_sim _ _ _ _ _ _ _ _ hsx)
    have := hwp (ho.congr rfl rfl) ro a1.defers C β' a1 w (hrd' β' g1) g3 rfl g4 fun id h1 h2 => g2 id h1 (by have h2 : id < n1 := h2; omega)
    refine wpIn_mono (wp_of_wpL this) fun e'' a' w' ⟨he, β'', x1, x2, x3, hd', x4⟩ => ?_
    have hd' : DfOk β'' st'.ms a1.defers a'.defers := hd'
    rw [hms] at hd'
    have hd' : a'.defers = a1.defers := hd'
    subst he
    have hsame : ∀ id, id < n ∨ n' ≤ id → β'' id = β id := fun id hid => by
      rw [x2 id (by show id < nh ∨ n1 ≤ id; omega)]; exact g1 id hid
    rcases hres with ⟨rfl, s', i1, i2, i3⟩ | ⟨hne, rfl, i3⟩
    · obtain ⟨β2, y1, y2, y3, y4⟩ := i3 C β'' w' a'.tmps x3 x4
      exact ⟨μ s', by omega, s', rfl, i1, hd'.trans hd, β2, fun id hid => by rw [y1 id hid]; exact hsame id hid, y2, y3, y4⟩
    · obtain ⟨β2, y1, y2, y3, y4⟩ := i3 C β'' w' a'.tmps x3 x4
      have hpost : (fun e' (a' : Act) w' => e' = e'' ∧ a'.defers = a.defers ∧ ∃ β', Ext β β' ∧ (∀ id, id < n ∨ n' ≤ id → β' id = β id) ∧ FrOk β' tmF a'.tmps ∧ Rel C β' mF w') e'' a' w' := by
        refine ⟨rfl, hd'.trans hd, β2, fun id L hL => ?_, fun id hid => by rw [y1 id hid]; exact hsame id hid, y3, y4⟩
        rcases Nat.lt_or_ge id n with h | h
        · rw [y1 id (.inl h), hsame id (.inl h)]; exact hL
        · rcases Nat.lt_or_ge id n' with h' | h'
          · rw [hfree id h h'] at hL; cases hL
          · rw [y1 id (.inr h'), hsame id (.inr h')]; exact hL
      cases e'' with
      | normal => exact absurd rfl hne
      | _ => exact hpost
  obtain ⟨β2, y1, y2, y3, y4⟩ := start tm0 m0 hv1 hv2 hv3 C β w a.tmps hf hr
  exact key (μ s0) a w ⟨s0, rfl, h0, rfl, β2, y1, y2, y3, y4⟩

/-- what is looked at in a call's result -/
def viewF (ids : List Nat) (r : Option (AV × Nat × St)) : Option (AV × List (Option ABlk) × Nat × List Bool × List Prop) :=
  match r with
  | some (v, n, s) => some (v, ids.map (look s.m), n, s.ob, s.po)
  | none => none
theorem viewF_out {ids : List Nat} {r : Option (AV × Nat × St)} {v : AV} {b : List (Option ABlk)} {n : Nat} {ob : List Bool} {po : List Prop} (h : viewF ids r = some (v, b, n, ob, po)) :
    ∃ s, r = some (v, n, s) ∧ ids.map (look s.m) = b ∧ s.ob = ob ∧ s.po = po := by
  unfold viewF at h
  split at h
  · rename_i v' n' s
    simp only [Option.some.injEq, Prod.mk.injEq] at h
    obtain ⟨rfl, h1, rfl, h3, h4⟩ := h
    exact ⟨s, rfl, h1, h3, h4⟩
  · cases h
/-- A function that the evaluator runs through. -/
theorem calls_f {E : Env} (hE : EnvOk E) {g : Nat} {f : FuncId} {args : List AV} {n str n' : Nat} {s s' : St} {r : AV} (h : fCallF E (fC E g) f args n str s = some (r, n', s')) (ho : Obs s') {C : Ctx} {β : Nm} {w : World} {vs : List Value}
    (hvs : γt β args = some vs) (hr : Rel C β s.m w) (hfree : ∀ id, n ≤ id → id < n' → β id = none) :
    Calls E.P f vs.toArray w (fun e w' => ∃ β' v, e = .returned v ∧ Ext β β' ∧ (∀ id, id < n ∨ n' ≤ id → β' id = β id) ∧ γ β' r = some v ∧ Rel C β' s'.m w') :=
  calls_sx hE (fCallF_sim _ _ _ _ _ _ _ _ h) (ho.congr rfl rfl) hvs hr hfree
def stA (m : AMem) (path : List Dec) (lp : List (Option LSum)) : St := ⟨[], m, 0, 0, false, path, [], [], [], none, lp⟩
def pth (l : List Bool) : List Dec := l.map .b
end Go.Proofs.YtpfkhlfkcmgdlaaDoor
