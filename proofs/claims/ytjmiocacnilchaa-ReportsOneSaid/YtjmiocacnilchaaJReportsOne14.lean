/- Parts, one behind the other. The symbolic evaluator: loops by a relation at the head of each round; names given anew. No Go text is in sight. -/
import Derived.Test.YtjmiocacnilchaaJReportsOne13
import Derived.Test.YtjmiocacnilchaaJReportsOne2
import Derived.IntWalk
set_option linter.unusedSimpArgs false
set_option linter.unusedVariables false
/- The symbolic evaluator: loops by a relation at the head of each round; names given anew. No Go text is in sight. -/
section
namespace Go.Proofs.Ytjmiocacnilchaa
open Go.RowKit
def lkA : List (Nat × AV) → Nat → AV
 | [], _ => .any
 | (i, v) :: r, t => match Nat.beq i t with | true => v | false => lkA r t
def mkFrG (lv : List (Nat × AV)) : Nat → Nat → List AV
 | 0, _ => []
 | n + 1, i => lkA lv i :: mkFrG lv n (i + 1)
def mkFr (n : Nat) (lv : List (Nat × AV)) : List AV := mkFrG lv n 0
theorem mkFrG_length (lv : List (Nat × AV)) : ∀ n i, (mkFrG lv n i).length = n
 | 0, _ => rfl
 | n + 1, i => by simp [mkFrG, mkFrG_length lv n (i + 1)]
theorem mkFrG_get (lv : List (Nat × AV)) : ∀ n i t, (mkFrG lv n i)[t]? = if t < n then some (lkA lv (i + t)) else none
 | 0, _, t => by simp [mkFrG]
 | n + 1, i, 0 => by simp [mkFrG]
 | n + 1, i, t + 1 => by
  simp only [mkFrG, List.getElem?_cons_succ]
  rw [mkFrG_get lv n (i + 1) t, show i + 1 + t = i + (t + 1) by omega]
  simp
theorem lkA_mem : ∀ {lv : List (Nat × AV)} {t : Nat}, lkA lv t = .any ∨ (t, lkA lv t) ∈ lv
 | [], t => .inl rfl
 | (i, v) :: r, t => by
  simp only [lkA]
  split
  · rename_i h
    have := Nat.eq_of_beq_eq_true h
    subst this
    exact .inr (by simp)
  · rcases @lkA_mem r t with h | h
    · exact .inl h
    · exact .inr (List.mem_cons_of_mem _ h)
abbrev Rn := Nat → Nat ⊕ Nat
def rnm (n nh n' : Nat) (ρ : Rn) (β : Nm) : Nm := fun id =>
 if id < n ∨ n' ≤ id then β id else if id < nh then (match ρ id with | .inl o => β o | .inr s => some ⟨0, 0, s, 0, true⟩) else none
def Wk (n nh n' : Nat) (tm1 : List AV) (m1 : AMem) (tm2 : List AV) (m2 : AMem) : Prop :=
 ∀ (C : Ctx) (β1 : Nm) (w : World) (tmps : Array Value), FrOk β1 tm1 tmps → Rel C β1 m1 w →
  ∃ β2 : Nm, (∀ id, id < n ∨ n' ≤ id → β2 id = β1 id) ∧ (∀ id, nh ≤ id → id < n' → β2 id = none) ∧ FrOk β2 tm2 tmps ∧ Rel C β2 m2 w
section
variable {n nh n' : Nat} {ρ : Rn} {tm1 : List AV} {m1 : AMem}
def GW (n nh n' : Nat) (ρ : Rn) (a1 a2 : AV) : Prop := ∀ (β : Nm) (v : Value), γ β a1 = some v → γ (rnm n nh n' ρ β) a2 = some v
def FrW (n nh n' : Nat) (ρ : Rn) (tm1 : List AV) : List (Nat × AV) → Prop
 | [] => True
 | (t, av) :: r => (∃ a1, tm1[t]? = some a1 ∧ a1 ≠ .any ∧ GW n nh n' ρ a1 av) ∧ FrW n nh n' ρ tm1 r
def lowC (n : Nat) : AC → Bool
 | .v _ => true
 | .ptr id _ _ => Nat.blt id n
 | .sl id _ _ _ _ => Nat.blt id n
 | .fn _ caps => caps.all fun p => Nat.blt p.1 n
 | .yld id => Nat.blt id n
 | .cap id _ => Nat.blt id n
 | .mv _ id _ _ => Nat.blt id n
mutual
def lowV (n : Nat) : AV → Bool
 | .c x => lowC n x
 | .agg l => l.all (lowC n)
 | .tup l => lowT n l
 | .any => true
def lowT (n : Nat) : List AV → Bool
 | [] => true
 | x :: r => lowV n x && lowT n r
end
def lowO (n : Nat) : AObj → Bool
 | .loop _ _ tm _ _ _ dn => lowT n tm && Nat.blt dn n
 | .dfr _ => true
def lowB (n : Nat) (x : ABlk) : Prop := (∀ k j, x.inb k (j + 1) = true → lowC n (x.cs.get k j) = true) ∧ ∀ o, x.cs = .obj o → lowO n o = true
theorem lowB_cells {n : Nat} {x : ABlk} (h : ∀ k j, lowC n (x.cs.get k j) = true) (ho : ∀ o, x.cs = .obj o → False) : lowB n x := ⟨fun k j _ => h k j, fun o e => (ho o e).elim⟩
def tmLe (tm tm' : List AV) : Prop := tm.length = tm'.length ∧ ∀ (t : Nat) av, tm'[t]? = some av → av = .any ∨ tm[t]? = some av
def OLe : AObj → AObj → Prop
 | .loop st pd tm ps as bd dn, .loop st' pd' tm' ps' as' bd' dn' => st = st' ∧ pd = pd' ∧ tmLe tm tm' ∧ ps = ps' ∧ as = as' ∧ bd = bd' ∧ dn = dn'
 | .dfr a, .dfr b => a = b
 | _, _ => False
theorem tmLe.refl (tm : List AV) : tmLe tm tm := ⟨rfl, fun _ _ h => .inr h⟩
theorem OLe.refl : ∀ (o : AObj), OLe o o
 | .loop _ _ _ _ _ _ _ => ⟨rfl, rfl, tmLe.refl _, rfl, rfl, rfl, rfl⟩
 | .dfr _ => rfl
theorem FrOk.le {β : Nm} {tm tm' : List AV} {tmps : Array Value} (h : FrOk β tm tmps) (hl : tmLe tm tm') : FrOk β tm' tmps :=
 ⟨h.1.trans hl.1, fun t av ht => (hl.2 t av ht).elim .inl (h.2 t av)⟩
theorem ObjOk.le {β : Nm} {w : World} {b : Nat} {o o' : AObj} (h : ObjOk β w b o) (hl : OLe o o') : ObjOk β w b o' := by
 cases o with
 | loop st pd tm ps as bd dn =>
  cases o' with
  | loop st' pd' tm' ps' as' bd' dn' =>
   obtain ⟨rfl, rfl, hl, rfl, rfl, rfl, rfl⟩ := hl
   obtain ⟨fn, tmps, D, h1, h2, h3, h4⟩ := h
   exact ⟨fn, tmps, D, h1.le hl, h2, h3, h4⟩
  | dfr _ => exact hl.elim
 | dfr a =>
  cases o' with
  | loop _ _ _ _ _ _ _ => exact hl.elim
  | dfr _ => obtain rfl := hl; exact h
structure BEq (x y : ABlk) : Prop where
 own : y.own = x.own
 row : y.row = x.row
 ty : y.ty = x.ty
 sz : y.sz = x.sz
 cs : (∃ l, x.cs = .lit l ∧ y.cs = .lit l) ∨ (∃ q f g, x.cs = .arr q f ∧ y.cs = .arr q g ∧ ∀ k, k < q → f k = g k) ∨ ∃ o o', x.cs = .obj o ∧ y.cs = .obj o' ∧ OLe o o'
theorem BEq.refl (x : ABlk) : BEq x x := ⟨rfl, rfl, rfl, rfl, by cases h : x.cs with | lit l => exact .inl ⟨l, rfl, rfl⟩ | arr q f => exact .inr (.inl ⟨q, f, f, rfl, rfl, fun _ _ => rfl⟩) | obj o => exact .inr (.inr ⟨o, o, rfl, rfl, OLe.refl o⟩)⟩
def MemC (n nh n' : Nat) (ρ : Rn) (m1 : AMem) (id : Nat) (x : ABlk) : Prop :=
 ((id < n ∨ n' ≤ id) ∧ look m1 id = some x ∧ lowB n x) ∨
 (n ≤ id ∧ id < nh ∧ ∃ o y, ρ id = .inl o ∧ look m1 o = some y ∧ BEq y x ∧ lowB n x) ∨
 (n ≤ id ∧ id < nh ∧ ρ id = .inr x.sz ∧ 0 < x.sz ∧ ∃ f, x.cs = .arr 0 f) ∨
 ((id < n ∨ n' ≤ id) ∧ ∃ y, look m1 id = some y ∧ BEq y x ∧ lowB n x)
def MemW (n nh n' : Nat) (ρ : Rn) (m1 : AMem) : AMem → Prop
 | [] => True
 | (id, x) :: r => MemC n nh n' ρ m1 id x ∧ MemW n nh n' ρ m1 r
def oldId (n nh n' : Nat) (ρ : Rn) (id : Nat) : Option Nat :=
 match Nat.blt id n || Nat.ble n' id with
 | true => some id
 | false => match ρ id with | .inl o => some o | .inr _ => none
def rnOk (n nh n' : Nat) (ρ : Rn) : AMem → Bool
 | [] => true
 | (id, _) :: r => (r.all fun p => Nat.beq p.1 id || match oldId n nh n' ρ id, oldId n nh n' ρ p.1 with | some a, some b => !(Nat.beq a b) | _, _ => true) && rnOk n nh n' ρ r
theorem γc_low {β : Nm} {x : AC} {v : Value} (h : lowC n x = true) (e : γc β x = some v) : γc (rnm n nh n' ρ β) x = some v := by
 have hr : ∀ id, Nat.blt id n = true → rnm n nh n' ρ β id = β id := fun id hid => by
  rw [Nat.blt_eq] at hid
  simp [rnm, hid]
 cases x with
 | v x => exact e
 | ptr id k j => simp only [γc, ad] at e ⊢; rw [hr id h]; exact e
 | sl id k j len cap => simp only [γc] at e ⊢; rw [hr id h]; exact e
 | fn f caps =>
  simp only [γc] at e ⊢
  have key : ∀ {l : List (Nat × Nat × Nat)} {vs : List Value}, (l.all fun p => Nat.blt p.1 n) = true → γp β l = some vs → γp (rnm n nh n' ρ β) l = some vs := by
   intro l
   induction l with
   | nil => intro vs _ h; exact h
   | cons p r ih =>
    intro vs hl hp
    obtain ⟨id, k, j⟩ := p
    simp only [List.all_cons, Bool.and_eq_true] at hl
    simp only [γp] at hp ⊢
    split at hp
    · rename_i a us ha hus
      simp only [ad] at ha ⊢
      rw [hr id hl.1, ha, ih hl.2 hus]
      exact hp
    · cases hp
  split at e
  · rename_i vs hvs
    rw [key h hvs]
    exact e
  · cases e
 | yld id => simp only [γc] at e ⊢; rw [hr id h]; exact e
 | cap id k => simp only [γc] at e ⊢; rw [hr id h]; exact e
 | mv f id k j => simp only [γc, ad] at e ⊢; rw [hr id h]; exact e
theorem GW_agg {l : List AC} (h : l.all (lowC n) = true) : GW n nh n' ρ (.agg l) (.agg l) := fun β v e => by
 simp only [γ, γ1] at e ⊢
 split at e
 · rename_i vs hvs
   have : γs (rnm n nh n' ρ β) l = some vs := by
    rw [γs_iff]
    refine ⟨γs_length hvs, fun i x hx => ?_⟩
    obtain ⟨u, h1, h2⟩ := γs_get hvs hx
    exact ⟨u, h1, γc_low (List.all_eq_true.1 h x (List.mem_of_getElem? hx)) h2⟩
   rw [this]
   exact e
 · cases e
theorem γ1_low {β : Nm} {x : AV} {v : Value} (h : lowV n x = true) (e : γ1 β x = some v) : γ1 (rnm n nh n' ρ β) x = some v := by
 cases x with
 | c x => exact γc_low (by simpa [lowV] using h) e
 | agg l =>
  have := GW_agg (nh := nh) (n' := n') (ρ := ρ) (l := l) (by simpa [lowV] using h) β v e
  exact this
 | tup l => cases e
 | any => cases e
theorem γt_low {β : Nm} : ∀ {l : List AV} {vs : List Value}, lowT n l = true → γt β l = some vs → γt (rnm n nh n' ρ β) l = some vs
 | [], vs, _, e => e
 | x :: r, vs, h, e => by
  simp only [lowT, Bool.and_eq_true] at h
  simp only [γt] at e ⊢
  split at e
  · rename_i v us hv hus
    rw [γ1_low h.1 hv, γt_low h.2 hus]
    exact e
  · cases e
theorem γ_low {β : Nm} {x : AV} {v : Value} (h : lowV n x = true) (e : γ β x = some v) : γ (rnm n nh n' ρ β) x = some v := by
 cases x with
 | tup l =>
  simp only [γ] at e ⊢
  split at e
  · rename_i vs hvs
    rw [γt_low (by simpa [lowV] using h) hvs]
    exact e
  · cases e
 | c x => exact γ1_low (x := .c x) h e
 | agg l => exact γ1_low (x := .agg l) h e
 | any => cases e
theorem lowT_get : ∀ {l : List AV} {t : Nat} {x : AV}, lowT n l = true → l[t]? = some x → lowV n x = true
 | [], t, x, _, h => by simp at h
 | y :: r, 0, x, hl, h => by simp only [lowT, Bool.and_eq_true] at hl; simp at h; subst h; exact hl.1
 | y :: r, t + 1, x, hl, h => by simp only [lowT, Bool.and_eq_true] at hl; exact lowT_get hl.2 (by simpa using h)
theorem FrOk.low {β : Nm} {tm : List AV} {tmps : Array Value} (h : lowT n tm = true) (hf : FrOk β tm tmps) : FrOk (rnm n nh n' ρ β) tm tmps :=
 ⟨hf.1, fun t av ht => (hf.2 t av ht).imp id fun ⟨v, h1, h2⟩ => ⟨v, γ_low (lowT_get h ht) h1, h2⟩⟩
theorem ObjOk.low {β : Nm} {w : World} {b : Nat} {o : AObj} (h : lowO n o = true) (ho : ObjOk β w b o) : ObjOk (rnm n nh n' ρ β) w b o := by
 cases o with
 | loop st pd tm ps as bd dn =>
  simp only [lowO, Bool.and_eq_true] at h
  obtain ⟨fn, tmps, D, h1, h2, h3, h4⟩ := ho
  have hdn : dn < n := by have := h.2; rwa [Nat.blt_eq] at this
  exact ⟨fn, tmps, D, h1.low h.1, by simp [rnm, hdn, h2], h3, h4⟩
 | dfr op => exact ho
theorem FrW_mem : ∀ {lv : List (Nat × AV)}, FrW n nh n' ρ tm1 lv → ∀ {t av}, (t, av) ∈ lv → ∃ a1, tm1[t]? = some a1 ∧ a1 ≠ .any ∧ GW n nh n' ρ a1 av
 | (t', av') :: r, h, t, av, hm => by
  rcases List.mem_cons.1 hm with e | e
  · cases e; exact h.1
  · exact FrW_mem h.2 e
theorem MemW_look : ∀ {m2 : AMem}, MemW n nh n' ρ m1 m2 → ∀ {id x}, look m2 id = some x → MemC n nh n' ρ m1 id x
 | (i, b) :: r, h, id, x, hx => by
  simp only [look_cons] at hx
  split at hx
  · rename_i hb
    cases hx
    have := Nat.eq_of_beq_eq_true hb
    subst this
    exact h.1
  · exact MemW_look h.2 hx
theorem rnOk_apart : ∀ {m2 : AMem}, rnOk n nh n' ρ m2 = true → ∀ {id id' x x'}, look m2 id = some x → look m2 id' = some x' → id ≠ id' → ∀ a, oldId n nh n' ρ id = some a → oldId n nh n' ρ id' ≠ some a
 | (i, b) :: r, h, id, id', x, x', hx, hx', hne, a, ha => by
  simp only [rnOk, Bool.and_eq_true] at h
  have hall := fun p hp => List.all_eq_true.1 h.1 p hp
  simp only [look_cons] at hx hx'
  split at hx
  · rename_i hb
    have := Nat.eq_of_beq_eq_true hb
    subst this
    split at hx'
    · rename_i hb'
      exact absurd (Nat.eq_of_beq_eq_true hb') hne
    · have h1 := hall _ (look_mem hx')
      simp only [Bool.or_eq_true] at h1
      rcases h1 with h1 | h1
      · exact absurd (Nat.eq_of_beq_eq_true h1).symm hne
      · rw [ha] at h1
        intro e
        rw [e] at h1
        simp at h1
  · split at hx'
    · rename_i hb'
      have := Nat.eq_of_beq_eq_true hb'
      subst this
      have h1 := hall _ (look_mem hx)
      simp only [Bool.or_eq_true] at h1
      rcases h1 with h1 | h1
      · exact absurd (Nat.eq_of_beq_eq_true h1) hne
      · intro e
        rw [e, ha] at h1
        simp at h1
    · exact rnOk_apart h.2 hx hx' hne a ha
theorem inb_beq {x y : ABlk} (h : BEq x y) (k j : Nat) : y.inb k j = x.inb k j := by
 rcases h.cs with ⟨l, h1, h2⟩ | ⟨q, f, g, h1, h2, _⟩ | ⟨o, o', h1, h2, _⟩ <;> simp only [ABlk.inb, h1, h2, h.sz]
theorem wk_mk (h1 : n ≤ nh) (h2 : nh ≤ n') (h3 : n' ≤ lim) {N : Nat} {lv : List (Nat × AV)} {m2 : AMem} (hlen : tm1.length = N) (hrn : rnOk n nh n' ρ m2 = true) (hm : MemW n nh n' ρ m1 m2) (hf : FrW n nh n' ρ tm1 lv) :
 Wk n nh n' tm1 m1 (mkFr N lv) m2 := by
 intro C β w tmps hfr hr
 have hgid : ∀ g, rnm n nh n' ρ β (gid g) = β (gid g) := fun g => by
  have : n' ≤ gid g := by unfold gid; unfold lim at h3; omega
  simp [rnm, this]
 -- a block's place
 have hpl : ∀ id x, look m2 id = some x → ∃ L, rnm n nh n' ρ β id = some L ∧ BlkOk C (rnm n nh n' ρ β) w L x ∧ (L.nil = false → ∃ o y, oldId n nh n' ρ id = some o ∧ look m1 o = some y ∧ y.own = x.own ∧ β o = some L) := by
  intro id x hx
  have conv : ∀ (L : Loc) (y : ABlk), BEq y x → lowB n x → BlkOk C β w L y → BlkOk C (rnm n nh n' ρ β) w L x := by
   intro L y hb hlow hk
   refine ⟨by rw [hb.sz]; exact hk.sz, fun l hl => ?_, fun k j hi => ?_, hk.lt, fun ho hn => ?_, fun q g hg i hi => ?_, fun hrw hn q g hg => ?_⟩
   · rcases hb.cs with ⟨l', e1, e2⟩ | ⟨q, f, g, e1, e2, _⟩ | ⟨o, o'', e1, e2, _⟩
     · rw [hb.sz]; exact hk.lit l' e1
     · rw [e2] at hl; cases hl
     · rw [e2] at hl; cases hl
   · have hlow' := hlow.1 k j hi
     have hi' := hi
     rw [inb_beq hb] at hi
     obtain ⟨g1, u, g2, g3, g4⟩ := hk.cells k j hi
     refine ⟨g1, u, ?_, g3, g4⟩
     have e : x.cs.get k j = y.cs.get k j := by
      rcases hb.cs with ⟨l', e1, e2⟩ | ⟨q, f, g, e1, e2, e3⟩ | ⟨o, o'', e1, e2, _⟩
      · rw [e1, e2]
      rotate_left
      · simp only [e1, e2, Cs.get]
      · rw [e1, e2]
        have : k < q := by
         simp only [ABlk.inb, e1, Bool.and_eq_true, decide_eq_true_eq] at hi
         exact hi.1
        simp only [Cs.get]
        rw [e3 k this]
     rw [e] at hlow' ⊢
     exact γc_low hlow' g2
   · rw [hb.own] at ho
     obtain ⟨o1, o2, cs, o3, o4⟩ := hk.own ho hn
     refine ⟨o1, o2, cs, by rw [hb.ty]; exact o3, fun hrw => ?_⟩
     rw [hb.row] at hrw
     obtain ⟨r1, r2, q, f, r3, r4⟩ := o4 hrw
     rcases hb.cs with ⟨l', e1, e2⟩ | ⟨q', f', g, e1, e2, e3⟩ | ⟨o, o'', e1, e2, _⟩
     · rw [e1] at r3; cases r3
     rotate_left
     · rw [e1] at r3; cases r3
     · rw [e1] at r3
       cases r3
       exact ⟨by rw [hb.sz]; exact r1, by rw [hb.sz]; exact r2, _, g, e2, r4⟩
   · rcases hb.cs with ⟨l', e1, e2⟩ | ⟨q', f', g', e1, e2, e3⟩ | ⟨o, o'', e1, e2, _⟩
     · rw [e2] at hg; cases hg
     rotate_left
     · rw [e2] at hg; cases hg
     · rw [e2] at hg
       cases hg
       rw [← e3 i hi, hb.sz]
       exact hk.arrl _ f' e1 i hi
   · rw [hb.row] at hrw
     rcases hb.cs with ⟨l', e1, e2⟩ | ⟨q', f', g', e1, e2, e3⟩ | ⟨o, o'', e1, e2, _⟩
     · rw [e2] at hg; cases hg
     rotate_left
     · rw [e2] at hg; cases hg
     · rw [e2] at hg
       cases hg
       exact hk.rowc hrw hn _ f' e1
  rcases MemW_look hm hx with ⟨c1, c2, c3⟩ | ⟨c1, c2, o, y, c3, c4, c5, c6⟩ | ⟨c1, c2, c3, c4, f, c5⟩ | ⟨c1, y, c4, c5, c6⟩
  rotate_left 3
  · obtain ⟨L, hL, hk⟩ := hr.blk id y c4
    refine ⟨L, by simp [rnm, c1, hL], conv L y c5 c6 hk, fun hn => ⟨id, y, ?_, c4, c5.own.symm, hL⟩⟩
    unfold oldId
    have : (Nat.blt id n || Nat.ble n' id) = true := by
     rcases c1 with h | h
     · have : Nat.blt id n = true := by rw [Nat.blt_eq]; exact h
       rw [this]; rfl
     · rw [Nat.ble_eq_true_of_le h, Bool.or_true]
    rw [this]
  · obtain ⟨L, hL, hk⟩ := hr.blk id x c2
    refine ⟨L, by simp [rnm, c1, hL], conv L x (BEq.refl x) c3 hk, fun hn => ⟨id, x, ?_, c2, rfl, hL⟩⟩
    unfold oldId
    have : (Nat.blt id n || Nat.ble n' id) = true := by
     rcases c1 with h | h
     · have : Nat.blt id n = true := by rw [Nat.blt_eq]; exact h
       rw [this]; rfl
     · rw [Nat.ble_eq_true_of_le h, Bool.or_true]
    rw [this]
  · obtain ⟨L, hL, hk⟩ := hr.blk o y c4
    have hnot : ¬ (id < n ∨ n' ≤ id) := by omega
    refine ⟨L, by simp [rnm, hnot, c2, c3, hL], conv L y c5 c6 hk, fun hn => ⟨o, y, ?_, c4, c5.own.symm, hL⟩⟩
    unfold oldId
    have : (Nat.blt id n || Nat.ble n' id) = false := by
     rw [Bool.or_eq_false_iff]
     refine ⟨?_, ?_⟩
     · rw [Bool.eq_false_iff]; intro h; rw [Nat.blt_eq] at h; omega
     · rw [Bool.eq_false_iff]; intro h; have := Nat.le_of_ble_eq_true h; omega
    rw [this, c3]
  · have hnot : ¬ (id < n ∨ n' ≤ id) := by omega
    refine ⟨⟨0, 0, x.sz, 0, true⟩, by simp [rnm, hnot, c2, c3], ⟨rfl, fun l hl => (by rw [c5] at hl; cases hl), fun k j hi => ?_, fun h => (by cases h), fun _ h => (by cases h), fun q g hg i hi => ?_, fun _ h => (by cases h)⟩, fun h => (by cases h)⟩
    · simp [ABlk.inb, c5] at hi
    · rw [c5] at hg; cases hg; omega
 refine ⟨rnm n nh n' ρ β, fun id hid => by simp [rnm, hid], fun id hid1 hid2 => ?_, ⟨?_, fun t av ht => ?_⟩, hr.os, hr.tape, hr.output, hr.size, hr.base, hr.out, fun id x hx => ?_, ?_, fun g L hL => hr.glob g L (by rw [hgid g] at hL; exact hL), fun id x ob hx hxo => ?_⟩
 · have : ¬ (id < n ∨ n' ≤ id) := by omega
   simp [rnm, this, show ¬ id < nh by omega]
 · rw [mkFr, mkFrG_length, ← hlen]; exact hfr.1
 · rw [mkFr, mkFrG_get, Nat.zero_add] at ht
   split at ht
   · cases ht
     rcases @lkA_mem lv t with h | h
     · exact .inl h
     · obtain ⟨a1, e1, e2, e3⟩ := FrW_mem hf h
       rcases hfr.2 t a1 e1 with h4 | ⟨v, h4, h5⟩
       · exact absurd h4 e2
       · exact .inr ⟨v, e3 β v h4, h5⟩
   · cases ht
 · obtain ⟨L, hL, hk, _⟩ := hpl id x hx
   exact ⟨L, hL, hk⟩
 · intro id id' x x' L L' hx hx' hne ho hL hL' hn hn'
   obtain ⟨M, hM, _, hM2⟩ := hpl id x hx
   rw [hL] at hM
   cases hM
   obtain ⟨M', hM', _, hM2'⟩ := hpl id' x' hx'
   rw [hL'] at hM'
   cases hM'
   obtain ⟨o, y, o1, o2, o3, o4⟩ := hM2 hn
   obtain ⟨o', y', p1, p2, p3, p4⟩ := hM2' hn'
   have hoo : o ≠ o' := fun e => by
    subst e
    exact rnOk_apart hrn hx hx' hne _ o1 p1
   exact hr.sep o o' y y' L L' o2 p2 hoo (by rw [o3]; exact ho) o4 p4 hn hn'
 · obtain ⟨oi, y, q1, q2, q3, q4, q5⟩ : ∃ oi y, oldId n nh n' ρ id = some oi ∧ look m1 oi = some y ∧ (∃ ob', y.cs = .obj ob' ∧ OLe ob' ob) ∧ lowO n ob = true ∧ rnm n nh n' ρ β id = β oi := by
    rcases MemW_look hm hx with ⟨c1, c2, c3⟩ | ⟨c1, c2, o, y, c3, c4, c5, c6⟩ | ⟨c1, c2, c3, c4, f, c5⟩ | ⟨c1, y, c4, c5, c6⟩
    rotate_left 3
    · refine ⟨id, y, ?_, c4, ?_, c6.2 ob hxo, by simp [rnm, c1]⟩
      · unfold oldId
        have : (Nat.blt id n || Nat.ble n' id) = true := by
         rcases c1 with h | h
         · have : Nat.blt id n = true := by rw [Nat.blt_eq]; exact h
           rw [this]; rfl
         · rw [Nat.ble_eq_true_of_le h, Bool.or_true]
        rw [this]
      · rcases c5.cs with ⟨l, e1, e2⟩ | ⟨q, f, g, e1, e2, _⟩ | ⟨o', o2, e1, e2, e3⟩
        · rw [hxo] at e2; cases e2
        · rw [hxo] at e2; cases e2
        · rw [hxo] at e2; cases e2; exact ⟨_, e1, e3⟩
    · refine ⟨id, x, ?_, c2, ⟨_, hxo, OLe.refl _⟩, c3.2 ob hxo, by simp [rnm, c1]⟩
      unfold oldId
      have : (Nat.blt id n || Nat.ble n' id) = true := by
       rcases c1 with h | h
       · have : Nat.blt id n = true := by rw [Nat.blt_eq]; exact h
         rw [this]; rfl
       · rw [Nat.ble_eq_true_of_le h, Bool.or_true]
      rw [this]
    · have hnot : ¬ (id < n ∨ n' ≤ id) := by omega
      refine ⟨o, y, ?_, c4, ?_, c6.2 ob hxo, by simp [rnm, hnot, c2, c3]⟩
      · unfold oldId
        have : (Nat.blt id n || Nat.ble n' id) = false := by
         rw [Bool.or_eq_false_iff]
         refine ⟨?_, ?_⟩
         · rw [Bool.eq_false_iff]; intro h; rw [Nat.blt_eq] at h; omega
         · rw [Bool.eq_false_iff]; intro h; have := Nat.le_of_ble_eq_true h; omega
        rw [this, c3]
      · rcases c5.cs with ⟨l, e1, e2⟩ | ⟨q, f, g, e1, e2, _⟩ | ⟨o', o2, e1, e2, e3⟩
        · rw [hxo] at e2; cases e2
        · rw [hxo] at e2; cases e2
        · rw [hxo] at e2; cases e2; exact ⟨_, e1, e3⟩
    · rw [hxo] at c5; cases c5
   obtain ⟨ob', q3, q6⟩ := q3
   obtain ⟨L, k1, k2, k3, k4, k5⟩ := hr.objs oi y ob' q2 q3
   refine ⟨L, by rw [q5]; exact k1, k2, k3, (k4.le q6).low q4, fun id' x' L' g1 g2 g3 g4 => ?_⟩
   obtain ⟨M', hM', _, hM2'⟩ := hpl id' x' g2
   rw [g3] at hM'
   cases hM'
   obtain ⟨o', y', p1, p2, p3, p4⟩ := hM2' g4
   refine k5 o' y' L' (fun e => ?_) p2 p4 g4
   subst e
   exact rnOk_apart hrn hx g2 (fun e => g1 e.symm) _ q1 p1
end
def view (slots ids : List Nat) (r : Option (Exit × Nat × St)) : Option (Exit × List (Option AV) × List (Option ABlk) × Nat × Nat × List Bool × List Prop) :=
 match r with
 | some (e, n, s) => match s.ms with | [] => some (e, slots.map (fun t => s.tm[t]?), ids.map (look s.m), s.tm.length, n, s.ob, s.po) | _ :: _ => none
 | none => none
theorem view_out {slots ids : List Nat} {r : Option (Exit × Nat × St)} {e : Exit} {l : List (Option AV)} {b : List (Option ABlk)} {len n : Nat} {ob : List Bool} {po : List Prop} (h : view slots ids r = some (e, l, b, len, n, ob, po)) :
 ∃ s, r = some (e, n, s) ∧ slots.map (fun t => s.tm[t]?) = l ∧ ids.map (look s.m) = b ∧ s.tm.length = len ∧ s.ob = ob ∧ s.po = po ∧ s.ms = [] := by
 unfold view at h
 split at h
 · rename_i e' n' s
   split at h
   · rename_i hms
     simp only [Option.some.injEq, Prod.mk.injEq] at h
     obtain ⟨rfl, h1, h2, h3, rfl, h5, h6⟩ := h
     exact ⟨s, rfl, h1, h2, h3, h5, h6, hms⟩
   · cases h
 · cases h
theorem loop_ob {E : Env} (hE : EnvOk E) {fuel : Nat} {body : Code} {S : Type} (inv : S → Prop) (μ : S → Nat) (tmI : S → List AV) (mI : S → AMem) {tmF : List AV} {mF : AMem} {n nh n' str : Nat} {e : Exit} {rd : Option Nat} (hn1 : n ≤ nh) (hn2 : nh ≤ n') (hrd : ∀ id, rd = some id → id < n)
 {slots ids : List Nat} {vals : List (Option AV)} {blks : List (Option ABlk)} {len : Nat}
 {s0 : S} (h0 : inv s0) (start : ∀ tm m, slots.map (fun t => tm[t]?) = vals → ids.map (look m) = blks → tm.length = len → Wk n nh n' tm m (tmI s0) (mI s0))
 (step : ∀ s, inv s → ∃ path lp e' n1 st', fC E fuel body nh str ⟨tmI s, mI s, 0, 0, false, path, [], [], [], rd, lp⟩ = some (e', n1, st') ∧ n1 ≤ n' ∧ Obs st' ∧ st'.ms = [] ∧
  ((e' = .normal ∧ ∃ s', inv s' ∧ μ s' < μ s ∧ Wk n nh n' st'.tm st'.m (tmI s') (mI s')) ∨ (e' ≠ .normal ∧ e' = e ∧ Wk n n' n' st'.tm st'.m tmF mF))) :
 LoopV E.P body slots ids vals blks len n tmF mF n' e rd := by
 intro tm0 m0 hv1 hv2 hv3 ro C β a w hrdo hf hr hfree
 have hrd' : ∀ β', (∀ id, id < n ∨ n' ≤ id → β' id = β id) → RdOk β' rd ro := by
  intro β' hs
  cases rd with
  | none => cases ro with
    | none => trivial
    | some _ => exact hrdo
  | some id => cases ro with
    | none => exact hrdo
    | some b => obtain ⟨L, h1, h2⟩ := hrdo; exact ⟨L, by rw [hs id (.inl (hrd id rfl))]; exact h1, h2⟩
 have key : ∀ k a1 w, (∃ s, μ s = k ∧ inv s ∧ a1.defers = a.defers ∧ ∃ β', (∀ id, id < n ∨ n' ≤ id → β' id = β id) ∧ (∀ id, nh ≤ id → id < n' → β' id = none) ∧ FrOk β' (tmI s) a1.tmps ∧ Rel C β' (mI s) w) →
  lwp ro E.P body (fun e' a' w' => e' = e ∧ a'.defers = a.defers ∧ ∃ β', Ext β β' ∧ (∀ id, id < n ∨ n' ≤ id → β' id = β id) ∧ FrOk β' tmF a'.tmps ∧ Rel C β' mF w') a1 w := by
  refine lwp_ind _ fun k a1 w ⟨s, hk, hi, hd, β', g1, g2, g3, g4⟩ => ?_
  obtain ⟨path, lp, e', n1, st', hsx, hle, ho, hms, hres⟩ := step s hi
  obtain ⟨gr, hwp⟩ := sxC_ok hE fuel _ _ _ _ (fC_sim _ _ _ _ _ _ _ _ hsx)
  have := hwp (ho.congr rfl rfl) ro a1.defers C β' a1 w (hrd' β' g1) g3 rfl g4 fun id h1 h2 => g2 id h1 (by have h2 : id < n1 := h2; omega)
  refine wpIn_mono (wp_of_wpL this) fun e'' a' w' ⟨he, β'', x1, x2, x3, hd', x4⟩ => ?_
  have hd' : DfOk β'' st'.ms a1.defers a'.defers := hd'
  rw [hms] at hd'
  have hd' : a'.defers = a1.defers := hd'
  subst he
  have hsame : ∀ id, id < n ∨ n' ≤ id → β'' id = β id := fun id hid => by
   rw [x2 id (by show id < nh ∨ n1 ≤ id; omega)]; exact g1 id hid
  rcases hres with ⟨rfl, s', i1, i2, i3⟩ | ⟨hne, rfl, i3⟩
  · obtain ⟨β2, y1, y2, y3, y4⟩ := i3 C β'' w' a'.tmps x3 x4
    exact ⟨μ s', by omega, s', rfl, i1, hd'.trans hd, β2, fun id hid => by rw [y1 id hid]; exact hsame id hid, y2, y3, y4⟩
  · obtain ⟨β2, y1, y2, y3, y4⟩ := i3 C β'' w' a'.tmps x3 x4
    have hpost : (fun e' (a' : Act) w' => e' = e'' ∧ a'.defers = a.defers ∧ ∃ β', Ext β β' ∧ (∀ id, id < n ∨ n' ≤ id → β' id = β id) ∧ FrOk β' tmF a'.tmps ∧ Rel C β' mF w') e'' a' w' := by
     refine ⟨rfl, hd'.trans hd, β2, fun id L hL => ?_, fun id hid => by rw [y1 id hid]; exact hsame id hid, y3, y4⟩
     rcases Nat.lt_or_ge id n with h | h
     · rw [y1 id (.inl h), hsame id (.inl h)]; exact hL
     · rcases Nat.lt_or_ge id n' with h' | h'
       · rw [hfree id h h'] at hL; cases hL
       · rw [y1 id (.inr h'), hsame id (.inr h')]; exact hL
    cases e'' with
    | normal => exact absurd rfl hne
    | _ => exact hpost
 obtain ⟨β2, y1, y2, y3, y4⟩ := start tm0 m0 hv1 hv2 hv3 C β w a.tmps hf hr
 exact key (μ s0) a w ⟨s0, rfl, h0, rfl, β2, y1, y2, y3, y4⟩
def viewF (ids : List Nat) (r : Option (AV × Nat × St)) : Option (AV × List (Option ABlk) × Nat × List Bool × List Prop) :=
 match r with
 | some (v, n, s) => some (v, ids.map (look s.m), n, s.ob, s.po)
 | none => none
theorem viewF_out {ids : List Nat} {r : Option (AV × Nat × St)} {v : AV} {b : List (Option ABlk)} {n : Nat} {ob : List Bool} {po : List Prop} (h : viewF ids r = some (v, b, n, ob, po)) :
 ∃ s, r = some (v, n, s) ∧ ids.map (look s.m) = b ∧ s.ob = ob ∧ s.po = po := by
 unfold viewF at h
 split at h
 · rename_i v' n' s
   simp only [Option.some.injEq, Prod.mk.injEq] at h
   obtain ⟨rfl, h1, rfl, h3, h4⟩ := h
   exact ⟨s, rfl, h1, h3, h4⟩
 · cases h
theorem calls_f {E : Env} (hE : EnvOk E) {g : Nat} {f : FuncId} {args : List AV} {n str n' : Nat} {s s' : St} {r : AV} (h : fCallF E (fC E g) f args n str s = some (r, n', s')) (ho : Obs s') {C : Ctx} {β : Nm} {w : World} {vs : List Value}
 (hvs : γt β args = some vs) (hr : Rel C β s.m w) (hfree : ∀ id, n ≤ id → id < n' → β id = none) :
 Calls E.P f vs.toArray w (fun e w' => ∃ β' v, e = .returned v ∧ Ext β β' ∧ (∀ id, id < n ∨ n' ≤ id → β' id = β id) ∧ γ β' r = some v ∧ Rel C β' s'.m w') :=
 calls_sx hE (fCallF_sim _ _ _ _ _ _ _ _ h) (ho.congr rfl rfl) hvs hr hfree
def stA (m : AMem) (path : List Dec) (lp : List (Option LSum)) : St := ⟨[], m, 0, 0, false, path, [], [], [], none, lp⟩
end Go.Proofs.Ytjmiocacnilchaa
end
/- The symbolic evaluator: words for its use. -/
section
namespace Go.Proofs.Ytjmiocacnilchaa
open Go.RowKit
abbrev VF := AV × List (Option ABlk) × Nat × List Bool × List Prop
abbrev VC := Exit × List (Option AV) × List (Option ABlk) × Nat × Nat × List Bool × List Prop
def i64 (n : Int) : AV := .c (.v (.int .i64 n))
def bo (b : Bool) : AV := .c (.v (.bool b))
def E1 (P : Program) : Env := ⟨P, []⟩
def namesB (P : Program) : Bool := P.funcs.toList.all fun fn => fn.body.isNone || !(fn.name == "runtime.NumGoroutine")
theorem envOk {P : Program} {ct : List (FuncId × CtF)} (hc : ∀ f g, (f, g) ∈ ct → CtOk P f g) (hm : P.follows .mixedOrders = true) (hn : namesB P = true) : EnvOk ⟨P, ct⟩ :=
 ⟨hc, hm, fun f fn c h1 h2 => by
  have hmem : fn ∈ P.funcs.toList := by
   rw [← Array.getElem?_toList] at h1
   exact List.mem_of_getElem? h1
  have := List.all_eq_true.1 hn fn hmem
  simpa [h2] using this⟩
theorem rel_nil (w : World) : Rel (loneC w) (fun _ => none) [] w := by
 refine ⟨rfl, rfl, rfl, Nat.le_refl _, Nat.le_refl _, fun _ _ _ => rfl, fun id x h => ?_, fun id id' x x' L L' h => ?_, fun g L h => ?_, fun id x o h => ?_⟩ <;> cases h
def ctT : CtF
 | [], _, _ => some (.c (.v (.bool true)), [], 0, [])
 | _, _, _ => none
theorem ctT_of {P : Program} {f : FuncId} (hf : ∃ (fn : Func) (c : Code), P.funcs[f]? = some fn ∧ fn.body = some c)
 (h : ∀ (w : World), Calls P f #[] w fun e w' => e = .returned (.bool true) ∧ Below w.heap.size w w') : CtOk P f ctT := by
 refine ⟨hf, fun C β m m2 w args ib r news k ob vs hct ho hs hr hfree hlim hv => ?_⟩
 unfold ctT at hct
 split at hct
 · simp only [Option.some.injEq, Prod.mk.injEq] at hct
   obtain ⟨rfl, rfl, rfl, rfl⟩ := hct
   cases hv
   refine (h w).mono ?_
   rintro e w' ⟨rfl, hb⟩
   exact ⟨β, _, rfl, Ext.refl _, fun _ _ => rfl, rfl, by rw [List.append_nil]; exact hr.below hb⟩
 · cases hct
def stC (m : AMem) : St := ⟨[], m, 0, 0, true, [], [], [], [], none, []⟩
def pD : Nat → Nat → List Dec
 | 0, _ => []
 | n + 1, m => (match m % 3 with | 0 => Dec.a | 1 => Dec.b true | _ => Dec.b false) :: pD n (m / 3)
theorem two {b : Bool} {A B X : Prop} (H : (b = true → A) ∧ (b = false → B)) (h1 : A → X) (h2 : B → X) : X :=
 match b, H with
 | true, H => h1 (H.1 rfl)
 | false, H => h2 (H.2 rfl)
end Go.Proofs.Ytjmiocacnilchaa
end
/- The symbolic evaluator: loops told by what is looked at, at each head. No Go text is in sight. -/
section
namespace Go.Proofs.Ytjmiocacnilchaa
open Go.RowKit
theorem low_lit {n ty sz : Nat} {own row : Bool} {l : List AC} (h : l.all (lowC n) = true) : lowB n ⟨own, row, ty, sz, .lit l⟩ :=
 lowB_cells (fun k j => by
  simp only [Cs.get, List.getD]
  cases e : l[j]? with
  | none => rfl
  | some x => exact List.all_eq_true.1 h x (List.mem_of_getElem? e)) (fun o e => by cases e)
theorem low_arr {n ty sz q : Nat} {own row : Bool} {f : Nat → List AC} (h : ∀ k j, lowC n ((f k).getD j nov) = true) : lowB n ⟨own, row, ty, sz, .arr q f⟩ :=
 lowB_cells h (fun o e => by cases e)
theorem GW_lowV {n nh n' : Nat} {ρ : Rn} {x : AV} (h : lowV n x = true) : GW n nh n' ρ x x := fun _ _ e => γ_low h e
theorem MemW_mem {n nh n' : Nat} {ρ : Rn} {m1 : AMem} : ∀ {m2 : AMem}, (∀ p ∈ m2, MemC n nh n' ρ m1 p.1 p.2) → MemW n nh n' ρ m1 m2
 | [], _ => trivial
 | (_, _) :: _, h => ⟨h _ (List.mem_cons_self ..), MemW_mem fun p hp => h p (List.mem_cons_of_mem _ hp)⟩
theorem FrW_of_mem {n nh n' : Nat} {ρ : Rn} {tm1 : List AV} : ∀ {lv : List (Nat × AV)}, (∀ q ∈ lv, ∃ a1, tm1[q.1]? = some a1 ∧ a1 ≠ .any ∧ GW n nh n' ρ a1 q.2) → FrW n nh n' ρ tm1 lv
 | [], _ => trivial
 | (_, _) :: _, h => ⟨h _ (List.mem_cons_self ..), FrW_of_mem fun p hp => h p (List.mem_cons_of_mem _ hp)⟩
def keptB (n n' : Nat) (id : Nat) : Bool := Nat.blt id n || Nat.ble n' id
theorem rnOk_kept {n nh n' : Nat} {ρ : Rn} : ∀ {m : AMem}, (∀ p ∈ m, keptB n n' p.1 = true) → rnOk n nh n' ρ m = true
 | [], _ => rfl
 | (id, _) :: r, h => by
  simp only [rnOk, Bool.and_eq_true]
  refine ⟨List.all_eq_true.2 fun p hp => ?_, rnOk_kept fun p hp => h p (List.mem_cons_of_mem _ hp)⟩
  have h1 : keptB n n' id = true := h _ (List.mem_cons_self ..)
  have h2 : keptB n n' p.1 = true := h p (List.mem_cons_of_mem _ hp)
  unfold keptB at h1 h2
  simp only [oldId, h1, h2]
  cases e : Nat.beq p.1 id with
  | true => rfl
  | false =>
   simp only [Bool.false_or, Bool.not_eq_true']
   rw [Bool.eq_false_iff]
   intro h3
   have := Nat.eq_of_beq_eq_true h3
   subst this
   simp at e
theorem wk_kept {n nh n' : Nat} {tm : List AV} {m : AMem} {N : Nat} {lv : List (Nat × AV)} {mm : AMem} (h1 : n ≤ nh) (h2 : nh ≤ n') (h3 : n' ≤ lim) (hlen : tm.length = N)
 (hk : (mm.all fun p => keptB n n' p.1) = true) (hm : ∀ p ∈ mm, lowB n p.2 ∧ ∃ y, look m p.1 = some y ∧ BEq y p.2)
 (hf : ∀ q ∈ lv, tm[q.1]? = some q.2 ∧ q.2 ≠ .any ∧ lowV n q.2 = true) : Wk n nh n' tm m (mkFr N lv) mm := by
 have hk : ∀ p ∈ mm, keptB n n' p.1 = true := fun p hp => List.all_eq_true.1 hk p hp
 refine wk_mk (ρ := fun _ => .inr 1) h1 h2 h3 hlen (rnOk_kept hk) (MemW_mem fun p hp => ?_) (FrW_of_mem fun q hq => ?_)
 · obtain ⟨g1, y, g2, g3⟩ := hm p hp
   refine .inr (.inr (.inr ⟨?_, y, g2, g3, g1⟩))
   have := hk p hp
   simp only [keptB, Bool.or_eq_true] at this
   rcases this with h | h
   · exact .inl (by rwa [Nat.blt_eq] at h)
   · exact .inr (Nat.le_of_ble_eq_true h)
 · obtain ⟨g1, g2, g3⟩ := hf q hq
   exact ⟨_, g1, g2, GW_lowV g3⟩
def BL : List ABlk → List (Option ABlk) → Prop
 | [], [] => True
 | b :: bs, some y :: ys => BEq y b ∧ BL bs ys
 | _, _ => False
theorem BL.refl : ∀ (l : List ABlk), BL l (l.map some)
 | [] => trivial
 | b :: bs => ⟨BEq.refl b, BL.refl bs⟩
theorem BL.mem : ∀ {ids : List Nat} {bs : List ABlk} {ys : List (Option ABlk)}, BL bs ys → ∀ p ∈ ids.zip bs, ∃ y, (p.1, some y) ∈ ids.zip ys ∧ BEq y p.2
 | [], _, _, _, p, hp => by simp at hp
 | _ :: _, [], _, _, p, hp => by simp at hp
 | i :: is, b :: bs, [], h, p, hp => h.elim
 | i :: is, b :: bs, none :: ys, h, p, hp => h.elim
 | i :: is, b :: bs, some y :: ys, h, p, hp => by
  rw [List.zip_cons_cons, List.mem_cons] at hp
  rcases hp with rfl | hp
  · exact ⟨y, by simp, h.1⟩
  · obtain ⟨y', h1, h2⟩ := h.2.mem p hp
    exact ⟨y', by rw [List.zip_cons_cons]; exact List.mem_cons_of_mem _ h1, h2⟩
theorem zip_map_mem {α β : Type} {f : α → β} : ∀ {l : List α} {a : α} {b : β}, (a, b) ∈ l.zip (l.map f) → b = f a
 | [], a, b, h => by simp at h
 | x :: r, a, b, h => by
  rw [List.map_cons, List.zip_cons_cons, List.mem_cons] at h
  rcases h with h | h
  · cases h; rfl
  · exact zip_map_mem h
theorem zip_append_mem {α β : Type} : ∀ {l l' : List α} {r : List β} {p : α × β}, p ∈ l.zip r → p ∈ (l ++ l').zip r
 | [], _, _, _, h => by simp at h
 | x :: l, l', [], _, h => by simp at h
 | x :: l, l', y :: r, p, h => by
  rw [List.zip_cons_cons, List.mem_cons] at h
  rw [List.cons_append, List.zip_cons_cons, List.mem_cons]
  exact h.imp id zip_append_mem
theorem zip_take_mem {α β : Type} : ∀ {l : List α} {r : List β} {p : α × β}, p ∈ l.zip (r.take l.length) → p ∈ l.zip r
 | [], _, _, h => by simp at h
 | x :: l, [], _, h => by simp at h
 | x :: l, y :: r, p, h => by
  rw [List.length_cons, List.take_succ_cons, List.zip_cons_cons, List.mem_cons] at h
  rw [List.zip_cons_cons, List.mem_cons]
  exact h.imp id zip_take_mem
theorem zip_some_mem {α β : Type} : ∀ {l : List α} {r : List β} {p : α × β}, p ∈ l.zip r → (p.1, some p.2) ∈ l.zip (r.map some)
 | [], _, _, h => by simp at h
 | x :: l, [], _, h => by simp at h
 | x :: l, y :: r, p, h => by
  rw [List.zip_cons_cons, List.mem_cons] at h
  rw [List.map_cons, List.zip_cons_cons, List.mem_cons]
  rcases h with rfl | h
  · exact .inl rfl
  · exact .inr (zip_some_mem h)
def notAny : AV → Bool
 | .any => false
 | _ => true
theorem notAny_ne {x : AV} (h : notAny x = true) : x ≠ .any := by intro e; subst e; cases h
def okV (n : Nat) (v : AV) : Bool := lowV n v && notAny v
theorem zip_fst_all {f : Nat → Bool} : ∀ {ids : List Nat} {bs : List ABlk}, ids.all f = true → ((ids.zip bs).all fun p => f p.1) = true
 | [], _, _ => by simp
 | _ :: _, [], _ => by simp
 | i :: is, b :: bs, h => by
  simp only [List.all_cons, Bool.and_eq_true] at h
  rw [List.zip_cons_cons, List.all_cons, Bool.and_eq_true]
  exact ⟨h.1, zip_fst_all h.2⟩
def StepV {S : Type} (n n' N : Nat) (hs xs ids : List Nat) (inv : S → Prop) (μ : S → Nat) (vals : S → List AV) (blks : S → List ABlk) (e : Exit) (out : List (Nat × AV)) (mF : AMem) (s : S) (r : VC) : Prop :=
 allT r.2.2.2.2.2.1 ∧ r.2.2.2.2.2.2 = [] ∧ r.2.2.2.2.1 ≤ n' ∧ r.2.2.2.1 = N ∧
  ((r.1 = .normal ∧ ∃ s', inv s' ∧ μ s' < μ s ∧ r.2.1.take hs.length = (vals s').map some ∧ BL (blks s') r.2.2.1) ∨
   (r.1 ≠ .normal ∧ r.1 = e ∧ (∀ q ∈ out, okV n q.2 = true ∧ (q.1, some q.2) ∈ (hs ++ xs).zip r.2.1) ∧ ∀ p ∈ mF, keptB n n' p.1 = true ∧ lowB n p.2 ∧ ∃ y, (p.1, some y) ∈ ids.zip r.2.2.1 ∧ BEq y p.2))
theorem loop_viewE {E : Env} (hE : EnvOk E) {fuel : Nat} {body : Code} {S : Type} (inv : S → Prop) (μ : S → Nat) (hs xs ids : List Nat) (vals : S → List AV) (blks : S → List ABlk) {N n nh n' str : Nat} {e : Exit} {out : List (Nat × AV)} {mF : AMem}
 (hn1 : n ≤ nh) (hn2 : nh ≤ n') (hn3 : n' ≤ lim) {s0 : S} (h0 : inv s0) (hlen : ∀ s, hs.length = (vals s).length ∧ ids.length = (blks s).length) (hids : ids.all (keptB n n') = true) {eblks : List (Option ABlk)} (heb : BL (blks s0) eblks)
 (hlow : ∀ s, inv s → ((vals s).all (okV n)) = true ∧ ∀ b ∈ blks s, lowB n b)
 (step : ∀ s, inv s → ∃ p lp r, view (hs ++ xs) ids (fC E fuel body nh str ⟨mkFr N (hs.zip (vals s)), ids.zip (blks s), 0, 0, false, p, [], [], [], none, lp⟩) = some r ∧ StepV n n' N hs xs ids inv μ vals blks e out mF s r) :
 LoopV E.P body hs ids ((vals s0).map some) eblks N n (mkFr N out) mF n' e none := by
 have kept : ∀ s, inv s → ∀ tm m, (∀ q ∈ hs.zip (vals s), tm[q.1]? = some q.2) → (∀ p ∈ ids.zip (blks s), ∃ y, look m p.1 = some y ∧ BEq y p.2) → tm.length = N → Wk n nh n' tm m (mkFr N (hs.zip (vals s))) (ids.zip (blks s)) := by
  intro s hi tm m g1 g2 g3
  obtain ⟨l1, l2⟩ := hlow s hi
  refine wk_kept hn1 hn2 hn3 g3 (zip_fst_all hids) (fun p hp => ⟨l2 _ (List.of_mem_zip hp).2, g2 p hp⟩) fun q hq => ?_
  have := List.all_eq_true.1 l1 _ (List.of_mem_zip hq).2
  simp only [okV, Bool.and_eq_true] at this
  exact ⟨g1 q hq, notAny_ne this.2, this.1⟩
 refine loop_ob hE (fuel := fuel) (str := str) inv μ (fun s => mkFr N (hs.zip (vals s))) (fun s => ids.zip (blks s)) hn1 hn2 (fun _ h => by cases h) h0 (fun tm m g1 g2 g3 => kept s0 h0 tm m (fun q hq => ?_) (fun p hp => ?_) g3) fun s hi => ?_
 · have := zip_some_mem hq
   rw [← g1] at this
   exact (zip_map_mem this).symm
 · obtain ⟨y, h1, h2⟩ := heb.mem p hp
   rw [← g2] at h1
   exact ⟨y, (zip_map_mem h1).symm, h2⟩
 · obtain ⟨p, lp, ⟨e', l, b, len, n1, ob, po⟩, hv, hob, hpo, hn, hN, hw⟩ := step s hi
   simp only at hob hpo hn hN hw
   obtain ⟨st, v1, v2, v3, v4, v6, v7, v8⟩ := view_out hv
   refine ⟨p, lp, e', n1, st, v1, hn, ⟨by rw [v6]; exact hob, by rw [v7, hpo]; simp⟩, v8, ?_⟩
   rcases hw with ⟨rfl, s', i1, i2, i3, i4⟩ | ⟨hne, rfl, i3, i4⟩
   · refine .inl ⟨rfl, s', i1, i2, kept s' i1 _ _ (fun q hq => ?_) (fun p hp => ?_) (v4.trans hN)⟩
     · have h1 := zip_some_mem hq
       rw [← i3] at h1
       have h2 : (q.1, some q.2) ∈ (hs ++ xs).zip l := zip_append_mem (zip_take_mem h1)
       rw [← v2] at h2
       exact (zip_map_mem h2).symm
     · obtain ⟨y, h1, h2⟩ := i4.mem p hp
       rw [← v3] at h1
       exact ⟨y, (zip_map_mem h1).symm, h2⟩
   · refine .inr ⟨hne, rfl, wk_kept (by omega) (Nat.le_refl _) hn3 (v4.trans hN) (List.all_eq_true.2 fun p hp => (i4 p hp).1) (fun p hp => ?_) fun q hq => ?_⟩
     · obtain ⟨_, g2, y, g3, g4⟩ := i4 p hp
       rw [← v3] at g3
       exact ⟨g2, y, (zip_map_mem g3).symm, g4⟩
     · obtain ⟨g1, g2⟩ := i3 q hq
       simp only [okV, Bool.and_eq_true] at g1
       rw [← v2] at g2
       exact ⟨(zip_map_mem g2).symm, notAny_ne g1.2, g1.1⟩
end Go.Proofs.Ytjmiocacnilchaa
end
/- The symbolic evaluator: loops that run over a list up to the first element that stops them. No Go text is in sight. -/
section
namespace Go.Proofs.Ytjmiocacnilchaa
open Go.RowKit
def stH (N : Nat) (hs ids : List Nat) (vals : List AV) (blks : List ABlk) (p : List Dec) (lp : List (Option LSum)) : St := ⟨mkFr N (hs.zip vals), ids.zip blks, 0, 0, false, p, [], [], [], none, lp⟩
theorem inb_arr {o r : Bool} {t s n : Nat} {g : Nat → List AC} {k j : Nat} : ABlk.inb ⟨o, r, t, s, .arr n g⟩ k j = (decide (k < n) && decide (j ≤ s)) := rfl
theorem inb_lit {o r : Bool} {t s : Nat} {l : List AC} {k j : Nat} : ABlk.inb ⟨o, r, t, s, .lit l⟩ k j = decide (k * s + j ≤ l.length) := rfl
end Go.Proofs.Ytjmiocacnilchaa
end
/- The symbolic evaluator: loops within loops: a round may ask for sums of its own. No Go text is in sight. -/
section
namespace Go.Proofs.Ytjmiocacnilchaa
open Go.RowKit
theorem mem_zip_some {ids : List Nat} {blks : List ABlk} {p : Nat × ABlk} (h : p ∈ ids.zip blks) : (p.1, some p.2) ∈ ids.zip (blks.map some) := by
 rw [List.zip_map_right]
 exact List.mem_map.2 ⟨p, h, rfl⟩
theorem mf_all {n n' : Nat} {ids : List Nat} {blks : List ABlk} {r : List (Option ABlk)} (hk : ids.all (keptB n n') = true) (hl : ∀ b ∈ blks, lowB n b) (hr : r = blks.map some) : ∀ p ∈ ids.zip blks, keptB n n' p.1 = true ∧ lowB n p.2 ∧ ∃ y, (p.1, some y) ∈ ids.zip r ∧ BEq y p.2 := by
 intro p hp
 subst hr
 exact ⟨List.all_eq_true.1 hk _ (List.of_mem_zip hp).1, hl _ (List.of_mem_zip hp).2, p.2, mem_zip_some hp, BEq.refl _⟩
end Go.Proofs.Ytjmiocacnilchaa
end
/- Closed runs that read package variables, as contracts. No Go text is in sight. -/
section
namespace Go.Proofs.Ytjmiocacnilchaa
open Go.RowKit
theorem below_lone {w w' : World} {β : Nm} {m : AMem} (h : Rel (loneC w) β m w') : Below w.heap.size w w' := ⟨h.os, h.tape, h.output, h.size, fun b hb => h.out b hb fun h => h⟩
end Go.Proofs.Ytjmiocacnilchaa
end
/- Contracts of functions that write nothing and answer by plain values, by what they read. No Go text is in sight. -/
section
namespace Go.Proofs.Ytjmiocacnilchaa
open Go.RowKit
/-! ### plain values -/
def GoodF (R : AV) (r : VF) : Prop := r.1 = R ∧ r.2.2.1 ≤ lim ∧ allT r.2.2.2.1 ∧ ∀ q ∈ r.2.2.2.2, q
end Go.Proofs.Ytjmiocacnilchaa
end
