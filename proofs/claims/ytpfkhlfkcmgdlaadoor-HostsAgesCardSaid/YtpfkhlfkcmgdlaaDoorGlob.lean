/- Closed runs that read package variables, as contracts. No Go text is in sight. -/
import Derived.Test.YtpfkhlfkcmgdlaaDoorSxUse
set_option linter.unusedSimpArgs false
set_option linter.unusedVariables false
namespace Go.Proofs.YtpfkhlfkcmgdlaaDoor
open Go.RowKit

def eqAC : AC → AC → Bool
  | .v (.int k x), .v (.int k' y) => decide (k = k') && decide (x = y)
  | .v (.bool a), .v (.bool b) => a == b
  | _, _ => false
theorem eqAC_eq {x y : AC} (h : eqAC x y = true) : x = y := by
  unfold eqAC at h
  split at h
  · simp only [Bool.and_eq_true, decide_eq_true_eq] at h; rw [h.1, h.2]
  · simp at h; rw [h]
  · cases h
def eqLs : List AC → List AC → Bool
  | [], [] => true
  | x :: r, y :: q => eqAC x y && eqLs r q
  | _, _ => false
theorem eqLs_eq : ∀ {l q : List AC}, eqLs l q = true → l = q
  | [], [], _ => rfl
  | [], _ :: _, h => by simp [eqLs] at h
  | _ :: _, [], h => by simp [eqLs] at h
  | x :: r, y :: q, h => by
    simp only [eqLs, Bool.and_eq_true] at h
    rw [eqAC_eq h.1, eqLs_eq h.2]
def eqBk (x y : ABlk) : Bool :=
  match x.cs, y.cs with
  | .lit l, .lit q => eqLs l q && (x.row == y.row && (Nat.beq x.ty y.ty && Nat.beq x.sz y.sz))
  | _, _ => false
theorem eqBk_eq {x y : ABlk} (h : eqBk x y = true) : { x with own := false } = ({ y with own := false } : ABlk) := by
  obtain ⟨o, rw, t, s, c⟩ := x
  obtain ⟨o', rw', t', s', c'⟩ := y
  unfold eqBk at h
  split at h
  · rename_i l q h1 h2
    simp only at h1 h2
    subst h1; subst h2
    simp only [Bool.and_eq_true, beq_iff_eq] at h
    obtain ⟨e1, e2, e3, e4⟩ := h
    rw [eqLs_eq e1, e2, Nat.eq_of_beq_eq_true e3, Nat.eq_of_beq_eq_true e4]
  · cases h
/-- are these blocks there? -/
def subB (g m : AMem) : Bool := g.all fun p => match look m p.1 with | some b => !p.2.own && eqBk b p.2 | none => false
/-- names of variables alone -/
def nmG (β : Nm) : Nm := fun id => if lim ≤ id then β id else none
theorem rel_glob {C : Ctx} {β : Nm} {m m2 g : AMem} {w : World} (hr : Rel C β m2 w) (hs : Sub m m2) (hg : subB g m = true) (hlim : (g.all fun p => Nat.ble lim p.1) = true) : Rel (loneC w) (nmG β) g w := by
  have hlk : ∀ id x, look g id = some x → lim ≤ id ∧ x.own = false ∧ ∃ b, look m2 id = some b ∧ ({ b with own := false } : ABlk) = x ∧ isO x = false := by
    intro id x hx
    have hm := look_mem hx
    have h1 := List.all_eq_true.1 hg _ hm
    have h2 := List.all_eq_true.1 hlim _ hm
    simp only at h1 h2
    split at h1
    · rename_i b hb
      simp only [Bool.and_eq_true, Bool.not_eq_true'] at h1
      have e := eqBk_eq h1.2
      have ho : x = { x with own := false } := by rw [← h1.1]
      refine ⟨Nat.le_of_ble_eq_true h2, h1.1, b, hs _ _ hb, by rw [e, ← ho], ?_⟩
      have h3 := h1.2
      unfold eqBk at h3
      split at h3
      · rename_i l q _ hq; simp [isO, hq]
      · cases h3
    · cases h1
  refine ⟨rfl, rfl, rfl, Nat.le_refl _, Nat.le_refl _, fun _ _ _ => rfl, fun id x hx => ?_, fun id id' x x' L L' hx _ _ ho => ?_, fun k L hL => ?_, fun id x o hx ho => ?_⟩
  · obtain ⟨h1, h2, b, h3, h4, _⟩ := hlk id x hx
    obtain ⟨L, hL, hb⟩ := hr.blk id b h3
    subst h4
    refine ⟨L, by simp [nmG, h1, hL], hb.sz, hb.lit, fun k j hi => ?_, hb.lt, fun h => (by cases h), hb.arrl, hb.rowc⟩
    obtain ⟨g1, u, g2, g3, g4⟩ := hb.cells k j hi
    obtain ⟨_, _, b', h3', h4', _⟩ := hlk id _ hx
    have hm := look_mem hx
    have h5 := List.all_eq_true.1 hg _ hm
    simp only at h5
    -- the cells are plain values
    split at h5
    · rename_i b2 hb2
      simp only [Bool.and_eq_true] at h5
      have h6 := h5.2
      unfold eqBk at h6
      split at h6
      · rename_i l q hl hq
        have hplain : ∀ {l q : List AC}, eqLs l q = true → ∀ x ∈ q, ∃ v, x = .v v := by
          intro l
          induction l with
          | nil => intro q h x hx; cases q with
            | nil => cases hx
            | cons _ _ => simp [eqLs] at h
          | cons a r ih => intro q h x hx; cases q with
            | nil => simp [eqLs] at h
            | cons c q =>
              simp only [eqLs, Bool.and_eq_true] at h
              rcases List.mem_cons.1 hx with rfl | hx
              · have := h.1
                unfold eqAC at this
                split at this
                · exact ⟨_, rfl⟩
                · exact ⟨_, rfl⟩
                · cases this
              · exact ih h.2 x hx
        simp only [Bool.and_eq_true] at h6
        have hq : b.cs = .lit q := hq
        refine ⟨g1, u, ?_, g3, g4⟩
        simp only [hq, Cs.get] at g2 ⊢
        have hgv : ∃ v, q.getD j nov = .v v := by
          simp only [List.getD]
          cases hj : q[j]? with
          | none => exact ⟨_, rfl⟩
          | some x => exact hplain h6.1 x (List.mem_of_getElem? hj)
        obtain ⟨v, hv⟩ := hgv
        rw [hv] at g2 ⊢
        exact g2
      · cases h6
    · cases h5
  · obtain ⟨_, h2, _⟩ := hlk id x hx
    rw [h2] at ho
    cases ho
  · have : nmG β (gid k) = β (gid k) := by
      unfold nmG
      rw [if_pos (by unfold gid lim; omega)]
    rw [this] at hL
    exact hr.glob k L hL
  · obtain ⟨_, _, _, _, _, h5⟩ := hlk id x hx
    simp [isO, ho] at h5
/-- a contract: where these variables are so, it returns true and writes nothing -/
def ctTG (g : AMem) : CtF
  | [], m, _ => match subB g m with | true => some (.c (.v (.bool true)), [], 0, []) | false => none
  | _, _, _ => none
theorem below_lone {w w' : World} {β : Nm} {m : AMem} (h : Rel (loneC w) β m w') : Below w.heap.size w w' := ⟨h.os, h.tape, h.output, h.size, fun b hb => h.out b hb fun h => h⟩
theorem ctTG_of {E : Env} (hE : EnvOk E) {f : FuncId} {g : AMem} {k n str n' : Nat} (hf : ∃ (fn : Func) (c : Code), E.P.funcs[f]? = some fn ∧ fn.body = some c) (hlim : (g.all fun p => Nat.ble lim p.1) = true) (hn : n' ≤ lim)
    (h : viewF [] (fCallF E (fC E k) f [] n str (stC g)) = some (bo true, [], n', [], [])) : CtOk E.P f (ctTG g) := by
  refine ⟨hf, fun C β m m2 w args ib r news k' ob vs hct ho hs hr hfree hlim' hv => ?_⟩
  unfold ctTG at hct
  split at hct
  · split at hct
    · rename_i hsub
      simp only [Option.some.injEq, Prod.mk.injEq] at hct
      obtain ⟨rfl, rfl, rfl, rfl⟩ := hct
      cases hv
      obtain ⟨s', r1, r2, r3, r4⟩ := viewF_out h
      refine (calls_f hE r1 ⟨by rw [r3]; simp [allT], by rw [r4]; simp⟩ (C := loneC w) (β := nmG β) (w := w) (vs := []) rfl (rel_glob hr hs hsub hlim) (fun id h1 h2 => by unfold nmG; rw [if_neg (by omega)])).mono ?_
      rintro e w' ⟨β', v, rfl, _, _, hv, hr'⟩
      cases hv
      exact ⟨β, _, rfl, Ext.refl _, fun _ _ => rfl, rfl, by rw [List.append_nil]; exact hr.below (below_lone hr')⟩
    · cases hct
  · cases hct
end Go.Proofs.YtpfkhlfkcmgdlaaDoor
