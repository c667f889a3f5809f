/- What is delivered, as a function of the reports alone; both ways to find it come to it. -/
import Derived.Test.YtjmiocacnilchaaRepB
import Derived.Test.YtjmiocacnilchaaRef20
set_option linter.unusedSimpArgs false
set_option linter.unusedVariables false
namespace Go.Proofs.Ytjmiocacnilchaa
open Go.RowKit

/-- of an entry: is it there, its report -/
abbrev RP := Bool × Said
def hitP (a : Int) (h : RP) : Bool := h.1 && (h.2.is && (h.2.at_ == a))
def hitsP (a : Int) (R : List RP) (i : Nat) : List Payload := ((R.take i).filter (hitP a)).map (·.2.p)
/-- what is delivered of these payloads -/
def dl (a : Int) (L : List Payload) : Said :=
  if fnd2 L L.length = [] then Said.zero else if same1 (fnd2 L L.length) (fnd2 L L.length).length = true then ⟨true, a, (fnd2 L L.length).getD 0 Payload.zero⟩ else Said.zero
def dlv (nn : Int) (R : List RP) (a : Int) : Said := if 4 ≤ nn ∧ nn ≤ 16 ∧ inAge a = true then dl a (hitsP a R nn.toNat) else Said.zero

theorem fnd2_mem (L : List Payload) (p : Payload) : ∀ i, i ≤ L.length → (p ∈ fnd2 L i ↔ 2 ≤ (L.take i).count p)
  | 0, _ => by simp [fnd2]
  | i + 1, h => by
    have e : L.getD i Payload.zero = L[i] := by simp [List.getD, show i < L.length by omega]
    simp only [fnd2, List.mem_append, fnd2_mem L p i (by omega), fnd3, List.mem_filter, decide_eq_true_eq, e]
    rw [List.take_succ_eq_append_getElem (by omega), List.count_append, List.count_singleton]
    by_cases hp : L[i] = p
    · subst hp
      rw [← List.count_pos_iff]
      simp only [beq_self_eq_true, if_true, and_true]
      omega
    · have : ¬ p = L[i] := fun e => hp e.symm
      simp [hp, this]
/-- two of them are this one -/
def twice (L : List Payload) (p : Payload) : Prop := 2 ≤ L.count p
theorem fnd_mem (L : List Payload) (p : Payload) : p ∈ fnd2 L L.length ↔ twice L p := by rw [fnd2_mem L p _ (Nat.le_refl _), List.take_length]; rfl
/-- there is one only, or what is delivered is zero -/
theorem dl_spec (a : Int) (L : List Payload) : (∃ p, twice L p ∧ (∀ q, twice L q → q = p) ∧ dl a L = ⟨true, a, p⟩) ∨ ((¬ ∃ p, twice L p ∧ ∀ q, twice L q → q = p) ∧ dl a L = Said.zero) := by
  unfold dl
  cases hF : fnd2 L L.length with
  | nil =>
    refine .inr ⟨fun ⟨p, h, _⟩ => ?_, by simp⟩
    rw [← fnd_mem, hF] at h
    cases h
  | cons p r =>
    have hp : twice L p := by rw [← fnd_mem, hF]; simp
    by_cases hs : same1 (p :: r) (p :: r).length = true
    · refine .inl ⟨p, hp, fun q hq => ?_, by rw [if_neg (by simp), if_pos hs]; rfl⟩
      rw [← fnd_mem, hF] at hq
      have := List.all_eq_true.1 hs q (by rw [List.take_length]; exact hq)
      simpa using this
    · refine .inr ⟨fun ⟨q, h, hu⟩ => hs ?_, by rw [if_neg (by simp), if_neg hs]⟩
      refine List.all_eq_true.2 fun x hx => ?_
      rw [List.take_length, ← hF, fnd_mem] at hx
      simp [hu x hx, hu p hp]
theorem dl_eq {a : Int} {L : List Payload} {p : Payload} (h : twice L p) (hu : ∀ q, twice L q → q = p) : dl a L = ⟨true, a, p⟩ := by
  rcases dl_spec a L with ⟨q, h1, h2, h3⟩ | ⟨h1, _⟩
  · rw [h3, h2 p h]
  · exact absurd ⟨p, h, hu⟩ h1
theorem dl_zero {a : Int} {L : List Payload} (h : ¬ ∃ p, twice L p ∧ ∀ q, twice L q → q = p) : dl a L = Said.zero := by
  rcases dl_spec a L with ⟨q, h1, h2, h3⟩ | ⟨_, h1⟩
  · exact absurd ⟨q, h1, h2⟩ h
  · exact h1

/-! the map's way -/
def rp (h : Held) : RP := (h.is, h.cell.report)
def rpR (h : RHeld) : RP := (h.is, h.cell.report)
theorem hits_rp (a : Int) (l : List Held) (i : Nat) : hitsP a (l.map rp) i = ((l.take i).filter fun h => h.is && h.cell.report.is && decide (h.cell.report.at_ = a)).map (·.cell.report.p) := by
  have e : ((fun h : Held => h.is && h.cell.report.is && decide (h.cell.report.at_ = a))) = hitP a ∘ rp := by
    funext h
    simp only [hitP, rp, Function.comp, Bool.and_assoc]
    rfl
  rw [hitsP, ← List.map_take, List.filter_map, List.map_map, e]
  rfl
theorem hits_rpR (a : Int) (l : List RHeld) (i : Nat) : hitsP a (l.map rpR) i = hits a l i := by
  rw [hitsP, ← List.map_take, List.filter_map, List.map_map]
  rfl

def delInv (a : Int) (L : List Payload) (s : DelSt) : Prop :=
  (∀ p, s.m.cnt p = L.count p) ∧ ((s.out = Said.zero ∧ ∀ p, ¬ twice L p) ∨ ∃ p, s.out = ⟨true, a, p⟩ ∧ twice L p ∧ ∀ q, twice L q → q = p)
def delOk (a : Int) (L : List Payload) : Option DelSt → Prop
  | some s => delInv a L s
  | none => ∃ p q, twice L p ∧ twice L q ∧ p ≠ q
theorem delRun_ok (a : Int) (l : List Held) : ∀ i, i ≤ l.length → delOk a (hitsP a (l.map rp) i) (delRun a (l.take i))
  | 0, _ => ⟨fun p => by simp [hitsP, PM.cnt, PM.find], .inl ⟨rfl, fun p => by simp [hitsP, twice]⟩⟩
  | i + 1, h => by
    have ih := delRun_ok a l i (by omega)
    have hx : l[i]? = some l[i] := List.getElem?_eq_getElem (by omega)
    have hs : hitsP a (l.map rp) (i + 1) = hitsP a (l.map rp) i ++ if l[i].is && l[i].cell.report.is && decide (l[i].cell.report.at_ = a) then [l[i].cell.report.p] else [] := by
      rw [hits_rp, hits_rp, List.take_succ_eq_append_getElem (by omega), List.filter_append, List.map_append]
      congr 1
      by_cases hh : (l[i].is && l[i].cell.report.is && decide (l[i].cell.report.at_ = a)) = true
      · rw [if_pos hh, List.filter_cons, if_pos hh]; rfl
      · rw [if_neg hh, List.filter_cons, if_neg hh]; rfl
    cases hr : delRun a (l.take i) with
    | none =>
      rw [delRun_none hr (by omega)]
      rw [hr] at ih
      obtain ⟨p, q, h1, h2, h3⟩ := ih
      refine ⟨p, q, ?_, ?_, h3⟩ <;> rw [hs, twice, List.count_append] <;> simp only [twice] at h1 h2 <;> omega
    | some s =>
      rw [delRun_snoc hx hr]
      rw [hr] at ih
      obtain ⟨hc, ho⟩ := ih
      generalize hitsP a (l.map rp) i = L at hs hc ho
      generalize l[i] = x at hs
      rw [hs]
      unfold delStep
      by_cases hh : (x.is && x.cell.report.is && decide (x.cell.report.at_ = a)) = true
      · rw [if_pos hh]
        simp only [hh, if_true]
        generalize x.cell.report.p = p
        have hcnt : ∀ q, (L ++ [p]).count q = L.count q + if q = p then 1 else 0 := fun q => by
          rw [List.count_append, List.count_singleton]
          by_cases e : q = p
          · simp [e]
          · have : ¬ p = q := fun h => e h.symm
            simp [e, this]
        have hm : ∀ q, (s.m.inc p).cnt q = (L ++ [p]).count q := fun q => by
          rw [cnt_inc, hcnt, hc]
          by_cases e : q = p
          · simp [e, hc]
          · simp [e, hc]
        have hp2 : (L ++ [p]).count p = L.count p + 1 := by rw [hcnt]; simp
        have hne : ∀ q, q ≠ p → (twice (L ++ [p]) q ↔ twice L q) := fun q hq => by simp [twice, hcnt, hq]
        have hmono : ∀ q, twice L q → twice (L ++ [p]) q := fun q hq => by
          have := hcnt q
          simp only [twice] at hq ⊢
          omega
        by_cases h2 : (s.m.inc p).cnt p = 2
        · rw [if_pos h2]
          rw [hm, hp2] at h2
          have ht : twice (L ++ [p]) p := by simp only [twice, hp2]; omega
          have hnp : ¬ twice L p := by simp only [twice]; omega
          rcases ho with ⟨h3, h4⟩ | ⟨q, h3, h4, h5⟩
          · rw [h3]
            refine ⟨hm, .inr ⟨p, rfl, ht, fun q hq => ?_⟩⟩
            by_cases e : q = p
            · exact e
            · exact absurd ((hne q e).1 hq) (h4 q)
          · rw [h3]
            refine ⟨p, q, ht, hmono q h4, fun e => ?_⟩
            subst e
            exact hnp h4
        · rw [if_neg h2]
          rw [hm, hp2] at h2
          have hiff : ∀ q, twice (L ++ [p]) q ↔ twice L q := fun q => by
            by_cases e : q = p
            · subst e; simp only [twice, hp2]; omega
            · exact hne q e
          refine ⟨hm, ?_⟩
          rcases ho with ⟨h3, h4⟩ | ⟨q, h3, h4, h5⟩
          · exact .inl ⟨h3, fun q hq => h4 q ((hiff q).1 hq)⟩
          · exact .inr ⟨q, h3, (hiff q).2 h4, fun r hr => h5 r ((hiff r).1 hr)⟩
      · rw [if_neg hh]
        simp only [hh, if_false, List.append_nil]
        exact ⟨hc, ho⟩
theorem deliverL_dl (a : Int) (l : List Held) : deliverL a l = dl a (hitsP a (l.map rp) l.length) := by
  have h := delRun_ok a l l.length (Nat.le_refl _)
  rw [List.take_length] at h
  unfold deliverL
  cases hr : delRun a l with
  | none =>
    rw [hr] at h
    obtain ⟨p, q, h1, h2, h3⟩ := h
    rw [dl_zero fun ⟨r, _, hu⟩ => h3 ((hu p h1).trans (hu q h2).symm)]
    rfl
  | some s =>
    rw [hr] at h
    obtain ⟨_, ⟨h3, h4⟩ | ⟨p, h3, h4, h5⟩⟩ := h
    · rw [dl_zero fun ⟨r, h, _⟩ => h4 r h]
      simp [h3]
    · rw [dl_eq h4 h5]
      simp [h3]
theorem deliverF_dlv (nn : Int) (l : List Held) (a : Int) : deliverF nn l a = dlv nn (l.map rp) a := by
  unfold deliverF dlv
  by_cases h : 4 ≤ nn ∧ nn ≤ 16 ∧ inAge a = true
  · rw [if_pos h, if_pos h, deliverL_dl]
    congr 1
    simp only [hitsP, List.map_take, List.length_take]
    congr 2
    rw [List.take_take]
    by_cases hle : nn.toNat ≤ l.length
    · rw [show min (min nn.toNat l.length) nn.toNat = nn.toNat by omega]
    · rw [List.take_of_length_le (by simp; omega), List.take_of_length_le (by simp; omega)]
  · rw [if_neg h, if_neg h]
end Go.Proofs.Ytjmiocacnilchaa
