/- The contract of slices.Index. -/
import Derived.Test.YthdjobnjehmjmaaDoorIdxC
set_option linter.unusedSimpArgs false
set_option linter.unusedVariables false
namespace Go.Proofs.YthdjobnjehmjmaaDoor
open Go.RowKit

def fA (F : Nat → List AC) (i : Nat) : Int := asI ((F i).getD 0 nov)
def idxV (F : Nat → List AC) (v : Int) (n : Nat) : Int := match (List.range n).find? (fun i => fA F i == v) with | some j => Int.ofNat j | none => -1
def isI64 : List AC → Bool
  | [.v (.int .i64 _)] => true
  | _ => false
def ctIdx : CtF
  | [.c (.sl id 0 0 n none), .c (.v (.int .i64 v))], m, _ =>
    match look m id with
    | some ⟨_, _, _, sz, .arr q F⟩ => some (i64 (idxV F v n), [], 0, [decide (n ≤ q), Nat.beq sz 1, decide (n ≤ 1000000), (List.range n).all fun k => isI64 (F k)])
    | _ => none
  | _, _, _ => none
theorem rel_list {C : Ctx} {β : Nm} {m : AMem} {w : World} (hr : Rel C β m w) {id : Nat} {x : ABlk} (hx : look m id = some x) {q n : Nat} {F : Nat → List AC} (hc : x.cs = .arr q F) (hsz : x.sz = 1) (hn : n ≤ q) (hF : ∀ k, k < n → isI64 (F k) = true) {L : Loc} (hL : β id = some L) :
    Rel (loneC w) (fun i => if i = 0 then some L else none) [(0, idxB n (fA F))] w := by
  obtain ⟨L', e, hk⟩ := hr.blk id x hx
  rw [hL] at e
  cases e
  have hlk : ∀ i y, look [(0, idxB n (fA F))] i = some y → i = 0 ∧ y = idxB n (fA F) := by
    intro i y h
    simp only [look] at h
    split at h
    · rename_i hb; cases h; exact ⟨(Nat.eq_of_beq_eq_true hb).symm, rfl⟩
    · cases h
  refine ⟨rfl, rfl, rfl, Nat.le_refl _, Nat.le_refl _, fun _ _ _ => rfl, fun i y hy => ?_, fun i i' y y' M M' hy _ _ ho => ?_, fun g M hM => ?_, fun i y o hy ho => ?_⟩
  · obtain ⟨rfl, rfl⟩ := hlk i y hy
    refine ⟨L, rfl, by rw [hk.sz, hsz]; rfl, fun l h => (by cases h), fun k j hi => ?_, hk.lt, fun ho => (by cases ho), fun n' f h i hi => (by cases h; rfl), fun ho => (by cases ho)⟩
    simp only [ABlk.inb, idxB, rBlk, Bool.and_eq_true] at hi
    obtain ⟨hi1, hi2⟩ := hi
    have hi1 := of_decide_eq_true hi1
    have hi2 : j + 1 ≤ 1 := of_decide_eq_true hi2
    obtain rfl : j = 0 := by omega
    obtain ⟨g1, u, g2, g3, g4⟩ := hk.cells k 0 (by simp only [ABlk.inb, hc, hsz]; simp; omega)
    refine ⟨g1, u, ?_, g3, g4⟩
    rw [hc] at g2
    simp only [Cs.get] at g2
    have h1 := hF k hi1
    unfold isI64 at h1
    split at h1
    · rename_i z hz
      rw [hz] at g2
      have : fA F k = z := by simp [fA, hz, asI]
      show some (Value.int .i64 (fA F k)) = some u
      rw [this]
      exact g2
    · cases h1
  · obtain ⟨_, rfl⟩ := hlk i y hy
    cases ho
  · exfalso
    have : gid g ≠ 0 := by unfold gid; omega
    simp [this] at hM
  · obtain ⟨_, rfl⟩ := hlk i y hy
    cases ho
theorem ct_index : CtOk Tryd.prog 98 ctIdx := by
  refine ⟨⟨_, _, Tryd.func98, rfl⟩, fun C β m m2 w args ib r news k' ob vs hct ho hs hr hfree hlim hv => ?_⟩
  unfold ctIdx at hct
  split at hct
  · rename_i id n v
    split at hct
    · rename_i own row ty sz q F hlk
      simp only [Option.some.injEq, Prod.mk.injEq] at hct
      obtain ⟨rfl, rfl, rfl, rfl⟩ := hct
      simp only [allT, List.forall_mem_cons, decide_eq_true_eq] at ho
      obtain ⟨o1, o2, o3, o4, _⟩ := ho
      have o2 := Nat.eq_of_beq_eq_true o2
      subst o2
      have o4 : ∀ k, k < n → isI64 (F k) = true := fun k hk => List.all_eq_true.1 o4 k (by simpa using hk)
      obtain ⟨L, hL, hk⟩ := hr.blk id _ (hs _ _ hlk)
      have hrel := rel_list hr (hs _ _ hlk) rfl rfl o1 o4 hL
      obtain ⟨j, hj, hmin, hyes, hval⟩ : ∃ j, j ≤ n ∧ (∀ i, i < j → fA F i ≠ v) ∧ (j < n → fA F j = v) ∧ ((j < n → idxV F v n = Int.ofNat j) ∧ (j = n → idxV F v n = -1)) := by
        unfold idxV
        cases hfd : (List.range n).find? (fun i => fA F i == v) with
        | none =>
          refine ⟨n, Nat.le_refl _, fun i hi => ?_, fun h => by omega, fun h => by omega, fun _ => rfl⟩
          have := List.find?_eq_none.1 hfd i (by simpa using hi)
          simpa using this
        | some j =>
          obtain ⟨h1, h2⟩ := List.find?_range_eq_some.1 hfd
          refine ⟨j, ?_, ?_, ?_, fun _ => rfl, ?_⟩ <;> simp_all <;> omega
      have fin : ∀ (e : Exit) (l : List (Nat × AV)) (res : Int) (n2 : Nat) (po : List Prop), ixR Tryd.prog v (fA F) n e l = some (i64 res, [], n2, [], po) → n2 ≤ lim → (∀ q ∈ po, q) → res = idxV F v n →
          Calls Tryd.prog 98 vs.toArray w (fun e w' => ∃ β' v', e = .returned v' ∧ Ext β β' ∧ (∀ id, id < ib ∨ ib + 0 ≤ id → β' id = β id) ∧ γ β' (i64 (idxV F v n)) = some v' ∧ Rel C β' (m2 ++ []) w') := by
        intro e l res n2 po hrun hn2 hpo hres
        obtain ⟨s', r1, r2, r3, r4⟩ := viewF_out hrun
        refine (calls_f hE1 r1 ⟨by rw [r3]; simp [allT], by rw [r4]; exact hpo⟩ (C := loneC w) (β := fun i => if i = 0 then some L else none) (w := w) (vs := vs) ?_ hrel ?_).mono ?_
        · simp only [γt, γ1, γc, hL] at hv ⊢
          exact hv
        · intro id h1 _
          rw [if_neg (by omega)]
        · rintro e w' ⟨β', u, rfl, _, _, hu, hr'⟩
          cases hu
          rw [← hres]
          exact ⟨β, _, rfl, Ext.refl _, fun _ _ => rfl, rfl, by rw [List.append_nil]; exact hr.below ⟨hr'.os, hr'.tape, hr'.output, hr'.size, fun b hb => hr'.out b hb fun h => h⟩⟩
      rcases Nat.lt_or_ge j n with hjn | hjn
      · refine fin _ _ _ _ _ (ix_yes v (fA F) n j) (by unfold lim; omega) ?_ (hval.1 hjn).symm
        intro q hq
        rw [List.mem_singleton.1 hq]
        exact idx_ob v (fA F) n _ (by omega) (by omega) o3 j hj hmin hyes ⟨fun _ => ⟨rfl, rfl⟩, fun h => by omega⟩
      · refine fin _ _ _ _ _ (ix_no v (fA F) n) (by unfold lim; omega) ?_ (hval.2 (by omega)).symm
        intro q hq
        rw [List.mem_singleton.1 hq]
        exact idx_ob v (fA F) n _ (by omega) (by omega) o3 j hj hmin hyes ⟨fun h => by omega, fun _ => ⟨rfl, rfl⟩⟩
    · cases hct
  · cases hct
end Go.Proofs.YthdjobnjehmjmaaDoor
