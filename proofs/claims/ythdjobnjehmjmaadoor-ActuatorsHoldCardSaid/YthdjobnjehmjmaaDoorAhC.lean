/- ActuatorsHold: the sum of its loop. -/
import Derived.Test.YthdjobnjehmjmaaDoorAhB
set_option linter.unusedSimpArgs false
set_option linter.unusedVariables false
namespace Go.Proofs.YthdjobnjehmjmaaDoor
open Go.RowKit

theorem low_lit {n ty sz : Nat} {own row : Bool} {l : List AC} (h : l.all (lowC n) = true) : lowB n ⟨own, row, ty, sz, .lit l⟩ :=
  lowB_cells (fun k j => by
    simp only [Cs.get, List.getD]
    cases e : l[j]? with
    | none => rfl
    | some x => exact List.all_eq_true.1 h x (List.mem_of_getElem? e)) (fun o e => by cases e)
theorem low_lst {n ty sz q : Nat} {l : List AC} (h : l.all (lowC n) = true) : lowB n (lst ty sz q l) :=
  lowB_cells (fun k j => by
    show lowC n ((if k < 0 then [] else (l.drop (0 + (k - 0) * sz)).take sz).getD j nov) = true
    rw [if_neg (Nat.not_lt_zero k)]
    simp only [List.getD]
    cases e : ((l.drop (0 + (k - 0) * sz)).take sz)[j]? with
    | none => rfl
    | some x => exact List.all_eq_true.1 h x (List.mem_of_mem_drop (List.mem_of_mem_take (List.mem_of_getElem? e)))) (fun o e => by cases e)
theorem idxV_ge {F : Nat → List AC} {v : Int} {n : Nat} : idxV F v n ≥ 0 ↔ ∃ k, k < n ∧ fA F k = v := by
  unfold idxV
  cases hfd : (List.range n).find? (fun i => fA F i == v) with
  | none =>
    refine ⟨fun h => absurd h (by simp), fun ⟨k, h1, h2⟩ => ?_⟩
    have := List.find?_eq_none.1 hfd k (by simpa using h1)
    simp [h2] at this
  | some j =>
    refine ⟨fun _ => ⟨j, ?_, ?_⟩, fun _ => by simp⟩
    · have := List.mem_of_find?_eq_some hfd; simpa using this
    · have := List.find?_some hfd; simpa using this
theorem idx_rnd (rnd h i : Int) (h0 : 0 ≤ h) (h1 : h ≤ 1000) (r0 : 0 ≤ rnd) (r1 : rnd ≤ 1000000) (i0 : -3 ≤ i) (i1 : i ≤ 104) :
    idxV (fun k => List.map AC.v ((fun i => [Value.int IntKind.i64 (rnd + Int.ofNat i)]) k)) (IntKind.wrap IntKind.i64 (rnd + i)) (Int.toNat h) ≥ Int.ofNat 0 ↔ (0 ≤ i ∧ i < h) := by
  rw [wrap_nat _ (by omega) (by omega)]
  refine Iff.trans idxV_ge ?_
  constructor
  · rintro ⟨k, h1, h2⟩
    have h2 : rnd + Int.ofNat k = rnd + i := h2
    simp at h2
    omega
  · rintro ⟨g1, g2⟩
    refine ⟨i.toNat, by omega, ?_⟩
    show rnd + Int.ofNat i.toNat = rnd + i
    simp; omega
theorem isI64_all (rnd : Int) (n : Nat) : (List.all (List.range n) fun k => isI64 ((fun k => List.map AC.v ((fun i => [Value.int IntKind.i64 (rnd + Int.ofNat i)]) k)) k)) = true := by simp [isI64]
abbrev ahVals (safe h rnd i : Int) : List (Option AV) := [some (.c (n32 safe)), some (.c (.ptr 10 0 0)), some (.c (n64 h)), some (.c (.ptr 1460000000000000000000000000000000000000894 0 0)), some (.c (n64 rnd)), some (.c (.ptr 1720000000000000000000000000000000000001392 0 0)), some (.c (n64 i))]
theorem ah_wk (safe h rnd x0 x1 x2 i : Int) {tm : List AV} {m : AMem} (g1 : [0, 5, 7, 8, 9, 10, 12].map (fun t => tm[t]?) = ahVals safe h rnd i) (g2 : ahIds.map (look m) = ahIds.map (look (ahM safe h rnd x0 x1 x2))) (g3 : tm.length = 66) :
    Wk 1720000000000000000000000000000000000001402 2000000000000000000000000000000000000000000 100000000000000000000000000000000000000000000 tm m (mkFr 66 (ahF safe h rnd i)) (ahM safe h rnd x0 x1 x2) := by
  simp only [List.map_cons, List.map_nil, List.cons.injEq, and_true] at g1 g2
  obtain ⟨s0, s5, s7, s8, s9, s10, s12⟩ := g1
  obtain ⟨b1, b2, b3, b4, b5, b6, b7, b8⟩ := g2
  refine wk_mk (ρ := fun _ => .inr 1) (by omega) (by omega) (by unfold lim; omega) g3 (by kernel_rfl) ?_ ?_
  · exact ⟨.inl ⟨.inl (by omega), b1, low_lit rfl⟩, .inl ⟨.inl (by omega), b2, low_lit rfl⟩, .inl ⟨.inl (by omega), b3, low_lit (by kernel_rfl)⟩, .inl ⟨.inl (by omega), b4, low_lst rfl⟩, .inl ⟨.inl (by omega), b5, low_lst rfl⟩, .inl ⟨.inl (by omega), b6, low_lst rfl⟩,
      .inl ⟨.inl (by omega), b7, low_lst rfl⟩, .inl ⟨.inr (by unfold gid; omega), b8, low_lit rfl⟩, trivial⟩
  · exact ⟨⟨_, s0, by simp, GW_low rfl⟩, ⟨_, s5, by simp, GW_low (by kernel_rfl)⟩, ⟨_, s7, by simp, GW_low rfl⟩, ⟨_, s8, by simp, GW_low (by kernel_rfl)⟩, ⟨_, s9, by simp, GW_low rfl⟩, ⟨_, s10, by simp, GW_low (by kernel_rfl)⟩, ⟨_, s12, by simp, GW_low rfl⟩, trivial⟩
theorem ah_sum (safe h rnd x0 x1 x2 : Int) (h0 : 1 ≤ h) (h1 : h ≤ 100) (r0 : 0 ≤ rnd) (r1 : rnd ≤ 1000000) :
    LoopV Tryd.prog (loopAt Tryd.prog 6 0) [0, 5, 7, 8, 9, 10, 12] ahIds (ahVals safe h rnd (Int.negSucc 2)) (ahIds.map (look (ahM safe h rnd x0 x1 x2))) 66 1720000000000000000000000000000000000001402
      (mkFr 66 []) mS 100000000000000000000000000000000000000000000 (.exit 0) none := by
  refine loop_ob hEAc (fuel := 300) (S := Int) (inv := fun i => -3 ≤ i ∧ i ≤ 104) (μ := fun i => (104 - i).toNat) (tmI := fun i => mkFr 66 (ahF safe h rnd i)) (mI := fun _ => ahM safe h rnd x0 x1 x2) (nh := 2000000000000000000000000000000000000000000) (str := 10000000000000000000000000000000000000000) (by omega) (by omega) (fun _ h => by cases h) (s0 := Int.negSucc 2) (by omega) ?_ ?_
  · intro tm m g1 g2 g3
    exact ah_wk safe h rnd x0 x1 x2 _ g1 g2 g3
  · intro i ⟨i0, i1⟩
    have hz := idx_rnd rnd h i (by omega) (by omega) r0 r1 i0 i1
    have hall := isI64_all rnd h.toNat
    refine (?_ : (∃ p r, ahV Tryd.prog safe h rnd x0 x1 x2 i p = some r ∧ _) → _) (ahv safe h rnd x0 x1 x2 i (fun r => r.2.2.2.2.2.2 = [] ∧ allT r.2.2.2.2.2.1 ∧ r.2.2.2.2.1 ≤ 100000000000000000000000000000000000000000000 ∧
      ((r.1 = .normal ∧ i < 104 ∧ r.2.1 = ahVals safe h rnd (i + 1) ∧ r.2.2.1 = ahIds.map (look (ahM safe h rnd x0 x1 x2)) ∧ r.2.2.2.1 = 66) ∨ (r.1 = .exit 0 ∧ r.2.2.2.1 = 66 ∧ r.2.2.1 = ahIds.map (look (ahM safe h rnd x0 x1 x2))))) ?_)
    · rintro ⟨p, ⟨e, l, b, len, n1, ob, po⟩, hv, hpo, hob, hn1, hw⟩
      obtain ⟨st, v1, v2, v3, v4, v6, v7, v8⟩ := view_out hv
      refine ⟨p, [], e, n1, st, v1, hn1, ⟨by rw [v6]; exact hob, by rw [v7]; have hpo : po = [] := hpo; rw [hpo]; simp⟩, v8, ?_⟩
      rcases hw with ⟨w1, w2, w3, w4, w5⟩ | ⟨w1, w5, w4⟩
      · simp only at w1 w3 w4 w5
        exact .inl ⟨w1, i + 1, ⟨by omega, by omega⟩, by omega, ah_wk safe h rnd x0 x1 x2 _ (v2.trans w3) (v3.trans w4) (v4.trans w5)⟩
      · simp only at w1 w4 w5
        refine .inr ⟨by rw [w1]; simp, w1, ?_⟩
        have b := v3.trans w4
        simp only [List.map_cons, List.map_nil, List.cons.injEq, and_true] at b
        exact wk_mk (ρ := fun _ => .inr 1) (by omega) (by omega) (by unfold lim; omega) (v4.trans w5) rfl ⟨.inl ⟨.inr (by unfold gid; omega), b.2.2.2.2.2.2.2, low_lit rfl⟩, trivial⟩ trivial
    · have hwr : i < 104 → IntKind.wrap IntKind.i64 (i + Int.ofNat 1) = i + 1 := fun _ => wrap_nat _ (by simp; omega) (by simp; omega)
      generalize idxV (fun k => List.map AC.v ((fun i => [Value.int IntKind.i64 (rnd + Int.ofNat i)]) k)) (IntKind.wrap IntKind.i64 (rnd + i)) (Int.toNat h) = z at hz ⊢
      generalize (List.all (List.range (Int.toNat h)) fun k => isI64 ((fun k => List.map AC.v ((fun i => [Value.int IntKind.i64 (rnd + Int.ofNat i)]) k)) k)) = ii at hall ⊢
      repeat' (first | refine ⟨fun h => ?_, fun h => ?_⟩ | fail)
      all_goals (first | (exfalso; simp at *; done) | (exfalso; simp at *; omega) | skip)
      all_goals (refine ⟨rfl, ?_, by dsimp only; omega, ?_⟩)
      all_goals (first
        | exact .inr ⟨rfl, rfl, rfl⟩
        | (have hlt : i < 104 := by
             simp at *
             omega
           exact .inl ⟨rfl, hlt, by (dsimp only; rw [hwr hlt]; rfl), rfl, rfl⟩)
        | (simp at *; simp [allT, *]; done)
        | (simp at *; simp [allT, *]; omega))
end Go.Proofs.YthdjobnjehmjmaaDoor
