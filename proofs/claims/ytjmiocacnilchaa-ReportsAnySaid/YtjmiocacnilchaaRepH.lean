/- ReportsEach: what it returns. -/
import Derived.Test.YtjmiocacnilchaaRepG
import Derived.Test.YtjmiocacnilchaaOpen
set_option linter.unusedSimpArgs false
set_option linter.unusedVariables false
namespace Go.Proofs.Ytjmiocacnilchaa
open Go.RowKit

/-! ### pairs and counts -/
theorem two_of {α : Type} (f : α → Bool) : ∀ {l : List α} {k i : Nat} (_ : k < i) (hk : k < l.length) (hi : i < l.length), f l[k] = true → f l[i] = true → 2 ≤ l.countP f
  | [], k, i, _, hk, _, _, _ => absurd hk (by simp)
  | x :: r, 0, i + 1, h, hk, hi, h1, h2 => by
    simp only [List.getElem_cons_zero] at h1
    simp only [List.getElem_cons_succ] at h2
    rw [List.countP_cons, if_pos h1]
    have : 0 < r.countP f := List.countP_pos_iff.2 ⟨_, List.getElem_mem (by simpa using hi), h2⟩
    omega
  | x :: r, k + 1, i + 1, h, hk, hi, h1, h2 => by
    simp only [List.getElem_cons_succ] at h1 h2
    have := two_of f (l := r) (k := k) (i := i) (by omega) (by simpa using hk) (by simpa using hi) h1 h2
    rw [List.countP_cons]
    omega
theorem of_two {α : Type} (f : α → Bool) : ∀ {l : List α}, 2 ≤ l.countP f → ∃ k i, ∃ (_ : k < i) (hk : k < l.length) (hi : i < l.length), f l[k] = true ∧ f l[i] = true
  | [], h => by simp at h
  | x :: r, h => by
    rw [List.countP_cons] at h
    by_cases hx : f x = true
    · rw [if_pos hx] at h
      obtain ⟨y, hy, hf⟩ := List.countP_pos_iff.1 (show 0 < r.countP f by omega)
      obtain ⟨i, hi, rfl⟩ := List.mem_iff_getElem.1 hy
      exact ⟨0, i + 1, by omega, by simp, by simpa using hi, by simpa using hx, by simpa using hf⟩
    · rw [if_neg hx] at h
      obtain ⟨k, i, h1, h2, h3, h4, h5⟩ := of_two f (l := r) (by omega)
      exact ⟨k + 1, i + 1, by omega, by simpa using h2, by simpa using h3, by simpa using h4, by simpa using h5⟩
theorem count_hits (a : Int) (l : List Held) (m : Nat) (p : Payload) : (hitsP a (l.map rp) m).count p = (l.take m).countP fun h => h.is && (h.cell.report.is && (decide (h.cell.report.at_ = a) && decide (h.cell.report.p = p))) := by
  rw [hits_rp, List.count, List.countP_map, List.countP_filter]
  congr 1
  funext h
  simp only [Function.comp]
  cases h.is <;> cases h.cell.report.is <;> by_cases h1 : h.cell.report.at_ = a <;> by_cases h2 : h.cell.report.p = p <;> simp [h1, h2]
theorem hAt_get {l : List Held} {i : Nat} (h : i < l.length) : hAt l i = l[i] := by simp [hAt, List.getD, h]
theorem twice_iff (a : Int) (l : List Held) (m : Nat) (p : Payload) : twice (hitsP a (l.map rp) m) p ↔ ∃ k i, k < i ∧ i < l.length ∧ i < m ∧ vld a l i k = true ∧ (hAt l i).cell.report.p = p := by
  rw [twice, count_hits]
  constructor
  · intro h
    obtain ⟨k, i, h1, h2, h3, h4, h5⟩ := of_two _ h
    simp only [List.length_take] at h2 h3
    simp only [List.getElem_take, Bool.and_eq_true, decide_eq_true_eq] at h4 h5
    refine ⟨k, i, h1, by omega, by omega, ?_, ?_⟩
    · rw [vld, hAt_get (show i < l.length by omega), hAt_get (show k < l.length by omega)]
      obtain ⟨a1, a2, a3, a4⟩ := h4
      obtain ⟨b1, b2, b3, b4⟩ := h5
      have : l[i].cell.report = l[k].cell.report := by
        generalize l[i].cell.report = x at *
        generalize l[k].cell.report = y at *
        cases x; cases y; simp_all
      simp [a1, b1, b2, b3, this]
      rw [← this]; simp [b2, b3]
    · rw [hAt_get (show i < l.length by omega)]; exact h5.2.2.2
  · rintro ⟨k, i, h1, h2, h3, h4, h5⟩
    rw [vld, hAt_get h2, hAt_get (show k < l.length by omega)] at h4
    simp only [Bool.and_eq_true, decide_eq_true_eq] at h4
    obtain ⟨a1, a2, a3, a4, a5⟩ := h4
    rw [hAt_get h2] at h5
    refine two_of _ (k := k) (i := i) h1 (by simp; omega) (by simp; omega) ?_ ?_
    · simp only [List.getElem_take, Bool.and_eq_true, decide_eq_true_eq]
      rw [← a4]; exact ⟨a2, a3, a5, h5⟩
    · simp only [List.getElem_take, Bool.and_eq_true, decide_eq_true_eq]
      exact ⟨a1, a3, a5, h5⟩
/-- what is delivered: if anything, the payload of each pair that is valid; and there is one -/
theorem dlv_facts (nn a : Int) (l : List Held) :
    (∀ i k, k < i → i < l.length → (i : Int) < nn → vld a l i k = true → (dlv nn (l.map rp) a).is = true → (dlv nn (l.map rp) a).p = (hAt l i).cell.report.p) ∧
    ((dlv nn (l.map rp) a).is = true → ∃ k i, k < i ∧ i < l.length ∧ (i : Int) < nn ∧ vld a l i k = true) ∧
    ((dlv nn (l.map rp) a).is = false → dlv nn (l.map rp) a = Said.zero) ∧
    ((dlv nn (l.map rp) a).is = true → (dlv nn (l.map rp) a).at_ = a) := by
  unfold dlv
  by_cases h : 4 ≤ nn ∧ nn ≤ 16 ∧ inAge a = true
  · rw [if_pos h]
    rcases dl_spec a (hitsP a (l.map rp) nn.toNat) with ⟨p, h1, h2, h3⟩ | ⟨h1, h3⟩
    · rw [h3]
      refine ⟨fun i k hk hi hn hv _ => ?_, fun _ => ?_, fun h => (by cases h), fun _ => rfl⟩
      · exact (h2 _ ((twice_iff a l nn.toNat _).2 ⟨k, i, hk, hi, by omega, hv, rfl⟩)).symm
      · obtain ⟨k, i, g1, g2, g3, g4, _⟩ := (twice_iff a l nn.toNat p).1 h1
        exact ⟨k, i, g1, g2, by omega, g4⟩
    · rw [h3]
      exact ⟨fun _ _ _ _ _ _ h => (by cases h), fun h => (by cases h), fun _ => rfl, fun h => (by cases h)⟩
  · rw [if_neg h]
    exact ⟨fun _ _ _ _ _ _ h => (by cases h), fun h => (by cases h), fun _ => rfl, fun h => (by cases h)⟩
theorem pc3_pos (a : Int) (l : List Held) (i k : Nat) : ∀ m, k < m → vld a l i k = true → 0 < pc3 a l i m
  | 0, h, _ => absurd h (by omega)
  | m + 1, h, hv => by
    simp only [pc3]
    by_cases e : k = m
    · subst e; rw [if_pos hv]; omega
    · have := pc3_pos a l i k m (by omega) hv; omega
theorem pc2_pos (a : Int) (l : List Held) (i k : Nat) (hk : k < i) : ∀ m, i < m → vld a l i k = true → 0 < pc2 a l m
  | 0, h, _ => absurd h (by omega)
  | m + 1, h, hv => by
    simp only [pc2]
    by_cases e : i = m
    · subst e; have := pc3_pos a l i k i hk hv; omega
    · have := pc2_pos a l i k hk m (by omega) hv; omega

/-! ### the outer loop -/
/-- how many entries are looked at -/
def many (nn : Int) (l : List Held) : Nat := min nn.toNat l.length
theorem e2_sum (nn a : Int) (l : List Held) (c : Nat) (d : Said) (hl : l.length ≤ 16) (hd : ∀ i k, k < i → i < l.length → (i : Int) < nn → vld a l i k = true → d.is = true → d.p = (hAt l i).cell.report.p) :
    LoopV Try.prog (loopAt Try.prog 8 0) [0, 1, 2, 7, 8, 9] [0, 17] [some (i64 nn), some (.c (.sl 0 0 0 l.length (some c))), some (i64 a), some (.c (.ptr 17 0 0)), some (i64 0), some (i64 0)]
      [some (heB 53 l), some (saB 41 d)] 107 21 (e2F (pc2 a l (many nn l) : Nat)) (eN 41 d) 1000000 (.exit 0) := by
  refine loop_ob hE3 (fuel := 100) (S := Nat) (inv := fun i => i ≤ many nn l) (μ := fun i => l.length - i) (tmI := fun i => e2T nn a (pc2 a l i : Nat) i l.length c) (mI := fun i => eM 53 41 l d) (nh := 100) (str := 65536) (by omega) (by omega) (s0 := 0) (by omega) ?_ ?_
  · intro tm m h1 h2 h3
    simp only [List.map_cons, List.map_nil, List.cons.injEq, and_true] at h1 h2
    obtain ⟨s0, s1, s2, s7, s8, s9⟩ := h1
    obtain ⟨b0, b17⟩ := h2
    refine wk_mk (ρ := fun _ => .inr 4) (by omega) (by omega) (by unfold lim; omega) h3 rfl ?_ ?_
    · exact ⟨.inl ⟨.inl (by omega), b0, rBlk_low⟩, .inl ⟨.inl (by omega), b17, oBlk_low⟩, trivial⟩
    · exact ⟨⟨_, s0, by simp [i64], GW_i64 rfl⟩, ⟨_, s1, by simp, GW_low rfl⟩, ⟨_, s2, by simp [i64], GW_i64 rfl⟩, ⟨_, s7, by simp, GW_low rfl⟩, ⟨_, s8, by simp [i64], GW_i64 rfl⟩, ⟨_, s9, by simp [i64], GW_i64 rfl⟩, trivial⟩
  · intro i hi
    have hm : many nn l = min nn.toNat l.length := rfl
    have hexit : i = many nn l → ∀ (n1 : Nat) (ob : List Bool) (p : List Dec), e2R Try.prog 53 41 nn a (pc2 a l i : Nat) i l c d p = some (.exit 0, [some (i64 nn), some (.c (.sl 0 0 0 l.length (some c))), some (i64 a), some (.c (.ptr 17 0 0)), some (i64 (pc2 a l i : Nat)), some (i64 i)], [some (heB 53 l), some (saB 41 d)], 107, n1, ob, []) → n1 ≤ 1000000 → allT ob →
          ∃ path e' n1 st', fC (E3 Try.prog) 100 (loopAt Try.prog 8 0) 100 65536 ⟨e2T nn a (pc2 a l i : Nat) i l.length c, eM 53 41 l d, 0, 0, false, path, [], []⟩ = some (e', n1, st') ∧ n1 ≤ 1000000 ∧ Obs st' ∧
            ((e' = .normal ∧ ∃ s' : Nat, s' ≤ many nn l ∧ l.length - s' < l.length - i ∧ Wk 21 100 1000000 st'.tm st'.m (e2T nn a (pc2 a l s' : Nat) s' l.length c) (eM 53 41 l d)) ∨ (e' ≠ .normal ∧ e' = .exit 0 ∧ Wk 21 1000000 1000000 st'.tm st'.m (e2F (pc2 a l (many nn l) : Nat)) (eN 41 d))) := by
      intro he n1 ob p hv hn1 hob
      obtain ⟨st, v1, v2, v3, v4, v6, v7⟩ := view_out hv
      refine ⟨_, _, _, st, v1, hn1, ⟨by rw [v6]; exact hob, by rw [v7]; simp⟩, .inr ⟨by simp, rfl, ?_⟩⟩
      rw [← he]
      simp only [List.map_cons, List.map_nil, List.cons.injEq, and_true] at v2 v3
      obtain ⟨s0, s1, s2, s7, s8, s9⟩ := v2
      obtain ⟨b0, b17⟩ := v3
      refine wk_mk (ρ := fun _ => .inr 4) (by omega) (by omega) (by unfold lim; omega) v4 rfl ?_ ?_
      · exact ⟨.inl ⟨.inl (by omega), b17, oBlk_low⟩, trivial⟩
      · exact ⟨⟨_, s7, by simp, GW_low rfl⟩, ⟨_, s8, by simp [i64], GW_i64 rfl⟩, trivial⟩
    by_cases he1 : i < l.length
    · by_cases he2 : (i : Int) < nn
      · obtain ⟨st, v1, v2, v3, v4, v6, v7⟩ := view_out (e2_rd nn a (pc2 a l i : Nat) (pc2 a l (i + 1) : Nat) i l c d)
        refine ⟨_, _, _, st, v1, by omega, ⟨?_, ?_⟩, .inl ⟨rfl, i + 1, by omega, by omega, ?_⟩⟩
        · rw [v6]; simp [allT, he1, he2]
        · rw [v7]
          intro p hp
          rw [List.mem_singleton.1 hp]
          exact e3_sum nn a i l c d hl he1 fun k hk hv h => hd i k hk he1 he2 hv h
        · simp only [List.map_cons, List.map_nil, List.cons.injEq, and_true] at v2 v3
          obtain ⟨s0, s1, s2, s7, s8, s9⟩ := v2
          obtain ⟨b0, b17⟩ := v3
          refine wk_mk (ρ := fun _ => .inr 4) (by omega) (by omega) (by unfold lim; omega) v4 rfl ?_ ?_
          · exact ⟨.inl ⟨.inl (by omega), b0, rBlk_low⟩, .inl ⟨.inl (by omega), b17, oBlk_low⟩, trivial⟩
          · exact ⟨⟨_, s0, by simp [i64], GW_i64 rfl⟩, ⟨_, s1, by simp, GW_low rfl⟩, ⟨_, s2, by simp [i64], GW_i64 rfl⟩, ⟨_, s7, by simp, GW_low rfl⟩, ⟨_, s8, by simp [i64], GW_i64 rfl⟩, ⟨_, s9, by simp [i64], GW_i64 (wrap_nat i (by omega))⟩, trivial⟩
      · exact hexit (by omega) _ _ _ (e2_end2 nn a (pc2 a l i : Nat) i l c d) (by omega) (by simp [allT, he1]; omega)
    · exact hexit (by omega) _ _ _ (e2_end1 nn a (pc2 a l i : Nat) i l c d) (by omega) (by simp [allT]; omega)
end Go.Proofs.Ytjmiocacnilchaa
