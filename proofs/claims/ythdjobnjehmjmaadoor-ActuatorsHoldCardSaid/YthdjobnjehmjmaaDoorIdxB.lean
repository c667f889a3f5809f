/- slices.Index: the sums of its loop; slices.Index as the evaluator runs it. -/
import Derived.Test.YthdjobnjehmjmaaDoorRndB
set_option linter.unusedSimpArgs false
set_option linter.unusedVariables false
namespace Go.Proofs.YthdjobnjehmjmaaDoor
open Go.RowKit

theorem idx_ob (v : Int) (f : Nat → Int) (n N : Nat) (hN : 0 < N) (hN2 : N ≤ 1000) (hn : n ≤ 1000000) (j : Nat) (hj : j ≤ n) (hmin : ∀ i, i < j → f i ≠ v) (hyes : j < n → f j = v) {tmF : List (Nat × AV)} {e : Exit}
    (hF : (j < n → e = .ret ∧ tmF = [(4, i64 (Int.ofNat j))]) ∧ (j = n → e = .exit 0 ∧ tmF = [])) :
    LoopV Tryd.prog (loopAt Tryd.prog 98 0) [0, 1, 7, 8] [0] [some (.c (.sl 0 0 0 n none)), some (i64 v), some (i64 (Int.ofNat n)), some (i64 0)] [some (idxB n f)] 19 N (mkFr 19 tmF) [] 2000 e none := by
  refine loop_ob hE1 (fuel := 100) (S := Nat) (inv := fun k => k ≤ j) (μ := fun k => n - k) (tmI := fun k => mkFr 19 (idxF v n k)) (mI := fun k => [(0, idxB n f)]) (nh := 1000) (str := 10000000000000000000000000000000000000000) (by omega) (by omega) (fun _ h => by cases h) (s0 := 0) (by omega) ?_ ?_
  · intro tm m g1 g2 g3
    simp only [List.map_cons, List.map_nil, List.cons.injEq, and_true] at g1 g2
    obtain ⟨s0, s1, s7, s8⟩ := g1
    refine wk_mk (ρ := fun _ => .inr 1) (by omega) (by omega) (by unfold lim; omega) g3 rfl ?_ ?_
    · exact ⟨.inl ⟨.inl (by omega), g2, rBlk_low⟩, trivial⟩
    · exact ⟨⟨_, s0, by simp, GW_low (by simp [lowV, lowC]; omega)⟩, ⟨_, s1, by simp [i64], GW_i64 rfl⟩, ⟨_, s7, by simp [i64], GW_i64 rfl⟩, ⟨_, s8, by simp [i64], GW_i64 rfl⟩, trivial⟩
  · intro k hk
    refine (?_ : (∃ p r, idxR Tryd.prog v f n k p = some r ∧ _) → _) (idx v f n k (fun r => allT r.2.2.2.2.2.1 ∧ r.2.2.2.2.2.2 = [] ∧ r.2.2.2.2.1 ≤ 2000 ∧
      ∀ st' : St, [0, 1, 4, 7, 8].map (fun t => st'.tm[t]?) = r.2.1 → [0].map (look st'.m) = r.2.2.1 → st'.tm.length = r.2.2.2.1 →
        ((r.1 = .normal ∧ ∃ s', s' ≤ j ∧ n - s' < n - k ∧ Wk N 1000 2000 st'.tm st'.m (mkFr 19 (idxF v n s')) [(0, idxB n f)]) ∨
          (r.1 ≠ .normal ∧ r.1 = e ∧ Wk N 2000 2000 st'.tm st'.m (mkFr 19 tmF) []))) ⟨fun c1 => ⟨fun c2 => ?_, fun c2 => ?_⟩, fun c1 => ?_⟩)
    · rintro ⟨p, ⟨e, l, b, len, n1, ob, po⟩, hv, hob, hpo, hn1, hw⟩
      obtain ⟨st, v1, v2, v3, v4, v6, v7, v8⟩ := view_out hv
      exact ⟨p, [], e, n1, st, v1, hn1, ⟨by rw [v6]; exact hob, by rw [v7]; have hpo : po = [] := hpo; rw [hpo]; simp⟩, v8, hw st v2 v3 v4⟩
    · have hlt : k < n := by simpa using c1
      have hin : (idxB n f).inb k 1 = true := inb_rBlk hlt (by omega)
      simp at c2
      have hkj : k = j := by
        rcases Nat.lt_or_ge k j with h | h
        · exact absurd c2.symm (hmin k h)
        · omega
      subst hkj
      obtain ⟨rfl, rfl⟩ := hF.1 hlt
      refine ⟨?_, rfl, by dsimp only; omega, fun st' v2 v3 v4 => .inr ⟨by simp, rfl, ?_⟩⟩
      · simp only [allT, List.forall_mem_cons, Int.ofNat_eq_natCast, Int.toNat_natCast, Nat.zero_add]
        refine ⟨by simp [c2], hin, ?_⟩
        simp
        omega
      · simp only [List.map_cons, List.map_nil, List.cons.injEq, and_true] at v2
        obtain ⟨s0, s1, s4, s7, s8⟩ := v2
        refine wk_mk (ρ := fun _ => .inr 1) (by omega) (by omega) (by unfold lim; omega) v4 rfl trivial ?_
        exact ⟨⟨_, s4, by simp, GW_i64 rfl⟩, trivial⟩
    · have hlt : k < n := by simpa using c1
      have hin : (idxB n f).inb k 1 = true := inb_rBlk hlt (by omega)
      simp at c2
      have hkj : k < j := by
        rcases Nat.lt_or_ge k j with h | h
        · exact h
        · have : k = j := by omega
          subst this
          exact absurd (hyes hlt).symm c2
      refine ⟨?_, rfl, by dsimp only; omega, fun st' v2 v3 v4 => .inl ⟨rfl, k + 1, by omega, by omega, ?_⟩⟩
      · simp only [allT, List.forall_mem_cons, Int.ofNat_eq_natCast, Int.toNat_natCast, Nat.zero_add]
        refine ⟨by simp [c2], hin, ?_⟩
        simp
        omega
      · simp only [List.map_cons, List.map_nil, List.cons.injEq, and_true] at v2 v3
        obtain ⟨s0, s1, s4, s7, s8⟩ := v2
        refine wk_mk (ρ := fun _ => .inr 1) (by omega) (by omega) (by unfold lim; omega) v4 rfl ?_ ?_
        · exact ⟨.inl ⟨.inl (by omega), v3, rBlk_low⟩, trivial⟩
        · exact ⟨⟨_, s0, by simp [lkA], GW_low (by simp [lowV, lowC]; omega)⟩, ⟨_, s1, by simp [i64, lkA], GW_i64 rfl⟩, ⟨_, s7, by simp [i64, lkA], GW_i64 rfl⟩,
            ⟨_, s8, by simp, GW_i64 (by rw [wrap_nat _ (by simp; omega) (by simp; omega)]; simp)⟩, trivial⟩
    · have hlt : ¬ k < n := by simpa using c1
      obtain rfl : k = j := by omega
      obtain ⟨rfl, rfl⟩ := hF.2 (by omega)
      refine ⟨?_, rfl, by dsimp only; omega, fun st' v2 v3 v4 => .inr ⟨by simp, rfl, ?_⟩⟩
      · simp [allT]; omega
      · exact wk_mk (ρ := fun _ => .inr 1) (by omega) (by omega) (by unfold lim; omega) v4 rfl trivial trivial
def idxS (e : Exit) (l : List (Nat × AV)) : LSum := ⟨[0, 1, 7, 8], [0], mkFr 19 l, [], 2000, e⟩
def ixR (P : Program) (v : Int) (f : Nat → Int) (n : Nat) (e : Exit) (l : List (Nat × AV)) : Option VF :=
  viewF [] (fCallF (E1 P) (fC (E1 P) 300) 98 [.c (.sl 0 0 0 n none), i64 v] 10 10000000000000000000000000000000000000000 (stA [(0, idxB n f)] [] [some (idxS e l)]))
end Go.Proofs.YthdjobnjehmjmaaDoor
