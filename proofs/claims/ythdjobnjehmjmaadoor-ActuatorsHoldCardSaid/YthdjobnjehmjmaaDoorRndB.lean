/- actuators.rounds, slices.Index: the sums of their loops. -/
import Derived.Test.YthdjobnjehmjmaaDoorRndA
set_option linter.unusedSimpArgs false
set_option linter.unusedVariables false
namespace Go.Proofs.YthdjobnjehmjmaaDoor
open Go.RowKit

theorem hE1 : EnvOk (E1 Tryd.prog) := envOk (fun _ _ h => by cases h) (by kernel_rfl) (by kernel_rfl)
theorem wrap_nat (x : Int) (h0 : -9223372036854775808 ≤ x) (h1 : x ≤ 9223372036854775807) : IntKind.wrap .i64 x = x := IntWalk.i64_in _ (by first | exact ⟨h0, h1⟩ | omega)
theorem rnd_sum (a h : Int) (n : Nat) (hn : n ≤ 22) (h0 : 0 ≤ h) (h1 : h ≤ 1000000) (a0 : -9223372036854775808 ≤ a) (a1 : a + h ≤ 9223372036854775807) :
    LoopV Tryd.prog (loopAt Tryd.prog 64 0) [0, 1, 5, 7, 8] [] [some (i64 a), some (i64 h), some (.c (.v (.slice none 0 0))), some (i64 h), some (i64 0)] [] 24 n
      (mkFr 24 (rndF a h h.toNat)) [(22, rndB a h.toNat)] 2000 (.exit 0) none := by
  refine loop_ob hE1 (fuel := 100) (S := Nat) (inv := fun k => k ≤ h.toNat) (μ := fun k => h.toNat - k) (tmI := fun k => mkFr 24 (rndF a h k)) (mI := fun k => [(22, rndB a k)]) (nh := 1000) (str := 10000000000000000000000000000000000000000) (by omega) (by omega) (fun _ h => by cases h) (s0 := 0) (by omega) ?_ ?_
  · intro tm m g1 g2 g3
    simp only [List.map_cons, List.map_nil, List.cons.injEq, and_true] at g1
    obtain ⟨s0, s1, s5, s7, s8⟩ := g1
    refine wk_mk (ρ := fun _ => .inr 1) (by omega) (by omega) (by unfold lim; omega) g3 rfl ?_ ?_
    · exact ⟨.inr (.inr ⟨by omega, by omega, rfl, Nat.one_pos, _, rfl⟩), trivial⟩
    · exact ⟨⟨_, s0, by simp [i64], GW_i64 rfl⟩, ⟨_, s1, by simp [i64], GW_i64 rfl⟩, ⟨_, s5, by simp, GW_nil (by omega) (by omega) (by omega) rfl⟩, ⟨_, s7, by simp [i64], GW_i64 rfl⟩, ⟨_, s8, by simp [i64], GW_i64 rfl⟩, trivial⟩
  · intro k hk
    refine (?_ : (∃ p r, rndR Tryd.prog a h k p = some r ∧ _) → _) (rnd a h k (fun r => allT r.2.2.2.2.2.1 ∧ r.2.2.2.2.2.2 = [] ∧ r.2.2.2.2.1 ≤ 2000 ∧
      ∀ st' : St, [0, 1, 5, 7, 8].map (fun t => st'.tm[t]?) = r.2.1 → [22, 1013].map (look st'.m) = r.2.2.1 → st'.tm.length = r.2.2.2.1 →
        ((r.1 = .normal ∧ ∃ s', s' ≤ h.toNat ∧ h.toNat - s' < h.toNat - k ∧ Wk n 1000 2000 st'.tm st'.m (mkFr 24 (rndF a h s')) [(22, rndB a s')]) ∨
          (r.1 ≠ .normal ∧ r.1 = .exit 0 ∧ Wk n 2000 2000 st'.tm st'.m (mkFr 24 (rndF a h h.toNat)) [(22, rndB a h.toNat)]))) ⟨fun c1 => ⟨fun c2 => ?_, fun c2 => ?_⟩, fun c1 => ?_⟩)
    · rintro ⟨p, ⟨e, l, b, len, n1, ob, po⟩, hv, hob, hpo, hn1, hw⟩
      obtain ⟨st, v1, v2, v3, v4, v6, v7, v8⟩ := view_out hv
      exact ⟨p, [], e, n1, st, v1, hn1, ⟨by rw [v6]; exact hob, by rw [v7]; have hpo : po = [] := hpo; rw [hpo]; simp⟩, v8, hw st v2 v3 v4⟩
    · have hlt : (k : Int) < h := by simpa using c1
      have hw : IntKind.wrap .i64 (a + Int.ofNat k) = a + Int.ofNat k := wrap_nat _ (by simp; omega) (by simp; omega)
      refine ⟨?_, rfl, by dsimp only; omega, fun st' v2 v3 v4 => .inl ⟨rfl, k + 1, by omega, by omega, ?_⟩⟩
      · simp only [allT, List.forall_mem_cons]
        simp only [hw]
        simp only [Int.ofNat_eq_natCast]
        simp [hlt]
        omega
      · simp only [List.map_cons, List.map_nil, List.cons.injEq, and_true] at v2 v3
        obtain ⟨s0, s1, s5, s7, s8⟩ := v2
        obtain ⟨b22, b1013⟩ := v3
        refine wk_mk (ρ := fun _ => .inl 1013) (by omega) (by omega) (by unfold lim; omega) v4 rfl ?_ ?_
        · exact ⟨.inr (.inl ⟨by omega, by omega, 1013, _, rfl, b1013, BEq_snoc (f := fun i => [.int .i64 (a + Int.ofNat i)]) (g := fun i => [.int .i64 (a + Int.ofNat i)]) (l := [.int .i64 (IntKind.wrap IntKind.i64 (a + Int.ofNat k))]) rfl (fun _ _ => rfl) (by simp only [hw]), wBlk_low⟩), trivial⟩
        · exact ⟨⟨_, s0, by simp [i64, lkA], GW_i64 rfl⟩, ⟨_, s1, by simp [i64, lkA], GW_i64 rfl⟩, ⟨_, s5, by simp, GW_sl (by omega) (by omega) (by omega) rfl⟩, ⟨_, s7, by simp [i64, lkA], GW_i64 rfl⟩,
            ⟨_, s8, by simp, GW_i64 (by rw [wrap_nat _ (by simp; omega) (by simp; omega)]; simp)⟩, trivial⟩
    · have hlt : (k : Int) < h := by simpa using c1
      rw [wrap_nat _ (by simp; omega) (by simp; omega)] at c2
      simp at c2
      omega
    · have hlt : ¬ (k : Int) < h := by simpa using c1
      obtain rfl : k = h.toNat := by omega
      refine ⟨?_, rfl, by dsimp only; omega, fun st' v2 v3 v4 => .inr ⟨by simp, rfl, ?_⟩⟩
      · simp [allT]; omega
      · simp only [List.map_cons, List.map_nil, List.cons.injEq, and_true] at v2 v3
        obtain ⟨s0, s1, s5, s7, s8⟩ := v2
        obtain ⟨b22, b1013⟩ := v3
        refine wk_mk (ρ := fun _ => .inl 22) (by omega) (by omega) (by unfold lim; omega) v4 rfl ?_ ?_
        · exact ⟨.inr (.inl ⟨by omega, by omega, 22, _, rfl, b22, ⟨rfl, rfl, rfl, rfl, .inr (.inl ⟨_, _, _, rfl, rfl, fun _ _ => rfl⟩)⟩, wBlk_low⟩), trivial⟩
        · exact ⟨⟨_, s0, by simp [i64, lkA], GW_i64 rfl⟩, ⟨_, s1, by simp [i64, lkA], GW_i64 rfl⟩, ⟨_, s5, by simp [lkA], GW_sl (by omega) (by omega) (by omega) rfl⟩, ⟨_, s7, by simp [i64, lkA], GW_i64 rfl⟩, ⟨_, s8, by simp [i64, lkA], GW_i64 rfl⟩, trivial⟩
end Go.Proofs.YthdjobnjehmjmaaDoor
