/- ScoresBound: for every score and count the law returns true (its '..Said'). No further condition. -/
import Derived.Test.YtjmiocacnilchaaRows
import Derived.Test.YtjmiocacnilchaaScoresA
namespace Go.Proofs.Ytjmiocacnilchaa.scoresBound
open Go.RowKit Go.WideShapes Go.ChangeShapes Go.ChangeAt

theorem pen_facts {s : Int} (h0 : 0 ≤ s) : 0 ≤ pen s ∧ pen s ≤ 1000 ∧ (s ≤ 1000 → s ≤ pen s) ∧ (s < 1000 → s < pen s) := by unfold pen; omega
theorem rew_facts {s : Int} (h0 : 0 ≤ s) : 0 ≤ rew s ∧ rew s ≤ 1000 ∧ (rew s ≤ s) ∧ (0 < s → rew s < s) := by unfold rew; omega
theorem upc_facts {s : Int} (h0 : 0 ≤ s) : 1 ≤ upc s ∧ upc s ≤ 100 ∧ (s < 100 → upc s = s + 1) := by unfold upc; omega
theorem lvl_mono {a b : Int} (h : a ≤ b) : lvl a ≤ lvl b := by unfold lvl; (repeat' split) <;> omega
theorem rew_le_pen {s : Int} (h0 : 0 ≤ s) : rew s ≤ pen s := by unfold rew pen; omega

set_option maxHeartbeats 4000000 in
theorem walk (s c : Int) (w : World) (h0 : 0 ≤ s) (h1 : s ≤ 65535) (c0 : 0 ≤ c) (c1 : c ≤ 255) :
    Calls Try.prog 4 #[.int .u16 s, .int .u8 c] w fun e w' => e = .returned (.bool true) ∧ Below w.heap.size w w' := by
  obtain ⟨p0, p1, p2, p3⟩ := pen_facts h0
  obtain ⟨r0, r1, r2, r3⟩ := rew_facts h0
  obtain ⟨u0, u1, u2⟩ := upc_facts c0
  have hlv : lvl (rew s) ≤ lvl (pen s) := lvl_mono (rew_le_pen h0)
  have hcc : ¬ c < 100 ∨ (c < 100 ∧ (upc c != c + 1) = false) := by
    by_cases hc : c < 100
    · exact .inr ⟨hc, by simp; omega⟩
    · exact .inl hc
  have hss : 1000 < s ∨ (s ≤ 1000 ∧ s ≤ pen s ∧ ((pen s == s) = false ∨ ((pen s == s) = true ∧ (s != 1000) = false)) ∧ ((rew s == s) = false ∨ ((rew s == s) = true ∧ (s != 0) = false))) := by
    by_cases hs : s ≤ 1000
    · refine .inr ⟨hs, p2 hs, ?_, ?_⟩
      · by_cases e : s = 1000
        · by_cases e2 : pen s = s
          · exact .inr ⟨by simpa using e2, by simpa using e⟩
          · exact .inl (by simpa using e2)
        · exact .inl (by simp; omega)
      · by_cases e : s = 0
        · by_cases e2 : rew s = s
          · exact .inr ⟨by simpa using e2, by simpa using e⟩
          · exact .inl (by simpa using e2)
        · exact .inl (by simp; omega)
    · exact .inl (by omega)
  clear u2 p2 p3 r3
  rcases hcc with hc | ⟨hc, hu⟩ <;> rcases hss with hs | ⟨hs, hp, ⟨e1⟩ | ⟨e1, e1'⟩, ⟨e2⟩ | ⟨e2, e2'⟩⟩
  all_goals
    go_enter Try.func4, Try.ntmps4
    go_wp2_with (first
      | (go_at_call 10; refine (scores_Penalty _ _ (by omega) (by omega)).mono ?_; rintro e w' ⟨rfl, rfl⟩)
      | (go_at_call 12; refine (scores_Reward _ _ (by omega) (by omega)).mono ?_; rintro e w' ⟨rfl, rfl⟩)
      | (go_at_call 14; refine (scores_LevelOf _ _ (by omega) (by omega)).mono ?_; rintro e w' ⟨rfl, rfl⟩)
      | (go_at_call 16; refine (scores_Up _ _ (by omega) (by omega)).mono ?_; rintro e w' ⟨rfl, rfl⟩)
      | (go_at_call 9; refine (lives21 _).mono ?_; rintro e w' ⟨rfl, hb⟩))
    go_ret
    exact ⟨rfl, hb⟩

set_option maxRecDepth 100000 in
theorem lifted (os : Os) (started : os.Started) (H : Type) (enc : TypeId × Value → H) :
    ReturnsInHanded {} Try.checked os 4 .any (Rows.scoresBoundSpec.pre6 enc Try.prog Try.f4 [] false) (Rows.scoresBoundSpec.post enc Try.prog Try.f4 false true false false) := by
  refine law_lifted (C := Try.checked) (by kernel_rfl) started (by kernel_rfl) Try.func4 (by kernel_rfl) (by kernel_rfl) rfl Try.underlying4 rfl
    (fun ds h => by match ds, h with | [_, _], _ => rfl)
    (ChangeSpec.witness6 (enc := enc) (C := Try.checked) false ⟨#[], #[.int .u16 0, .int .u8 0], []⟩ 8 (by kernel_rfl) (by kernel_rfl) (by kernel_rfl) (by kernel_rfl)) ?_
  intro W base args ds p hval hA _
  change DataW.TrodAll enc Try.prog W 0 (fun _ => true) true Try.f4.params.toList args.toList ds p at hA
  rw [Try.params4] at hA hval
  obtain ⟨v0, vs0, d0, ds0, p0, q0, hargs, rfl, rfl, h0, r0⟩ := trodAll_cons hA
  obtain ⟨v1, vs1, d1, ds1, p1, q1, rfl, rfl, rfl, h1, r1⟩ := trodAll_cons r0
  obtain ⟨rfl, rfl, rfl⟩ := trodAll_nil r1
  obtain rfl : args = #[v0, v1] := by cases args; simp_all
  obtain ⟨a0, rfl, rfl, rfl, w0⟩ := open_int Try.underlying22 (hval 0 22 v0 rfl rfl) h0
  obtain ⟨a1, rfl, rfl, rfl, w1⟩ := open_int Try.underlying5 (hval 1 5 v1 rfl rfl) h1
  have b0 := bounds_u16 w0
  have b1 := bounds_u8 w1
  exact walk a0 a1 W b0.1 b0.2 b1.1 b1.2

theorem proved : Rows.ScoresBoundSaid :=
  OpenClaim.holds_of_wide 4 Try.f4 rfl rfl rfl rfl rfl rfl rfl ⟨rfl, rfl, rfl, rfl, rfl⟩ rfl rfl rfl rfl rfl (by kernel_rfl) Try.func4 (by kernel_rfl)
    (of_decide_eq_true (by kernel_rfl)) (by unfold Func.isWrapper; first | (rw [if_pos (by decide +kernel)]; kernel_rfl) | (rw [if_neg (by decide +kernel)]; exact ⟨rfl, rfl⟩))
    (fun os started H enc _ => lifted os started H enc)
#print axioms proved
end Go.Proofs.Ytjmiocacnilchaa.scoresBound
