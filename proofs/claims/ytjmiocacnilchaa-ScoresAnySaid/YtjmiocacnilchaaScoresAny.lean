/- ScoresAny: for every score, count and run of rewards and penalties the law returns true (its '..Said'). No further condition. -/
import Derived.Test.YtjmiocacnilchaaRows
import Derived.Test.YtjmiocacnilchaaScoresA
import Derived.Test.YtjmiocacnilchaaApp
import Derived.Test.YtjmiocacnilchaaFlat
import Derived.Deep.QuietTactic
import Derived.BigQuiet
namespace Go.Proofs.Ytjmiocacnilchaa.scoresAny
open Go.RowKit Go.WideShapes Go.ChangeShapes Go.ChangeAt

theorem boolInfo : (Try.prog.info? 4).map (fun i => (i.zero, i.size, i.bytes)) = some (some (.bool false), 1, 1) := by kernel_rfl
theorem one_bools (l : List Bool) : allOne (bools l) = true := by simp [allOne, bools, Value.oneCell']

theorem walk (s c : Int) (A : Option Addr) (n cap : Nat) (l : List Bool) (w : World) (h0 : 0 ≤ s) (h1 : s ≤ 65535) (c0 : 0 ≤ c) (c1 : c ≤ 255) (hnc : n ≤ cap) (hn : cap ≤ maxLen) (hl : Sl w w.heap.size 1 A n (bools l)) :
    Calls Try.prog 3 #[.int .u16 s, .int .u8 c, .slice A n cap] w fun e w' => e = .returned (.bool true) ∧ Below w.heap.size w w' := by
  unfold maxLen at hn
  by_cases hbig : 1000 < n
  · go_enter Try.func3, Try.ntmps3
    go_wp2_with (go_at_call 9; refine (lives21 _).mono ?_; rintro e w' ⟨rfl, hb⟩)
    go_ret
    exact ⟨rfl, hb⟩
  · obtain ⟨i0, hi, hz0, hz1, hz2⟩ := info_parts boolInfo
    have hlv : 0 ≤ lvl s ∧ lvl s ≤ 2 := by unfold lvl; (repeat' split) <;> omega
    have hlv1 := hlv.1
    have hlv2 := hlv.2
    clear hlv
    go_enter Try.func3, Try.ntmps3
    go_wp2_with (first
      | (at_builtin
         refine wpList_copy_nil _ rfl _ _ _ rfl 4 i0 _ 1 Try.underlying23 hi hz0 hz1 rfl (by omega) rfl w.heap.size A n cap (bools l) rfl hl (one_bools l) (by simp only [maxLen]; omega) (by rw [hz2]; omega) ?_
         intro A1 cap1 w1 hown hb1
         have hl1 := sl_of_own hown
         have hl0 := hl.below hb1)
      | (go_at_call 10; refine (scores_Penalty _ _ (by omega) (by omega)).mono ?_; rintro e w' ⟨rfl, rfl⟩)
      | (go_at_call 11; refine (ref_Penalty _ _ (by omega) (by omega)).mono ?_; rintro e w' ⟨rfl, rfl⟩)
      | (go_at_call 12; refine (scores_Reward _ _ (by omega) (by omega)).mono ?_; rintro e w' ⟨rfl, rfl⟩)
      | (go_at_call 13; refine (ref_Reward _ _ (by omega) (by omega)).mono ?_; rintro e w' ⟨rfl, rfl⟩)
      | (go_at_call 14; refine (scores_LevelOf _ _ (by omega) (by omega)).mono ?_; rintro e w' ⟨rfl, rfl⟩)
      | (go_at_call 15; refine (ref_Level _ _ (by omega) (by omega)).mono ?_; rintro e w' ⟨rfl, rfl⟩)
      | (go_at_call 16; refine (scores_Up _ _ (by omega) (by omega)).mono ?_; rintro e w' ⟨rfl, rfl⟩)
      | (go_at_call 17; refine (ref_Up _ _ (by omega) (by omega)).mono ?_; rintro e w' ⟨rfl, rfl⟩)
      | (go_at_call 18; refine (scores_Run _ _ _ _ l _ _ (by omega) (by omega) (by simp only [maxLen]; omega) hl1).mono ?_; rintro e w' ⟨rfl, rfl⟩)
      | (go_at_call 19; refine (ref_Run _ _ _ _ l _ _ (by omega) (by omega) (by simp only [maxLen]; omega) hl0).mono ?_; rintro e w' ⟨rfl, rfl⟩))
    go_loopw [8] (fun i wr => ∃ k d : Nat, k ≤ n ∧ i = .int .i64 k ∧ wr = w1.drewN d) (fun i _ => n - (intOf i).toNat)
    case atStart => exact ⟨0, 0, Nat.zero_le _, rfl, rfl⟩
    case round =>
      obtain ⟨k, d, hk, rfl, rfl⟩ := hrel
      by_cases hlt : k < n
      · obtain ⟨b0, o0, x0, rfl, hb0, hx0, hc0⟩ := hl0.bool hlt
        obtain ⟨b1, o1, x1, rfl, hb1', hx1, hc1⟩ := hl1.bool hlt
        obtain rfl : x0 = x1 := by rw [hx0] at hx1; exact Option.some.inj hx1
        go_wp2
        go_quiet (fail)
        go_wp2
        exact ⟨⟨k + 1, d + nq, by omega, by go_num, rfl⟩, by simp [intOf]; omega⟩
      · go_wp2_with (go_at_call 9; refine (lives21 _).mono ?_; rintro e w' ⟨rfl, hb⟩)
        go_ret
        exact ⟨rfl, hb1.trans ((bel_drewN _ (bel_refl _ _)).trans (hb.mono (by simpa using hb1.size)))⟩

set_option maxRecDepth 100000 in
theorem lifted (os : Os) (started : os.Started) (H : Type) (enc : TypeId × Value → H) :
    ReturnsInHanded {} Try.checked os 3 .any (Rows.scoresAnySpec.pre6 enc Try.prog Try.f3 [] false) (Rows.scoresAnySpec.post enc Try.prog Try.f3 false true false false) := by
  refine law_lifted (C := Try.checked) (by kernel_rfl) started (by kernel_rfl) Try.func3 (by kernel_rfl) (by kernel_rfl) rfl Try.underlying4 rfl
    (fun ds h => by match ds, h with | [_, _, _], _ => rfl)
    (ChangeSpec.witness6 (enc := enc) (C := Try.checked) false ⟨#[], #[.int .u16 0, .int .u8 0, .slice none 0 0], []⟩ 8 (by kernel_rfl) (by kernel_rfl) (by kernel_rfl) (by kernel_rfl)) ?_
  intro W base args ds p hval hA _
  change DataW.TrodAll enc Try.prog W 0 (fun _ => true) true Try.f3.params.toList args.toList ds p at hA
  rw [Try.params3] at hA hval
  obtain ⟨v0, vs0, d0, ds0, p0, q0, hargs, rfl, rfl, h0, r0⟩ := trodAll_cons hA
  obtain ⟨v1, vs1, d1, ds1, p1, q1, rfl, rfl, rfl, h1, r1⟩ := trodAll_cons r0
  obtain ⟨v2, vs2, d2, ds2, p2, q2, rfl, rfl, rfl, h2, r2⟩ := trodAll_cons r1
  obtain ⟨rfl, rfl, rfl⟩ := trodAll_nil r2
  obtain rfl : args = #[v0, v1, v2] := by cases args; simp_all
  obtain ⟨a0, rfl, rfl, rfl, w0⟩ := open_int Try.underlying22 (hval 0 22 v0 rfl rfl) h0
  have b0 := bounds_u16 w0
  obtain ⟨a1, rfl, rfl, rfl, w1⟩ := open_int Try.underlying5 (hval 1 5 v1 rfl rfl) h1
  have b1 := bounds_u8 w1
  obtain ⟨A2, n2, c2, l2, rfl, hl2, hm2, hs2⟩ := open_bools Try.underlying23 Try.underlying4 (by kernel_rfl) (hval 2 23 v2 rfl rfl) h2
  exact walk a0 a1 A2 n2 c2 l2 W b0.1 b0.2 b1.1 b1.2 hl2 hm2 hs2

theorem proved : Rows.ScoresAnySaid :=
  OpenClaim.holds_of_wide 3 Try.f3 rfl rfl rfl rfl rfl rfl rfl ⟨rfl, rfl, rfl, rfl, rfl⟩ rfl rfl rfl rfl rfl (by kernel_rfl) Try.func3 (by kernel_rfl)
    (of_decide_eq_true (by kernel_rfl)) (by unfold Func.isWrapper; first | (rw [if_pos (by decide +kernel)]; kernel_rfl) | (rw [if_neg (by decide +kernel)]; exact ⟨rfl, rfl⟩))
    (fun os started H enc _ => lifted os started H enc)
#print axioms proved
end Go.Proofs.Ytjmiocacnilchaa.scoresAny
