/- HostsAges: the sum of its loop. -/
import Derived.Test.YtpfkhlfkcmgdlaaDoorHgB
import Derived.IntWalk
set_option linter.unusedSimpArgs false
set_option linter.unusedVariables false
namespace Go.Proofs.YtpfkhlfkcmgdlaaDoor
open Go.RowKit

theorem eqF_refl : ∀ (ks : List (Option IntKind)) (xs : List AC), eqF ks xs xs = true
  | none :: ks, x :: xs => by simp [eqF, eqF_refl ks xs]
  | some _ :: ks, x :: xs => by simp [eqF, eqF_refl ks xs]
  | [], _ => by simp [eqF]
  | none :: _, [] => by simp [eqF]
  | some _ :: _, [] => by simp [eqF]
theorem wrap_nat (x : Int) (h0 : -9223372036854775808 ≤ x) (h1 : x ≤ 9223372036854775807) : IntKind.wrap .i64 x = x := IntWalk.i64_in _ (by first | exact ⟨h0, h1⟩ | omega)
theorem low_lst {n ty sz q : Nat} {l : List AC} (h : l.all (lowC n) = true) : lowB n (lst ty sz q l) :=
  low_arr fun k j => by
    show lowC n ((if k < 0 then [] else (l.drop (0 + (k - 0) * sz)).take sz).getD j nov) = true
    rw [if_neg (Nat.not_lt_zero k)]
    simp only [List.getD]
    cases e : ((l.drop (0 + (k - 0) * sz)).take sz)[j]? with
    | none => rfl
    | some x => exact List.all_eq_true.1 h x (List.mem_of_mem_drop (List.mem_of_mem_take (List.mem_of_getElem? e)))
theorem hgBk_low {h r : Int} {pl : Payload} : ∀ b ∈ hgBk h r pl, lowB 1760000000000000000000000000000000000001305 b := by
  intro b hb
  simp only [List.mem_cons, List.not_mem_nil, or_false] at hb
  rcases hb with rfl | rfl | rfl | rfl | rfl | rfl
  · exact low_lit rfl
  · exact low_lit (by kernel_rfl)
  · exact low_lit (by kernel_rfl)
  · exact low_lit (by kernel_rfl)
  · exact low_lst rfl
  · exact low_lit rfl
theorem hg_sum (h r : Int) (pl : Payload) (r0 : 0 ≤ r) (r1 : r ≤ 1000000) :
    LoopV Tryd.prog (loopAt Tryd.prog 8 0) [4, 7, 10, 11, 12] hgIds ((hgV r 0).map some) ((hgBk h r pl).map some) 90 1760000000000000000000000000000000000001305 (mkFr 90 []) mS 100000000000000000000000000000000000000000000 (.exit 0) none := by
  refine loop_view hEL19 (fuel := 300) (str := 10000000000000000000000000000000000000000) (nh := 2000000000000000000000000000000000000000000) (S := Int) (fun i => 0 ≤ i ∧ i ≤ 110) (fun i => (110 - i).toNat) [4, 7, 10, 11, 12] [] hgIds (hgV r) (fun _ => hgBk h r pl) (by decide) (by decide) (by unfold lim; omega) (s0 := 0) (by omega) (fun _ => ⟨rfl, rfl⟩) (by kernel_rfl) (fun i _ => ⟨rfl, hgBk_low⟩) ?_
  intro i ⟨i0, i1⟩
  have w1 : IntKind.wrap IntKind.i64 (r + i) = r + i := wrap_nat _ (by omega) (by omega)
  have w2 : IntKind.wrap IntKind.i64 (r + i - r) = i := by rw [wrap_nat _ (by omega) (by omega)]; omega
  have w3 : IntKind.wrap IntKind.i64 (i + Int.ofNat 1) = i + 1 := by rw [wrap_nat _ (by simp; omega) (by simp; omega)]; rfl
  refine (?_ : (∃ p q, hgvR Tryd.prog h r i pl p = some q ∧ _) → _) (hgv h r i pl (StepV 1760000000000000000000000000000000000001305 100000000000000000000000000000000000000000000 90 [4, 7, 10, 11, 12] [] hgIds (fun i => 0 ≤ i ∧ i ≤ 110) (fun i => (110 - i).toNat) (hgV r) (fun _ => hgBk h r pl) (.exit 0) [] mS i) ?_)
  · rintro ⟨p, q, h1, h2⟩
    exact ⟨p, [], q, h1, h2⟩
  · simp only [w1, w2, w3, eqF_refl]
    repeat' (first | refine ⟨fun h => ?_, fun h => ?_⟩ | fail)
    all_goals (first | (exfalso; simp at *; done) | (exfalso; simp at *; omega) | skip)
    · have hlt : i < 110 := by simp at *; omega
      refine ⟨?_, rfl, by dsimp only; omega, rfl, .inl ⟨rfl, i + 1, by omega, by show (110 - (i + 1)).toNat < (110 - i).toNat; omega, rfl, BL.refl _⟩⟩
      first | (simp at *; simp [allT, *]; done) | (simp at *; simp [allT, *]; omega) | (simp_all [allT]; done) | (simp_all [allT]; omega)
    · refine ⟨?_, rfl, by dsimp only; omega, rfl, .inr ⟨by simp, rfl, (fun q hq => by cases hq), fun p hp => ?_⟩⟩
      · first | (simp at *; simp [allT, *]; done) | (simp at *; simp [allT, *]; omega)
      · rw [mS, List.mem_singleton] at hp
        subst hp
        exact ⟨by kernel_rfl, low_lit rfl, signB, by (show _ ∈ [_, _, _, _, _, _]); exact .tail _ (.tail _ (.tail _ (.tail _ (.tail _ (.head _))))), BEq.refl _⟩
end Go.Proofs.YtpfkhlfkcmgdlaaDoor
