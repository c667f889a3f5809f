/- ConfigsEdges: for any two numbers the law returns true (its tied card). No further condition. -/
import Derived.Test.YthekiiagacnhkaaDoorTie
import Derived.Test.YthekiiagacnhkaaDoorCards
import Derived.Test.YthekiiagacnhkaaDoorJConfigsEdges9
import Derived.Test.YthekiiagacnhkaaDoorJB0x13
import Derived.Test.YthekiiagacnhkaaDoorJB0x10
import Derived.LaidMore
import Derived.LaidHandle
set_option linter.unusedSimpArgs false
set_option linter.unusedVariables false
section
namespace Go.Proofs.YthekiiagacnhkaaDoor.configsEdges
open Go.RowKit Go.WideShapes Go.ChangeShapes Go.ChangeAt

theorem allT_all {l : List Bool} (h : l.all id = true) : allT l := fun b hb => List.all_eq_true.1 h b hb
theorem nz_in {z : Int} (h0 : 0 ≤ z) (h1 : z ≤ 255) : nzz z = 4 ∨ nzz z = 5 ∨ nzz z = 6 ∨ nzz z = 7 ∨ nzz z = 8 ∨ nzz z = 9 ∨ nzz z = 10 ∨ nzz z = 11 ∨ nzz z = 12 ∨ nzz z = 13 ∨ nzz z = 14 ∨ nzz z = 15 ∨ nzz z = 16 := by
  have e : nzz z = 4 + z % 13 := by
    unfold nzz
    rw [wrap_nat z (by omega) (by omega), show Int.tmod z (Int.ofNat 13) = z % 13 from Int.tmod_eq_emod_of_nonneg h0]
    exact wrap_nat _ (by simp; omega) (by simp; omega)
  rw [e]
  omega
set_option maxRecDepth 1000000 in
theorem run (w z : Int) (w0 : 0 ≤ w) (w1 : w ≤ 255) (z0 : 0 ≤ z) (z1 : z ≤ 255) : ∃ p r, ceR Tryd.prog cfgErr w z p = some r ∧ GoodF (bo true) r := by
  refine ce cfgErr w z _ ?_
  have hz := nz_in z0 z1
  generalize nzz z = n at hz ⊢
  have t0 : 0 ≤ Int.tmod w (Int.ofNat 14) := Int.tmod_nonneg _ w0
  have t1 : Int.tmod w (Int.ofNat 14) < 14 := Int.tmod_lt_of_pos _ (by simp)
  generalize Int.tmod w (Int.ofNat 14) = q at t0 t1 ⊢
  (repeat' (first | refine ⟨fun h => ?_, fun h => ?_⟩ | fail))
  all_goals (refine ⟨rfl, (by first | (unfold lim; omega) | (dsimp only; unfold lim; omega)), ?_, by simp⟩)
  all_goals first
    | (have hw := eq_of_beq h
       subst hw
       rcases hz with rfl | rfl | rfl | rfl | rfl | rfl | rfl | rfl | rfl | rfl | rfl | rfl | rfl <;> exact allT_all (by kernel_rfl))
    | (exfalso; simp at *; omega)
theorem walk (a b : Int) (w : World) (a0 : 0 ≤ a) (a1 : a ≤ 255) (b0 : 0 ≤ b) (b1 : b ≤ 255) (hL : laidMetH Tryd.prog Rows.configsEdgesRow.laid w) :
    Calls Tryd.prog 5 #[.int .u8 a, .int .u8 b] w fun e w' => e = .returned (.bool true) ∧ Below w.heap.size w w' := by
  have hG : ∀ p ∈ mS, GlobAt w p := by
    rw [MakeChecks.laidMetH_plain _ _ _ (by kernel_rfl)] at hL
    exact glob_mS hL
  obtain ⟨p, ⟨v, b', n, ob, po⟩, hrun, hv, hn, hob, hpo⟩ := run a b a0 a1 b0 b1
  obtain ⟨s', r1, r2, r3, r4⟩ := viewF_out hrun
  refine (calls_f hENce r1 ⟨by rw [r3]; exact hob, by rw [r4]; exact hpo⟩ (C := loneC w) (β := gβ) (w := w) (vs := [.int .u8 a, .int .u8 b]) ?_ (rel_in hG) ?_).mono ?_
  · rfl
  · intro id _ h2
    exact gβ_lo (Nat.lt_of_lt_of_le h2 hn)
  · rintro e w' ⟨β', u, rfl, _, _, hu, hr⟩
    simp only at hv
    subst hv
    cases hu
    exact ⟨rfl, below_lone hr⟩
set_option maxRecDepth 100000 in
theorem lifted (os : Os) (started : os.Started) (H : Type) (enc : TypeId × Value → H) (F : Stop.Interp) :
    ReturnsInHanded {} Tryd.checked os 5 .any ((OpenSpec.ofChange Rows.configsEdgesSpec).preRow enc Tryd.prog Tryd.f5 Rows.configsEdgesRow.domain false Rows.configsEdgesRow.laid) (((OpenSpec.ofChange Rows.configsEdgesSpec).at F).post enc Tryd.prog Tryd.f5 false true false false) := by
  refine card_lifted (C := Tryd.checked) (by kernel_rfl) started (by kernel_rfl) Tryd.func5 (by kernel_rfl) (by kernel_rfl) rfl Tryd.underlying4 rfl (fun ds h => by match ds, h with | [_, _], _ => rfl)
    (card_witness (enc := enc) (C := Tryd.checked) (World.doorLaid Tryd.prog 1000 os) #[.int .u8 0, .int .u8 0] rfl (by kernel_rfl) (by kernel_rfl) (by kernel_rfl) (by kernel_rfl) (by kernel_rfl) (laidMetH_of_parts3 (fuel := 8) (laidMet_of_run' 8 (by kernel_rfl) (by kernel_rfl)) (by kernel_rfl) (by kernel_rfl))) ?_
  intro W base args ds p hval hA hL
  change DataW.TrodAll enc Tryd.prog W 0 (fun _ => true) true Tryd.f5.params.toList args.toList ds p at hA
  rw [Tryd.params5] at hA hval
  obtain ⟨v0, vs0, d0, ds0, p0, q0, hargs, rfl, rfl, h0, r0⟩ := trodAll_cons hA
  obtain ⟨v1, vs1, d1, ds1, p1, q1, rfl, rfl, rfl, h1, r1⟩ := trodAll_cons r0
  obtain ⟨rfl, rfl, rfl⟩ := trodAll_nil r1
  obtain rfl : args = #[v0, v1] := by cases args; simp_all
  obtain ⟨a0, rfl, rfl, rfl, w0⟩ := open_int Tryd.underlying5 (hval 0 5 v0 rfl rfl) h0
  have b0 := bounds_u8 w0
  obtain ⟨a1, rfl, rfl, rfl, w1⟩ := open_int Tryd.underlying5 (hval 1 5 v1 rfl rfl) h1
  have b1 := bounds_u8 w1
  exact walk a0 a1 W b0.1 b0.2 b1.1 b1.2 hL

theorem said : Rows.ConfigsEdgesSaid :=
  OpenClaim.holds_of_cond 5 Tryd.f5 rfl rfl rfl rfl rfl rfl rfl ⟨rfl, rfl, rfl, rfl, rfl⟩ rfl rfl rfl rfl rfl (by kernel_rfl) Tryd.func5 (by kernel_rfl)
    (of_decide_eq_true (by kernel_rfl)) (by unfold Func.isWrapper; first | (rw [if_pos (by decide +kernel)]; kernel_rfl) | (rw [if_neg (by decide +kernel)]; exact ⟨rfl, rfl⟩))
    (fun os started H enc _ F => by rw [OpenClaim.pre_eq_preRow]; exact lifted os started H enc F)
theorem plain (f : FuncId) (fn : Func) (hf : Tryd.pinned.checked.prog.funcNamed Rows.configsEdgesRow.func = some f) (hfn : Tryd.pinned.checked.prog.funcs[f]? = some fn) :
    false = Tryd.pinned.checked.prog.looks [] ∧ ∀ (j : Nat) t, fn.params[j]? = some t → Tryd.pinned.checked.prog.wantsStandIn t = false := by
  obtain rfl : f = 5 := Option.some.inj ((show Tryd.prog.funcNamed Rows.configsEdgesRow.func = some 5 by kernel_rfl).symm.trans hf) |>.symm
  obtain rfl : fn = Tryd.f5 := (Option.some.inj (Tryd.func5.symm.trans hfn)).symm
  refine ⟨by kernel_rfl, fun j t ht => ?_⟩
  have hm : t ∈ Tryd.f5.params.toList := by rw [← Array.getElem?_toList] at ht; exact List.mem_of_getElem? ht
  have hall : (Tryd.f5.params.toList.all fun u => !Tryd.prog.wantsStandIn u) = true := by kernel_rfl
  exact (show Tryd.prog.wantsStandIn t = false by simpa using List.all_eq_true.1 hall t hm)
theorem proved : Rows.ConfigsEdgesCardSaid :=
  Claim7.holds_tied_plain_at .later [] _ _ _ _ said (fun _ h => by cases h) (by kernel_rfl) (fun _ h => by cases h) configsEdges_row_tie rfl ⟨rfl, rfl⟩ (by kernel_rfl) rfl plain (by kernel_rfl)
#print axioms proved
end Go.Proofs.YthekiiagacnhkaaDoor.configsEdges
end
