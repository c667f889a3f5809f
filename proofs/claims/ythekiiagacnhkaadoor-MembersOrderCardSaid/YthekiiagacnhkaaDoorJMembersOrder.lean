/- MembersOrder: for any three views the law returns true (its tied card). No further condition. -/
import Derived.Test.YthekiiagacnhkaaDoorTie
import Derived.Test.YthekiiagacnhkaaDoorCards
import Derived.Test.YthekiiagacnhkaaDoorJMembersOrder3
import Derived.Test.YthekiiagacnhkaaDoorJMembersOrder1
import Derived.Test.YthekiiagacnhkaaDoorJB0x13
import Derived.Test.YthekiiagacnhkaaDoorJB0x10
import Derived.Test.YthekiiagacnhkaaDoorJMembersOrder0
import Derived.LaidMore
import Derived.LaidHandle
set_option linter.unusedSimpArgs false
set_option linter.unusedVariables false
section
namespace Go.Proofs.YthekiiagacnhkaaDoor.membersOrder
open Go.RowKit Go.WideShapes Go.ChangeShapes Go.ChangeAt

theorem facts (a b : Vw) (ha : a.Ok) (hb : b.Ok) : (lessL (vwL a) (vwL b) || lessL (vwL b) (vwL a)) = !eqV a b ∧ (lessL (vwL a) (vwL b) = true → lessL (vwL b) (vwL a) = false) := by
  refine ⟨?_, fun h => lex_asymm _ _ _ h⟩
  have h1 := lex_total (keyF (vwL a)) (keyF (vwL b)) 42
  rw [key_same ha hb, ← eqF_same] at h1
  show (lexF _ _ 42 0 || lexF _ _ 42 0) = !eqF vwKs (vwL a) (vwL b)
  cases he : eqF vwKs (vwL a) (vwL b) <;> rw [he] at h1 <;> simp_all
set_option maxRecDepth 100000 in
theorem run (a b c : Vw) (ha : a.Ok) (hb : b.Ok) (hc : c.Ok) : ∃ p r, moR2 Tryd.prog a b c p = some r ∧ GoodF (bo true) r := by
  refine moT a b c _ ?_
  have i1 : lessL (vwL a) (vwL a) = false := lex_irrefl _ _
  obtain ⟨i2, i3⟩ := facts a b ha hb
  have i4 : lessL (vwL a) (vwL b) = true → lessL (vwL b) (vwL c) = true → lessL (vwL a) (vwL c) = true := fun h1 h2 => lex_trans h1 h2
  simp only [i1]
  generalize lessL (vwL a) (vwL b) = x at *
  generalize lessL (vwL b) (vwL a) = y at *
  generalize lessL (vwL b) (vwL c) = z at *
  generalize lessL (vwL a) (vwL c) = u at *
  unfold eqV at i2
  generalize eqF vwKs (vwL a) (vwL b) = e at *
  clear i1
  cases x <;> cases y <;> cases z <;> cases u <;> cases e <;> first
    | (exfalso; revert i2 i3 i4; decide)
    | (repeat' (first | refine ⟨fun h => absurd h (by decide), fun h => ?_⟩ | refine ⟨fun h => ?_, fun h => absurd h (by decide)⟩ | fail)
       exact ⟨rfl, (by first | (unfold lim; omega) | (dsimp only; unfold lim; omega)), allT_all (by kernel_rfl), by simp⟩)
theorem walk (a b c : View) (w : World) (ha : a.Ok) (hb : b.Ok) (hc : c.Ok) (hL : laidMetH Tryd.prog Rows.membersOrderRow.laid w) :
    Calls Tryd.prog 11 #[.agg a.cells.toArray, .agg b.cells.toArray, .agg c.cells.toArray] w fun e w' => e = .returned (.bool true) ∧ Below w.heap.size w w' := by
  have hG : ∀ p ∈ mS, GlobAt w p := by
    rw [MakeChecks.laidMetH_plain _ _ _ (by kernel_rfl)] at hL
    exact glob_mS hL
  obtain ⟨p, ⟨v, b', n, ob, po⟩, hrun, hv, hn, hob, hpo⟩ := run (vwI a) (vwI b) (vwI c) (vwI_ok ha) (vwI_ok hb) (vwI_ok hc)
  obtain ⟨s', r1, r2, r3, r4⟩ := viewF_out hrun
  refine (calls_f hEMo r1 ⟨by rw [r3]; exact hob, by rw [r4]; exact hpo⟩ (C := loneC w) (β := gβ) (w := w) (vs := [.agg a.cells.toArray, .agg b.cells.toArray, .agg c.cells.toArray]) ?_ (rel_in hG) ?_).mono ?_
  · simp only [γt, γ1, vwL, γs_vs, vwI_cells]
  · intro id _ h2
    exact gβ_lo (Nat.lt_of_lt_of_le h2 hn)
  · rintro e w' ⟨β', u, rfl, _, _, hu, hr⟩
    simp only at hv
    subst hv
    cases hu
    exact ⟨rfl, below_lone hr⟩
set_option maxRecDepth 100000 in
theorem lifted (os : Os) (started : os.Started) (H : Type) (enc : TypeId × Value → H) (F : Stop.Interp) :
    ReturnsInHanded {} Tryd.checked os 11 .any ((OpenSpec.ofChange Rows.membersOrderSpec).preRow enc Tryd.prog Tryd.f11 Rows.membersOrderRow.domain false Rows.membersOrderRow.laid) (((OpenSpec.ofChange Rows.membersOrderSpec).at F).post enc Tryd.prog Tryd.f11 false true false false) := by
  refine card_lifted (C := Tryd.checked) (by kernel_rfl) started (by kernel_rfl) Tryd.func11 (by kernel_rfl) (by kernel_rfl) rfl Tryd.underlying4 rfl (fun ds h => by match ds, h with | [_, _, _], _ => rfl)
    (card_witness (enc := enc) (C := Tryd.checked) (World.doorLaid Tryd.prog 1000 os) #[.agg View.zero.cells.toArray, .agg View.zero.cells.toArray, .agg View.zero.cells.toArray] rfl (by kernel_rfl) (by kernel_rfl) (by kernel_rfl) (by kernel_rfl) (by kernel_rfl) (laidMetH_of_parts3 (fuel := 8) (laidMet_of_run' 8 (by kernel_rfl) (by kernel_rfl)) (by kernel_rfl) (by kernel_rfl))) ?_
  intro W base args ds p hval hA hL
  change DataW.TrodAll enc Tryd.prog W 0 (fun _ => true) true Tryd.f11.params.toList args.toList ds p at hA
  rw [Tryd.params11] at hA hval
  obtain ⟨v0, vs0, d0, ds0, p0, q0, hargs, rfl, rfl, h0, r0⟩ := trodAll_cons hA
  obtain ⟨v1, vs1, d1, ds1, p1, q1, rfl, rfl, rfl, h1, r1⟩ := trodAll_cons r0
  obtain ⟨v2, vs2, d2, ds2, p2, q2, rfl, rfl, rfl, h2, r2⟩ := trodAll_cons r1
  obtain ⟨rfl, rfl, rfl⟩ := trodAll_nil r2
  obtain rfl : args = #[v0, v1, v2] := by cases args; simp_all
  obtain ⟨cs0, fl0, rfl⟩ := open_raw (m := 9) (ks := View.ks) (by kernel_rfl) (by kernel_rfl) (hval 0 47 v0 rfl rfl) h0
  obtain ⟨x0, ox0, rfl⟩ := View.of_flat fl0
  obtain ⟨cs1, fl1, rfl⟩ := open_raw (m := 9) (ks := View.ks) (by kernel_rfl) (by kernel_rfl) (hval 1 47 v1 rfl rfl) h1
  obtain ⟨x1, ox1, rfl⟩ := View.of_flat fl1
  obtain ⟨cs2, fl2, rfl⟩ := open_raw (m := 9) (ks := View.ks) (by kernel_rfl) (by kernel_rfl) (hval 2 47 v2 rfl rfl) h2
  obtain ⟨x2, ox2, rfl⟩ := View.of_flat fl2
  exact walk x0 x1 x2 W ox0 ox1 ox2 hL

theorem said : Rows.MembersOrderSaid :=
  OpenClaim.holds_of_cond 11 Tryd.f11 rfl rfl rfl rfl rfl rfl rfl ⟨rfl, rfl, rfl, rfl, rfl⟩ rfl rfl rfl rfl rfl (by kernel_rfl) Tryd.func11 (by kernel_rfl)
    (of_decide_eq_true (by kernel_rfl)) (by unfold Func.isWrapper; first | (rw [if_pos (by decide +kernel)]; kernel_rfl) | (rw [if_neg (by decide +kernel)]; exact ⟨rfl, rfl⟩))
    (fun os started H enc _ F => by rw [OpenClaim.pre_eq_preRow]; exact lifted os started H enc F)
theorem plain (f : FuncId) (fn : Func) (hf : Tryd.pinned.checked.prog.funcNamed Rows.membersOrderRow.func = some f) (hfn : Tryd.pinned.checked.prog.funcs[f]? = some fn) :
    false = Tryd.pinned.checked.prog.looks [] ∧ ∀ (j : Nat) t, fn.params[j]? = some t → Tryd.pinned.checked.prog.wantsStandIn t = false := by
  obtain rfl : f = 11 := Option.some.inj ((show Tryd.prog.funcNamed Rows.membersOrderRow.func = some 11 by kernel_rfl).symm.trans hf) |>.symm
  obtain rfl : fn = Tryd.f11 := (Option.some.inj (Tryd.func11.symm.trans hfn)).symm
  refine ⟨by kernel_rfl, fun j t ht => ?_⟩
  have hm : t ∈ Tryd.f11.params.toList := by rw [← Array.getElem?_toList] at ht; exact List.mem_of_getElem? ht
  have hall : (Tryd.f11.params.toList.all fun u => !Tryd.prog.wantsStandIn u) = true := by kernel_rfl
  exact (show Tryd.prog.wantsStandIn t = false by simpa using List.all_eq_true.1 hall t hm)
theorem proved : Rows.MembersOrderCardSaid :=
  Claim7.holds_tied_plain_at .later [] _ _ _ _ said (fun _ h => by cases h) (by kernel_rfl) (fun _ h => by cases h) membersOrder_row_tie rfl ⟨rfl, rfl⟩ (by kernel_rfl) rfl plain (by kernel_rfl)
#print axioms proved
end Go.Proofs.YthekiiagacnhkaaDoor.membersOrder
end
