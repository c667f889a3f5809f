/- HostsAges: however long things are fresh, of any payload, in any round the law returns true (its tied card). No further condition. -/
import Derived.Test.YtpfkhlfkcmgdlaaDoorTie
import Derived.Test.YtpfkhlfkcmgdlaaDoorCards
import Derived.Test.YtpfkhlfkcmgdlaaDoorHgC
import Derived.Test.YtpfkhlfkcmgdlaaDoorGlobIn
import Derived.Test.YtpfkhlfkcmgdlaaDoorCard
import Derived.Test.YtpfkhlfkcmgdlaaDoorOpen
import Derived.LaidMore
import Derived.LaidHandle
set_option linter.unusedSimpArgs false
set_option linter.unusedVariables false
namespace Go.Proofs.YtpfkhlfkcmgdlaaDoor.hostsAges
open Go.RowKit Go.WideShapes Go.ChangeShapes Go.ChangeAt

set_option maxRecDepth 1000000 in
theorem run (fr rd : Int) (pl : Payload) (g0 : 0 ≤ fr) (g1 : fr ≤ 255) (z0 : 0 ≤ rd) (z1 : rd ≤ 4294967295) : ∃ p r, hgR Tryd.prog fr rd pl p = some r ∧ (r.1 = bo true ∧ r.2.2.1 ≤ lim ∧ allT r.2.2.2.1 ∧ ∀ q ∈ r.2.2.2.2, q) := by
  refine hg fr rd pl _ ?_
  have hh : 1 ≤ IntKind.wrap IntKind.i64 (Int.ofNat 1 + Int.tmod (IntKind.wrap IntKind.i64 fr) (Int.ofNat 100)) ∧ IntKind.wrap IntKind.i64 (Int.ofNat 1 + Int.tmod (IntKind.wrap IntKind.i64 fr) (Int.ofNat 100)) ≤ 100 := by
    rw [wrap_nat fr (by omega) (by omega)]
    have e1 : 0 ≤ Int.tmod fr (Int.ofNat 100) := Int.tmod_nonneg _ g0
    have e2 : Int.tmod fr (Int.ofNat 100) < 100 := Int.tmod_lt_of_pos _ (by simp)
    generalize Int.tmod fr (Int.ofNat 100) = t at e1 e2 ⊢
    rw [wrap_nat _ (by simp; omega) (by simp; omega)]
    simp
    omega
  have hr : 0 ≤ Int.tmod (IntKind.wrap IntKind.i64 rd) (Int.ofNat 1000001) ∧ Int.tmod (IntKind.wrap IntKind.i64 rd) (Int.ofNat 1000001) ≤ 1000000 := by
    rw [wrap_nat rd (by omega) (by omega)]
    have e1 : 0 ≤ Int.tmod rd (Int.ofNat 1000001) := Int.tmod_nonneg _ z0
    have e2 : Int.tmod rd (Int.ofNat 1000001) < 1000001 := Int.tmod_lt_of_pos _ (by simp)
    omega
  generalize IntKind.wrap IntKind.i64 (Int.ofNat 1 + Int.tmod (IntKind.wrap IntKind.i64 fr) (Int.ofNat 100)) = hq at hh ⊢
  generalize Int.tmod (IntKind.wrap IntKind.i64 rd) (Int.ofNat 1000001) = rnd at hr ⊢
  obtain ⟨h0, h1⟩ := hh
  obtain ⟨r0, r1⟩ := hr
  repeat' (first | refine ⟨fun h => ?_, fun h => ?_⟩ | fail)
  all_goals (first | (exfalso; simp at *; done) | (exfalso; simp at *; omega) | skip)
  refine ⟨rfl, by dsimp only; unfold lim; omega, ?_, ?_⟩
  · first | (simp at *; simp [allT, *]; done) | (simp at *; simp [allT, *]; omega)
  · intro q hm
    rw [List.mem_singleton.1 hm]
    exact hg_sum hq rnd pl r0 r1
theorem glob (w : World) (hL : laidMetH Tryd.prog Rows.hostsAgesRow.laid w) : ∀ p ∈ mS, GlobAt w p := by
  rw [MakeChecks.laidMetH_plain _ _ _ (by kernel_rfl)] at hL
  have h1 : Lib.TabIs Tryd.prog w "sennit/rings.signs" .i64 [1, -1] := Lib.tabIs_of_head (rest := []) (g := 1) (t := 152) (e := 3) (n := 2) (by kernel_rfl) (by kernel_rfl) (by kernel_rfl) (by kernel_rfl) (by kernel_rfl) (by kernel_rfl) hL
  intro p hp
  rcases List.mem_singleton.1 hp with rfl
  exact globAt_tab (ty := 152) h1 (by kernel_rfl) (by decide)
theorem walk (fr : Int) (pl : Payload) (rd : Int) (w : World) (g0 : 0 ≤ fr) (g1 : fr ≤ 255) (_ : pl.Ok) (z0 : 0 ≤ rd) (z1 : rd ≤ 4294967295) (hL : laidMetH Tryd.prog Rows.hostsAgesRow.laid w) :
    Calls Tryd.prog 8 #[.int .u8 fr, .agg pl.cells.toArray, .int .u32 rd] w fun e w' => e = .returned (.bool true) ∧ Below w.heap.size w w' := by
  obtain ⟨p, ⟨v, b', n, ob, po⟩, hrun, hv, hn, hob, hpo⟩ := run fr rd pl g0 g1 z0 z1
  obtain ⟨s', r1, r2, r3, r4⟩ := viewF_out hrun
  refine (calls_f hEL19 r1 ⟨by rw [r3]; exact hob, by rw [r4]; exact hpo⟩ (C := loneC w) (β := gβ) (w := w) (vs := [.int .u8 fr, .agg pl.cells.toArray, .int .u32 rd]) ?_ (rel_in (glob w hL)) ?_).mono ?_
  · simp only [γt, γ1, γs_vs, γc]
  · intro id _ h2
    exact gβ_lo (Nat.lt_of_lt_of_le h2 hn)
  · rintro e w' ⟨β', u, rfl, _, _, hu, hr⟩
    simp only at hv
    subst hv
    cases hu
    exact ⟨rfl, below_lone hr⟩
set_option maxRecDepth 100000 in
theorem lifted (os : Os) (started : os.Started) (H : Type) (enc : TypeId × Value → H) (F : Stop.Interp) :
    ReturnsInHanded {} Tryd.checked os 8 .any ((OpenSpec.ofChange Rows.hostsAgesSpec).preRow enc Tryd.prog Tryd.f8 Rows.hostsAgesRow.domain false Rows.hostsAgesRow.laid) (((OpenSpec.ofChange Rows.hostsAgesSpec).at F).post enc Tryd.prog Tryd.f8 false true false false) := by
  refine card_lifted (C := Tryd.checked) (by kernel_rfl) started (by kernel_rfl) Tryd.func8 (by kernel_rfl) (by kernel_rfl) rfl Tryd.underlying4 rfl (fun ds h => by match ds, h with | [_, _, _], _ => rfl)
    (card_witness (enc := enc) (C := Tryd.checked) (World.doorLaid Tryd.prog 1000 os) #[.int .u8 0, .agg Payload.zero.cells.toArray, .int .u32 0] rfl (by kernel_rfl) (by kernel_rfl) (by kernel_rfl) (by kernel_rfl) (by kernel_rfl) (laidMetH_of_parts3 (fuel := 8) (laidMet_of_run' 8 (by kernel_rfl) (by kernel_rfl)) (by kernel_rfl) (by kernel_rfl))) ?_
  intro W base args ds p hval hA hL
  change DataW.TrodAll enc Tryd.prog W 0 (fun _ => true) true Tryd.f8.params.toList args.toList ds p at hA
  rw [Tryd.params8] at hA hval
  obtain ⟨v0, vs0, d0, ds0, p0, q0, hargs, rfl, rfl, h0, r0⟩ := trodAll_cons hA
  obtain ⟨v1, vs1, d1, ds1, p1, q1, rfl, rfl, rfl, h1, r1⟩ := trodAll_cons r0
  obtain ⟨v2, vs2, d2, ds2, p2, q2, rfl, rfl, rfl, h2, r2⟩ := trodAll_cons r1
  obtain ⟨rfl, rfl, rfl⟩ := trodAll_nil r2
  obtain rfl : args = #[v0, v1, v2] := by cases args; simp_all
  obtain ⟨a0, rfl, rfl, rfl, w0⟩ := open_int Tryd.underlying5 (hval 0 5 v0 rfl rfl) h0
  have b0 := bounds_u8 w0
  obtain ⟨cs1, fl1, rfl⟩ := open_raw (m := 9) (ks := Payload.ks) (by kernel_rfl) (by kernel_rfl) (hval 1 52 v1 rfl rfl) h1
  obtain ⟨x1, ox1, rfl⟩ := Payload.of_flat fl1
  obtain ⟨a2, rfl, rfl, rfl, w2⟩ := open_int Tryd.underlying50 (hval 2 50 v2 rfl rfl) h2
  have b2 := bounds_u32 w2
  exact walk a0 x1 a2 W b0.1 b0.2 ox1 b2.1 b2.2 hL

theorem said : Rows.HostsAgesSaid :=
  OpenClaim.holds_of_cond 8 Tryd.f8 rfl rfl rfl rfl rfl rfl rfl ⟨rfl, rfl, rfl, rfl, rfl⟩ rfl rfl rfl rfl rfl (by kernel_rfl) Tryd.func8 (by kernel_rfl)
    (of_decide_eq_true (by kernel_rfl)) (by unfold Func.isWrapper; first | (rw [if_pos (by decide +kernel)]; kernel_rfl) | (rw [if_neg (by decide +kernel)]; exact ⟨rfl, rfl⟩))
    (fun os started H enc _ F => by rw [OpenClaim.pre_eq_preRow]; exact lifted os started H enc F)
theorem plain (f : FuncId) (fn : Func) (hf : Tryd.pinned.checked.prog.funcNamed Rows.hostsAgesRow.func = some f) (hfn : Tryd.pinned.checked.prog.funcs[f]? = some fn) :
    false = Tryd.pinned.checked.prog.looks [] ∧ ∀ (j : Nat) t, fn.params[j]? = some t → Tryd.pinned.checked.prog.wantsStandIn t = false := by
  obtain rfl : f = 8 := Option.some.inj ((show Tryd.prog.funcNamed Rows.hostsAgesRow.func = some 8 by kernel_rfl).symm.trans hf) |>.symm
  obtain rfl : fn = Tryd.f8 := (Option.some.inj (Tryd.func8.symm.trans hfn)).symm
  refine ⟨by kernel_rfl, fun j t ht => ?_⟩
  have hm : t ∈ Tryd.f8.params.toList := by rw [← Array.getElem?_toList] at ht; exact List.mem_of_getElem? ht
  have hall : (Tryd.f8.params.toList.all fun u => !Tryd.prog.wantsStandIn u) = true := by kernel_rfl
  exact (show Tryd.prog.wantsStandIn t = false by simpa using List.all_eq_true.1 hall t hm)
theorem proved : Rows.HostsAgesCardSaid :=
  Claim7.holds_tied_plain_at .later [] _ _ _ _ said (fun _ h => by cases h) (by kernel_rfl) (fun _ h => by cases h) hostsAges_row_tie rfl ⟨rfl, rfl⟩ (by kernel_rfl) rfl plain (by kernel_rfl)
#print axioms proved
end Go.Proofs.YtpfkhlfkcmgdlaaDoor.hostsAges
