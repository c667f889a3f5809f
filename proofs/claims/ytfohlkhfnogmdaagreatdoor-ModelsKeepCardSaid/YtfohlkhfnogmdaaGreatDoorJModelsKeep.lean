/- ModelsKeep: for any config, any view and any two numbers the law returns true (its tied card). No further condition. -/
import Derived.Test.YtfohlkhfnogmdaaGreatDoorTie
import Derived.Test.YtfohlkhfnogmdaaGreatDoorCards
import Derived.Test.YtfohlkhfnogmdaaGreatDoorJModelsKeep20
import Derived.Test.YtfohlkhfnogmdaaGreatDoorJModelsKeep9
import Derived.Test.YtfohlkhfnogmdaaGreatDoorJModelsKeep21
import Derived.Test.YtfohlkhfnogmdaaGreatDoorJModelsKeep2
import Derived.Test.YtfohlkhfnogmdaaGreatDoorJModelsKeep23
import Derived.LaidMore
import Derived.LaidHandle
set_option linter.unusedSimpArgs false
set_option linter.unusedVariables false
section
namespace Go.Proofs.YtfohlkhfnogmdaaGreatDoor.modelsKeep
open Go.RowKit Go.WideShapes Go.ChangeShapes Go.ChangeAt

theorem walk (c : Cfg) (cs : List Value) (x : View) (z0 z1 : Int) (w : World) (hc : CfgIn w c cs) (ho : c.Ok) (hx : x.Ok) (a0 : 0 <= z0) (a1 : z0 <= 255) (b0 : 0 <= z1) (b1 : z1 <= 255) (hL : laidMetH Tryz.prog Rows.modelsKeepRow.laid w) :
    Calls Tryz.prog 4 #[.agg cs.toArray, .agg x.cells.toArray, .agg #[.int .u8 z0, .int .u8 z1]] w fun e w' => e = .returned (.bool true) /\ Below w.heap.size w w' := by
  have hG : ∀ p ∈ mSE, GlobAt w p := by
    rw [MakeChecks.laidMetH_plain _ _ _ (by kernel_rfl)] at hL
    intro p hp
    rcases List.mem_cons.1 hp with rfl | hp
    . exact jj7g hL
    . rw [List.mem_singleton.1 hp]
      exact jj7h (jj7a hL)
  have hr : ∀ β, γt β [.agg (vwL (vwI x)), .agg [.v (.int .u8 z0), .v (.int .u8 z1)]] = some [.agg x.cells.toArray, .agg #[.int .u8 z0, .int .u8 z1]] := fun β => by simp only [γt, γ1, vwL, jj8x, jjbi, γs, γc]
  by_cases h0 : cfgErr c = 0
  . exact jjdw (hENl0 jj1z) hG hc hr (jjhk c (vwI x) z0 z1 h0 ho.nb (jjj6 hx))
  . exact jjdw (hENl1 jj1z) hG hc hr (by obtain ⟨p, r, h1, h2⟩ := jjhj c (vwI x) z0 z1 h0 ho.nb; exact ⟨p, _, r, h1, h2⟩)
set_option maxRecDepth 100000 in
theorem lifted (os : Os) (started : os.Started) (H : Type) (enc : TypeId × Value -> H) (F : Stop.Interp) :
    ReturnsInHanded {} Tryz.checked os 4 .any ((OpenSpec.ofChange Rows.modelsKeepSpec).preRow enc Tryz.prog Tryz.f4 Rows.modelsKeepRow.domain false Rows.modelsKeepRow.laid) (((OpenSpec.ofChange Rows.modelsKeepSpec).at F).post enc Tryz.prog Tryz.f4 false true false false) := by
  refine jj98 (C := Tryz.checked) (by kernel_rfl) started (by kernel_rfl) Tryz.func4 (by kernel_rfl) (by kernel_rfl) rfl Tryz.underlying4 rfl (fun ds h => by match ds, h with | [_, _, _], _ => rfl)
    (jj7q (enc := enc) (C := Tryz.checked) (World.doorLaid Tryz.prog 1000 os) #[.agg #[.int .i64 0, .slice none 0 0, .slice none 0 0, .int .i64 0, .slice none 0 0, .slice none 0 0, .int .i64 0, .int .i64 0, .int .i64 0], .agg View.zero.cells.toArray, .agg #[.int .u8 0, .int .u8 0]] rfl (by kernel_rfl) (by kernel_rfl) (by kernel_rfl) (by kernel_rfl) (by kernel_rfl) (laidMetH_of_parts3 (fuel := 8) (laidMet_of_run' 8 (by kernel_rfl) (by kernel_rfl)) (by kernel_rfl) (by kernel_rfl))) ?_
  intro W base args ds p hval hA hL
  change DataW.TrodAll enc Tryz.prog W 0 (fun _ => true) true Tryz.f4.params.toList args.toList ds p at hA
  rw [Tryz.params4] at hA hval
  obtain ⟨v0, vs0, d0, ds0, p0, q0, hargs, rfl, rfl, h0, r0⟩ := trodAll_cons hA
  obtain ⟨v1, vs1, d1, ds1, p1, q1, rfl, rfl, rfl, h1, r1⟩ := trodAll_cons r0
  obtain ⟨v2, vs2, d2, ds2, p2, q2, rfl, rfl, rfl, h2, r2⟩ := trodAll_cons r1
  obtain ⟨rfl, rfl, rfl⟩ := trodAll_nil r2
  obtain rfl : args = #[v0, v1, v2] := by cases args; simp_all
  obtain ⟨c0, cs0, rfl, ic0, oc0⟩ := jjet (hval 0 25 v0 rfl rfl) h0
  obtain ⟨cs1, fl1, rfl⟩ := jjab (m := 9) (ks := View.ks) (by kernel_rfl) (by kernel_rfl) (hval 1 59 v1 rfl rfl) h1
  obtain ⟨x1, ox1, rfl⟩ := View.of_flat fl1
  obtain ⟨cs2, fl2, rfl⟩ := jjab (m := 9) (ks := [some .u8, some .u8]) (by kernel_rfl) (by kernel_rfl) (hval 2 60 v2 rfl rfl) h2
  obtain ⟨_, _, rfl, ⟨e2_0, rfl, w2_0⟩, fl2_0⟩ := fl2.uncons
  have b2_0 := bounds_u8 w2_0
  obtain ⟨_, _, rfl, ⟨e2_1, rfl, w2_1⟩, fl2_1⟩ := fl2_0.uncons
  have b2_1 := bounds_u8 w2_1
  obtain rfl := fl2_1.unnil
  exact walk c0 cs0 x1 e2_0 e2_1 W ic0 oc0 ox1 b2_0.1 b2_0.2 b2_1.1 b2_1.2 hL

theorem said : Rows.ModelsKeepSaid :=
  OpenClaim.holds_of_cond 4 Tryz.f4 rfl rfl rfl rfl rfl rfl rfl ⟨rfl, rfl, rfl, rfl, rfl⟩ rfl rfl rfl rfl rfl (by kernel_rfl) Tryz.func4 (by kernel_rfl)
    (of_decide_eq_true (by kernel_rfl)) (by unfold Func.isWrapper; first | (rw [if_pos (by decide +kernel)]; kernel_rfl) | (rw [if_neg (by decide +kernel)]; exact ⟨rfl, rfl⟩))
    (fun os started H enc _ F => by rw [OpenClaim.pre_eq_preRow]; exact lifted os started H enc F)
theorem plain (f : FuncId) (fn : Func) (hf : Tryz.pinned.checked.prog.funcNamed Rows.modelsKeepRow.func = some f) (hfn : Tryz.pinned.checked.prog.funcs[f]? = some fn) :
    false = Tryz.pinned.checked.prog.looks [] /\ ∀ (j : Nat) t, fn.params[j]? = some t -> Tryz.pinned.checked.prog.wantsStandIn t = false := by
  obtain rfl : f = 4 := Option.some.inj ((show Tryz.prog.funcNamed Rows.modelsKeepRow.func = some 4 by kernel_rfl).symm.trans hf) |>.symm
  obtain rfl : fn = Tryz.f4 := (Option.some.inj (Tryz.func4.symm.trans hfn)).symm
  refine ⟨by kernel_rfl, fun j t ht => ?_⟩
  have hm : t ∈ Tryz.f4.params.toList := by rw [<- Array.getElem?_toList] at ht; exact List.mem_of_getElem? ht
  have hall : (Tryz.f4.params.toList.all fun u => !Tryz.prog.wantsStandIn u) = true := by kernel_rfl
  exact (show Tryz.prog.wantsStandIn t = false by simpa using List.all_eq_true.1 hall t hm)
theorem proved : Rows.ModelsKeepCardSaid :=
  Claim7.holds_tied_plain_at .later [] _ _ _ _ said (fun _ h => by cases h) (by kernel_rfl) (fun _ h => by cases h) modelsKeep_row_tie rfl ⟨rfl, rfl⟩ (by kernel_rfl) rfl plain (by kernel_rfl)
#print axioms proved
end Go.Proofs.YtfohlkhfnogmdaaGreatDoor.modelsKeep
end
