/- HealthsBlame: for any config, any entry and any two numbers the law returns true (its tied card). No further condition. -/
import Derived.Test.YtpgaplcdbbnblaaGreatDoorTie
import Derived.Test.YtpgaplcdbbnblaaGreatDoorCards
import Derived.Test.YtpgaplcdbbnblaaGreatDoorJHealthsBlame0
import Derived.Test.YtpgaplcdbbnblaaGreatDoorJHealthsBlame29
import Derived.Test.YtpgaplcdbbnblaaGreatDoorJHealthsBlame30
import Derived.Test.YtpgaplcdbbnblaaGreatDoorJHealthsBlame3
import Derived.Test.YtpgaplcdbbnblaaGreatDoorJHealthsBlame31
import Derived.LaidMore
import Derived.LaidHandle
set_option linter.unusedSimpArgs false
set_option linter.unusedVariables false
section
namespace Go.Proofs.YtpgaplcdbbnblaaGreatDoor.healthsBlame
open Go.RowKit Go.WideShapes Go.ChangeShapes Go.ChangeAt

def hcOf (x : Held) : Hc := ⟨x.is, x.cell.report.is, x.cell.report.at_, x.cell.report.p.kind, x.cell.report.p.st, x.cell.report.p.seq, x.cell.report.p.val⟩
def hoOf (x : Held) : Ho := ⟨x.cell.age, x.cell.offer.is, x.cell.offer.at_, x.cell.offer.p.kind, x.cell.offer.p.st, x.cell.offer.p.seq, x.cell.offer.p.val, vwI x.cell.view⟩
theorem hd_cells (x : Held) : hdL (hcOf x) (hoOf x) = x.cells.map .v := by
  have e : vwL (vwI x.cell.view) = x.cell.view.cells.map .v := by rw [← vwI_cells]
  show hdL (hcOf x) (hoOf x) = (([.bool x.is] : List Value) ++ (([.int .i64 x.cell.age, .bool x.cell.offer.is, .int .i64 x.cell.offer.at_, .int .u8 x.cell.offer.p.kind, .int .u8 x.cell.offer.p.st, .int .u32 x.cell.offer.p.seq, .int .u32 x.cell.offer.p.val, .bool x.cell.report.is, .int .i64 x.cell.report.at_, .int .u8 x.cell.report.p.kind, .int .u8 x.cell.report.p.st, .int .u32 x.cell.report.p.seq, .int .u32 x.cell.report.p.val] : List Value) ++ x.cell.view.cells)).map AC.v
  rw [List.map_append, List.map_append, ← e]
  rfl
theorem walk (c : Cfg) (cs : List Value) (x : Held) (y z : Int) (w : World) (hc : CfgIn w c cs) (ho : c.Ok) (hx : x.Ok) (l1 : 0 ≤ y) (l2 : y ≤ 4294967295) (_ : 0 ≤ z) (_ : z ≤ 4294967295) (hL : laidMetH Tryz.prog Rows.healthsBlameRow.laid w) :
    Calls Tryz.prog 7 #[.agg cs.toArray, .agg x.cells.toArray, .agg #[.int .u32 y, .int .u32 z]] w fun e w' => e = .returned (.bool true) ∧ Below w.heap.size w w' := by
  have hG : ∀ p ∈ mS, GlobAt w p := by
    rw [MakeChecks.laidMetH_plain _ _ _ (by kernel_rfl)] at hL
    exact glob_mS hL
  have hr : ∀ β, γt β (hbA (hcOf x) (hoOf x) y z) = some [.agg x.cells.toArray, .agg #[.int .u32 y, .int .u32 z]] := fun β => by
    show γt β [.agg (hdL (hcOf x) (hoOf x)), .agg [.v (.int .u32 y), .v (.int .u32 z)]] = _
    rw [hd_cells]
    simp only [γt, γ1, γs_vs, γs, γc]
  by_cases h0 : cfgErr c = 0
  · exact cfg_law (hENl0 ctsHb_ok) hG hc hr (by obtain ⟨p, lp, r, h1, h2⟩ := hb_run0 c (hcOf x) (hoOf x) y z h0 ho.nb l1 l2; exact ⟨p, lp, r, h1, h2⟩)
  · exact cfg_law (hENl1 ctsHb_ok) hG hc hr (by obtain ⟨p, r, h1, h2⟩ := hb_run1 c (hcOf x) (hoOf x) y z h0 ho.nb; exact ⟨p, _, r, h1, h2⟩)
set_option maxRecDepth 100000 in
theorem lifted (os : Os) (started : os.Started) (H : Type) (enc : TypeId × Value → H) (F : Stop.Interp) :
    ReturnsInHanded {} Tryz.checked os 7 .any ((OpenSpec.ofChange Rows.healthsBlameSpec).preRow enc Tryz.prog Tryz.f7 Rows.healthsBlameRow.domain false Rows.healthsBlameRow.laid) (((OpenSpec.ofChange Rows.healthsBlameSpec).at F).post enc Tryz.prog Tryz.f7 false true false false) := by
  refine card_lifted (C := Tryz.checked) (by kernel_rfl) started (by kernel_rfl) Tryz.func7 (by kernel_rfl) (by kernel_rfl) rfl Tryz.underlying4 rfl (fun ds h => by match ds, h with | [_, _, _], _ => rfl)
    (card_witness (enc := enc) (C := Tryz.checked) (World.doorLaid Tryz.prog 1000 os) #[.agg #[.int .i64 0, .slice none 0 0, .slice none 0 0, .int .i64 0, .slice none 0 0, .slice none 0 0, .int .i64 0, .int .i64 0, .int .i64 0], .agg Held.zero.cells.toArray, .agg #[.int .u32 0, .int .u32 0]] rfl (by kernel_rfl) (by kernel_rfl) (by kernel_rfl) (by kernel_rfl) (by kernel_rfl) (laidMetH_of_parts3 (fuel := 8) (laidMet_of_run' 8 (by kernel_rfl) (by kernel_rfl)) (by kernel_rfl) (by kernel_rfl))) ?_
  intro W base args ds p hval hA hL
  change DataW.TrodAll enc Tryz.prog W 0 (fun _ => true) true Tryz.f7.params.toList args.toList ds p at hA
  rw [Tryz.params7] at hA hval
  obtain ⟨v0, vs0, d0, ds0, p0, q0, hargs, rfl, rfl, h0, r0⟩ := trodAll_cons hA
  obtain ⟨v1, vs1, d1, ds1, p1, q1, rfl, rfl, rfl, h1, r1⟩ := trodAll_cons r0
  obtain ⟨v2, vs2, d2, ds2, p2, q2, rfl, rfl, rfl, h2, r2⟩ := trodAll_cons r1
  obtain ⟨rfl, rfl, rfl⟩ := trodAll_nil r2
  obtain rfl : args = #[v0, v1, v2] := by cases args; simp_all
  obtain ⟨c0, cs0, rfl, ic0, oc0⟩ := open_cfg (hval 0 25 v0 rfl rfl) h0
  obtain ⟨cs1, fl1, rfl⟩ := open_raw (m := 9) (ks := Held.ks) (by kernel_rfl) (by kernel_rfl) (hval 1 94 v1 rfl rfl) h1
  obtain ⟨x1, ox1, rfl⟩ := Held.of_flat fl1
  obtain ⟨cs2, fl2, rfl⟩ := open_raw (m := 9) (ks := [some .u32, some .u32]) (by kernel_rfl) (by kernel_rfl) (hval 2 95 v2 rfl rfl) h2
  obtain ⟨_, _, rfl, ⟨e2_0, rfl, w2_0⟩, fl2_0⟩ := fl2.uncons
  have b2_0 := bounds_u32 w2_0
  obtain ⟨_, _, rfl, ⟨e2_1, rfl, w2_1⟩, fl2_1⟩ := fl2_0.uncons
  have b2_1 := bounds_u32 w2_1
  obtain rfl := fl2_1.unnil
  exact walk c0 cs0 x1 e2_0 e2_1 W ic0 oc0 ox1 b2_0.1 b2_0.2 b2_1.1 b2_1.2 hL

theorem fact1 : Rows.healthsBlameRow.inPlace = Tryz.pinned.checked.prog.inPlace 7 := by kernel_rfl
theorem fact2 : Rows.healthsBlameRow.unfollowed = Tryz.pinned.checked.prog.unfollowed 7 := by kernel_rfl
theorem fact3 : Rows.healthsBlameRow.recurses = Tryz.pinned.checked.prog.recurses 7 := by kernel_rfl
theorem fact4 : Rows.healthsBlameRow.named = Tryz.pinned.checked.prog.varsNamed 7 := by kernel_rfl
theorem fact5 : Rows.healthsBlameRow.lifted = Tryz.pinned.checked.prog.liftsFinal := by kernel_rfl
theorem fact6 : Tryz.pinned.checked.prog.make = some Rows.healthsBlameRow.make := by kernel_rfl
theorem facts : joinedFacts Tryz.pinned.checked.prog 7 Tryz.f7 (OpenSpec.ofChange Rows.healthsBlameSpec).bare Rows.healthsBlameRow = true := by
  unfold joinedFacts
  rw [← fact1, ← fact2, ← fact3, ← fact4, ← fact5, fact6, factA, factB, factC, factD]
  kernel_rfl
theorem said : Rows.HealthsBlameSaid :=
  OpenClaim.holds_of_cond 7 Tryz.f7 rfl rfl rfl rfl rfl rfl rfl ⟨rfl, rfl, rfl, rfl, rfl⟩ rfl rfl rfl rfl rfl (by kernel_rfl) Tryz.func7 facts
    (of_decide_eq_true (by kernel_rfl)) (by unfold Func.isWrapper; first | (rw [if_pos (by decide +kernel)]; kernel_rfl) | (rw [if_neg (by decide +kernel)]; exact ⟨rfl, rfl⟩))
    (fun os started H enc _ F => by rw [OpenClaim.pre_eq_preRow]; exact lifted os started H enc F)
theorem plain (f : FuncId) (fn : Func) (hf : Tryz.pinned.checked.prog.funcNamed Rows.healthsBlameRow.func = some f) (hfn : Tryz.pinned.checked.prog.funcs[f]? = some fn) :
    true = Tryz.pinned.checked.prog.looks [] ∧ ∀ (j : Nat) t, fn.params[j]? = some t → Tryz.pinned.checked.prog.wantsStandIn t = false := by
  obtain rfl : f = 7 := Option.some.inj ((show Tryz.prog.funcNamed Rows.healthsBlameRow.func = some 7 by kernel_rfl).symm.trans hf) |>.symm
  obtain rfl : fn = Tryz.f7 := (Option.some.inj (Tryz.func7.symm.trans hfn)).symm
  refine ⟨by kernel_rfl, fun j t ht => ?_⟩
  have hm : t ∈ Tryz.f7.params.toList := by rw [← Array.getElem?_toList] at ht; exact List.mem_of_getElem? ht
  have hall : (Tryz.f7.params.toList.all fun u => !Tryz.prog.wantsStandIn u) = true := by kernel_rfl
  exact (show Tryz.prog.wantsStandIn t = false by simpa using List.all_eq_true.1 hall t hm)
theorem proved : Rows.HealthsBlameCardSaid :=
  Claim7.holds_tied_plain_at .later [] _ _ _ _ said (fun _ h => by cases h) (by kernel_rfl) (fun _ h => by cases h) healthsBlame_row_tie rfl ⟨rfl, rfl⟩ (by kernel_rfl) rfl plain (by kernel_rfl)
#print axioms proved
end Go.Proofs.YtpgaplcdbbnblaaGreatDoor.healthsBlame
end
