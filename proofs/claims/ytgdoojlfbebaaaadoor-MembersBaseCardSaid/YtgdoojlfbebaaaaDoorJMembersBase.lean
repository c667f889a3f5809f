/- MembersBase: for any config and any entries the law returns true (its tied card). No further condition. -/
import Derived.Test.YtgdoojlfbebaaaaDoorTie
import Derived.Test.YtgdoojlfbebaaaaDoorCards
import Derived.Test.YtgdoojlfbebaaaaDoorJMembersBase26
import Derived.Test.YtgdoojlfbebaaaaDoorJMembersBase22
import Derived.Test.YtgdoojlfbebaaaaDoorJMembersBase27
import Derived.Test.YtgdoojlfbebaaaaDoorJMembersBase28
import Derived.LaidMore
import Derived.LaidHandle
set_option linter.unusedSimpArgs false
set_option linter.unusedVariables false
section
namespace Go.Proofs.YtgdoojlfbebaaaaDoor.membersBase
open Go.RowKit Go.WideShapes Go.ChangeShapes Go.ChangeAt

theorem walk (c : Cfg) (cs : List Value) (A : Option Addr) (n cp : Nat) (l : List Held) (w : World) (hc : CfgIn w c cs) (ho : c.Ok) (hnc : n ≤ cp) (hcp : cp ≤ maxLen) (hA : SlAt w A n cp) (hsl : Sl w w.heap.size 56 A n (l.flatMap Held.cells)) (hl : l.length = n) (hok : ∀ x ∈ l, x.Ok) (hL : laidMetH Tryd.prog Rows.membersBaseRow.laid w) :
    Calls Tryd.prog 5 #[.agg cs.toArray, .slice A n cp] w fun e w' => e = .returned (.bool true) ∧ Below w.heap.size w w' := by
  have hG : ∀ p ∈ mS, GlobAt w p := by
    rw [MakeChecks.laidMetH_plain _ _ _ (by kernel_rfl)] at hL
    exact glob_mS hL
  have hin := lstIn_of (cells := Held.cells) (C := 56) (by omega) Held.len Held.one Held.zero hA hsl hl
  have hf : (fun i => Held.cells (l.getD i Held.zero)) = fun i => hqC (hqOf (l.getD i Held.zero)) := funext fun i => (hq_cells _).symm
  rw [hf] at hin
  have hF : heldsB n (fun k => hqL (hqOf (l.getD k Held.zero))) = true := heldsB_mk fun k hk => hq_ok (by
    have : l.getD k Held.zero = l[k]'(by omega) := by simp [List.getD, show k < l.length by omega]
    rw [this]
    exact hok _ (List.getElem_mem _))
  by_cases h0 : cfgErr c = 0
  · exact cfgl_law (hENl0 ctsBb_ok) hG hc (ty := 65) (n := n) hin (r := []) (us := []) (fun _ => rfl) (by obtain ⟨p, lp, r, h1, h2⟩ := bb_run0 c n (fun i => hqOf (l.getD i Held.zero)) h0 ho.nb hF; exact ⟨p, lp, r, h1, h2⟩)
  · exact cfgl_law (hENl1 ctsBb_ok) hG hc (ty := 65) (n := n) hin (r := []) (us := []) (fun _ => rfl) (by obtain ⟨p, r, h1, h2⟩ := bb_run1 c n (fun i => hqOf (l.getD i Held.zero)) h0 ho.nb; exact ⟨p, _, r, h1, h2⟩)
set_option maxRecDepth 100000 in
theorem lifted (os : Os) (started : os.Started) (H : Type) (enc : TypeId × Value → H) (F : Stop.Interp) :
    ReturnsInHanded {} Tryd.checked os 5 .any ((OpenSpec.ofChange Rows.membersBaseSpec).preRow enc Tryd.prog Tryd.f5 Rows.membersBaseRow.domain false Rows.membersBaseRow.laid) (((OpenSpec.ofChange Rows.membersBaseSpec).at F).post enc Tryd.prog Tryd.f5 false true false false) := by
  refine card_lifted (C := Tryd.checked) (by kernel_rfl) started (by kernel_rfl) Tryd.func5 (by kernel_rfl) (by kernel_rfl) rfl Tryd.underlying4 rfl (fun ds h => by match ds, h with | [_, _], _ => rfl)
    (card_witness (enc := enc) (C := Tryd.checked) (World.doorLaid Tryd.prog 1000 os) #[.agg #[.int .i64 0, .slice none 0 0, .slice none 0 0, .int .i64 0, .slice none 0 0, .slice none 0 0, .int .i64 0, .int .i64 0, .int .i64 0], .slice none 0 0] rfl (by kernel_rfl) (by kernel_rfl) (by kernel_rfl) (by kernel_rfl) (by kernel_rfl) (laidMetH_of_parts3 (fuel := 8) (laidMet_of_run' 8 (by kernel_rfl) (by kernel_rfl)) (by kernel_rfl) (by kernel_rfl))) ?_
  intro W base args ds p hval hA hL
  change DataW.TrodAll enc Tryd.prog W 0 (fun _ => true) true Tryd.f5.params.toList args.toList ds p at hA
  rw [Tryd.params5] at hA hval
  obtain ⟨v0, vs0, d0, ds0, p0, q0, hargs, rfl, rfl, h0, r0⟩ := trodAll_cons hA
  obtain ⟨v1, vs1, d1, ds1, p1, q1, rfl, rfl, rfl, h1, r1⟩ := trodAll_cons r0
  obtain ⟨rfl, rfl, rfl⟩ := trodAll_nil r1
  obtain rfl : args = #[v0, v1] := by cases args; simp_all
  obtain ⟨c0, cs0, rfl, ic0, oc0⟩ := open_cfg (hval 0 25 v0 rfl rfl) h0
  obtain ⟨A1, n1, c1, l1, rfl, hl1, hm1, pl1, hs1, ll1, ol1⟩ := open_slflat (m := 9) Tryd.underlying51 Held.cells Held.Ok Held.len (by kernel_rfl) (by kernel_rfl) (fun _ h => Held.of_flat h) (by omega) (hval 1 51 v1 rfl rfl) h1
  exact walk c0 cs0 A1 n1 c1 l1 W ic0 oc0 hl1 hm1 pl1 hs1 ll1 ol1 hL

theorem said : Rows.MembersBaseSaid :=
  OpenClaim.holds_of_cond 5 Tryd.f5 rfl rfl rfl rfl rfl rfl rfl ⟨rfl, rfl, rfl, rfl, rfl⟩ rfl rfl rfl rfl rfl (by kernel_rfl) Tryd.func5 (by kernel_rfl)
    (of_decide_eq_true (by kernel_rfl)) (by unfold Func.isWrapper; first | (rw [if_pos (by decide +kernel)]; kernel_rfl) | (rw [if_neg (by decide +kernel)]; exact ⟨rfl, rfl⟩))
    (fun os started H enc _ F => by rw [OpenClaim.pre_eq_preRow]; exact lifted os started H enc F)
theorem plain (f : FuncId) (fn : Func) (hf : Tryd.pinned.checked.prog.funcNamed Rows.membersBaseRow.func = some f) (hfn : Tryd.pinned.checked.prog.funcs[f]? = some fn) :
    false = Tryd.pinned.checked.prog.looks [] ∧ ∀ (j : Nat) t, fn.params[j]? = some t → Tryd.pinned.checked.prog.wantsStandIn t = false := by
  obtain rfl : f = 5 := Option.some.inj ((show Tryd.prog.funcNamed Rows.membersBaseRow.func = some 5 by kernel_rfl).symm.trans hf) |>.symm
  obtain rfl : fn = Tryd.f5 := (Option.some.inj (Tryd.func5.symm.trans hfn)).symm
  refine ⟨by kernel_rfl, fun j t ht => ?_⟩
  have hm : t ∈ Tryd.f5.params.toList := by rw [← Array.getElem?_toList] at ht; exact List.mem_of_getElem? ht
  have hall : (Tryd.f5.params.toList.all fun u => !Tryd.prog.wantsStandIn u) = true := by kernel_rfl
  exact (show Tryd.prog.wantsStandIn t = false by simpa using List.all_eq_true.1 hall t hm)
theorem proved : Rows.MembersBaseCardSaid :=
  Claim7.holds_tied_plain_at .later [] _ _ _ _ said (fun _ h => by cases h) (by kernel_rfl) (fun _ h => by cases h) membersBase_row_tie rfl ⟨rfl, rfl⟩ (by kernel_rfl) rfl plain (by kernel_rfl)
#print axioms proved
end Go.Proofs.YtgdoojlfbebaaaaDoor.membersBase
end
