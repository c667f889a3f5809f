/- MembersAgree: for any config, any view and any entries the law returns true (its tied card). No further condition. -/
import Derived.Test.YtgdoojlfbebaaaaDoorTie
import Derived.Test.YtgdoojlfbebaaaaDoorCards
import Derived.Test.YtgdoojlfbebaaaaDoorJMembersAgree25
import Derived.Test.YtgdoojlfbebaaaaDoorJMembersAgree21
import Derived.Test.YtgdoojlfbebaaaaDoorJMembersAgree26
import Derived.Test.YtgdoojlfbebaaaaDoorJMembersAgree27
import Derived.LaidMore
import Derived.LaidHandle
set_option linter.unusedSimpArgs false
set_option linter.unusedVariables false
section
namespace Go.Proofs.YtgdoojlfbebaaaaDoor.membersAgree
open Go.RowKit Go.WideShapes Go.ChangeShapes Go.ChangeAt

theorem walk (c : Cfg) (cs : List Value) (x : View) (A : Option Addr) (n cp : Nat) (l : List Held) (w : World) (hc : CfgIn w c cs) (ho : c.Ok) (hx : x.Ok) (hnc : n ≤ cp) (hcp : cp ≤ maxLen) (hA : SlAt w A n cp) (hsl : Sl w w.heap.size 56 A n (l.flatMap Held.cells)) (hl : l.length = n) (hok : ∀ x ∈ l, x.Ok) (hL : laidMetH Tryd.prog Rows.membersAgreeRow.laid w) :
    Calls Tryd.prog 6 #[.agg cs.toArray, .agg x.cells.toArray, .slice A n cp] w fun e w' => e = .returned (.bool true) ∧ Below w.heap.size w w' := by
  have hG : ∀ p ∈ mS, GlobAt w p := by
    rw [MakeChecks.laidMetH_plain _ _ _ (by kernel_rfl)] at hL
    exact glob_mS hL
  have hin := lstIn_of (cells := Held.cells) (C := 56) (by omega) Held.len Held.one Held.zero hA hsl hl
  have hf : (fun i => Held.cells (l.getD i Held.zero)) = fun i => hqC (hqOf (l.getD i Held.zero)) := funext fun i => (hq_cells _).symm
  rw [hf] at hin
  have hr : ∀ β, γt β [.agg (vwL (vwI x))] = some [.agg x.cells.toArray] := fun β => by simp only [γt, γ1, vwL, γs_vs, vwI_cells]
  have hat : ∀ k, k < n → (l.getD k Held.zero).Ok := fun k hk => by
    have : l.getD k Held.zero = l[k]'(by omega) := by simp [List.getD, show k < l.length by omega]
    rw [this]
    exact hok _ (List.getElem_mem _)
  have hF : heldsB n (fun k => hqL (hqOf (l.getD k Held.zero))) = true := heldsB_mk fun k hk => hq_ok (hat k hk)
  by_cases h0 : cfgErr c = 0
  · obtain ⟨p, lp, r, h1, h2⟩ := mg_run0 c x n (fun i => hqOf (l.getD i Held.zero)) h0 hx ho.nb hF (fun h => (hat 0 h).2.1.2.2.2.2)
    exact cfgm_law (hENl0 ctsMg_ok) hG hc (ty := 65) (n := n) hin (us := [.agg x.cells.toArray]) hr (Exists.intro p (Exists.intro lp (Exists.intro r (And.intro (by unfold mgW at h1; exact h1) h2))))
  · obtain ⟨p, r, h1, h2⟩ := mg_run1 c (vwI x) n (fun i => hqOf (l.getD i Held.zero)) h0 ho.nb
    exact cfgm_law (hENl1 ctsMg_ok) hG hc (ty := 65) (n := n) hin (us := [.agg x.cells.toArray]) hr (Exists.intro p (Exists.intro _ (Exists.intro r (And.intro (by unfold mgW at h1; exact h1) h2))))
set_option maxRecDepth 100000 in
theorem lifted (os : Os) (started : os.Started) (H : Type) (enc : TypeId × Value → H) (F : Stop.Interp) :
    ReturnsInHanded {} Tryd.checked os 6 .any ((OpenSpec.ofChange Rows.membersAgreeSpec).preRow enc Tryd.prog Tryd.f6 Rows.membersAgreeRow.domain false Rows.membersAgreeRow.laid) (((OpenSpec.ofChange Rows.membersAgreeSpec).at F).post enc Tryd.prog Tryd.f6 false true false false) := by
  refine card_lifted (C := Tryd.checked) (by kernel_rfl) started (by kernel_rfl) Tryd.func6 (by kernel_rfl) (by kernel_rfl) rfl Tryd.underlying4 rfl (fun ds h => by match ds, h with | [_, _, _], _ => rfl)
    (card_witness (enc := enc) (C := Tryd.checked) (World.doorLaid Tryd.prog 1000 os) #[.agg #[.int .i64 0, .slice none 0 0, .slice none 0 0, .int .i64 0, .slice none 0 0, .slice none 0 0, .int .i64 0, .int .i64 0, .int .i64 0], .agg View.zero.cells.toArray, .slice none 0 0] rfl (by kernel_rfl) (by kernel_rfl) (by kernel_rfl) (by kernel_rfl) (by kernel_rfl) (laidMetH_of_parts3 (fuel := 8) (laidMet_of_run' 8 (by kernel_rfl) (by kernel_rfl)) (by kernel_rfl) (by kernel_rfl))) ?_
  intro W base args ds p hval hA hL
  change DataW.TrodAll enc Tryd.prog W 0 (fun _ => true) true Tryd.f6.params.toList args.toList ds p at hA
  rw [Tryd.params6] at hA hval
  obtain ⟨v0, vs0, d0, ds0, p0, q0, hargs, rfl, rfl, h0, r0⟩ := trodAll_cons hA
  obtain ⟨v1, vs1, d1, ds1, p1, q1, rfl, rfl, rfl, h1, r1⟩ := trodAll_cons r0
  obtain ⟨v2, vs2, d2, ds2, p2, q2, rfl, rfl, rfl, h2, r2⟩ := trodAll_cons r1
  obtain ⟨rfl, rfl, rfl⟩ := trodAll_nil r2
  obtain rfl : args = #[v0, v1, v2] := by cases args; simp_all
  obtain ⟨c0, cs0, rfl, ic0, oc0⟩ := open_cfg (hval 0 25 v0 rfl rfl) h0
  obtain ⟨cs1, fl1, rfl⟩ := open_raw (m := 9) (ks := View.ks) (by kernel_rfl) (by kernel_rfl) (hval 1 61 v1 rfl rfl) h1
  obtain ⟨x1, ox1, rfl⟩ := View.of_flat fl1
  obtain ⟨A2, n2, c2, l2, rfl, hl2, hm2, pl2, hs2, ll2, ol2⟩ := open_slflat (m := 9) Tryd.underlying51 Held.cells Held.Ok Held.len (by kernel_rfl) (by kernel_rfl) (fun _ h => Held.of_flat h) (by omega) (hval 2 51 v2 rfl rfl) h2
  exact walk c0 cs0 x1 A2 n2 c2 l2 W ic0 oc0 ox1 hl2 hm2 pl2 hs2 ll2 ol2 hL

theorem said : Rows.MembersAgreeSaid :=
  OpenClaim.holds_of_cond 6 Tryd.f6 rfl rfl rfl rfl rfl rfl rfl ⟨rfl, rfl, rfl, rfl, rfl⟩ rfl rfl rfl rfl rfl (by kernel_rfl) Tryd.func6 (by kernel_rfl)
    (of_decide_eq_true (by kernel_rfl)) (by unfold Func.isWrapper; first | (rw [if_pos (by decide +kernel)]; kernel_rfl) | (rw [if_neg (by decide +kernel)]; exact ⟨rfl, rfl⟩))
    (fun os started H enc _ F => by rw [OpenClaim.pre_eq_preRow]; exact lifted os started H enc F)
theorem plain (f : FuncId) (fn : Func) (hf : Tryd.pinned.checked.prog.funcNamed Rows.membersAgreeRow.func = some f) (hfn : Tryd.pinned.checked.prog.funcs[f]? = some fn) :
    false = Tryd.pinned.checked.prog.looks [] ∧ ∀ (j : Nat) t, fn.params[j]? = some t → Tryd.pinned.checked.prog.wantsStandIn t = false := by
  obtain rfl : f = 6 := Option.some.inj ((show Tryd.prog.funcNamed Rows.membersAgreeRow.func = some 6 by kernel_rfl).symm.trans hf) |>.symm
  obtain rfl : fn = Tryd.f6 := (Option.some.inj (Tryd.func6.symm.trans hfn)).symm
  refine ⟨by kernel_rfl, fun j t ht => ?_⟩
  have hm : t ∈ Tryd.f6.params.toList := by rw [← Array.getElem?_toList] at ht; exact List.mem_of_getElem? ht
  have hall : (Tryd.f6.params.toList.all fun u => !Tryd.prog.wantsStandIn u) = true := by kernel_rfl
  exact (show Tryd.prog.wantsStandIn t = false by simpa using List.all_eq_true.1 hall t hm)
theorem proved : Rows.MembersAgreeCardSaid :=
  Claim7.holds_tied_plain_at .later [] _ _ _ _ said (fun _ h => by cases h) (by kernel_rfl) (fun _ h => by cases h) membersAgree_row_tie rfl ⟨rfl, rfl⟩ (by kernel_rfl) rfl plain (by kernel_rfl)
#print axioms proved
end Go.Proofs.YtgdoojlfbebaaaaDoor.membersAgree
end
