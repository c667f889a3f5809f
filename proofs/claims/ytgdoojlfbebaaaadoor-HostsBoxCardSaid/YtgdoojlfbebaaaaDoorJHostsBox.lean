/- HostsBox: for any config and any acts the law returns true (its tied card). No further condition. -/
import Derived.Test.YtgdoojlfbebaaaaDoorTie
import Derived.Test.YtgdoojlfbebaaaaDoorCards
import Derived.Test.YtgdoojlfbebaaaaDoorJHostsBox17
import Derived.Test.YtgdoojlfbebaaaaDoorJHostsBox2
import Derived.Test.YtgdoojlfbebaaaaDoorJHostsBox15
import Derived.Test.YtgdoojlfbebaaaaDoorJHostsBox18
import Derived.Test.YtgdoojlfbebaaaaDoorJHostsBox19
import Derived.LaidMore
import Derived.LaidHandle
set_option linter.unusedSimpArgs false
set_option linter.unusedVariables false
section
namespace Go.Proofs.YtgdoojlfbebaaaaDoor.hostsBox
open Go.RowKit Go.WideShapes Go.ChangeShapes Go.ChangeAt

def acOf (x : HAct) : Ac := ⟨x.put, x.pair, x.p.kind, x.p.st, x.p.seq, x.p.val, x.round⟩
theorem walk (c : Cfg) (cs : List Value) (A : Option Addr) (n cp : Nat) (l : List HAct) (w : World) (hc : CfgIn w c cs) (ho : c.Ok) (hnc : n ≤ cp) (hcp : cp ≤ maxLen) (hA : SlAt w A n cp) (hsl : Sl w w.heap.size 7 A n (l.flatMap HAct.cells)) (hl : l.length = n) (_ : ∀ x ∈ l, x.Ok) (hL : laidMetH Tryd.prog Rows.hostsBoxRow.laid w) :
    Calls Tryd.prog 4 #[.agg cs.toArray, .slice A n cp] w fun e w' => e = .returned (.bool true) ∧ Below w.heap.size w w' := by
  have hG : ∀ p ∈ mS, GlobAt w p := by
    rw [MakeChecks.laidMetH_plain _ _ _ (by kernel_rfl)] at hL
    exact glob_mS hL
  have hin := lstIn_of (cells := HAct.cells) (C := 7) (by omega) (fun _ => rfl) (fun _ => rfl) HAct.zero hA hsl hl
  have hf : (fun i => HAct.cells (l.getD i HAct.zero)) = fun i => acC (acOf (l.getD i HAct.zero)) := rfl
  rw [hf] at hin
  by_cases hn : n ≤ 200
  · by_cases h0 : cfgErr c = 0
    · exact cfgl_law (hENl0 ctsBx_ok) hG hc (ty := 46) (n := n) hin (r := []) (us := []) (fun _ => rfl) (by obtain ⟨p, lp, r, h1, h2⟩ := bx_run0 c n (fun i => acOf (l.getD i HAct.zero)) h0 hn; exact ⟨p, lp, r, h1, h2⟩)
    · exact cfgl_law (hENl1 ctsBx_ok) hG hc (ty := 46) (n := n) hin (r := []) (us := []) (fun _ => rfl) (by obtain ⟨p, r, h1, h2⟩ := bx_run1 c n (fun i => acOf (l.getD i HAct.zero)) h0 hn ho.nb; exact ⟨p, _, r, h1, h2⟩)
  · exact cfgl_law (hENl1 ctsBx_ok) hG hc (ty := 46) (n := n) hin (r := []) (us := []) (fun _ => rfl) (by obtain ⟨p, r, h1, h2⟩ := bx_runT c n (fun i => acOf (l.getD i HAct.zero)) (by omega); exact ⟨p, _, r, h1, h2⟩)
set_option maxRecDepth 100000 in
theorem lifted (os : Os) (started : os.Started) (H : Type) (enc : TypeId × Value → H) (F : Stop.Interp) :
    ReturnsInHanded {} Tryd.checked os 4 .any ((OpenSpec.ofChange Rows.hostsBoxSpec).preRow enc Tryd.prog Tryd.f4 Rows.hostsBoxRow.domain false Rows.hostsBoxRow.laid) (((OpenSpec.ofChange Rows.hostsBoxSpec).at F).post enc Tryd.prog Tryd.f4 false true false false) := by
  refine card_lifted (C := Tryd.checked) (by kernel_rfl) started (by kernel_rfl) Tryd.func4 (by kernel_rfl) (by kernel_rfl) rfl Tryd.underlying4 rfl (fun ds h => by match ds, h with | [_, _], _ => rfl)
    (card_witness (enc := enc) (C := Tryd.checked) (World.doorLaid Tryd.prog 1000 os) #[.agg #[.int .i64 0, .slice none 0 0, .slice none 0 0, .int .i64 0, .slice none 0 0, .slice none 0 0, .int .i64 0, .int .i64 0, .int .i64 0], .slice none 0 0] rfl (by kernel_rfl) (by kernel_rfl) (by kernel_rfl) (by kernel_rfl) (by kernel_rfl) (laidMetH_of_parts3 (fuel := 8) (laidMet_of_run' 8 (by kernel_rfl) (by kernel_rfl)) (by kernel_rfl) (by kernel_rfl))) ?_
  intro W base args ds p hval hA hL
  change DataW.TrodAll enc Tryd.prog W 0 (fun _ => true) true Tryd.f4.params.toList args.toList ds p at hA
  rw [Tryd.params4] at hA hval
  obtain ⟨v0, vs0, d0, ds0, p0, q0, hargs, rfl, rfl, h0, r0⟩ := trodAll_cons hA
  obtain ⟨v1, vs1, d1, ds1, p1, q1, rfl, rfl, rfl, h1, r1⟩ := trodAll_cons r0
  obtain ⟨rfl, rfl, rfl⟩ := trodAll_nil r1
  obtain rfl : args = #[v0, v1] := by cases args; simp_all
  obtain ⟨c0, cs0, rfl, ic0, oc0⟩ := open_cfg (hval 0 25 v0 rfl rfl) h0
  obtain ⟨A1, n1, c1, l1, rfl, hl1, hm1, pl1, hs1, ll1, ol1⟩ := open_slflat (m := 9) Tryd.underlying31 HAct.cells HAct.Ok HAct.len (by kernel_rfl) (by kernel_rfl) (fun _ h => HAct.of_flat h) (by omega) (hval 1 31 v1 rfl rfl) h1
  exact walk c0 cs0 A1 n1 c1 l1 W ic0 oc0 hl1 hm1 pl1 hs1 ll1 ol1 hL

theorem said : Rows.HostsBoxSaid :=
  OpenClaim.holds_of_cond 4 Tryd.f4 rfl rfl rfl rfl rfl rfl rfl ⟨rfl, rfl, rfl, rfl, rfl⟩ rfl rfl rfl rfl rfl (by kernel_rfl) Tryd.func4 (by kernel_rfl)
    (of_decide_eq_true (by kernel_rfl)) (by unfold Func.isWrapper; first | (rw [if_pos (by decide +kernel)]; kernel_rfl) | (rw [if_neg (by decide +kernel)]; exact ⟨rfl, rfl⟩))
    (fun os started H enc _ F => by rw [OpenClaim.pre_eq_preRow]; exact lifted os started H enc F)
theorem plain (f : FuncId) (fn : Func) (hf : Tryd.pinned.checked.prog.funcNamed Rows.hostsBoxRow.func = some f) (hfn : Tryd.pinned.checked.prog.funcs[f]? = some fn) :
    false = Tryd.pinned.checked.prog.looks [] ∧ ∀ (j : Nat) t, fn.params[j]? = some t → Tryd.pinned.checked.prog.wantsStandIn t = false := by
  obtain rfl : f = 4 := Option.some.inj ((show Tryd.prog.funcNamed Rows.hostsBoxRow.func = some 4 by kernel_rfl).symm.trans hf) |>.symm
  obtain rfl : fn = Tryd.f4 := (Option.some.inj (Tryd.func4.symm.trans hfn)).symm
  refine ⟨by kernel_rfl, fun j t ht => ?_⟩
  have hm : t ∈ Tryd.f4.params.toList := by rw [← Array.getElem?_toList] at ht; exact List.mem_of_getElem? ht
  have hall : (Tryd.f4.params.toList.all fun u => !Tryd.prog.wantsStandIn u) = true := by kernel_rfl
  exact (show Tryd.prog.wantsStandIn t = false by simpa using List.all_eq_true.1 hall t hm)
theorem proved : Rows.HostsBoxCardSaid :=
  Claim7.holds_tied_plain_at .later [] _ _ _ _ said (fun _ h => by cases h) (by kernel_rfl) (fun _ h => by cases h) hostsBox_row_tie rfl ⟨rfl, rfl⟩ (by kernel_rfl) rfl plain (by kernel_rfl)
#print axioms proved
end Go.Proofs.YtgdoojlfbebaaaaDoor.hostsBox
end
