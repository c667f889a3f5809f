/- ActuatorsRun: for any safe value, any holding and any deliveries the law returns true (its tied card). No further condition. -/
import Derived.Test.YtgfmjbfjodidpaaDoorTie
import Derived.Test.YtgfmjbfjodidpaaDoorCards
import Derived.Test.YtgfmjbfjodidpaaDoorJActuatorsRun6
import Derived.Test.YtgfmjbfjodidpaaDoorJB0x18
import Derived.Test.YtgfmjbfjodidpaaDoorJB0x19
import Derived.LaidMore
import Derived.LaidHandle
set_option linter.unusedSimpArgs false
set_option linter.unusedVariables false
section
namespace Go.Proofs.YtgfmjbfjodidpaaDoor.actuatorsRun
open Go.RowKit Go.WideShapes Go.ChangeShapes Go.ChangeAt

theorem walk (safe hold : Int) (A : Option Addr) (n cp : Nat) (l : List Deliv) (w : World) (_ : 0 ≤ safe) (_ : safe ≤ 4294967295) (g0 : 0 ≤ hold) (g1 : hold ≤ 255) (hnc : n ≤ cp) (hcp : cp ≤ maxLen) (hA : SlAt w A n cp) (hsl : Sl w w.heap.size 9 A n (l.flatMap Deliv.cells)) (hl : l.length = n) (hok : ∀ x ∈ l, x.Ok) (hL : laidMetH Tryd.prog Rows.actuatorsRunRow.laid w) :
    Calls Tryd.prog 7 #[.int .u32 safe, .int .u8 hold, .slice A n cp] w fun e w' => e = .returned (.bool true) ∧ Below w.heap.size w w' := by
  have hG : ∀ p ∈ mS, GlobAt w p := by
    rw [MakeChecks.laidMetH_plain _ _ _ (by kernel_rfl)] at hL
    exact glob_mS hL
  have hin := lstIn_of (cells := Deliv.cells) (C := 9) (by omega) (fun _ => rfl) (fun _ => rfl) Deliv.zero hA hsl hl
  have hf : ∀ i, (l.getD i Deliv.zero).Ok := getD_ok (by simp [Deliv.Ok, Deliv.zero, Said.zero, Said.Ok, Payload.Ok, Payload.zero]) hok
  refine lst_law (hENl0 ctsAa_ok) hG hin (ty := 57) (args := [.c (.v (.int .u32 safe)), .c (.v (.int .u8 hold)), .c (.sl 0 0 0 n none)]) (vs := [.int .u32 safe, .int .u8 hold, .slice A n cp]) (fun β h => by simp only [γt, γ1, γc] at h ⊢; rw [h]) ?_
  obtain ⟨p, lp, r, h1, h2⟩ := ar_run safe hold n (fun i => l.getD i Deliv.zero) g0 g1 hf
  exact ⟨p, lp, r, h1, h2⟩
set_option maxRecDepth 100000 in
theorem lifted (os : Os) (started : os.Started) (H : Type) (enc : TypeId × Value → H) (F : Stop.Interp) :
    ReturnsInHanded {} Tryd.checked os 7 .any ((OpenSpec.ofChange Rows.actuatorsRunSpec).preRow enc Tryd.prog Tryd.f7 Rows.actuatorsRunRow.domain false Rows.actuatorsRunRow.laid) (((OpenSpec.ofChange Rows.actuatorsRunSpec).at F).post enc Tryd.prog Tryd.f7 false true false false) := by
  refine card_lifted (C := Tryd.checked) (by kernel_rfl) started (by kernel_rfl) Tryd.func7 (by kernel_rfl) (by kernel_rfl) rfl Tryd.underlying4 rfl (fun ds h => by match ds, h with | [_, _, _], _ => rfl)
    (card_witness (enc := enc) (C := Tryd.checked) (World.doorLaid Tryd.prog 1000 os) #[.int .u32 0, .int .u8 0, .slice none 0 0] rfl (by kernel_rfl) (by kernel_rfl) (by kernel_rfl) (by kernel_rfl) (by kernel_rfl) (laidMetH_of_parts3 (fuel := 8) (laidMet_of_run' 8 (by kernel_rfl) (by kernel_rfl)) (by kernel_rfl) (by kernel_rfl))) ?_
  intro W base args ds p hval hA hL
  change DataW.TrodAll enc Tryd.prog W 0 (fun _ => true) true Tryd.f7.params.toList args.toList ds p at hA
  rw [Tryd.params7] at hA hval
  obtain ⟨v0, vs0, d0, ds0, p0, q0, hargs, rfl, rfl, h0, r0⟩ := trodAll_cons hA
  obtain ⟨v1, vs1, d1, ds1, p1, q1, rfl, rfl, rfl, h1, r1⟩ := trodAll_cons r0
  obtain ⟨v2, vs2, d2, ds2, p2, q2, rfl, rfl, rfl, h2, r2⟩ := trodAll_cons r1
  obtain ⟨rfl, rfl, rfl⟩ := trodAll_nil r2
  obtain rfl : args = #[v0, v1, v2] := by cases args; simp_all
  obtain ⟨a0, rfl, rfl, rfl, w0⟩ := open_int Tryd.underlying45 (hval 0 45 v0 rfl rfl) h0
  have b0 := bounds_u32 w0
  obtain ⟨a1, rfl, rfl, rfl, w1⟩ := open_int Tryd.underlying5 (hval 1 5 v1 rfl rfl) h1
  have b1 := bounds_u8 w1
  obtain ⟨A2, n2, c2, l2, rfl, hl2, hm2, pl2, hs2, ll2, ol2⟩ := open_slflat (m := 9) Tryd.underlying72 Deliv.cells Deliv.Ok Deliv.len (by kernel_rfl) (by kernel_rfl) (fun _ h => Deliv.of_flat h) (by omega) (hval 2 72 v2 rfl rfl) h2
  exact walk a0 a1 A2 n2 c2 l2 W b0.1 b0.2 b1.1 b1.2 hl2 hm2 pl2 hs2 ll2 ol2 hL

theorem said : Rows.ActuatorsRunSaid :=
  OpenClaim.holds_of_cond 7 Tryd.f7 rfl rfl rfl rfl rfl rfl rfl ⟨rfl, rfl, rfl, rfl, rfl⟩ rfl rfl rfl rfl rfl (by kernel_rfl) Tryd.func7 (by kernel_rfl)
    (of_decide_eq_true (by kernel_rfl)) (by unfold Func.isWrapper; first | (rw [if_pos (by decide +kernel)]; kernel_rfl) | (rw [if_neg (by decide +kernel)]; exact ⟨rfl, rfl⟩))
    (fun os started H enc _ F => by rw [OpenClaim.pre_eq_preRow]; exact lifted os started H enc F)
theorem plain (f : FuncId) (fn : Func) (hf : Tryd.pinned.checked.prog.funcNamed Rows.actuatorsRunRow.func = some f) (hfn : Tryd.pinned.checked.prog.funcs[f]? = some fn) :
    false = Tryd.pinned.checked.prog.looks [] ∧ ∀ (j : Nat) t, fn.params[j]? = some t → Tryd.pinned.checked.prog.wantsStandIn t = false := by
  obtain rfl : f = 7 := Option.some.inj ((show Tryd.prog.funcNamed Rows.actuatorsRunRow.func = some 7 by kernel_rfl).symm.trans hf) |>.symm
  obtain rfl : fn = Tryd.f7 := (Option.some.inj (Tryd.func7.symm.trans hfn)).symm
  refine ⟨by kernel_rfl, fun j t ht => ?_⟩
  have hm : t ∈ Tryd.f7.params.toList := by rw [← Array.getElem?_toList] at ht; exact List.mem_of_getElem? ht
  have hall : (Tryd.f7.params.toList.all fun u => !Tryd.prog.wantsStandIn u) = true := by kernel_rfl
  exact (show Tryd.prog.wantsStandIn t = false by simpa using List.all_eq_true.1 hall t hm)
theorem proved : Rows.ActuatorsRunCardSaid :=
  Claim7.holds_tied_plain_at .later [] _ _ _ _ said (fun _ h => by cases h) (by kernel_rfl) (fun _ h => by cases h) actuatorsRun_row_tie rfl ⟨rfl, rfl⟩ (by kernel_rfl) rfl plain (by kernel_rfl)
#print axioms proved
end Go.Proofs.YtgfmjbfjodidpaaDoor.actuatorsRun
end
