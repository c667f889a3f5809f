/- HostsOffer: for any list of entries and any round the law returns true (its tied card). No further condition. -/
import Derived.Test.YthekiiagacnhkaaDoorTie
import Derived.Test.YthekiiagacnhkaaDoorCards
import Derived.Test.YthekiiagacnhkaaDoorJHostsOffer10
import Derived.Test.YthekiiagacnhkaaDoorJHostsOffer11
import Derived.Test.YthekiiagacnhkaaDoorJHostsOffer12
import Derived.Test.YthekiiagacnhkaaDoorJHostsOffer13
import Derived.LaidMore
import Derived.LaidHandle
set_option linter.unusedSimpArgs false
set_option linter.unusedVariables false
section
namespace Go.Proofs.YthekiiagacnhkaaDoor.hostsOffer
open Go.RowKit Go.WideShapes Go.ChangeShapes Go.ChangeAt

theorem entB_of {e : Entry} (h : e.Ok) : entB e = true := by
  unfold entB
  rw [Bool.and_eq_true, decide_eq_true_eq, decide_eq_true_eq]
  exact ⟨h.1, h.2.1⟩
theorem get_ok {S : Type} {l : List S} {d : S} {ok : S → Prop} (hd : ok d) (h : ∀ x ∈ l, ok x) (i : Nat) : ok (l.getD i d) := by
  simp only [List.getD]
  cases e : l[i]? with
  | none => exact hd
  | some x => exact h x (List.mem_of_getElem? e)
theorem walk (A : Option Addr) (n cp : Nat) (l : List Entry) (z : Int) (w : World) (hnc : n ≤ cp) (hcp : cp ≤ maxLen) (hA : SlAt w A n cp) (hsl : Sl w w.heap.size 6 A n (l.flatMap Entry.cells)) (hl : l.length = n) (hok : ∀ x ∈ l, x.Ok) (_ : -9223372036854775808 ≤ z) (_ : z ≤ 9223372036854775807) (hL : laidMetH Tryd.prog Rows.hostsOfferRow.laid w) :
    Calls Tryd.prog 7 #[.slice A n cp, .int .i64 z] w fun e w' => e = .returned (.bool true) ∧ Below w.heap.size w w' := by
  have hG : ∀ p ∈ mS, GlobAt w p := by
    rw [MakeChecks.laidMetH_plain _ _ _ (by kernel_rfl)] at hL
    exact glob_mS hL
  have hin := lstIn_of (cells := Entry.cells) (C := 6) (by omega) (fun _ => rfl) (fun _ => rfl) Entry.zero hA hsl hl
  have hf : ∀ i, (l.getD i Entry.zero).Ok := get_ok (by simp [Entry.Ok, Entry.zero, Payload.Ok, Payload.zero]) hok
  refine lst_law hEOg hG hin (ty := 59) (args := [.c (.sl 0 0 0 n none), i64 z]) (vs := [.slice A n cp, .int .i64 z]) (fun β h => by simp only [γt, γ1, γc, i64] at h ⊢; rw [h]) ?_
  obtain ⟨p, lp, r, h1, h2⟩ := og_run n (fun i => l.getD i Entry.zero) z fun i => entB_of (hf i)
  exact ⟨p, lp, r, h1, h2⟩
set_option maxRecDepth 100000 in
theorem lifted (os : Os) (started : os.Started) (H : Type) (enc : TypeId × Value → H) (F : Stop.Interp) :
    ReturnsInHanded {} Tryd.checked os 7 .any ((OpenSpec.ofChange Rows.hostsOfferSpec).preRow enc Tryd.prog Tryd.f7 Rows.hostsOfferRow.domain false Rows.hostsOfferRow.laid) (((OpenSpec.ofChange Rows.hostsOfferSpec).at F).post enc Tryd.prog Tryd.f7 false true false false) := by
  refine card_lifted (C := Tryd.checked) (by kernel_rfl) started (by kernel_rfl) Tryd.func7 (by kernel_rfl) (by kernel_rfl) rfl Tryd.underlying4 rfl (fun ds h => by match ds, h with | [_, _], _ => rfl)
    (card_witness (enc := enc) (C := Tryd.checked) (World.doorLaid Tryd.prog 1000 os) #[.slice none 0 0, .int .i64 0] rfl (by kernel_rfl) (by kernel_rfl) (by kernel_rfl) (by kernel_rfl) (by kernel_rfl) (laidMetH_of_parts3 (fuel := 8) (laidMet_of_run' 8 (by kernel_rfl) (by kernel_rfl)) (by kernel_rfl) (by kernel_rfl))) ?_
  intro W base args ds p hval hA hL
  change DataW.TrodAll enc Tryd.prog W 0 (fun _ => true) true Tryd.f7.params.toList args.toList ds p at hA
  rw [Tryd.params7] at hA hval
  obtain ⟨v0, vs0, d0, ds0, p0, q0, hargs, rfl, rfl, h0, r0⟩ := trodAll_cons hA
  obtain ⟨v1, vs1, d1, ds1, p1, q1, rfl, rfl, rfl, h1, r1⟩ := trodAll_cons r0
  obtain ⟨rfl, rfl, rfl⟩ := trodAll_nil r1
  obtain rfl : args = #[v0, v1] := by cases args; simp_all
  obtain ⟨A0, n0, c0, l0, rfl, hl0, hm0, pl0, hs0, ll0, ol0⟩ := open_slflat (m := 9) Tryd.underlying53 Entry.cells Entry.Ok Entry.len (by kernel_rfl) (by kernel_rfl) (fun _ h => Entry.of_flat h) (by omega) (hval 0 53 v0 rfl rfl) h0
  obtain ⟨a1, rfl, rfl, rfl, w1⟩ := open_int Tryd.underlying2 (hval 1 2 v1 rfl rfl) h1
  have b1 := bounds_i64 w1
  exact walk A0 n0 c0 l0 a1 W hl0 hm0 pl0 hs0 ll0 ol0 b1.1 b1.2 hL

theorem said : Rows.HostsOfferSaid :=
  OpenClaim.holds_of_cond 7 Tryd.f7 rfl rfl rfl rfl rfl rfl rfl ⟨rfl, rfl, rfl, rfl, rfl⟩ rfl rfl rfl rfl rfl (by kernel_rfl) Tryd.func7 (by kernel_rfl)
    (of_decide_eq_true (by kernel_rfl)) (by unfold Func.isWrapper; first | (rw [if_pos (by decide +kernel)]; kernel_rfl) | (rw [if_neg (by decide +kernel)]; exact ⟨rfl, rfl⟩))
    (fun os started H enc _ F => by rw [OpenClaim.pre_eq_preRow]; exact lifted os started H enc F)
theorem plain (f : FuncId) (fn : Func) (hf : Tryd.pinned.checked.prog.funcNamed Rows.hostsOfferRow.func = some f) (hfn : Tryd.pinned.checked.prog.funcs[f]? = some fn) :
    false = Tryd.pinned.checked.prog.looks [] ∧ ∀ (j : Nat) t, fn.params[j]? = some t → Tryd.pinned.checked.prog.wantsStandIn t = false := by
  obtain rfl : f = 7 := Option.some.inj ((show Tryd.prog.funcNamed Rows.hostsOfferRow.func = some 7 by kernel_rfl).symm.trans hf) |>.symm
  obtain rfl : fn = Tryd.f7 := (Option.some.inj (Tryd.func7.symm.trans hfn)).symm
  refine ⟨by kernel_rfl, fun j t ht => ?_⟩
  have hm : t ∈ Tryd.f7.params.toList := by rw [← Array.getElem?_toList] at ht; exact List.mem_of_getElem? ht
  have hall : (Tryd.f7.params.toList.all fun u => !Tryd.prog.wantsStandIn u) = true := by kernel_rfl
  exact (show Tryd.prog.wantsStandIn t = false by simpa using List.all_eq_true.1 hall t hm)
theorem proved : Rows.HostsOfferCardSaid :=
  Claim7.holds_tied_plain_at .later [] _ _ _ _ said (fun _ h => by cases h) (by kernel_rfl) (fun _ h => by cases h) hostsOffer_row_tie rfl ⟨rfl, rfl⟩ (by kernel_rfl) rfl plain (by kernel_rfl)
#print axioms proved
end Go.Proofs.YthekiiagacnhkaaDoor.hostsOffer
end
