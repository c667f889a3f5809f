/- HostsLast: for any list of entries, any round and any two bytes the law returns true (its tied card). No further condition. -/
import Derived.Test.YthekiiagacnhkaaDoorTie
import Derived.Test.YthekiiagacnhkaaDoorCards
import Derived.Test.YthekiiagacnhkaaDoorJHostsLast10
import Derived.Test.YthekiiagacnhkaaDoorJHostsLast11
import Derived.Test.YthekiiagacnhkaaDoorJHostsLast12
import Derived.Test.YthekiiagacnhkaaDoorJHostsLast13
import Derived.LaidMore
import Derived.LaidHandle
set_option linter.unusedSimpArgs false
set_option linter.unusedVariables false
section
namespace Go.Proofs.YthekiiagacnhkaaDoor.hostsLast
open Go.RowKit Go.WideShapes Go.ChangeShapes Go.ChangeAt

structure U2 where
  a : Int
  b : Int
def U2.cells (x : U2) : List Value := [.int .u8 x.a, .int .u8 x.b]
def U2.zero : U2 := ⟨0, 0⟩
theorem U2.len (x : U2) : x.cells.length = 2 := rfl
def U2.ks : List (Option IntKind) := (some .u8 :: (some .u8 :: []))
def U2.Ok (x : U2) : Prop := (0 ≤ x.a ∧ x.a ≤ 255) ∧ (0 ≤ x.b ∧ x.b ≤ 255)
theorem U2.of_flat {cs : List Value} (h0 : Flat U2.ks cs) : ∃ x : U2, x.Ok ∧ cs = x.cells := by
  obtain ⟨c0, r0, rfl, ⟨v0, rfl, w0⟩, h1⟩ := h0.uncons
  obtain ⟨c1, r1, rfl, ⟨v1, rfl, w1⟩, h2⟩ := h1.uncons
  obtain rfl := h2.unnil
  exact ⟨⟨v0, v1⟩, ⟨bounds_u8 w0, bounds_u8 w1⟩, by simp [U2.cells]⟩
theorem entB_of {e : Entry} (h : e.Ok) : entB e = true := by
  unfold entB
  rw [Bool.and_eq_true, decide_eq_true_eq, decide_eq_true_eq]
  exact ⟨h.1, h.2.1⟩
theorem get_ok {S : Type} {l : List S} {d : S} {ok : S → Prop} (hd : ok d) (h : ∀ x ∈ l, ok x) (i : Nat) : ok (l.getD i d) := by
  simp only [List.getD]
  cases e : l[i]? with
  | none => exact hd
  | some x => exact h x (List.mem_of_getElem? e)
theorem walk (A : Option Addr) (n cp : Nat) (l : List Entry) (z : Int) (x : U2) (w : World) (hnc : n ≤ cp) (hcp : cp ≤ maxLen) (hA : SlAt w A n cp) (hsl : Sl w w.heap.size 6 A n (l.flatMap Entry.cells)) (hl : l.length = n) (hok : ∀ x ∈ l, x.Ok) (z0 : 0 ≤ z) (z1 : z ≤ 4294967295) (hx : x.Ok) (hL : laidMetH Tryd.prog Rows.hostsLastRow.laid w) :
    Calls Tryd.prog 9 #[.slice A n cp, .int .u32 z, .agg x.cells.toArray] w fun e w' => e = .returned (.bool true) ∧ Below w.heap.size w w' := by
  have hG : ∀ p ∈ mS, GlobAt w p := by
    rw [MakeChecks.laidMetH_plain _ _ _ (by kernel_rfl)] at hL
    exact glob_mS hL
  have hin := lstIn_of (cells := Entry.cells) (C := 6) (by omega) (fun _ => rfl) (fun _ => rfl) Entry.zero hA hsl hl
  have hf : ∀ i, (l.getD i Entry.zero).Ok := get_ok (by simp [Entry.Ok, Entry.zero, Payload.Ok, Payload.zero]) hok
  refine lst_law hEOg hG hin (ty := 59) (args := [.c (.sl 0 0 0 n none), .c (.v (.int .u32 z)), .agg [.v (.int .u8 x.a), .v (.int .u8 x.b)]]) (vs := [.slice A n cp, .int .u32 z, .agg x.cells.toArray]) (fun β h => by simp only [γt, γ1, γc, γs] at h ⊢; rw [h]; rfl) ?_
  obtain ⟨p, lp, r, h1, h2⟩ := ol_run n (fun i => l.getD i Entry.zero) z x.a x.b (fun i => entB_of (hf i)) z0 z1 hx.1.1 hx.1.2 hx.2.1 hx.2.2
  exact ⟨p, lp, r, h1, h2⟩
set_option maxRecDepth 100000 in
theorem lifted (os : Os) (started : os.Started) (H : Type) (enc : TypeId × Value → H) (F : Stop.Interp) :
    ReturnsInHanded {} Tryd.checked os 9 .any ((OpenSpec.ofChange Rows.hostsLastSpec).preRow enc Tryd.prog Tryd.f9 Rows.hostsLastRow.domain false Rows.hostsLastRow.laid) (((OpenSpec.ofChange Rows.hostsLastSpec).at F).post enc Tryd.prog Tryd.f9 false true false false) := by
  refine card_lifted (C := Tryd.checked) (by kernel_rfl) started (by kernel_rfl) Tryd.func9 (by kernel_rfl) (by kernel_rfl) rfl Tryd.underlying4 rfl (fun ds h => by match ds, h with | [_, _, _], _ => rfl)
    (card_witness (enc := enc) (C := Tryd.checked) (World.doorLaid Tryd.prog 1000 os) #[.slice none 0 0, .int .u32 0, .agg U2.zero.cells.toArray] rfl (by kernel_rfl) (by kernel_rfl) (by kernel_rfl) (by kernel_rfl) (by kernel_rfl) (laidMetH_of_parts3 (fuel := 8) (laidMet_of_run' 8 (by kernel_rfl) (by kernel_rfl)) (by kernel_rfl) (by kernel_rfl))) ?_
  intro W base args ds p hval hA hL
  change DataW.TrodAll enc Tryd.prog W 0 (fun _ => true) true Tryd.f9.params.toList args.toList ds p at hA
  rw [Tryd.params9] at hA hval
  obtain ⟨v0, vs0, d0, ds0, p0, q0, hargs, rfl, rfl, h0, r0⟩ := trodAll_cons hA
  obtain ⟨v1, vs1, d1, ds1, p1, q1, rfl, rfl, rfl, h1, r1⟩ := trodAll_cons r0
  obtain ⟨v2, vs2, d2, ds2, p2, q2, rfl, rfl, rfl, h2, r2⟩ := trodAll_cons r1
  obtain ⟨rfl, rfl, rfl⟩ := trodAll_nil r2
  obtain rfl : args = #[v0, v1, v2] := by cases args; simp_all
  obtain ⟨A0, n0, c0, l0, rfl, hl0, hm0, pl0, hs0, ll0, ol0⟩ := open_slflat (m := 9) Tryd.underlying53 Entry.cells Entry.Ok Entry.len (by kernel_rfl) (by kernel_rfl) (fun _ h => Entry.of_flat h) (by omega) (hval 0 53 v0 rfl rfl) h0
  obtain ⟨a1, rfl, rfl, rfl, w1⟩ := open_int Tryd.underlying37 (hval 1 37 v1 rfl rfl) h1
  have b1 := bounds_u32 w1
  obtain ⟨cs2, fl2, rfl⟩ := open_raw (m := 9) (ks := U2.ks) (by kernel_rfl) (by kernel_rfl) (hval 2 79 v2 rfl rfl) h2
  obtain ⟨x2, ox2, rfl⟩ := U2.of_flat fl2
  exact walk A0 n0 c0 l0 a1 x2 W hl0 hm0 pl0 hs0 ll0 ol0 b1.1 b1.2 ox2 hL

theorem said : Rows.HostsLastSaid :=
  OpenClaim.holds_of_cond 9 Tryd.f9 rfl rfl rfl rfl rfl rfl rfl ⟨rfl, rfl, rfl, rfl, rfl⟩ rfl rfl rfl rfl rfl (by kernel_rfl) Tryd.func9 (by kernel_rfl)
    (of_decide_eq_true (by kernel_rfl)) (by unfold Func.isWrapper; first | (rw [if_pos (by decide +kernel)]; kernel_rfl) | (rw [if_neg (by decide +kernel)]; exact ⟨rfl, rfl⟩))
    (fun os started H enc _ F => by rw [OpenClaim.pre_eq_preRow]; exact lifted os started H enc F)
theorem plain (f : FuncId) (fn : Func) (hf : Tryd.pinned.checked.prog.funcNamed Rows.hostsLastRow.func = some f) (hfn : Tryd.pinned.checked.prog.funcs[f]? = some fn) :
    false = Tryd.pinned.checked.prog.looks [] ∧ ∀ (j : Nat) t, fn.params[j]? = some t → Tryd.pinned.checked.prog.wantsStandIn t = false := by
  obtain rfl : f = 9 := Option.some.inj ((show Tryd.prog.funcNamed Rows.hostsLastRow.func = some 9 by kernel_rfl).symm.trans hf) |>.symm
  obtain rfl : fn = Tryd.f9 := (Option.some.inj (Tryd.func9.symm.trans hfn)).symm
  refine ⟨by kernel_rfl, fun j t ht => ?_⟩
  have hm : t ∈ Tryd.f9.params.toList := by rw [← Array.getElem?_toList] at ht; exact List.mem_of_getElem? ht
  have hall : (Tryd.f9.params.toList.all fun u => !Tryd.prog.wantsStandIn u) = true := by kernel_rfl
  exact (show Tryd.prog.wantsStandIn t = false by simpa using List.all_eq_true.1 hall t hm)
theorem proved : Rows.HostsLastCardSaid :=
  Claim7.holds_tied_plain_at .later [] _ _ _ _ said (fun _ h => by cases h) (by kernel_rfl) (fun _ h => by cases h) hostsLast_row_tie rfl ⟨rfl, rfl⟩ (by kernel_rfl) rfl plain (by kernel_rfl)
#print axioms proved
end Go.Proofs.YthekiiagacnhkaaDoor.hostsLast
end
