/- Parts, one behind the other. members.Base of an empty vector: its contract, by the kit's walk. -/
import Derived.Test.YtgdoojlfbebaaaaDoorJMembersAgree14
import Derived.Test.YtgdoojlfbebaaaaDoorJMembersAgree15
import Derived.Test.YtgdoojlfbebaaaaDoorJMembersAgree16
import Derived.Laws.IdiomRangeMap
import Derived.Test.YtgdoojlfbebaaaaDoorJMembersAgree10
import Derived.Test.YtgdoojlfbebaaaaDoorJMembersAgree18
set_option linter.unusedSimpArgs false
set_option linter.unusedVariables false
/- members.Base of an empty vector: its contract, by the kit's walk. -/
section
namespace Go.Proofs.YtgdoojlfbebaaaaDoor
open Go.RowKit Go.MapKept
theorem calls_ct {P : Program} {f : FuncId} {g : CtF} (h : CtOk P f g) {args : List AV} {mem : AMem} {r : AV} {ob : List Bool} (hct : g args mem 1000 = some (r, [], 0, ob)) (ho : allT ob) {w : World} {β : Nm} {vs : List Value} (hr : Rel (loneC w) β mem w) (hv : γt β args = some vs) (hp : plainR r = true) {v : Value} (hrv : γ β r = some v) :
 Calls P f vs.toArray w fun e w' => e = .returned v ∧ Below w.heap.size w w' := by
 refine (h.2 (loneC w) β mem mem w args 1000 r [] 0 ob vs hct ho (Sub.refl _) hr (fun id h1 h2 => by omega) (by unfold lim; omega) hv).mono ?_
 rintro e w' ⟨β', u, rfl, _, _, hu, hr'⟩
 have := plainR_γ hp β' β u hu
 rw [hrv] at this
 cases this
 exact ⟨rfl, below_lone hr'⟩
theorem lone_at {w w1 : World} {β : Nm} {mem : AMem} (hr : Rel (loneC w) β mem w) (hb : Below w.heap.size w w1) (hm : roM mem = mem) : Rel (loneC w1) β mem w1 := by
 have h := (hr.below hb).ro (Sub.refl mem)
 rwa [hm] at h
theorem net_rom (c : Cfg) (nq : Nat) (fq : Nat → Int) : roM (mS ++ netL c nq fq) = mS ++ netL c nq fq := rfl
theorem γt_two {β : Nm} {x : AV} {r : List AV} {vs : List Value} (h : γt β (x :: r) = some vs) : ∃ v us, vs = v :: us ∧ γ1 β x = some v ∧ γt β r = some us := by
 simp only [γt] at h
 split at h
 · rename_i v us h1 h2
   cases h
   exact ⟨v, us, rfl, h1, h2⟩
 · cases h
end Go.Proofs.YtgdoojlfbebaaaaDoor
end
/- members.Base by the kit's walk: calls of what it calls. -/
section
namespace Go.Proofs.YtgdoojlfbebaaaaDoor
open Go.RowKit Go.MapKept
theorem calls_rd {S : Type} {P : Program} {f : FuncId} {rd : Rd S} {R : S → AV} {pre : S → Bool} (h : CtOk P f (ctRd rd R pre)) {args : List AV} {mem : AMem} {s : S} {b : Bool} (hd : rd.dec args mem = some (s, b)) (hb : b = true) (hp : pre s = true) {w : World} {β : Nm} {vs : List Value} (hr : Rel (loneC w) β mem w) (hv : γt β args = some vs) (hpl : plainR (R s) = true) {v : Value} (hrv : γ β (R s) = some v) :
 Calls P f vs.toArray w fun e w' => e = .returned v ∧ Below w.heap.size w w' :=
 calls_ct h (args := args) (mem := mem) (r := R s) (ob := [b, pre s]) (by unfold ctRd; rw [hd]) (by simp [allT, hb, hp]) hr hv hpl hrv
theorem calls_may (c : Cfg) (nq : Nat) (fq : Nat → Int) (x : View) {w : World} {β : Nm} {a : Addr} (hr : Rel (loneC w) β (mS ++ netL c nq fq) w) (ha : γ1 β (.c (.ptr 5 0 0)) = some (.pointer (some a))) :
 Calls Tryd.prog 22 #[.pointer (some a), .agg x.cells.toArray] w fun e w' => e = .returned (.bool (mayB c nq fq (x.cells.map .v))) ∧ Below w.heap.size w w' := by
 have e : vwL (vwI x) = x.cells.map .v := by show (vwI x).cells.map AC.v = _; rw [vwI_cells]
 rw [← e]
 exact calls_rd ct_may (args := [.c (.ptr 5 0 0), .agg (vwL (vwI x))]) (mem := mS ++ netL c nq fq) (s := ⟨c, nq, fq, [.agg (vwL (vwI x))]⟩) (b := netK c nq fq) (by kernel_rfl) (netK_t c nq fq) (by kernel_rfl) hr (vs := [.pointer (some a), .agg x.cells.toArray]) (by have ha' : γc β (.ptr 5 0 0) = some (.pointer (some a)) := ha; simp only [γt, γ1, ha', vwL, γs_vs, vwI_cells]) rfl rfl
theorem calls_less (x y : View) {w : World} {β : Nm} {mem : AMem} (hr : Rel (loneC w) β mem w) :
 Calls Tryd.prog 47 #[.agg x.cells.toArray, .agg y.cells.toArray] w fun e w' => e = .returned (.bool (lessL (x.cells.map .v) (y.cells.map .v))) ∧ Below w.heap.size w w' := by
 have e : ∀ x : View, vwL (vwI x) = x.cells.map .v := fun x => by show (vwI x).cells.map AC.v = _; rw [vwI_cells]
 rw [← e x, ← e y]
 exact calls_rd ct_less (args := [.agg (vwL (vwI x)), .agg (vwL (vwI y))]) (mem := mem) (s := [.agg (vwL (vwI x)), .agg (vwL (vwI y))]) (b := true) (by rfl) rfl (by kernel_rfl) hr (vs := [.agg x.cells.toArray, .agg y.cells.toArray]) (by simp only [γt, γ1, vwL, γs_vs, vwI_cells]) rfl rfl
def fstX (c : Cfg) (nq : Nat) (fq : Nat → Int) : View := ⟨#v[hasB c nq fq 0, hasB c nq fq 1, hasB c nq fq 2, hasB c nq fq 3, hasB c nq fq 4, hasB c nq fq 5, hasB c nq fq 6, hasB c nq fq 7], Vector.replicate 8 0, Vector.replicate 8 0, Vector.replicate 8 0, Vector.replicate 8 false, 0, 0⟩
theorem fstX_cells (c : Cfg) (nq : Nat) (fq : Nat → Int) : (fstX c nq fq).cells = (fstV c nq fq).cells := rfl
theorem vat_rep {k : Nat} : vat (0 : Int) (Vector.replicate 8 0) k = 0 := by by_cases h : k < 8 <;> simp [vat, h]
theorem fstX_ok (c : Cfg) (nq : Nat) (fq : Nat → Int) : (fstX c nq fq).Ok := by
 refine ⟨fun k _ => ?_, fun k _ => ?_, fun k _ => ?_, (by show (-128 : Int) ≤ 0 ∧ (0 : Int) ≤ 127; decide), (by show (0 : Int) ≤ 0 ∧ (0 : Int) ≤ 255; decide)⟩
 all_goals (simp only [fstX, vat_rep]; decide)
set_option maxRecDepth 1000000 in
theorem calls_given (c : Cfg) (nq : Nat) (fq : Nat → Int) (hp : gvPre c nq = true) {w : World} {β : Nm} {a : Addr} (hr : Rel (loneC w) β (mS ++ netL c nq fq) w) (ha : γ1 β (.c (.ptr 5 0 0)) = some (.pointer (some a))) (hl : ∀ id, 1000 ≤ id → id < lim → β id = none) :
 Calls Tryd.prog 38 #[.pointer (some a)] w fun e w' => (∃ u1 u2 u3 u4 u5 u6 u7 u8, e = .returned (.agg #[.int .i64 c.nodes, u1, u2, u3, u4, u5, u6, u7, u8])) ∧ Below w.heap.size w w' := by
 have hrun : ∃ p r, gvR Tryd.prog c nq fq p = some r ∧ (∃ x1 x2 x3 x4 x5 x6 x7 x8, r.1 = .agg [.v (.int .i64 c.nodes), x1, x2, x3, x4, x5, x6, x7, x8]) ∧ r.2.2.1 ≤ lim ∧ allT r.2.2.2.1 ∧ ∀ q ∈ r.2.2.2.2, q := by
  refine gvT c nq fq _ ?_
  simp only [gvPre, Bool.and_eq_true, decide_eq_true_eq] at hp
  (repeat' (first | refine ⟨fun h => ?_, fun h => ?_⟩ | fail))
  all_goals (first | (exfalso; simp_all; omega) | skip)
  all_goals (refine ⟨⟨_, _, _, _, _, _, _, _, rfl⟩, (by first | (unfold lim; omega) | (dsimp only; unfold lim; omega)), ?_, by simp⟩)
  all_goals first
   | (simp_all [allT, cfgK_t, netK_t, intsOk_ints, stsOk_sts, intsOk_s, stsOk_s, slC, slRow, stsOk, isSt, inb_arr, elt]; done)
   | (simp_all [allT, cfgK_t, netK_t, intsOk_ints, stsOk_sts, intsOk_s, stsOk_s, slC, slRow, stsOk, isSt, inb_arr, elt]; omega)
 obtain ⟨p, r, h1, ⟨x1, x2, x3, x4, x5, x6, x7, x8, h2⟩, h3, h4, h5⟩ := hrun
 obtain ⟨s', r1, r2, r3, r4⟩ := viewF_out h1
 refine (calls_f hEGv r1 ⟨by rw [r3]; exact h4, by rw [r4]; exact h5⟩ (C := loneC w) (β := β) (w := w) (vs := [.pointer (some a)]) (by simp only [γt, ha]) hr (fun id h1 h2 => hl id h1 (Nat.lt_of_lt_of_le h2 h3))).mono ?_
 rintro e w' ⟨β', v, rfl, _, _, hv, hr'⟩
 refine ⟨?_, below_lone hr'⟩
 rw [h2] at hv
 simp only [γ, γ1] at hv
 split at hv
 · rename_i us hus
   cases hv
   obtain ⟨hlen, hget⟩ := γs_iff.1 hus
   match us, hlen, hget with
   | [u0, u1, u2, u3, u4, u5, u6, u7, u8], _, hget =>
    obtain ⟨u, e1, e2⟩ := hget 0 _ rfl
    cases e1
    simp only [γc, Option.some.injEq] at e2
    subst e2
    exact ⟨u1, u2, u3, u4, u5, u6, u7, u8, rfl⟩
 · cases hv
end Go.Proofs.YtgdoojlfbebaaaaDoor
end
