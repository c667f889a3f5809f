/- ModelsCrew: for any config, any view and any list of runs the law returns true (its tied card). No further condition. -/
import Derived.Test.YtljeokninakliaaGreatDoorTie
import Derived.Test.YtljeokninakliaaGreatDoorCards
import Derived.Test.YtljeokninakliaaGreatDoorJModelsCrew31
import Derived.Test.YtljeokninakliaaGreatDoorJModelsCrew2
import Derived.Test.YtljeokninakliaaGreatDoorJModelsCrew19
import Derived.Test.YtljeokninakliaaGreatDoorJModelsCrew17
import Derived.Test.YtljeokninakliaaGreatDoorJModelsCrew32
import Derived.Test.YtljeokninakliaaGreatDoorJModelsCrew34
import Derived.LaidMore
import Derived.LaidHandle
set_option linter.unusedSimpArgs false
set_option linter.unusedVariables false
set_option maxRecDepth 1000000
section
namespace Go.Proofs.YtljeokninakliaaGreatDoor.modelsCrew
open Go.RowKit Go.WideShapes Go.ChangeShapes Go.ChangeAt

def Pz (x : RunL) : RunV := ⟨x.s, Rc x.h⟩
theorem jjj8 (x : RunL) : (Pz x).s.cells ++ Ts (Pz x).h = x.cells := by
  show x.s.cells ++ Ts (Rc x.h) = _
  rw [Ly]; rfl
theorem jjl9 : RunL.zero.Ok := by
  refine ⟨⟨⟨by decide, by decide⟩, ⟨by decide, by decide⟩, ⟨by decide, by decide⟩, ⟨by decide, by decide⟩, ⟨by decide, by decide⟩⟩, ⟨by decide, by decide⟩, ⟨⟨by decide, by decide⟩, ⟨by decide, by decide⟩, ⟨by decide, by decide⟩, ⟨by decide, by decide⟩, ⟨by decide, by decide⟩⟩, ⟨⟨by decide, by decide⟩, ⟨by decide, by decide⟩, ⟨by decide, by decide⟩, ⟨by decide, by decide⟩, ⟨by decide, by decide⟩⟩, ?_⟩
  refine ⟨fun k hk => ?_, fun k hk => ?_, fun k hk => ?_, ⟨by decide, by decide⟩, ⟨by decide, by decide⟩⟩
  all_goals (match k, hk with
    | 0, _ | 1, _ | 2, _ | 3, _ | 4, _ | 5, _ | 6, _ | 7, _ => exact ⟨by decide, by decide⟩)
theorem walk (c : Cfg) (cs : List Value) (x : View) (A : Option Addr) (n cp : Nat) (l : List RunL) (w : World) (hc : PD w c cs) (ho : c.Ok) (hx : x.Ok) (hnc : n <= cp) (hcp : cp <= maxLen) (hA : Ku w A n cp) (hsl : Sl w w.heap.size 62 A n (l.flatMap RunL.cells)) (hl : l.length = n) (hok : ∀ x ∈ l, x.Ok) (hL : laidMetH Tryz.prog Rows.modelsCrewRow.laid w) :
    Calls Tryz.prog 3 #[.agg cs.toArray, .agg x.cells.toArray, .slice A n cp] w fun e w' => e = .returned (.bool true) /\ Below w.heap.size w w' := by
  have hG : ∀ p ∈ SH, VS w p := by
    rw [MakeChecks.laidMetH_plain _ _ _ (by kernel_rfl)] at hL
    intro p hp
    rcases List.mem_cons.1 hp with rfl | hp
    . exact jja5 hL
    . rw [List.mem_singleton.1 hp]
      exact jja6 (jj9z hL)
  have hin := I8 (cells := RunL.cells) (C := 62) (by omega) RunL.len RunL.one RunL.zero hA hsl hl
  have hf : (fun i => RunL.cells (l.getD i RunL.zero)) = fun i => (Pz (l.getD i RunL.zero)).s.cells ++ Ts (Pz (l.getD i RunL.zero)).h := funext fun i => (jjj8 _).symm
  rw [hf] at hin
  have hr : ∀ β, γt β [.agg (ZX (T4 x))] = some [.agg x.cells.toArray] := fun β => by simp only [γt, γ1, ZX, V3, Qp]
  have hat : ∀ i, (l.getD i RunL.zero).Ok := fun i => by
    rw [List.getD_eq_getElem?_getD]
    cases e : l[i]? with
    | none => exact jjl9
    | some y => exact hok y (List.mem_of_getElem? e)
  by_cases h0 : Zu c = 0
  . have f := jjpv h0
    obtain ⟨p, lp, r, h1, h2⟩ : AX c (T4 x) n fun i => Pz (l.getD i RunL.zero) := by
      rcases Nat.lt_or_ge 60 n with hk | hk
      . exact mg_a c (T4 x) n _ hk
      . cases hy : QK c (T4 x) with
        | false => exact mg_b c (T4 x) n _ f hk hy
        | true => exact A0 c (T4 x) n _ f (F4 hx) ⟨hk, fun i => (hat i).1, fun i => JQ (hat i).2⟩ hy
    exact E3 (BU NA) hG hc (ty := 65) (n := n) hin (us := [.agg x.cells.toArray]) hr (Exists.intro p (Exists.intro lp (Exists.intro r (And.intro (by unfold JT at h1; exact h1) h2))))
  . obtain ⟨p, r, h1, h2⟩ := jjmq c (T4 x) n (fun i => Pz (l.getD i RunL.zero)) h0 ho.nb
    exact E3 (BV NA) hG hc (ty := 65) (n := n) hin (us := [.agg x.cells.toArray]) hr (Exists.intro p (Exists.intro _ (Exists.intro r (And.intro (by unfold NZ at h1; exact h1) h2))))
theorem lifted (os : Os) (started : os.Started) (H : Type) (enc : TypeId × Value -> H) (F : Stop.Interp) :
    ReturnsInHanded {} Tryz.checked os 3 .any ((OpenSpec.ofChange Rows.modelsCrewSpec).preRow enc Tryz.prog Tryz.f3 Rows.modelsCrewRow.domain false Rows.modelsCrewRow.laid) (((OpenSpec.ofChange Rows.modelsCrewSpec).at F).post enc Tryz.prog Tryz.f3 false true false false) := by
  refine jjcg (C := Tryz.checked) (by kernel_rfl) started (by kernel_rfl) Tryz.func3 (by kernel_rfl) (by kernel_rfl) rfl Tryz.underlying4 rfl (fun ds h => by match ds, h with | [_, _, _], _ => rfl)
    (jjak (enc := enc) (C := Tryz.checked) (World.doorLaid Tryz.prog 1000 os) #[.agg #[.int .i64 0, .slice none 0 0, .slice none 0 0, .int .i64 0, .slice none 0 0, .slice none 0 0, .int .i64 0, .int .i64 0, .int .i64 0], .agg View.zero.cells.toArray, .slice none 0 0] rfl (by kernel_rfl) (by kernel_rfl) (by kernel_rfl) (by kernel_rfl) (by kernel_rfl) (laidMetH_of_parts3 (fuel := 8) (laidMet_of_run' 8 (by kernel_rfl) (by kernel_rfl)) (by kernel_rfl) (by kernel_rfl))) ?_
  intro W base args ds p hval hA hL
  change DataW.TrodAll enc Tryz.prog W 0 (fun _ => true) true Tryz.f3.params.toList args.toList ds p at hA
  rw [Tryz.params3] at hA hval
  obtain ⟨v0, vs0, d0, ds0, p0, q0, hargs, rfl, rfl, h0, r0⟩ := trodAll_cons hA
  obtain ⟨v1, vs1, d1, ds1, p1, q1, rfl, rfl, rfl, h1, r1⟩ := trodAll_cons r0
  obtain ⟨v2, vs2, d2, ds2, p2, q2, rfl, rfl, rfl, h2, r2⟩ := trodAll_cons r1
  obtain ⟨rfl, rfl, rfl⟩ := trodAll_nil r2
  obtain rfl : args = #[v0, v1, v2] := by cases args; simp_all
  obtain ⟨c0, cs0, rfl, ic0, oc0⟩ := jjjv (hval 0 25 v0 rfl rfl) h0
  obtain ⟨cs1, fl1, rfl⟩ := jjju (m := 9) (ks := View.ks) (by kernel_rfl) (by kernel_rfl) (hval 1 32 v1 rfl rfl) h1
  obtain ⟨x1, ox1, rfl⟩ := View.of_flat fl1
  obtain ⟨A2, n2, c2, l2, rfl, hl2, hm2, pl2, hs2, ll2, ol2⟩ := Ho (m := 9) Tryz.underlying33 RunL.cells RunL.Ok RunL.len (by kernel_rfl) (by kernel_rfl) (fun _ h => RunL.of_flat h) (by omega) (hval 2 33 v2 rfl rfl) h2
  exact walk c0 cs0 x1 A2 n2 c2 l2 W ic0 oc0 ox1 hl2 hm2 pl2 hs2 ll2 ol2 hL

theorem said : Rows.ModelsCrewSaid :=
  OpenClaim.holds_of_cond 3 Tryz.f3 rfl rfl rfl rfl rfl rfl rfl ⟨rfl, rfl, rfl, rfl, rfl⟩ rfl rfl rfl rfl rfl (by kernel_rfl) Tryz.func3 (by kernel_rfl)
    (of_decide_eq_true (by kernel_rfl)) (by unfold Func.isWrapper; first | (rw [if_pos (by decide +kernel)]; kernel_rfl) | (rw [if_neg (by decide +kernel)]; exact ⟨rfl, rfl⟩))
    (fun os started H enc _ F => by rw [OpenClaim.pre_eq_preRow]; exact lifted os started H enc F)
theorem plain (f : FuncId) (fn : Func) (hf : Tryz.pinned.checked.prog.funcNamed Rows.modelsCrewRow.func = some f) (hfn : Tryz.pinned.checked.prog.funcs[f]? = some fn) :
    false = Tryz.pinned.checked.prog.looks [] /\ ∀ (j : Nat) t, fn.params[j]? = some t -> Tryz.pinned.checked.prog.wantsStandIn t = false := by
  obtain rfl : f = 3 := Option.some.inj ((show Tryz.prog.funcNamed Rows.modelsCrewRow.func = some 3 by kernel_rfl).symm.trans hf) |>.symm
  obtain rfl : fn = Tryz.f3 := (Option.some.inj (Tryz.func3.symm.trans hfn)).symm
  refine ⟨by kernel_rfl, fun j t ht => ?_⟩
  have hm : t ∈ Tryz.f3.params.toList := by rw [<- Array.getElem?_toList] at ht; exact List.mem_of_getElem? ht
  have hall : (Tryz.f3.params.toList.all fun u => !Tryz.prog.wantsStandIn u) = true := by kernel_rfl
  exact (show Tryz.prog.wantsStandIn t = false by simpa using List.all_eq_true.1 hall t hm)
theorem proved : Rows.ModelsCrewCardSaid :=
  Claim7.holds_tied_plain_at .later [] _ _ _ _ said (fun _ h => by cases h) (by kernel_rfl) (fun _ h => by cases h) modelsCrew_row_tie rfl ⟨rfl, rfl⟩ (by kernel_rfl) rfl plain (by kernel_rfl)
#print axioms proved
end Go.Proofs.YtljeokninakliaaGreatDoor.modelsCrew
end
