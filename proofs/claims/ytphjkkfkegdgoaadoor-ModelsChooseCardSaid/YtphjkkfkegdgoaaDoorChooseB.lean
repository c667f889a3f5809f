/- Contracts: both Choose. -/
import Derived.Test.YtphjkkfkegdgoaaDoorChooseA
set_option linter.unusedSimpArgs false
set_option linter.unusedVariables false
namespace Go.Proofs.YtphjkkfkegdgoaaDoor
open Go.RowKit

def saA (l : List AC) (o : Nat) : Said := ⟨asB (l.getD o nov), asI (l.getD (o + 1) nov), ⟨asI (l.getD (o + 2) nov), asI (l.getD (o + 3) nov), asI (l.getD (o + 4) nov), asI (l.getD (o + 5) nov)⟩⟩
def isSa : List AC → Bool
  | [.v (.bool _), .v (.int .i64 _), .v (.int .u8 _), .v (.int .u8 _), .v (.int .u32 _), .v (.int .u32 _)] => true
  | _ => false
theorem isSa_cells : ∀ {l : List AC}, isSa l = true → l = (saA l 0).cells.map .v := by
  intro l h
  unfold isSa at h
  split at h
  · rfl
  · cases h
theorem isSa_mk (x : Said) : isSa (x.cells.map .v) = true := rfl
theorem saA_mk (x : Said) : saA (x.cells.map .v) 0 = x := rfl
def peq (x y : Said) : Bool := eqF [some IntKind.u8, some IntKind.u8, some IntKind.u32, some IntKind.u32] [AC.v (Value.int IntKind.u8 (Payload.kind (Said.p x))), AC.v (Value.int IntKind.u8 (Payload.st (Said.p x))), AC.v (Value.int IntKind.u32 (Payload.seq (Said.p x))), AC.v (Value.int IntKind.u32 (Payload.val (Said.p x)))] [AC.v (Value.int IntKind.u8 (Payload.kind (Said.p y))), AC.v (Value.int IntKind.u8 (Payload.st (Said.p y))), AC.v (Value.int IntKind.u32 (Payload.seq (Said.p y))), AC.v (Value.int IntKind.u32 (Payload.val (Said.p y)))]
def chooseF (x y : Said) (k : Int) (d : Bool) : Said :=
  if (k == -1 && x.is && y.is && peq x y || k == 1 && d && x.is) = true then ⟨true, 0, x.p⟩ else if (k == 0 && d && y.is) = true then ⟨true, 0, y.p⟩ else ⟨false, 0, ⟨0, 0, 0, 0⟩⟩
abbrev ChQ (x y : Said) (k : Int) (d : Bool) (r : VF) : Prop := r.1 = .agg ((chooseF x y k d).cells.map .v) ∧ r.2.1 = [] ∧ r.2.2.1 ≤ lim ∧ allT r.2.2.2.1 ∧ ∀ q ∈ r.2.2.2.2, q
theorem ch_all (x y : Said) (k : Int) (d : Bool) : ∃ p r, chR Tryd.prog 7 x y k d p = some r ∧ ChQ x y k d r := by
  refine ch x y k d _ ?_
  repeat' (first | refine ⟨fun h => ?_, fun h => ?_⟩ | fail)
  all_goals (refine ⟨?_, rfl, by dsimp only; unfold lim; omega, ?_, by simp⟩)
  all_goals (simp_all [chooseF, peq, allT, Said.cells])
theorem rc_all (x y : Said) (k : Int) (d : Bool) : ∃ p r, chR Tryd.prog 8 x y k d p = some r ∧ ChQ x y k d r := by
  refine rc x y k d _ ?_
  repeat' (first | refine ⟨fun h => ?_, fun h => ?_⟩ | fail)
  all_goals (refine ⟨?_, rfl, by dsimp only; unfold lim; omega, ?_, by simp⟩)
  all_goals (simp_all [chooseF, peq, allT, Said.cells])
theorem γt_cons {β : Nm} {x : AV} {r : List AV} {vs : List Value} (h : γt β (x :: r) = some vs) : ∃ v us, vs = v :: us ∧ γ1 β x = some v ∧ γt β r = some us := by
  simp only [γt] at h
  split at h
  · rename_i v us h1 h2
    cases h
    exact ⟨v, us, rfl, h1, h2⟩
  · cases h
def ctCh : CtF
  | [.agg s, .agg h, .c (.v (.int .i64 k)), .c (.v (.bool d))], _, _ => some (.agg ((chooseF (saA s 0) (saA h 0) k d).cells.map .v), [], 0, [isSa s, isSa h])
  | _, _, _ => none
theorem ctCh_of {f : FuncId} (hf : ∃ (fn : Func) (c : Code), Tryd.prog.funcs[f]? = some fn ∧ fn.body = some c)
    (h : ∀ (x y : Said) (k : Int) (d : Bool), ∃ p r, chR Tryd.prog f x y k d p = some r ∧ ChQ x y k d r) : CtOk Tryd.prog f ctCh := by
  refine ⟨hf, fun C β m m2 w args ib r news k' ob vs hct ho hs hr hfree hlim hv => ?_⟩
  unfold ctCh at hct
  split at hct
  · rename_i s hh k d
    simp only [Option.some.injEq, Prod.mk.injEq] at hct
    obtain ⟨rfl, rfl, rfl, rfl⟩ := hct
    simp only [allT, List.forall_mem_cons] at ho
    obtain ⟨o1, o2, _⟩ := ho
    obtain ⟨v1, u1, rfl, e1, ha1⟩ := γt_cons hv
    obtain ⟨v2, u2, rfl, e2, ha2⟩ := γt_cons ha1
    obtain ⟨v3, u3, rfl, e3, ha3⟩ := γt_cons ha2
    obtain ⟨v4, u4, rfl, e4, ha4⟩ := γt_cons ha3
    clear hv ha1 ha2 ha3
    rw [isSa_cells o1] at e1
    rw [isSa_cells o2] at e2
    simp only [γ1, γs_vs, Option.some.injEq] at e1 e2
    cases e3
    cases e4
    cases ha4
    subst e1
    subst e2
    obtain ⟨p, ⟨v, b', n, ob, po⟩, hrun, hv, hb', hn, hob, hpo⟩ := h (saA s 0) (saA hh 0) k d
    obtain ⟨s', r1, r2, r3, r4⟩ := viewF_out hrun
    refine (calls_f (envOk (fun _ _ h => by cases h) (by kernel_rfl) (by kernel_rfl)) r1 ⟨by rw [r3]; exact hob, by rw [r4]; exact hpo⟩ (C := loneC w) (β := fun _ => none) (w := w)
      (vs := [.agg (saA s 0).cells.toArray, .agg (saA hh 0).cells.toArray, .int .i64 k, .bool d]) ?_ (rel_nil w) (fun _ _ _ => rfl)).mono ?_
    · simp only [γt, γ1, γs_vs, i64, bo, γc]
    · rintro e w' ⟨β', u, rfl, _, _, hu, hr'⟩
      simp only at hv
      subst hv
      simp only [γ, γ1, γs_vs, Option.some.injEq] at hu
      subst hu
      exact ⟨β, _, rfl, Ext.refl _, fun _ _ => rfl, by simp only [γ, γ1, γs_vs], by rw [List.append_nil]; exact hr.below ⟨hr'.os, hr'.tape, hr'.output, hr'.size, fun b hb => hr'.out b hb fun h => h⟩⟩
  · cases hct
theorem lives28 (w : World) : Calls Tryd.prog 9 #[] w fun e w' => e = .returned (.bool true) ∧ Below w.heap.size w w' := by
  obtain ⟨s', r1, r2, r3, r4⟩ := viewF_out lv28_run
  refine (calls_f (envOk (fun _ _ h => by cases h) (by kernel_rfl) (by kernel_rfl)) r1 ⟨by rw [r3]; simp [allT], by rw [r4]; simp⟩ (C := loneC w) (β := fun _ => none) (w := w) (vs := []) rfl (rel_nil w) (fun _ _ _ => rfl)).mono ?_
  rintro e w' ⟨β', v, rfl, _, _, hv, hr⟩
  cases hv
  exact ⟨rfl, ⟨hr.os, hr.tape, hr.output, hr.size, fun b hb => hr.out b hb fun h => h⟩⟩
def EL28 (P : Program) : Env := ⟨P, [(9, ctT), (7, ctCh), (8, ctCh)]⟩
theorem hEL28 : EnvOk (EL28 Tryd.prog) := by
  refine envOk (fun f g h => ?_) (by kernel_rfl) (by kernel_rfl)
  simp only [List.mem_cons, Prod.mk.injEq, List.not_mem_nil, or_false] at h
  rcases h with ⟨rfl, rfl⟩ | ⟨rfl, rfl⟩ | ⟨rfl, rfl⟩
  · exact ctT_of ⟨_, _, Tryd.func9, rfl⟩ lives28
  · exact ctCh_of ⟨_, _, Tryd.func7, rfl⟩ ch_all
  · exact ctCh_of ⟨_, _, Tryd.func8, rfl⟩ rc_all
end Go.Proofs.YtphjkkfkegdgoaaDoor
