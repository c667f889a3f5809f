/- The symbolic evaluator: words for its use. -/
import Derived.Test.YtpfkhlfkcmgdlaaDoorSxLoop
import Derived.Test.YtpfkhlfkcmgdlaaDoorTyDefs
import Derived.IntWalk
set_option linter.unusedSimpArgs false
set_option linter.unusedVariables false
namespace Go.Proofs.YtpfkhlfkcmgdlaaDoor
open Go.RowKit
/-- what is seen of a call's end, of a code's -/
abbrev VF := AV × List (Option ABlk) × Nat × List Bool × List Prop
abbrev VC := Exit × List (Option AV) × List (Option ABlk) × Nat × Nat × List Bool × List Prop
def i64 (n : Int) : AV := .c (.v (.int .i64 n))
def bo (b : Bool) : AV := .c (.v (.bool b))
def ag (l : List Value) : AV := .agg (l.map .v)
/-- a list of things that are only read: of type 'ty', 'sz' cells each -/
def rBlk (ty sz n : Nat) (f : Nat → List Value) : ABlk := ⟨false, false, ty, sz, .arr n fun k => (f k).map .v⟩
/-- an own list that may grow -/
def wBlk (ty sz n : Nat) (f : Nat → List Value) : ABlk := ⟨true, true, ty, sz, .arr n fun k => (f k).map .v⟩
def oBlk (ty : Nat) (l : List Value) : ABlk := ⟨true, false, ty, 0, .lit (l.map .v)⟩
def bodyOf (P : Program) (f : Nat) : Code := match P.funcs[f]? with | some fn => (match fn.body with | some c => c | none => .skip) | none => .skip
def E1 (P : Program) : Env := ⟨P, []⟩
def sH (tm : List AV) (m : AMem) (path : List Bool) (lp : List (Option LSum)) : St := ⟨tm, m, 0, 0, false, path.map .b, [], [], [], none, lp⟩

theorem low_map {n : Nat} (l : List Value) (j : Nat) : lowC n ((l.map AC.v).getD j nov) = true := by
  simp only [List.getD, List.getElem?_map]
  cases l[j]? <;> rfl
theorem rBlk_low {n ty sz q : Nat} {f : Nat → List Value} : lowB n (rBlk ty sz q f) := lowB_cells (fun _ _ => low_map _ _) (fun _ h => by cases h)
theorem wBlk_low {n ty sz q : Nat} {f : Nat → List Value} : lowB n (wBlk ty sz q f) := lowB_cells (fun _ _ => low_map _ _) (fun _ h => by cases h)
theorem oBlk_low {n ty : Nat} {l : List Value} : lowB n (oBlk ty l) := lowB_cells (fun _ _ => low_map _ _) (fun _ h => by cases h)
theorem GW_i64 {n nh n' : Nat} {ρ : Rn} {a b : Int} (h : a = b) : GW n nh n' ρ (i64 a) (i64 b) := by subst h; exact GW_low rfl
theorem wrap_succ (k : Nat) (h : k < 9223372036854775807) : IntKind.wrap .i64 ((k : Int) + Int.ofNat 1) = ((k + 1 : Nat) : Int) := by
  rw [IntWalk.i64_in _ (by simp; omega)]; simp
theorem inb_rBlk {ty sz q : Nat} {f : Nat → List Value} {k j : Nat} (h : k < q) (hj : j ≤ sz) : (rBlk ty sz q f).inb k j = true := by simp [ABlk.inb, rBlk, h, hj]
theorem inb_wBlk {ty sz q : Nat} {f : Nat → List Value} {k j : Nat} (h : k < q) (hj : j ≤ sz) : (wBlk ty sz q f).inb k j = true := by simp [ABlk.inb, wBlk, h, hj]
/-- a list grown by one element -/
theorem BEq_snoc {ty sz q : Nat} {f g : Nat → List Value} {l : List Value} (hl : l.length = sz) (h1 : ∀ k, k < q → g k = f k) (h2 : g q = l) :
    BEq ⟨true, true, ty, sz, .arr (q + 1) fun k => if k < q then (f k).map .v else elt ⟨true, false, ty, 0, .lit (l.map .v)⟩ 0 0 sz (k - q)⟩ (wBlk ty sz (q + 1) g) := by
  refine ⟨rfl, rfl, rfl, rfl, .inr (.inl ⟨q + 1, _, _, rfl, rfl, fun k hk => ?_⟩)⟩
  by_cases hkq : k < q
  · rw [if_pos hkq, h1 k hkq]
  · obtain rfl : k = q := by omega
    rw [if_neg (by omega), h2]
    simp [elt, ← hl, List.take_of_length_le]
theorem getD_snoc1 {α : Type} {l : List α} {x d : α} {k : Nat} (h : k < l.length) : (l ++ [x]).getD k d = l.getD k d := by
  simp only [List.getD]; rw [List.getElem?_append_left h]
theorem getD_snoc2 {α : Type} {l : List α} {x d : α} : (l ++ [x]).getD l.length d = x := by
  simp [List.getD]
def namesB (P : Program) : Bool := P.funcs.toList.all fun fn => fn.body.isNone || !(fn.name == "runtime.NumGoroutine")
theorem envOk {P : Program} {ct : List (FuncId × CtF)} (hc : ∀ f g, (f, g) ∈ ct → CtOk P f g) (hm : P.follows .mixedOrders = true) (hn : namesB P = true) : EnvOk ⟨P, ct⟩ :=
  ⟨hc, hm, fun f fn c h1 h2 => by
    have hmem : fn ∈ P.funcs.toList := by
      rw [← Array.getElem?_toList] at h1
      exact List.mem_of_getElem? h1
    have := List.all_eq_true.1 hn fn hmem
    simpa [h2] using this⟩
theorem rel_nil (w : World) : Rel (loneC w) (fun _ => none) [] w := by
  refine ⟨rfl, rfl, rfl, Nat.le_refl _, Nat.le_refl _, fun _ _ _ => rfl, fun id x h => ?_, fun id id' x x' L L' h => ?_, fun g L h => ?_, fun id x o h => ?_⟩ <;> cases h
/-- a contract: it returns true and writes nothing -/
def ctT : CtF
  | [], _, _ => some (.c (.v (.bool true)), [], 0, [])
  | _, _, _ => none
theorem ctT_of {P : Program} {f : FuncId} (hf : ∃ (fn : Func) (c : Code), P.funcs[f]? = some fn ∧ fn.body = some c)
    (h : ∀ (w : World), Calls P f #[] w fun e w' => e = .returned (.bool true) ∧ Below w.heap.size w w') : CtOk P f ctT := by
  refine ⟨hf, fun C β m m2 w args ib r news k ob vs hct ho hs hr hfree hlim hv => ?_⟩
  unfold ctT at hct
  split at hct
  · simp only [Option.some.injEq, Prod.mk.injEq] at hct
    obtain ⟨rfl, rfl, rfl, rfl⟩ := hct
    cases hv
    refine (h w).mono ?_
    rintro e w' ⟨rfl, hb⟩
    exact ⟨β, _, rfl, Ext.refl _, fun _ _ => rfl, rfl, by rw [List.append_nil]; exact hr.below hb⟩
  · cases hct
/-- a closed run -/
def stC (m : AMem) : St := ⟨[], m, 0, 0, true, [], [], [], [], none, []⟩
end Go.Proofs.YtpfkhlfkcmgdlaaDoor
