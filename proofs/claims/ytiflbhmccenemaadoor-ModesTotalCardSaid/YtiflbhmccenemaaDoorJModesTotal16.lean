/- Parts, one behind the other. modes.Edge: its contract; modes.Next as the evaluator runs it. -/
import Derived.Test.YtiflbhmccenemaaDoorJModesTotal15
set_option linter.unusedSimpArgs false
set_option linter.unusedVariables false
/- modes.Edge: its contract; modes.Next as the evaluator runs it. -/
section
namespace Go.Proofs.YtiflbhmccenemaaDoor
open Go.RowKit

theorem edge_tab (a b : Nat) (ha : a < 5) (hb : b < 5) : asB (List.getD (edgeL.map fun b => AC.v (.bool b)) (a * 5 + b) nov) = edgeL.getD (a * 5 + b) false ∧ okl .b (List.getD (edgeL.map fun b => AC.v (.bool b)) (a * 5 + b) nov) = true := by
  have h : a * 5 + b < 25 := by omega
  generalize a * 5 + b = k at h
  match k, h with
  | 0, _ => exact ⟨rfl, rfl⟩
  | 1, _ => exact ⟨rfl, rfl⟩
  | 2, _ => exact ⟨rfl, rfl⟩
  | 3, _ => exact ⟨rfl, rfl⟩
  | 4, _ => exact ⟨rfl, rfl⟩
  | 5, _ => exact ⟨rfl, rfl⟩
  | 6, _ => exact ⟨rfl, rfl⟩
  | 7, _ => exact ⟨rfl, rfl⟩
  | 8, _ => exact ⟨rfl, rfl⟩
  | 9, _ => exact ⟨rfl, rfl⟩
  | 10, _ => exact ⟨rfl, rfl⟩
  | 11, _ => exact ⟨rfl, rfl⟩
  | 12, _ => exact ⟨rfl, rfl⟩
  | 13, _ => exact ⟨rfl, rfl⟩
  | 14, _ => exact ⟨rfl, rfl⟩
  | 15, _ => exact ⟨rfl, rfl⟩
  | 16, _ => exact ⟨rfl, rfl⟩
  | 17, _ => exact ⟨rfl, rfl⟩
  | 18, _ => exact ⟨rfl, rfl⟩
  | 19, _ => exact ⟨rfl, rfl⟩
  | 20, _ => exact ⟨rfl, rfl⟩
  | 21, _ => exact ⟨rfl, rfl⟩
  | 22, _ => exact ⟨rfl, rfl⟩
  | 23, _ => exact ⟨rfl, rfl⟩
  | 24, _ => exact ⟨rfl, rfl⟩
  | n + 25, h => exact absurd h (by omega)
def ctEdge : CtF := ctRd (pureRd mE (by kernel_rfl)) (fun | [.c (.v (.int .u8 a)), .c (.v (.int .u8 b))] => bo (edgeF a b) | _ => bo false) (fun | [.c (.v (.int .u8 a)), .c (.v (.int .u8 b))] => decide (0 ≤ a) && decide (0 ≤ b) | _ => false)
theorem edge_L : edgeL.map (fun b => AC.v (.bool b)) = [.v (.bool true), .v (.bool true), .v (.bool true), .v (.bool true), .v (.bool true), .v (.bool false), .v (.bool true), .v (.bool true), .v (.bool true), .v (.bool true), .v (.bool false), .v (.bool true), .v (.bool true), .v (.bool true), .v (.bool true), .v (.bool false), .v (.bool false), .v (.bool true), .v (.bool true), .v (.bool true), .v (.bool false), .v (.bool false), .v (.bool false), .v (.bool true), .v (.bool true)] := rfl
theorem ct_edge : CtOk Tryd.prog 17 ctEdge := by
  refine ctRd_ofE (E := E1 Tryd.prog) hE1 (pureRd mE (by kernel_rfl)) (fuel := 300) (str := 10000000000000000000000000000000000000000) ⟨_, _, Tryd.func17, rfl⟩ (fun s => by split <;> rfl) fun s hs => ?_
  split at hs
  · rename_i a b
    simp only [Bool.and_eq_true, decide_eq_true_eq] at hs
    obtain ⟨a0, b0⟩ := hs
    refine (?_ : (∃ p q, edR Tryd.prog a b p = some q ∧ GoodF (bo (edgeF a b)) q) → _) (ed a b _ ?_)
    · rintro ⟨p, q, h1, h2⟩
      exact ⟨p, _, q, h1, h2⟩
    · obtain ⟨x, rfl⟩ := Int.eq_ofNat_of_zero_le a0
      obtain ⟨y, rfl⟩ := Int.eq_ofNat_of_zero_le b0
      simp only [← edge_L]
      refine ⟨fun h1 => ⟨fun h2 => ?_, fun h2 => ?_⟩, fun h1 => ⟨fun h2 => ?_, fun h2 => ?_⟩⟩
      · have h1' : (5 : Int) ≤ (x : Int) := by simpa using h1
        have h2' : (y : Int) < 5 := by simpa using h2
        have e := edge_tab 0 y (by omega) (by omega)
        simp only [Nat.zero_mul] at e
        refine ⟨?_, (by first | (unfold lim; omega) | (dsimp only; unfold lim; omega)), ?_, by simp⟩
        · simp only [edgeF, Int.toNat_natCast, Nat.mul_one, e.1]
          simp [bo, h1', h2']
        · simp only [allT, List.forall_mem_cons, Int.toNat_natCast, Nat.mul_one, e.2]
          simp [inb_lit, h1', h2']
          omega
      · have h2' : ¬ (y : Int) < 5 := by simpa using h2
        refine ⟨by simp [bo, edgeF, h2'], (by first | (unfold lim; omega) | (dsimp only; unfold lim; omega)), by simp [allT, h1, h2]; simp at h1 h2; omega, by simp⟩
      · have h1' : ¬ (5 : Int) ≤ (x : Int) := by simpa using h1
        have h2' : (y : Int) < 5 := by simpa using h2
        have e := edge_tab x y (by omega) (by omega)
        refine ⟨?_, (by first | (unfold lim; omega) | (dsimp only; unfold lim; omega)), ?_, by simp⟩
        · simp only [edgeF, Int.toNat_natCast, Nat.mul_one, Nat.zero_add, e.1]
          simp [bo, h1', h2']
        · simp only [allT, List.forall_mem_cons, Int.toNat_natCast, Nat.mul_one, Nat.zero_add, e.2]
          simp [inb_lit, h1', h2']
          omega
      · have h2' : ¬ (y : Int) < 5 := by simpa using h2
        refine ⟨by simp [bo, edgeF, h2'], (by first | (unfold lim; omega) | (dsimp only; unfold lim; omega)), by simp [allT, h1, h2]; simp at h1 h2; omega, by simp⟩
  · cases hs
def mSE : AMem := mS ++ mE
def ENnx (P : Program) : Env := ⟨P, [(19, ctAsks), (17, ctEdge)]⟩
theorem hENnx : EnvOk (ENnx Tryd.prog) := by
  refine envOk (fun f g h => ?_) (by kernel_rfl) (by kernel_rfl)
  simp only [ENnx, List.mem_cons, Prod.mk.injEq, List.not_mem_nil, or_false] at h
  rcases h with ⟨rfl, rfl⟩ | ⟨rfl, rfl⟩
  · exact ct_asks
  · exact ct_edge
/-- the next mode -/
def nextZ (to mode : Int) : Int := if edgeF mode to = true then to else IntKind.wrap .u8 (mode - 1)
def nextR (c : Cfg) (nq : Nat) (fq : Nat → Int) (l : List AC) (_ : List AV) : AV := .c (.v (.int .u8 (nextZ (asksC c nq fq (l.take 8) (asI (l.getD 40 nov))) (asI (l.getD 41 nov)))))
def vwGE (G : AMem) (E : Env) (f : FuncId) (c : Cfg) (nq : Nat) (fq : Nat → Int) (v : Vw) (r : List AV) (path : List Dec) (lp : List (Option LSum)) : Option VF := viewF [] (fCallF E (fC E 300) f (.c (.ptr 5 0 0) :: .agg (vwL v) :: r) 1000 10000000000000000000000000000000000000000 (stA (G ++ netL c nq fq) path lp))
theorem mdNx_0 (c : Cfg) (nq : Nat) (fq : Nat → Int) (v : Vw) : vwGE mSE (ENnx Tryd.prog) 20 c nq fq v [] ([.b true] : List Dec) [] =
    some   (AV.c (AC.v (Value.int IntKind.u8 (asksC c nq fq (inL v) (Vw.command v)))), [], 1010,     [edgeF (Vw.mode v) (asksC c nq fq (inL v) (Vw.command v)) == true, true,       match [AV.c (AC.v (Value.int IntKind.u8 (Vw.mode v))), AV.c (AC.v (Value.int IntKind.u8 (asksC c nq fq (inL v) (Vw.command v))))] with       | [AV.c (AC.v (Value.int IntKind.u8 a)), AV.c (AC.v (Value.int IntKind.u8 b))] => decide (0 ≤ a) && decide (0 ≤ b)       | x => false,       true, true, netK c nq fq, true, true, true, true, true, true, true, true, true, true, true, true, true, true, true, true, true, true, true, true, true, true, true, true, true, true, true, true, true, true, true, true, true, true, true, true, true, true, true, true, true, true, true, true],     []) := by kernel_rfl
theorem mdNx_1 (c : Cfg) (nq : Nat) (fq : Nat → Int) (v : Vw) : vwGE mSE (ENnx Tryd.prog) 20 c nq fq v [] ([.b false] : List Dec) [] =
    some   (AV.c (AC.v (Value.int IntKind.u8 (IntKind.wrap IntKind.u8 (Vw.mode v - Int.ofNat 1)))), [], 1012,     [true, true, edgeF (Vw.mode v) (asksC c nq fq (inL v) (Vw.command v)) == false, true,       match [AV.c (AC.v (Value.int IntKind.u8 (Vw.mode v))), AV.c (AC.v (Value.int IntKind.u8 (asksC c nq fq (inL v) (Vw.command v))))] with       | [AV.c (AC.v (Value.int IntKind.u8 a)), AV.c (AC.v (Value.int IntKind.u8 b))] => decide (0 ≤ a) && decide (0 ≤ b)       | x => false,       true, true, netK c nq fq, true, true, true, true, true, true, true, true, true, true, true, true, true, true, true, true, true, true, true, true, true, true, true, true, true, true, true, true, true, true, true, true, true, true, true, true, true, true, true, true, true, true, true, true],     []) := by kernel_rfl
theorem mdNx (c : Cfg) (nq : Nat) (fq : Nat → Int) (v : Vw) (Q : VF → Prop) (H : (((edgeF (Vw.mode v) (asksC c nq fq (inL v) (Vw.command v))) = true → Q   (AV.c (AC.v (Value.int IntKind.u8 (asksC c nq fq (inL v) (Vw.command v)))), [], 1010,     [edgeF (Vw.mode v) (asksC c nq fq (inL v) (Vw.command v)) == true, true,       match [AV.c (AC.v (Value.int IntKind.u8 (Vw.mode v))), AV.c (AC.v (Value.int IntKind.u8 (asksC c nq fq (inL v) (Vw.command v))))] with       | [AV.c (AC.v (Value.int IntKind.u8 a)), AV.c (AC.v (Value.int IntKind.u8 b))] => decide (0 ≤ a) && decide (0 ≤ b)       | x => false,       true, true, netK c nq fq, true, true, true, true, true, true, true, true, true, true, true, true, true, true, true, true, true, true, true, true, true, true, true, true, true, true, true, true, true, true, true, true, true, true, true, true, true, true, true, true, true, true, true, true],     [])) ∧ ((edgeF (Vw.mode v) (asksC c nq fq (inL v) (Vw.command v))) = false → Q   (AV.c (AC.v (Value.int IntKind.u8 (IntKind.wrap IntKind.u8 (Vw.mode v - Int.ofNat 1)))), [], 1012,     [true, true, edgeF (Vw.mode v) (asksC c nq fq (inL v) (Vw.command v)) == false, true,       match [AV.c (AC.v (Value.int IntKind.u8 (Vw.mode v))), AV.c (AC.v (Value.int IntKind.u8 (asksC c nq fq (inL v) (Vw.command v))))] with       | [AV.c (AC.v (Value.int IntKind.u8 a)), AV.c (AC.v (Value.int IntKind.u8 b))] => decide (0 ≤ a) && decide (0 ≤ b)       | x => false,       true, true, netK c nq fq, true, true, true, true, true, true, true, true, true, true, true, true, true, true, true, true, true, true, true, true, true, true, true, true, true, true, true, true, true, true, true, true, true, true, true, true, true, true, true, true, true, true, true, true],     [])))) :
    ∃ p r, vwGE mSE (ENnx Tryd.prog) 20 c nq fq v [] p [] = some r ∧ Q r := by
  rcases Bool.eq_false_or_eq_true (edgeF (Vw.mode v) (asksC c nq fq (inL v) (Vw.command v))) with h2 | h2
  · have g2 := H.1 h2
    exact ⟨_, _, mdNx_0 c nq fq v, g2⟩
  · have g2 := H.2 h2
    exact ⟨_, _, mdNx_1 c nq fq v, g2⟩
end Go.Proofs.YtiflbhmccenemaaDoor
end
/- modes.Next: its contract; layer 25's examples. -/
section
namespace Go.Proofs.YtiflbhmccenemaaDoor
open Go.RowKit

def ctNext : CtF := ctRd (netRdG mSE (by kernel_rfl)) (rV nextR) (pV fun l r => r.isEmpty && decide (0 ≤ asI (l.getD 41 nov)))
theorem asksZ_pos (i a : Nat) (c : Int) : 1 ≤ asksZ i a c ∧ asksZ i a c ≤ 4 := by
  unfold asksZ
  repeat' split
  all_goals omega
theorem asksC_pos (c : Cfg) (nq : Nat) (fq : Nat → Int) (l : List AC) (cmd : Int) : 1 ≤ asksC c nq fq l cmd ∧ asksC c nq fq l cmd ≤ 4 := asksZ_pos _ _ _
theorem ct_nextM : CtOk Tryd.prog 20 ctNext := by
  refine ctVwG_of (G := mSE) (by kernel_rfl) (E := ENnx Tryd.prog) hENnx ⟨_, _, Tryd.func20, rfl⟩ (fun _ _ _ _ _ => rfl) fun c nq fq v r hr => ?_
  simp only [Bool.and_eq_true, decide_eq_true_eq] at hr
  obtain ⟨hr, h0⟩ := hr
  have h0 : 0 ≤ v.mode := h0
  obtain rfl := List.isEmpty_iff.1 hr
  refine (?_ : (∃ p q, vwGE mSE (ENnx Tryd.prog) 20 c nq fq v [] p [] = some q ∧ GoodF (nextR c nq fq (vwL v) []) q) → _) (mdNx c nq fq v _ ?_)
  · rintro ⟨p, q, h1, h2⟩
    exact ⟨p, _, q, h1, h2⟩
  · have hr : nextR c nq fq (vwL v) [] = .c (.v (.int .u8 (nextZ (asksC c nq fq (inL v) v.command) v.mode))) := rfl
    have ha := asksC_pos c nq fq (inL v) v.command
    rw [hr]
    generalize asksC c nq fq (inL v) v.command = a at *
    (repeat' (first | refine ⟨fun h => ?_, fun h => ?_⟩ | fail))
    all_goals (refine ⟨?_, (by first | (unfold lim; omega) | (dsimp only; unfold lim; omega)), ?_, by simp⟩)
    · simp [nextZ, h]
    · simp [allT, cfgK_t, netK_t, intsOk_ints, stsOk_sts, intsOk_s, stsOk_s, h, h0]; omega
    · simp [nextZ, h]
    · simp [allT, cfgK_t, netK_t, intsOk_ints, stsOk_sts, intsOk_s, stsOk_s, h, h0]; omega
def lv25 (P : Program) : Option VF := viewF [] (fCallF (E1 P) (fC (E1 P) 300) 14 [] 10 10000000000000000000000000000000000000000 (stC mSE))
theorem lv25_run  : lv25 Tryd.prog =
    some (AV.c (AC.v (Value.bool true)), [], 1550000000000000000000000000000000000003121, [], []) := by kernel_rfl
end Go.Proofs.YtiflbhmccenemaaDoor
end
/- A function of a config whose calls are told by contracts that hang on the config; configs.New either way. -/
section
namespace Go.Proofs.YtiflbhmccenemaaDoor
open Go.RowKit

/-- what is known ahead, for the explorer alone -/
def giv {α : Type} (_ : List (Bool × Bool)) (x : α) : α := x
theorem ctCfg_ofE {P : Program} {f : FuncId} {R : Cfg → AV} {pre : Cfg → Bool} (hf : ∃ (fn : Func) (c : Code), P.funcs[f]? = some fn ∧ fn.body = some c) (hres : ∀ c (β1 β2 : Nm) u, γ β1 (R c) = some u → γ β2 (R c) = some u)
    (run : ∀ c, pre c = true → ∃ (E : Env) (fuel str : Nat), E.P = P ∧ EnvOk E ∧ ∃ p lp r, viewF [] (fCallF E (fC E fuel) f [.agg (cfgC c)] 1000 str (stA (cfgM c) p lp)) = some r ∧ r.1 = R c ∧ r.2.2.1 ≤ lim ∧ allT r.2.2.2.1 ∧ ∀ q ∈ r.2.2.2.2, q) : CtOk P f (ctCfg R pre) := by
  refine ⟨hf, fun C β m m2 w args ib r news k' ob vs hct ho hs hr hfree hlim hv => ?_⟩
  unfold ctCfg at hct
  split at hct
  · rename_i l
    split at hct
    · rename_i c b hc hg
      simp only [Option.some.injEq, Prod.mk.injEq] at hct
      obtain ⟨rfl, rfl, rfl, rfl⟩ := hct
      simp only [allT, List.forall_mem_cons] at ho
      obtain ⟨rfl, o2, _⟩ := ho
      obtain ⟨E, fuel, str, rfl, hE, p, lp, ⟨v, b', n', ob, po⟩, hrun, hvr, hn, hob, hpo⟩ := run c o2
      obtain ⟨s', r1, r2, r3, r4⟩ := viewF_out hrun
      have hn : n' ≤ lim := hn
      simp only [γt, γ1] at hv
      split at hv
      · rename_i v0 us hv0 hus
        split at hv0
        · rename_i cs hcs
          cases hv0
          cases hus
          cases hv
          obtain ⟨β1, q1, q2, q3⟩ := rel_cfg hs hr hc hg hcs
          refine (calls_f hE r1 ⟨by rw [r3]; exact hob, by rw [r4]; exact hpo⟩ (C := loneC w) (β := β1) (w := w) (vs := [.agg cs.toArray]) ?_ q1 (fun id h1 h2 => q3 id h1 (by omega))).mono ?_
          · simp only [γt, γ1, q2]
          · rintro e w' ⟨β', u, rfl, _, _, hu, hr'⟩
            simp only at hvr
            subst hvr
            exact ⟨β, u, rfl, Ext.refl _, fun _ _ => rfl, hres _ _ _ _ hu, by rw [List.append_nil]; exact hr.below (below_lone hr')⟩
        · cases hv0
      · cases hv
    · cases hct
  · cases hct
/-- the same, by whatever tells what is wrong (a name in the explorer: the kernel shall not look into it) -/
def ctNew0 (err : Cfg → Int) : CtF
  | [.agg l], m, ib =>
    match cfgOf l m, subB mS m with
    | some (c, b), true => some (.tup [.c (.ptr ib 0 0), i64 0], nwM ib c, 6, [b, decide (c.nb ≤ 9223372036854775807), decide (err c = 0)])
    | _, _ => none
  | _, _, _ => none
def ctNew1 (err : Cfg → Int) : CtF
  | [.agg l], m, _ =>
    match cfgOf l m, subB mS m with
    | some (c, b), true => some (.tup [.c (.v (.pointer none)), i64 (err c)], [], 0, [b, decide (c.nb ≤ 9223372036854775807), decide (err c ≠ 0)])
    | _, _ => none
  | _, _, _ => none
theorem ct_new0 : CtOk Tryd.prog 15 (ctNew0 cfgErr) := ct_new
theorem ct_new1 : CtOk Tryd.prog 15 (ctNew1 cfgErr) := ct_newE
def ENw0 (P : Program) : Env := ⟨P, [(15, ctNew)]⟩
def ENw1 (P : Program) : Env := ⟨P, [(15, ctNewE)]⟩
theorem hENw0 : EnvOk (ENw0 Tryd.prog) := by
  refine envOk (fun f g h => ?_) (by kernel_rfl) (by kernel_rfl)
  simp only [ENw0, List.mem_cons, Prod.mk.injEq, List.not_mem_nil, or_false] at h
  obtain ⟨rfl, rfl⟩ := h
  exact ct_new
theorem hENw1 : EnvOk (ENw1 Tryd.prog) := by
  refine envOk (fun f g h => ?_) (by kernel_rfl) (by kernel_rfl)
  simp only [ENw1, List.mem_cons, Prod.mk.injEq, List.not_mem_nil, or_false] at h
  obtain ⟨rfl, rfl⟩ := h
  exact ct_newE
end Go.Proofs.YtiflbhmccenemaaDoor
end
