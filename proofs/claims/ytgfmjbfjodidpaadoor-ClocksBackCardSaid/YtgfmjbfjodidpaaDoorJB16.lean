/- Contracts of what a net answers, as a list. -/
import Derived.Test.YtgfmjbfjodidpaaDoorJB15
set_option linter.unusedSimpArgs false
set_option linter.unusedVariables false
section
namespace Go.Proofs.YtgfmjbfjodidpaaDoor
open Go.RowKit

def ctNet1 (R : Cfg → Nat → (Nat → Int) → Int → Int) : CtF := ctNet (fun c nq fq zs => i64 (R c nq fq (zs.headD 0))) fun c nq fq zs => true && decide (zs.length = 1)
def ctRoundN : CtF := ctNet (fun c nq _ _ => i64 (roundN c nq)) fun c nq fq zs => true && decide (zs.length = 0)
def ctNets : List (FuncId × CtF) := [(37, ctNet1 headN), (39, ctNet1 ownerN), (34, ctNet1 pairN), (35, ctNet1 partnerN), (40, ctRoundN), (87, ctStep)]
theorem ctNets_ok : ∀ f g, (f, g) ∈ ctNets → CtOk Tryd.prog f g := by
  intro f g h
  simp only [ctNets, List.mem_cons, Prod.mk.injEq, List.not_mem_nil, or_false] at h
  rcases h with ⟨rfl, rfl⟩ | ⟨rfl, rfl⟩ | ⟨rfl, rfl⟩ | ⟨rfl, rfl⟩ | ⟨rfl, rfl⟩ | ⟨rfl, rfl⟩
  · exact ct_first
  · exact ct_owner
  · exact ct_pair
  · exact ct_partner
  · exact ct_round
  · exact ct_step
def ENns (P : Program) : Env := ⟨P, ctNets⟩
theorem hENns : EnvOk (ENns Tryd.prog) := envOk ctNets_ok (by kernel_rfl) (by kernel_rfl)
/-- a function of a net and plain values -/
def ntE (E : Env) (f : FuncId) (c : Cfg) (nq : Nat) (fq : Nat → Int) (r : List AV) (path : List Dec) (lp : List (Option LSum)) : Option VF := viewF [] (fCallF E (fC E 300) f (.c (.ptr 5 0 0) :: r) 1000 10000000000000000000000000000000000000000 (stA (netM c nq fq) path lp))
/-- a round's length, of a net that may be -/
def ckPre (c : Cfg) (nq : Nat) : Bool := decide (0 < nq) && (decide (1 ≤ c.ns) && (decide (c.ns ≤ 16) && (decide (1 ≤ c.long) && decide (c.long ≤ 4096))))
theorem mul_le_mul_of {a b x y : Int} (h0 : 0 ≤ a) (h1 : a ≤ x) (h2 : 0 ≤ b) (h3 : b ≤ y) : a * b ≤ x * y := Int.mul_le_mul h1 h3 h2 (by omega)
theorem ck_round {c : Cfg} {nq : Nat} (h : ckPre c nq = true) : roundN c nq = c.ns * c.long ∧ 1 ≤ (c.ns : Int) * c.long ∧ (c.ns : Int) * c.long ≤ 65536 ∧ 0 < nq ∧ 1 ≤ c.ns ∧ c.ns ≤ 16 ∧ 1 ≤ c.long ∧ c.long ≤ 4096 := by
  simp only [ckPre, Bool.and_eq_true, decide_eq_true_eq] at h
  obtain ⟨h1, h2, h3, h4, h5⟩ := h
  have e1 : (c.ns : Int) * c.long ≤ 16 * 4096 := mul_le_mul_of (by omega) (by omega) (by omega) (by omega)
  have e2 : (1 : Int) * 1 ≤ c.ns * c.long := mul_le_mul_of (by omega) (by omega) (by omega) (by omega)
  refine ⟨?_, by omega, by omega, h1, h2, h3, h4, h5⟩
  unfold roundN
  rw [if_neg (by omega), wrap_nat _ (by omega) (by omega)]
end Go.Proofs.YtgfmjbfjodidpaaDoor
end
