/- Parts, one behind the other. The variables that are laid, as the evaluator has them. -/
import Derived.Test.YtpgaplcdbbnblaaGreatDoorJSendersVoid10
import Derived.Test.YtpgaplcdbbnblaaGreatDoorChecked
import Derived.KernelRfl
import Derived.IntWalk
set_option linter.unusedSimpArgs false
set_option linter.unusedVariables false
/- The variables that are laid, as the evaluator has them. -/
section
namespace Go.Proofs.YtpgaplcdbbnblaaGreatDoor
open Go.RowKit

def signB : ABlk := ⟨false, false, 131, 0, .lit [.v (.int .i64 1), .v (.int .i64 (-1))]⟩
end Go.Proofs.YtpgaplcdbbnblaaGreatDoor
end
/- The variables that are laid, as the evaluator has them. -/
section
namespace Go.Proofs.YtpgaplcdbbnblaaGreatDoor
open Go.RowKit

def rolesB : ABlk := ⟨false, false, 262, 0, .lit [.v (.int .u8 1), .v (.int .u8 1), .v (.int .u8 2)]⟩
def mSR : AMem := [(gid 2, signB), (gid 1, rolesB)]
end Go.Proofs.YtpgaplcdbbnblaaGreatDoor
end
/- frames.Syms of the example's frame as the evaluator runs it. -/
section
namespace Go.Proofs.YtpgaplcdbbnblaaGreatDoor
open Go.RowKit
abbrev syArgs : List AV := [.agg [.v (.int .i64 0), .v (.int .u8 2), .v (.int .u8 0), .v (.int .u32 0), .v (.int .u32 5)], .agg [.v (.bool true), .v (.bool false)]]
abbrev syN : Nat := 300000000000000000000000000000000000001118
set_option maxRecDepth 1000000
def syR (P : Program) : Option VF := viewF [syN] (fCallF (E1 P) (fC (E1 P) 300) 82 syArgs 1000 10000000000000000000000000000000000000000 (stA [] [] []))
theorem sy_run  : seeT (syR Tryz.prog) =
    some (.tup [.c (.sl 300000000000000000000000000000000000001118 0 0 114 (some 114)), .c (.v (.int .i64 (Int.ofNat 0)))], [some (true, true, 72, 1, 114, [[.v (.int .u8 (Int.ofNat 1))], [.v (.int .u8 (Int.ofNat 1))], [.v (.int .u8 (Int.ofNat 2))], [.v (.int .u8 (Int.ofNat 1))], [.v (.int .u8 (Int.ofNat 1))], [.v (.int .u8 (Int.ofNat 1))], [.v (.int .u8 (Int.ofNat 1))], [.v (.int .u8 (Int.ofNat 1))], [.v (.int .u8 (Int.ofNat 1))], [.v (.int .u8 (Int.ofNat 1))], [.v (.int .u8 (Int.ofNat 1))], [.v (.int .u8 (Int.ofNat 1))], [.v (.int .u8 (Int.ofNat 1))], [.v (.int .u8 (Int.ofNat 1))], [.v (.int .u8 (Int.ofNat 1))], [.v (.int .u8 (Int.ofNat 1))], [.v (.int .u8 (Int.ofNat 1))], [.v (.int .u8 (Int.ofNat 1))], [.v (.int .u8 (Int.ofNat 1))], [.v (.int .u8 (Int.ofNat 1))], [.v (.int .u8 (Int.ofNat 1))], [.v (.int .u8 (Int.ofNat 1))], [.v (.int .u8 (Int.ofNat 1))], [.v (.int .u8 (Int.ofNat 1))], [.v (.int .u8 (Int.ofNat 1))], [.v (.int .u8 (Int.ofNat 1))], [.v (.int .u8 (Int.ofNat 1))], [.v (.int .u8 (Int.ofNat 1))], [.v (.int .u8 (Int.ofNat 1))], [.v (.int .u8 (Int.ofNat 1))], [.v (.int .u8 (Int.ofNat 1))], [.v (.int .u8 (Int.ofNat 1))], [.v (.int .u8 (Int.ofNat 1))], [.v (.int .u8 (Int.ofNat 1))], [.v (.int .u8 (Int.ofNat 1))], [.v (.int .u8 (Int.ofNat 1))], [.v (.int .u8 (Int.ofNat 1))], [.v (.int .u8 (Int.ofNat 1))], [.v (.int .u8 (Int.ofNat 1))], [.v (.int .u8 (Int.ofNat 1))], [.v (.int .u8 (Int.ofNat 1))], [.v (.int .u8 (Int.ofNat 1))], [.v (.int .u8 (Int.ofNat 1))], [.v (.int .u8 (Int.ofNat 1))], [.v (.int .u8 (Int.ofNat 1))], [.v (.int .u8 (Int.ofNat 1))], [.v (.int .u8 (Int.ofNat 1))], [.v (.int .u8 (Int.ofNat 1))], [.v (.int .u8 (Int.ofNat 1))], [.v (.int .u8 (Int.ofNat 1))], [.v (.int .u8 (Int.ofNat 1))], [.v (.int .u8 (Int.ofNat 1))], [.v (.int .u8 (Int.ofNat 1))], [.v (.int .u8 (Int.ofNat 1))], [.v (.int .u8 (Int.ofNat 1))], [.v (.int .u8 (Int.ofNat 1))], [.v (.int .u8 (Int.ofNat 1))], [.v (.int .u8 (Int.ofNat 1))], [.v (.int .u8 (Int.ofNat 1))], [.v (.int .u8 (Int.ofNat 1))], [.v (.int .u8 (Int.ofNat 1))], [.v (.int .u8 (Int.ofNat 1))], [.v (.int .u8 (Int.ofNat 1))], [.v (.int .u8 (Int.ofNat 1))], [.v (.int .u8 (Int.ofNat 1))], [.v (.int .u8 (Int.ofNat 1))], [.v (.int .u8 (Int.ofNat 1))], [.v (.int .u8 (Int.ofNat 1))], [.v (.int .u8 (Int.ofNat 1))], [.v (.int .u8 (Int.ofNat 1))], [.v (.int .u8 (Int.ofNat 1))], [.v (.int .u8 (Int.ofNat 1))], [.v (.int .u8 (Int.ofNat 1))], [.v (.int .u8 (Int.ofNat 1))], [.v (.int .u8 (Int.ofNat 1))], [.v (.int .u8 (Int.ofNat 1))], [.v (.int .u8 (Int.ofNat 1))], [.v (.int .u8 (Int.ofNat 2))], [.v (.int .u8 (Int.ofNat 1))], [.v (.int .u8 (Int.ofNat 2))], [.v (.int .u8 (Int.ofNat 1))], [.v (.int .u8 (Int.ofNat 1))], [.v (.int .u8 (Int.ofNat 2))], [.v (.int .u8 (Int.ofNat 1))], [.v (.int .u8 (Int.ofNat 1))], [.v (.int .u8 (Int.ofNat 2))], [.v (.int .u8 (Int.ofNat 2))], [.v (.int .u8 (Int.ofNat 2))], [.v (.int .u8 (Int.ofNat 2))], [.v (.int .u8 (Int.ofNat 2))], [.v (.int .u8 (Int.ofNat 1))], [.v (.int .u8 (Int.ofNat 2))], [.v (.int .u8 (Int.ofNat 1))], [.v (.int .u8 (Int.ofNat 2))], [.v (.int .u8 (Int.ofNat 2))], [.v (.int .u8 (Int.ofNat 1))], [.v (.int .u8 (Int.ofNat 2))], [.v (.int .u8 (Int.ofNat 2))], [.v (.int .u8 (Int.ofNat 2))], [.v (.int .u8 (Int.ofNat 1))], [.v (.int .u8 (Int.ofNat 2))], [.v (.int .u8 (Int.ofNat 2))], [.v (.int .u8 (Int.ofNat 1))], [.v (.int .u8 (Int.ofNat 2))], [.v (.int .u8 (Int.ofNat 1))], [.v (.int .u8 (Int.ofNat 1))], [.v (.int .u8 (Int.ofNat 2))], [.v (.int .u8 (Int.ofNat 2))], [.v (.int .u8 (Int.ofNat 2))], [.v (.int .u8 (Int.ofNat 2))], [.v (.int .u8 (Int.ofNat 1))], [.v (.int .u8 (Int.ofNat 1))], [.v (.int .u8 (Int.ofNat 2))], [.v (.int .u8 (Int.ofNat 1))]])], 340000000000000000000000000000000000001040, true, []) := by kernel_rfl
end Go.Proofs.YtpgaplcdbbnblaaGreatDoor
end
/- What configs.New leans on: the sums of loops. -/
section
namespace Go.Proofs.YtpgaplcdbbnblaaGreatDoor
open Go.RowKit

theorem hE1 : EnvOk (E1 Tryz.prog) := envOk (fun _ _ h => by cases h) (by kernel_rfl) (by kernel_rfl)
end Go.Proofs.YtpgaplcdbbnblaaGreatDoor
end
/- frames.Syms of the example's frame: its contract. -/
section
namespace Go.Proofs.YtpgaplcdbbnblaaGreatDoor
open Go.RowKit

def isSy : List AV → Bool
  | [.agg [.v (.int .i64 a), .v (.int .u8 b), .v (.int .u8 c), .v (.int .u32 d), .v (.int .u32 e)], .agg [.v (.bool t), .v (.bool u)]] => decide (a = 0) && (decide (b = 2) && (decide (c = 0) && (decide (d = 0) && (decide (e = 5) && (t && !u)))))
  | _ => false
theorem isSy_eq {xs : List AV} (h : isSy xs = true) : xs = syArgs := by
  unfold isSy at h
  split at h
  · simp only [Bool.and_eq_true, decide_eq_true_eq, Bool.not_eq_true'] at h
    obtain ⟨rfl, rfl, rfl, rfl, rfl, rfl, rfl⟩ := h
    rfl
  · cases h
def syL : List Int := [1, 1, 2, 1, 1, 1, 1, 1, 1, 1, 1, 1, 1, 1, 1, 1, 1, 1, 1, 1, 1, 1, 1, 1, 1, 1, 1, 1, 1, 1, 1, 1, 1, 1, 1, 1, 1, 1, 1, 1, 1, 1, 1, 1, 1, 1, 1, 1, 1, 1, 1, 1, 1, 1, 1, 1, 1, 1, 1, 1, 1, 1, 1, 1, 1, 1, 1, 1, 1, 1, 1, 1, 1, 1, 1, 1, 1, 2, 1, 2, 1, 1, 2, 1, 1, 2, 2, 2, 2, 2, 1, 2, 1, 2, 2, 1, 2, 2, 2, 1, 2, 2, 1, 2, 1, 1, 2, 2, 2, 2, 1, 1, 2, 1]
def syB : ABlk := wBlk 72 1 114 fun j => [.int .u8 (syL.getD j 0)]
def ctSyms : CtF := ctRdT (pureRd [] rfl) (fun _ => 114) (fun _ => some 114) (fun _ => syB) (fun _ => i64 0) isSy
theorem ct_syms : CtOk Tryz.prog 82 ctSyms := by
  refine ctRdT_of (E := E1 Tryz.prog) hE1 (pureRd [] rfl) (fuel := 300) (str := 10000000000000000000000000000000000000000) syN ⟨_, _, Tryz.func82, rfl⟩ (fun _ => rfl) (fun _ => ⟨_, _, rfl⟩) (fun _ => wBlk_pl (fun _ => rfl)) (fun _ => rfl) fun xs hx => ?_
  obtain rfl := isSy_eq hx
  obtain ⟨f, b, h1, h2, h3⟩ := seeT_out sy_run
  refine ⟨[], [], _, h1, rfl, ⟨_, rfl, rfl, rfl, rfl, rfl, .inr (.inl ⟨114, _, _, rfl, rfl, fun k hk => ?_⟩)⟩, (by first | (unfold lim; omega) | (dsimp only; unfold lim; omega)), h2, by simp⟩
  have h4 : (List.range 114).map f = (List.range 114).map fun j => [AC.v (.int .u8 (syL.getD j 0))] := h3.trans (by kernel_rfl)
  have h5 := congrArg (fun l => l[k]?) h4
  simpa [hk] using h5
end Go.Proofs.YtpgaplcdbbnblaaGreatDoor
end
/- The examples of layer 11 as the evaluator runs them, frames.Syms by its contract. -/
section
namespace Go.Proofs.YtpgaplcdbbnblaaGreatDoor
open Go.RowKit
def ENy (P : Program) : Env := ⟨P, [(82, ctSyms)]⟩
theorem hENy : EnvOk (ENy Tryz.prog) := by
  refine envOk (fun f g h => ?_) (by kernel_rfl) (by kernel_rfl)
  simp only [ENy, List.mem_cons, Prod.mk.injEq, List.not_mem_nil, or_false] at h
  obtain ⟨rfl, rfl⟩ := h
  exact ct_syms
def lv11 (P : Program) : Option VF := viewF [] (fCallF (ENy P) (fC (ENy P) 300) 29 [] 10 10000000000000000000000000000000000000000 (stC mSR))
theorem lv11_run  : lv11 Tryz.prog =
    some (.c (.v (.bool true)), [], 2490000000000000000000000000000000000001175, [], []) := by kernel_rfl
end Go.Proofs.YtpgaplcdbbnblaaGreatDoor
end
/- SendersVoid as the evaluator runs it. -/
section
namespace Go.Proofs.YtpgaplcdbbnblaaGreatDoor
open Go.RowKit

def EL11 (P : Program) : Env := ⟨P, [(29, ctTG mSR)]⟩
theorem hEL11 : EnvOk (EL11 Tryz.prog) := by
  refine envOk (fun f g h => ?_) (by kernel_rfl) (by kernel_rfl)
  simp only [EL11, List.mem_cons, Prod.mk.injEq, List.not_mem_nil, or_false] at h
  obtain ⟨rfl, rfl⟩ := h
  exact ctTG_of (E := ENy Tryz.prog) hENy ⟨_, _, Tryz.func29, rfl⟩ (by kernel_rfl) (by unfold lim; omega) lv11_run
def svR (P : Program) (a b c : Int) (x y : Said) (path : List Dec) : Option VF :=
  viewF [] (fCallF (EL11 P) (fC (EL11 P) 300) 5 [ag [.int .i64 a, .int .i64 b, .int .i64 c], .agg ((x.cells ++ y.cells).map .v)] 10 10000000000000000000000000000000000000000 (stA mSR path []))
set_option maxRecDepth 1000000
theorem sv (a b c : Int) (x y : Said) (Q : VF → Prop) (H : Q (.c (.v (.bool true)), [], 600000000000000000000000000000000000000133, [true, true, true, true, true, true, true, true, true, true, true, true, true, true, true, true, true, true, true, true, true, true, true, true, true, true, true, true, true, true, true, true, true, true, true, true, true, true, true, true, true, true, true, true, true, true, true, true, true, true, true, true, true, true, true, true, true, true, true, true, true, true, true, true, true, true, true, true, true, true, true, true, true, true, true, true, true, true, true, true, true, true, true, true, true, true, true, true, true, true, true, true, true, true, true, true, true, true, true, true, true, true, true, true, true, true, true, true, true, true, true, true, true, true, true, true, true, true, true, true, true, true, true, true, true, true, true, true, true, true, true, true, true, true, true, true, true, true, true, true, true, true, true, true, true, true, true, true, true, true, true, true, true], [])) :
    ∃ p r, svR Tryz.prog a b c x y p = some r ∧ Q r :=
  ⟨pD 79 0, _, by kernel_rfl, H⟩
end Go.Proofs.YtpgaplcdbbnblaaGreatDoor
end
