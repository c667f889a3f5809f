/- Views behind a round, behind a hearing; which may be: plain facts. No Go text is in sight. Printed by wip/gen_mb.py. -/
import Derived.Test.YthekiiagacnhkaaDoorJB0x9
set_option linter.unusedSimpArgs false
set_option linter.unusedVariables false
section
namespace Go.Proofs.YthekiiagacnhkaaDoor
open Go.RowKit

def upZ (x : Int) : Int := min x 99 + 1
def penZ (x : Int) : Int := min (min x 1000 + 8) 1000
def rewZ (x : Int) : Int := max (min x 1000) 1 - 1
/-- how many pairs, what a config asks for -/
structure RndG where
  np : Nat
  miss : Int
  good : Int
def rMi (g : RndG) (i : Nat) (got : Bool) (m : Int) : Int := if i < g.np then (if got = true then 0 else upZ m) else m
def rGo (g : RndG) (i : Nat) (got : Bool) (x : Int) : Int := if i < g.np then (if got = true then upZ x else 0) else x
def rSc (g : RndG) (i : Nat) (got : Bool) (x : Int) : Int := if i < g.np then (if got = true then rewZ x else penZ x) else x
def rGt (g : RndG) (i : Nat) (got : Bool) : Bool := if i < g.np then false else got
def rIn (g : RndG) (i : Nat) (inn got : Bool) (m x : Int) : Bool := if i < g.np then (if inn = true then decide (rMi g i got m < g.miss) else decide (g.good ≤ rGo g i got x)) else inn
/-- a view behind a round -/
def rndV (g : RndG) (v : Vw) : Vw := ⟨fun i => rIn g i (v.inn i) (v.got i) (v.miss i) (v.good i), fun i => rMi g i (v.got i) (v.miss i), fun i => rGo g i (v.got i) (v.good i), fun i => rSc g i (v.got i) (v.score i), fun i => rGt g i (v.got i), v.command, v.mode⟩
def rndL (g : RndG) (l : List AC) : List AC := .v (.bool (rIn g 0 (asB (l.getD 0 nov)) (asB (l.getD 32 nov)) (asI (l.getD 8 nov)) (asI (l.getD 16 nov)))) :: .v (.bool (rIn g 1 (asB (l.getD 1 nov)) (asB (l.getD 33 nov)) (asI (l.getD 9 nov)) (asI (l.getD 17 nov)))) :: .v (.bool (rIn g 2 (asB (l.getD 2 nov)) (asB (l.getD 34 nov)) (asI (l.getD 10 nov)) (asI (l.getD 18 nov)))) :: .v (.bool (rIn g 3 (asB (l.getD 3 nov)) (asB (l.getD 35 nov)) (asI (l.getD 11 nov)) (asI (l.getD 19 nov)))) :: .v (.bool (rIn g 4 (asB (l.getD 4 nov)) (asB (l.getD 36 nov)) (asI (l.getD 12 nov)) (asI (l.getD 20 nov)))) :: .v (.bool (rIn g 5 (asB (l.getD 5 nov)) (asB (l.getD 37 nov)) (asI (l.getD 13 nov)) (asI (l.getD 21 nov)))) :: .v (.bool (rIn g 6 (asB (l.getD 6 nov)) (asB (l.getD 38 nov)) (asI (l.getD 14 nov)) (asI (l.getD 22 nov)))) :: .v (.bool (rIn g 7 (asB (l.getD 7 nov)) (asB (l.getD 39 nov)) (asI (l.getD 15 nov)) (asI (l.getD 23 nov)))) :: .v (.int .u8 (rMi g 0 (asB (l.getD 32 nov)) (asI (l.getD 8 nov)))) :: .v (.int .u8 (rMi g 1 (asB (l.getD 33 nov)) (asI (l.getD 9 nov)))) :: .v (.int .u8 (rMi g 2 (asB (l.getD 34 nov)) (asI (l.getD 10 nov)))) :: .v (.int .u8 (rMi g 3 (asB (l.getD 35 nov)) (asI (l.getD 11 nov)))) :: .v (.int .u8 (rMi g 4 (asB (l.getD 36 nov)) (asI (l.getD 12 nov)))) :: .v (.int .u8 (rMi g 5 (asB (l.getD 37 nov)) (asI (l.getD 13 nov)))) :: .v (.int .u8 (rMi g 6 (asB (l.getD 38 nov)) (asI (l.getD 14 nov)))) :: .v (.int .u8 (rMi g 7 (asB (l.getD 39 nov)) (asI (l.getD 15 nov)))) :: .v (.int .u8 (rGo g 0 (asB (l.getD 32 nov)) (asI (l.getD 16 nov)))) :: .v (.int .u8 (rGo g 1 (asB (l.getD 33 nov)) (asI (l.getD 17 nov)))) :: .v (.int .u8 (rGo g 2 (asB (l.getD 34 nov)) (asI (l.getD 18 nov)))) :: .v (.int .u8 (rGo g 3 (asB (l.getD 35 nov)) (asI (l.getD 19 nov)))) :: .v (.int .u8 (rGo g 4 (asB (l.getD 36 nov)) (asI (l.getD 20 nov)))) :: .v (.int .u8 (rGo g 5 (asB (l.getD 37 nov)) (asI (l.getD 21 nov)))) :: .v (.int .u8 (rGo g 6 (asB (l.getD 38 nov)) (asI (l.getD 22 nov)))) :: .v (.int .u8 (rGo g 7 (asB (l.getD 39 nov)) (asI (l.getD 23 nov)))) :: .v (.int .u16 (rSc g 0 (asB (l.getD 32 nov)) (asI (l.getD 24 nov)))) :: .v (.int .u16 (rSc g 1 (asB (l.getD 33 nov)) (asI (l.getD 25 nov)))) :: .v (.int .u16 (rSc g 2 (asB (l.getD 34 nov)) (asI (l.getD 26 nov)))) :: .v (.int .u16 (rSc g 3 (asB (l.getD 35 nov)) (asI (l.getD 27 nov)))) :: .v (.int .u16 (rSc g 4 (asB (l.getD 36 nov)) (asI (l.getD 28 nov)))) :: .v (.int .u16 (rSc g 5 (asB (l.getD 37 nov)) (asI (l.getD 29 nov)))) :: .v (.int .u16 (rSc g 6 (asB (l.getD 38 nov)) (asI (l.getD 30 nov)))) :: .v (.int .u16 (rSc g 7 (asB (l.getD 39 nov)) (asI (l.getD 31 nov)))) :: .v (.bool (rGt g 0 (asB (l.getD 32 nov)))) :: .v (.bool (rGt g 1 (asB (l.getD 33 nov)))) :: .v (.bool (rGt g 2 (asB (l.getD 34 nov)))) :: .v (.bool (rGt g 3 (asB (l.getD 35 nov)))) :: .v (.bool (rGt g 4 (asB (l.getD 36 nov)))) :: .v (.bool (rGt g 5 (asB (l.getD 37 nov)))) :: .v (.bool (rGt g 6 (asB (l.getD 38 nov)))) :: .v (.bool (rGt g 7 (asB (l.getD 39 nov)))) :: .v (.int .i8 (asI (l.getD 40 nov))) :: .v (.int .u8 (asI (l.getD 41 nov))) :: []
theorem rndL_eq (g : RndG) (v : Vw) : rndL g (vwL v) = vwL (rndV g v) := rfl
/-- a view in which one pair's cells are other ones -/
def updV (k : Nat) (a : Bool) (m x s : Int) (t : Bool) (u : Vw) : Vw := ⟨fun i => if i = k then a else u.inn i, fun i => if i = k then m else u.miss i, fun i => if i = k then x else u.good i, fun i => if i = k then s else u.score i, fun i => if i = k then t else u.got i, u.command, u.mode⟩
/-- a view behind a pair's being heard, if there is such a pair -/
def hGt (h : Bool) (s : Int) (i : Nat) (got : Bool) : Bool := (decide (s = (i : Int)) && h) || got
def hrdV (h : Bool) (s : Int) (v : Vw) : Vw := { v with got := fun i => hGt h s i (v.got i) }
def hrdL (h : Bool) (s : Int) (l : List AC) : List AC := .v (.bool (asB (l.getD 0 nov))) :: .v (.bool (asB (l.getD 1 nov))) :: .v (.bool (asB (l.getD 2 nov))) :: .v (.bool (asB (l.getD 3 nov))) :: .v (.bool (asB (l.getD 4 nov))) :: .v (.bool (asB (l.getD 5 nov))) :: .v (.bool (asB (l.getD 6 nov))) :: .v (.bool (asB (l.getD 7 nov))) :: .v (.int .u8 (asI (l.getD 8 nov))) :: .v (.int .u8 (asI (l.getD 9 nov))) :: .v (.int .u8 (asI (l.getD 10 nov))) :: .v (.int .u8 (asI (l.getD 11 nov))) :: .v (.int .u8 (asI (l.getD 12 nov))) :: .v (.int .u8 (asI (l.getD 13 nov))) :: .v (.int .u8 (asI (l.getD 14 nov))) :: .v (.int .u8 (asI (l.getD 15 nov))) :: .v (.int .u8 (asI (l.getD 16 nov))) :: .v (.int .u8 (asI (l.getD 17 nov))) :: .v (.int .u8 (asI (l.getD 18 nov))) :: .v (.int .u8 (asI (l.getD 19 nov))) :: .v (.int .u8 (asI (l.getD 20 nov))) :: .v (.int .u8 (asI (l.getD 21 nov))) :: .v (.int .u8 (asI (l.getD 22 nov))) :: .v (.int .u8 (asI (l.getD 23 nov))) :: .v (.int .u16 (asI (l.getD 24 nov))) :: .v (.int .u16 (asI (l.getD 25 nov))) :: .v (.int .u16 (asI (l.getD 26 nov))) :: .v (.int .u16 (asI (l.getD 27 nov))) :: .v (.int .u16 (asI (l.getD 28 nov))) :: .v (.int .u16 (asI (l.getD 29 nov))) :: .v (.int .u16 (asI (l.getD 30 nov))) :: .v (.int .u16 (asI (l.getD 31 nov))) :: .v (.bool (hGt h s 0 (asB (l.getD 32 nov)))) :: .v (.bool (hGt h s 1 (asB (l.getD 33 nov)))) :: .v (.bool (hGt h s 2 (asB (l.getD 34 nov)))) :: .v (.bool (hGt h s 3 (asB (l.getD 35 nov)))) :: .v (.bool (hGt h s 4 (asB (l.getD 36 nov)))) :: .v (.bool (hGt h s 5 (asB (l.getD 37 nov)))) :: .v (.bool (hGt h s 6 (asB (l.getD 38 nov)))) :: .v (.bool (hGt h s 7 (asB (l.getD 39 nov)))) :: .v (.int .i8 (asI (l.getD 40 nov))) :: .v (.int .u8 (asI (l.getD 41 nov))) :: []
theorem hrdL_eq (h : Bool) (s : Int) (v : Vw) : hrdL h s (vwL v) = vwL (hrdV h s v) := rfl
/-- may a pair be so? 't': is there such a pair -/
def mOne (t : Nat → Bool) (i : Nat) (inn got : Bool) (m g s : Int) : Bool := (t i || (!inn && (!got && (decide (m = 0) && (decide (g = 0) && decide (s = 0)))))) && (decide (m ≤ 100) && (decide (g ≤ 100) && decide (s ≤ 1000)))
def mayP (t : Nat → Bool) (v : Vw) (p : Nat) : Bool := mOne t p (v.inn p) (v.got p) (v.miss p) (v.good p) (v.score p)
def mayL (t : Nat → Bool) (l : List AC) : Bool := mOne t 0 (asB (l.getD 0 nov)) (asB (l.getD 32 nov)) (asI (l.getD 8 nov)) (asI (l.getD 16 nov)) (asI (l.getD 24 nov)) && mOne t 1 (asB (l.getD 1 nov)) (asB (l.getD 33 nov)) (asI (l.getD 9 nov)) (asI (l.getD 17 nov)) (asI (l.getD 25 nov)) && mOne t 2 (asB (l.getD 2 nov)) (asB (l.getD 34 nov)) (asI (l.getD 10 nov)) (asI (l.getD 18 nov)) (asI (l.getD 26 nov)) && mOne t 3 (asB (l.getD 3 nov)) (asB (l.getD 35 nov)) (asI (l.getD 11 nov)) (asI (l.getD 19 nov)) (asI (l.getD 27 nov)) && mOne t 4 (asB (l.getD 4 nov)) (asB (l.getD 36 nov)) (asI (l.getD 12 nov)) (asI (l.getD 20 nov)) (asI (l.getD 28 nov)) && mOne t 5 (asB (l.getD 5 nov)) (asB (l.getD 37 nov)) (asI (l.getD 13 nov)) (asI (l.getD 21 nov)) (asI (l.getD 29 nov)) && mOne t 6 (asB (l.getD 6 nov)) (asB (l.getD 38 nov)) (asI (l.getD 14 nov)) (asI (l.getD 22 nov)) (asI (l.getD 30 nov)) && mOne t 7 (asB (l.getD 7 nov)) (asB (l.getD 39 nov)) (asI (l.getD 15 nov)) (asI (l.getD 23 nov)) (asI (l.getD 31 nov))
theorem mayL_eq (t : Nat → Bool) (v : Vw) : mayL t (vwL v) = (List.range 8).all (mayP t v) := by
  simp [mayL, mayP, List.range, List.range.loop, Bool.and_assoc]
  rfl
theorem mayL_iff (t : Nat → Bool) (v : Vw) : mayL t (vwL v) = true ↔ ∀ p, p < 8 → mayP t v p = true := by
  rw [mayL_eq, List.all_eq_true]
  constructor
  · intro h p hp; exact h p (List.mem_range.2 hp)
  · intro h p hp; exact h p (List.mem_range.1 hp)
end Go.Proofs.YthekiiagacnhkaaDoor
end
