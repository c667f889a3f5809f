/- Parts of a proof. -/
import Derived.Test.YtfohlkhfnogmdaaGreatDoorJCrewsBound2
import Derived.Test.YtfohlkhfnogmdaaGreatDoorChecked
set_option linter.unusedSimpArgs false
set_option linter.unusedVariables false
section
namespace Go.Proofs.YtfohlkhfnogmdaaGreatDoor
open Go.RowKit
theorem Payload.rw_ld (x : Value) : Instr.loadAt 68 x = ldAt 68 x := rfl
theorem Payload.run_ld (w : World) (b o : Nat) : (ldAt 68 (.pointer (some ⟨b, o, none⟩))).run Tryz.prog w = (grab w b o 4).elim (ldAlt Tryz.prog 68 ⟨b, o, none⟩ w) (fun cs => .ok (.agg cs.toArray) w) := jj47 (by kernel_rfl) w b o
theorem Payload.rw_st (x v : Value) : Instr.storeAt 68 x v = stAt 68 x v := rfl
theorem Payload.run_st (w : World) (b o : Nat) (vs : List Value) : (stAt 68 (.pointer (some ⟨b, o, none⟩)) (.agg vs.toArray)).run Tryz.prog w = if putOk w b o 4 = true ∧ vs.length = 4 ∧ allOne vs = true then .ok () (put w b o vs) else stAlt Tryz.prog 68 ⟨b, o, none⟩ (.agg vs.toArray) w := jj52 (by kernel_rfl) w b o vs
theorem Payload.rw_bd (parts : Array (Nat × Value)) : Instr.build 68 parts = bdAt 68 parts := rfl
theorem Payload.run_bd (parts : Array (Nat × Value)) (w : World) : (bdAt 68 parts).run Tryz.prog w = (bld [(0, 1), (1, 1), (2, 1), (3, 1)] Payload.zero.cells parts.toList).elim (bdAlt Tryz.prog 68 parts w) (fun cs => .ok (.agg cs.toArray) w) := jj56 (by kernel_rfl) parts w
theorem Payload.rw_zv : zeroValue 68 = zvAt 68 := rfl
theorem Payload.run_zv (w : World) : (zvAt 68).run Tryz.prog w = .ok (.agg Payload.zero.cells.toArray) w := by kernel_rfl
attribute [go_sem ↓ high] Payload.rw_ld Payload.rw_st Payload.rw_bd Payload.rw_zv
attribute [go_sem] Payload.run_ld Payload.run_st Payload.run_bd Payload.run_zv
theorem Payload.flat : flatOf Tryz.prog 9 68 = some Payload.ks := by kernel_rfl
theorem Payload.cellsOf : Tryz.prog.cellsOf 68 = 4 := by kernel_rfl
theorem Payload.run_eq (x y : Payload) (w : World) : (Op.equalIn 10000 68 (.agg x.cells.toArray) (.agg y.cells.toArray)).run Tryz.prog w = .ok (decide (x = y)) w := by
 rw [jjp (by omega) Payload.flat (by kernel_rfl) x.shape y.shape w]; congr 1; exact decide_eq_decide.2 ⟨Payload.inj, fun h => by rw [h]⟩
attribute [go_sem high] Payload.run_eq
theorem Said.rw_ld (x : Value) : Instr.loadAt 70 x = ldAt 70 x := rfl
theorem Said.run_ld (w : World) (b o : Nat) : (ldAt 70 (.pointer (some ⟨b, o, none⟩))).run Tryz.prog w = (grab w b o 6).elim (ldAlt Tryz.prog 70 ⟨b, o, none⟩ w) (fun cs => .ok (.agg cs.toArray) w) := jj47 (by kernel_rfl) w b o
theorem Said.rw_st (x v : Value) : Instr.storeAt 70 x v = stAt 70 x v := rfl
theorem Said.run_st (w : World) (b o : Nat) (vs : List Value) : (stAt 70 (.pointer (some ⟨b, o, none⟩)) (.agg vs.toArray)).run Tryz.prog w = if putOk w b o 6 = true ∧ vs.length = 6 ∧ allOne vs = true then .ok () (put w b o vs) else stAlt Tryz.prog 70 ⟨b, o, none⟩ (.agg vs.toArray) w := jj52 (by kernel_rfl) w b o vs
theorem Said.rw_bd (parts : Array (Nat × Value)) : Instr.build 70 parts = bdAt 70 parts := rfl
theorem Said.run_bd (parts : Array (Nat × Value)) (w : World) : (bdAt 70 parts).run Tryz.prog w = (bld [(0, 1), (1, 1), (2, 4)] Said.zero.cells parts.toList).elim (bdAlt Tryz.prog 70 parts w) (fun cs => .ok (.agg cs.toArray) w) := jj56 (by kernel_rfl) parts w
theorem Said.rw_zv : zeroValue 70 = zvAt 70 := rfl
theorem Said.run_zv (w : World) : (zvAt 70).run Tryz.prog w = .ok (.agg Said.zero.cells.toArray) w := by kernel_rfl
attribute [go_sem ↓ high] Said.rw_ld Said.rw_st Said.rw_bd Said.rw_zv
attribute [go_sem] Said.run_ld Said.run_st Said.run_bd Said.run_zv
theorem Said.flat : flatOf Tryz.prog 9 70 = some Said.ks := by kernel_rfl
theorem Said.cellsOf : Tryz.prog.cellsOf 70 = 6 := by kernel_rfl
theorem Said.run_eq (x y : Said) (w : World) : (Op.equalIn 10000 70 (.agg x.cells.toArray) (.agg y.cells.toArray)).run Tryz.prog w = .ok (decide (x = y)) w := by
 rw [jjp (by omega) Said.flat (by kernel_rfl) x.shape y.shape w]; congr 1; exact decide_eq_decide.2 ⟨Said.inj, fun h => by rw [h]⟩
attribute [go_sem high] Said.run_eq
theorem View.rw_ld (x : Value) : Instr.loadAt 59 x = ldAt 59 x := rfl
theorem View.run_ld (w : World) (b o : Nat) : (ldAt 59 (.pointer (some ⟨b, o, none⟩))).run Tryz.prog w = (grab w b o 42).elim (ldAlt Tryz.prog 59 ⟨b, o, none⟩ w) (fun cs => .ok (.agg cs.toArray) w) := jj47 (by kernel_rfl) w b o
theorem View.rw_st (x v : Value) : Instr.storeAt 59 x v = stAt 59 x v := rfl
theorem View.run_st (w : World) (b o : Nat) (vs : List Value) : (stAt 59 (.pointer (some ⟨b, o, none⟩)) (.agg vs.toArray)).run Tryz.prog w = if putOk w b o 42 = true ∧ vs.length = 42 ∧ allOne vs = true then .ok () (put w b o vs) else stAlt Tryz.prog 59 ⟨b, o, none⟩ (.agg vs.toArray) w := jj52 (by kernel_rfl) w b o vs
theorem View.rw_bd (parts : Array (Nat × Value)) : Instr.build 59 parts = bdAt 59 parts := rfl
theorem View.run_bd (parts : Array (Nat × Value)) (w : World) : (bdAt 59 parts).run Tryz.prog w = (bld [(0, 8), (8, 8), (16, 8), (24, 8), (32, 8), (40, 1), (41, 1)] View.zero.cells parts.toList).elim (bdAlt Tryz.prog 59 parts w) (fun cs => .ok (.agg cs.toArray) w) := jj56 (by kernel_rfl) parts w
theorem View.rw_zv : zeroValue 59 = zvAt 59 := rfl
theorem View.run_zv (w : World) : (zvAt 59).run Tryz.prog w = .ok (.agg View.zero.cells.toArray) w := by kernel_rfl
attribute [go_sem ↓ high] View.rw_ld View.rw_st View.rw_bd View.rw_zv
attribute [go_sem] View.run_ld View.run_st View.run_bd View.run_zv
theorem View.flat : flatOf Tryz.prog 9 59 = some View.ks := by kernel_rfl
theorem View.cellsOf : Tryz.prog.cellsOf 59 = 42 := by kernel_rfl
theorem View.run_eq (x y : View) (w : World) : (Op.equalIn 10000 59 (.agg x.cells.toArray) (.agg y.cells.toArray)).run Tryz.prog w = .ok (decide (x = y)) w := by
 rw [jjp (by omega) View.flat (by kernel_rfl) x.shape y.shape w]; congr 1; exact decide_eq_decide.2 ⟨View.inj, fun h => by rw [h]⟩
attribute [go_sem high] View.run_eq
theorem Cell.rw_ld (x : Value) : Instr.loadAt 143 x = ldAt 143 x := rfl
theorem Cell.run_ld (w : World) (b o : Nat) : (ldAt 143 (.pointer (some ⟨b, o, none⟩))).run Tryz.prog w = (grab w b o 55).elim (ldAlt Tryz.prog 143 ⟨b, o, none⟩ w) (fun cs => .ok (.agg cs.toArray) w) := jj47 (by kernel_rfl) w b o
theorem Cell.rw_st (x v : Value) : Instr.storeAt 143 x v = stAt 143 x v := rfl
theorem Cell.run_st (w : World) (b o : Nat) (vs : List Value) : (stAt 143 (.pointer (some ⟨b, o, none⟩)) (.agg vs.toArray)).run Tryz.prog w = if putOk w b o 55 = true ∧ vs.length = 55 ∧ allOne vs = true then .ok () (put w b o vs) else stAlt Tryz.prog 143 ⟨b, o, none⟩ (.agg vs.toArray) w := jj52 (by kernel_rfl) w b o vs
theorem Cell.rw_bd (parts : Array (Nat × Value)) : Instr.build 143 parts = bdAt 143 parts := rfl
theorem Cell.run_bd (parts : Array (Nat × Value)) (w : World) : (bdAt 143 parts).run Tryz.prog w = (bld [(0, 1), (1, 6), (7, 6), (13, 42)] Cell.zero.cells parts.toList).elim (bdAlt Tryz.prog 143 parts w) (fun cs => .ok (.agg cs.toArray) w) := jj56 (by kernel_rfl) parts w
theorem Cell.rw_zv : zeroValue 143 = zvAt 143 := rfl
theorem Cell.run_zv (w : World) : (zvAt 143).run Tryz.prog w = .ok (.agg Cell.zero.cells.toArray) w := by kernel_rfl
attribute [go_sem ↓ high] Cell.rw_ld Cell.rw_st Cell.rw_bd Cell.rw_zv
attribute [go_sem] Cell.run_ld Cell.run_st Cell.run_bd Cell.run_zv
theorem Cell.flat : flatOf Tryz.prog 9 143 = some Cell.ks := by kernel_rfl
theorem Cell.cellsOf : Tryz.prog.cellsOf 143 = 55 := by kernel_rfl
theorem Cell.run_eq (x y : Cell) (w : World) : (Op.equalIn 10000 143 (.agg x.cells.toArray) (.agg y.cells.toArray)).run Tryz.prog w = .ok (decide (x = y)) w := by
 rw [jjp (by omega) Cell.flat (by kernel_rfl) x.shape y.shape w]; congr 1; exact decide_eq_decide.2 ⟨Cell.inj, fun h => by rw [h]⟩
attribute [go_sem high] Cell.run_eq
theorem Held.rw_ld (x : Value) : Instr.loadAt 145 x = ldAt 145 x := rfl
theorem Held.run_ld (w : World) (b o : Nat) : (ldAt 145 (.pointer (some ⟨b, o, none⟩))).run Tryz.prog w = (grab w b o 56).elim (ldAlt Tryz.prog 145 ⟨b, o, none⟩ w) (fun cs => .ok (.agg cs.toArray) w) := jj47 (by kernel_rfl) w b o
theorem Held.rw_st (x v : Value) : Instr.storeAt 145 x v = stAt 145 x v := rfl
theorem Held.run_st (w : World) (b o : Nat) (vs : List Value) : (stAt 145 (.pointer (some ⟨b, o, none⟩)) (.agg vs.toArray)).run Tryz.prog w = if putOk w b o 56 = true ∧ vs.length = 56 ∧ allOne vs = true then .ok () (put w b o vs) else stAlt Tryz.prog 145 ⟨b, o, none⟩ (.agg vs.toArray) w := jj52 (by kernel_rfl) w b o vs
theorem Held.rw_bd (parts : Array (Nat × Value)) : Instr.build 145 parts = bdAt 145 parts := rfl
theorem Held.run_bd (parts : Array (Nat × Value)) (w : World) : (bdAt 145 parts).run Tryz.prog w = (bld [(0, 1), (1, 55)] Held.zero.cells parts.toList).elim (bdAlt Tryz.prog 145 parts w) (fun cs => .ok (.agg cs.toArray) w) := jj56 (by kernel_rfl) parts w
theorem Held.rw_zv : zeroValue 145 = zvAt 145 := rfl
theorem Held.run_zv (w : World) : (zvAt 145).run Tryz.prog w = .ok (.agg Held.zero.cells.toArray) w := by kernel_rfl
attribute [go_sem ↓ high] Held.rw_ld Held.rw_st Held.rw_bd Held.rw_zv
attribute [go_sem] Held.run_ld Held.run_st Held.run_bd Held.run_zv
theorem Held.flat : flatOf Tryz.prog 9 145 = some Held.ks := by kernel_rfl
theorem Held.cellsOf : Tryz.prog.cellsOf 145 = 56 := by kernel_rfl
theorem Held.run_eq (x y : Held) (w : World) : (Op.equalIn 10000 145 (.agg x.cells.toArray) (.agg y.cells.toArray)).run Tryz.prog w = .ok (decide (x = y)) w := by
 rw [jjp (by omega) Held.flat (by kernel_rfl) x.shape y.shape w]; congr 1; exact decide_eq_decide.2 ⟨Held.inj, fun h => by rw [h]⟩
attribute [go_sem high] Held.run_eq
attribute [go_sem] bld List.flatMap_cons List.flatMap_nil
end Go.Proofs.YtfohlkhfnogmdaaGreatDoor
end
