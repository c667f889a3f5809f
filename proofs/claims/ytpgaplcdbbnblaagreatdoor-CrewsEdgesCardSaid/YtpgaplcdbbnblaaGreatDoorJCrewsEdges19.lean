/- The structures of TyDefs at this seat's numbers: load, store, build, zero, '=='. Printed by wip/gen_types.py. -/
import Derived.Test.YtpgaplcdbbnblaaGreatDoorJCrewsEdges3
import Derived.Test.YtpgaplcdbbnblaaGreatDoorChecked
set_option linter.unusedSimpArgs false
set_option linter.unusedVariables false
section
namespace Go.Proofs.YtpgaplcdbbnblaaGreatDoor
open Go.RowKit
theorem Payload.rw_ld (x : Value) : Instr.loadAt 56 x = ldAt 56 x := rfl
theorem Payload.run_ld (w : World) (b o : Nat) : (ldAt 56 (.pointer (some ⟨b, o, none⟩))).run Tryz.prog w = (grab w b o 4).elim (ldAlt Tryz.prog 56 ⟨b, o, none⟩ w) (fun cs => .ok (.agg cs.toArray) w) := run_ldAt (by kernel_rfl) w b o
theorem Payload.rw_st (x v : Value) : Instr.storeAt 56 x v = stAt 56 x v := rfl
theorem Payload.run_st (w : World) (b o : Nat) (vs : List Value) : (stAt 56 (.pointer (some ⟨b, o, none⟩)) (.agg vs.toArray)).run Tryz.prog w = if putOk w b o 4 = true ∧ vs.length = 4 ∧ allOne vs = true then .ok () (put w b o vs) else stAlt Tryz.prog 56 ⟨b, o, none⟩ (.agg vs.toArray) w := run_stAt (by kernel_rfl) w b o vs
theorem Payload.rw_bd (parts : Array (Nat × Value)) : Instr.build 56 parts = bdAt 56 parts := rfl
theorem Payload.run_bd (parts : Array (Nat × Value)) (w : World) : (bdAt 56 parts).run Tryz.prog w = (bld [(0, 1), (1, 1), (2, 1), (3, 1)] Payload.zero.cells parts.toList).elim (bdAlt Tryz.prog 56 parts w) (fun cs => .ok (.agg cs.toArray) w) := run_bdAt (by kernel_rfl) parts w
theorem Payload.rw_zv : zeroValue 56 = zvAt 56 := rfl
theorem Payload.run_zv (w : World) : (zvAt 56).run Tryz.prog w = .ok (.agg Payload.zero.cells.toArray) w := by kernel_rfl
attribute [go_sem ↓ high] Payload.rw_ld Payload.rw_st Payload.rw_bd Payload.rw_zv
attribute [go_sem] Payload.run_ld Payload.run_st Payload.run_bd Payload.run_zv
theorem Payload.flat : flatOf Tryz.prog 9 56 = some Payload.ks := by kernel_rfl
theorem Payload.cellsOf : Tryz.prog.cellsOf 56 = 4 := by kernel_rfl
theorem Payload.run_eq (x y : Payload) (w : World) : (Op.equalIn 10000 56 (.agg x.cells.toArray) (.agg y.cells.toArray)).run Tryz.prog w = .ok (decide (x = y)) w := by
 rw [run_equalIn_flat (by omega) Payload.flat (by kernel_rfl) x.shape y.shape w]
 congr 1
 exact decide_eq_decide.2 ⟨Payload.inj, fun h => by rw [h]⟩
attribute [go_sem high] Payload.run_eq
theorem Said.rw_ld (x : Value) : Instr.loadAt 58 x = ldAt 58 x := rfl
theorem Said.run_ld (w : World) (b o : Nat) : (ldAt 58 (.pointer (some ⟨b, o, none⟩))).run Tryz.prog w = (grab w b o 6).elim (ldAlt Tryz.prog 58 ⟨b, o, none⟩ w) (fun cs => .ok (.agg cs.toArray) w) := run_ldAt (by kernel_rfl) w b o
theorem Said.rw_st (x v : Value) : Instr.storeAt 58 x v = stAt 58 x v := rfl
theorem Said.run_st (w : World) (b o : Nat) (vs : List Value) : (stAt 58 (.pointer (some ⟨b, o, none⟩)) (.agg vs.toArray)).run Tryz.prog w = if putOk w b o 6 = true ∧ vs.length = 6 ∧ allOne vs = true then .ok () (put w b o vs) else stAlt Tryz.prog 58 ⟨b, o, none⟩ (.agg vs.toArray) w := run_stAt (by kernel_rfl) w b o vs
theorem Said.rw_bd (parts : Array (Nat × Value)) : Instr.build 58 parts = bdAt 58 parts := rfl
theorem Said.run_bd (parts : Array (Nat × Value)) (w : World) : (bdAt 58 parts).run Tryz.prog w = (bld [(0, 1), (1, 1), (2, 4)] Said.zero.cells parts.toList).elim (bdAlt Tryz.prog 58 parts w) (fun cs => .ok (.agg cs.toArray) w) := run_bdAt (by kernel_rfl) parts w
theorem Said.rw_zv : zeroValue 58 = zvAt 58 := rfl
theorem Said.run_zv (w : World) : (zvAt 58).run Tryz.prog w = .ok (.agg Said.zero.cells.toArray) w := by kernel_rfl
attribute [go_sem ↓ high] Said.rw_ld Said.rw_st Said.rw_bd Said.rw_zv
attribute [go_sem] Said.run_ld Said.run_st Said.run_bd Said.run_zv
theorem Said.flat : flatOf Tryz.prog 9 58 = some Said.ks := by kernel_rfl
theorem Said.cellsOf : Tryz.prog.cellsOf 58 = 6 := by kernel_rfl
theorem Said.run_eq (x y : Said) (w : World) : (Op.equalIn 10000 58 (.agg x.cells.toArray) (.agg y.cells.toArray)).run Tryz.prog w = .ok (decide (x = y)) w := by
 rw [run_equalIn_flat (by omega) Said.flat (by kernel_rfl) x.shape y.shape w]
 congr 1
 exact decide_eq_decide.2 ⟨Said.inj, fun h => by rw [h]⟩
attribute [go_sem high] Said.run_eq
theorem View.rw_ld (x : Value) : Instr.loadAt 32 x = ldAt 32 x := rfl
theorem View.run_ld (w : World) (b o : Nat) : (ldAt 32 (.pointer (some ⟨b, o, none⟩))).run Tryz.prog w = (grab w b o 42).elim (ldAlt Tryz.prog 32 ⟨b, o, none⟩ w) (fun cs => .ok (.agg cs.toArray) w) := run_ldAt (by kernel_rfl) w b o
theorem View.rw_st (x v : Value) : Instr.storeAt 32 x v = stAt 32 x v := rfl
theorem View.run_st (w : World) (b o : Nat) (vs : List Value) : (stAt 32 (.pointer (some ⟨b, o, none⟩)) (.agg vs.toArray)).run Tryz.prog w = if putOk w b o 42 = true ∧ vs.length = 42 ∧ allOne vs = true then .ok () (put w b o vs) else stAlt Tryz.prog 32 ⟨b, o, none⟩ (.agg vs.toArray) w := run_stAt (by kernel_rfl) w b o vs
theorem View.rw_bd (parts : Array (Nat × Value)) : Instr.build 32 parts = bdAt 32 parts := rfl
theorem View.run_bd (parts : Array (Nat × Value)) (w : World) : (bdAt 32 parts).run Tryz.prog w = (bld [(0, 8), (8, 8), (16, 8), (24, 8), (32, 8), (40, 1), (41, 1)] View.zero.cells parts.toList).elim (bdAlt Tryz.prog 32 parts w) (fun cs => .ok (.agg cs.toArray) w) := run_bdAt (by kernel_rfl) parts w
theorem View.rw_zv : zeroValue 32 = zvAt 32 := rfl
theorem View.run_zv (w : World) : (zvAt 32).run Tryz.prog w = .ok (.agg View.zero.cells.toArray) w := by kernel_rfl
attribute [go_sem ↓ high] View.rw_ld View.rw_st View.rw_bd View.rw_zv
attribute [go_sem] View.run_ld View.run_st View.run_bd View.run_zv
theorem View.flat : flatOf Tryz.prog 9 32 = some View.ks := by kernel_rfl
theorem View.cellsOf : Tryz.prog.cellsOf 32 = 42 := by kernel_rfl
theorem View.run_eq (x y : View) (w : World) : (Op.equalIn 10000 32 (.agg x.cells.toArray) (.agg y.cells.toArray)).run Tryz.prog w = .ok (decide (x = y)) w := by
 rw [run_equalIn_flat (by omega) View.flat (by kernel_rfl) x.shape y.shape w]
 congr 1
 exact decide_eq_decide.2 ⟨View.inj, fun h => by rw [h]⟩
attribute [go_sem high] View.run_eq
theorem Cell.rw_ld (x : Value) : Instr.loadAt 92 x = ldAt 92 x := rfl
theorem Cell.run_ld (w : World) (b o : Nat) : (ldAt 92 (.pointer (some ⟨b, o, none⟩))).run Tryz.prog w = (grab w b o 55).elim (ldAlt Tryz.prog 92 ⟨b, o, none⟩ w) (fun cs => .ok (.agg cs.toArray) w) := run_ldAt (by kernel_rfl) w b o
theorem Cell.rw_st (x v : Value) : Instr.storeAt 92 x v = stAt 92 x v := rfl
theorem Cell.run_st (w : World) (b o : Nat) (vs : List Value) : (stAt 92 (.pointer (some ⟨b, o, none⟩)) (.agg vs.toArray)).run Tryz.prog w = if putOk w b o 55 = true ∧ vs.length = 55 ∧ allOne vs = true then .ok () (put w b o vs) else stAlt Tryz.prog 92 ⟨b, o, none⟩ (.agg vs.toArray) w := run_stAt (by kernel_rfl) w b o vs
theorem Cell.rw_bd (parts : Array (Nat × Value)) : Instr.build 92 parts = bdAt 92 parts := rfl
theorem Cell.run_bd (parts : Array (Nat × Value)) (w : World) : (bdAt 92 parts).run Tryz.prog w = (bld [(0, 1), (1, 6), (7, 6), (13, 42)] Cell.zero.cells parts.toList).elim (bdAlt Tryz.prog 92 parts w) (fun cs => .ok (.agg cs.toArray) w) := run_bdAt (by kernel_rfl) parts w
theorem Cell.rw_zv : zeroValue 92 = zvAt 92 := rfl
theorem Cell.run_zv (w : World) : (zvAt 92).run Tryz.prog w = .ok (.agg Cell.zero.cells.toArray) w := by kernel_rfl
attribute [go_sem ↓ high] Cell.rw_ld Cell.rw_st Cell.rw_bd Cell.rw_zv
attribute [go_sem] Cell.run_ld Cell.run_st Cell.run_bd Cell.run_zv
theorem Cell.flat : flatOf Tryz.prog 9 92 = some Cell.ks := by kernel_rfl
theorem Cell.cellsOf : Tryz.prog.cellsOf 92 = 55 := by kernel_rfl
theorem Cell.run_eq (x y : Cell) (w : World) : (Op.equalIn 10000 92 (.agg x.cells.toArray) (.agg y.cells.toArray)).run Tryz.prog w = .ok (decide (x = y)) w := by
 rw [run_equalIn_flat (by omega) Cell.flat (by kernel_rfl) x.shape y.shape w]
 congr 1
 exact decide_eq_decide.2 ⟨Cell.inj, fun h => by rw [h]⟩
attribute [go_sem high] Cell.run_eq
theorem Held.rw_ld (x : Value) : Instr.loadAt 94 x = ldAt 94 x := rfl
theorem Held.run_ld (w : World) (b o : Nat) : (ldAt 94 (.pointer (some ⟨b, o, none⟩))).run Tryz.prog w = (grab w b o 56).elim (ldAlt Tryz.prog 94 ⟨b, o, none⟩ w) (fun cs => .ok (.agg cs.toArray) w) := run_ldAt (by kernel_rfl) w b o
theorem Held.rw_st (x v : Value) : Instr.storeAt 94 x v = stAt 94 x v := rfl
theorem Held.run_st (w : World) (b o : Nat) (vs : List Value) : (stAt 94 (.pointer (some ⟨b, o, none⟩)) (.agg vs.toArray)).run Tryz.prog w = if putOk w b o 56 = true ∧ vs.length = 56 ∧ allOne vs = true then .ok () (put w b o vs) else stAlt Tryz.prog 94 ⟨b, o, none⟩ (.agg vs.toArray) w := run_stAt (by kernel_rfl) w b o vs
theorem Held.rw_bd (parts : Array (Nat × Value)) : Instr.build 94 parts = bdAt 94 parts := rfl
theorem Held.run_bd (parts : Array (Nat × Value)) (w : World) : (bdAt 94 parts).run Tryz.prog w = (bld [(0, 1), (1, 55)] Held.zero.cells parts.toList).elim (bdAlt Tryz.prog 94 parts w) (fun cs => .ok (.agg cs.toArray) w) := run_bdAt (by kernel_rfl) parts w
theorem Held.rw_zv : zeroValue 94 = zvAt 94 := rfl
theorem Held.run_zv (w : World) : (zvAt 94).run Tryz.prog w = .ok (.agg Held.zero.cells.toArray) w := by kernel_rfl
attribute [go_sem ↓ high] Held.rw_ld Held.rw_st Held.rw_bd Held.rw_zv
attribute [go_sem] Held.run_ld Held.run_st Held.run_bd Held.run_zv
theorem Held.flat : flatOf Tryz.prog 9 94 = some Held.ks := by kernel_rfl
theorem Held.cellsOf : Tryz.prog.cellsOf 94 = 56 := by kernel_rfl
theorem Held.run_eq (x y : Held) (w : World) : (Op.equalIn 10000 94 (.agg x.cells.toArray) (.agg y.cells.toArray)).run Tryz.prog w = .ok (decide (x = y)) w := by
 rw [run_equalIn_flat (by omega) Held.flat (by kernel_rfl) x.shape y.shape w]
 congr 1
 exact decide_eq_decide.2 ⟨Held.inj, fun h => by rw [h]⟩
attribute [go_sem high] Held.run_eq
attribute [go_sem] bld List.flatMap_cons List.flatMap_nil
end Go.Proofs.YtpgaplcdbbnblaaGreatDoor
end
