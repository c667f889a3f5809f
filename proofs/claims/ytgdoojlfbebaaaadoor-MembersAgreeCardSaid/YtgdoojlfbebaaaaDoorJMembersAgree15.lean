/- The structures of TyDefs at this seat's numbers: load, store, build, zero, '=='. Printed by wip/gen_types.py. -/
import Derived.Test.YtgdoojlfbebaaaaDoorJMembersAgree2
import Derived.Test.YtgdoojlfbebaaaaDoorChecked
set_option linter.unusedSimpArgs false
set_option linter.unusedVariables false
section
namespace Go.Proofs.YtgdoojlfbebaaaaDoor
open Go.RowKit
theorem Payload.rw_ld (x : Value) : Instr.loadAt 44 x = ldAt 44 x := rfl
theorem Payload.run_ld (w : World) (b o : Nat) : (ldAt 44 (.pointer (some ⟨b, o, none⟩))).run Tryd.prog w = (grab w b o 4).elim (ldAlt Tryd.prog 44 ⟨b, o, none⟩ w) (fun cs => .ok (.agg cs.toArray) w) := run_ldAt (by kernel_rfl) w b o
theorem Payload.rw_st (x v : Value) : Instr.storeAt 44 x v = stAt 44 x v := rfl
theorem Payload.run_st (w : World) (b o : Nat) (vs : List Value) : (stAt 44 (.pointer (some ⟨b, o, none⟩)) (.agg vs.toArray)).run Tryd.prog w = if putOk w b o 4 = true ∧ vs.length = 4 ∧ allOne vs = true then .ok () (put w b o vs) else stAlt Tryd.prog 44 ⟨b, o, none⟩ (.agg vs.toArray) w := run_stAt (by kernel_rfl) w b o vs
theorem Payload.rw_bd (parts : Array (Nat × Value)) : Instr.build 44 parts = bdAt 44 parts := rfl
theorem Payload.run_bd (parts : Array (Nat × Value)) (w : World) : (bdAt 44 parts).run Tryd.prog w = (bld [(0, 1), (1, 1), (2, 1), (3, 1)] Payload.zero.cells parts.toList).elim (bdAlt Tryd.prog 44 parts w) (fun cs => .ok (.agg cs.toArray) w) := run_bdAt (by kernel_rfl) parts w
theorem Payload.rw_zv : zeroValue 44 = zvAt 44 := rfl
theorem Payload.run_zv (w : World) : (zvAt 44).run Tryd.prog w = .ok (.agg Payload.zero.cells.toArray) w := by kernel_rfl
attribute [go_sem ↓ high] Payload.rw_ld Payload.rw_st Payload.rw_bd Payload.rw_zv
attribute [go_sem] Payload.run_ld Payload.run_st Payload.run_bd Payload.run_zv
theorem Payload.flat : flatOf Tryd.prog 9 44 = some Payload.ks := by kernel_rfl
theorem Payload.cellsOf : Tryd.prog.cellsOf 44 = 4 := by kernel_rfl
theorem Payload.run_eq (x y : Payload) (w : World) : (Op.equalIn 10000 44 (.agg x.cells.toArray) (.agg y.cells.toArray)).run Tryd.prog w = .ok (decide (x = y)) w := by
 rw [run_equalIn_flat (by omega) Payload.flat (by kernel_rfl) x.shape y.shape w]
 congr 1
 exact decide_eq_decide.2 ⟨Payload.inj, fun h => by rw [h]⟩
attribute [go_sem high] Payload.run_eq
theorem Said.rw_ld (x : Value) : Instr.loadAt 54 x = ldAt 54 x := rfl
theorem Said.run_ld (w : World) (b o : Nat) : (ldAt 54 (.pointer (some ⟨b, o, none⟩))).run Tryd.prog w = (grab w b o 6).elim (ldAlt Tryd.prog 54 ⟨b, o, none⟩ w) (fun cs => .ok (.agg cs.toArray) w) := run_ldAt (by kernel_rfl) w b o
theorem Said.rw_st (x v : Value) : Instr.storeAt 54 x v = stAt 54 x v := rfl
theorem Said.run_st (w : World) (b o : Nat) (vs : List Value) : (stAt 54 (.pointer (some ⟨b, o, none⟩)) (.agg vs.toArray)).run Tryd.prog w = if putOk w b o 6 = true ∧ vs.length = 6 ∧ allOne vs = true then .ok () (put w b o vs) else stAlt Tryd.prog 54 ⟨b, o, none⟩ (.agg vs.toArray) w := run_stAt (by kernel_rfl) w b o vs
theorem Said.rw_bd (parts : Array (Nat × Value)) : Instr.build 54 parts = bdAt 54 parts := rfl
theorem Said.run_bd (parts : Array (Nat × Value)) (w : World) : (bdAt 54 parts).run Tryd.prog w = (bld [(0, 1), (1, 1), (2, 4)] Said.zero.cells parts.toList).elim (bdAlt Tryd.prog 54 parts w) (fun cs => .ok (.agg cs.toArray) w) := run_bdAt (by kernel_rfl) parts w
theorem Said.rw_zv : zeroValue 54 = zvAt 54 := rfl
theorem Said.run_zv (w : World) : (zvAt 54).run Tryd.prog w = .ok (.agg Said.zero.cells.toArray) w := by kernel_rfl
attribute [go_sem ↓ high] Said.rw_ld Said.rw_st Said.rw_bd Said.rw_zv
attribute [go_sem] Said.run_ld Said.run_st Said.run_bd Said.run_zv
theorem Said.flat : flatOf Tryd.prog 9 54 = some Said.ks := by kernel_rfl
theorem Said.cellsOf : Tryd.prog.cellsOf 54 = 6 := by kernel_rfl
theorem Said.run_eq (x y : Said) (w : World) : (Op.equalIn 10000 54 (.agg x.cells.toArray) (.agg y.cells.toArray)).run Tryd.prog w = .ok (decide (x = y)) w := by
 rw [run_equalIn_flat (by omega) Said.flat (by kernel_rfl) x.shape y.shape w]
 congr 1
 exact decide_eq_decide.2 ⟨Said.inj, fun h => by rw [h]⟩
attribute [go_sem high] Said.run_eq
theorem View.rw_ld (x : Value) : Instr.loadAt 61 x = ldAt 61 x := rfl
theorem View.run_ld (w : World) (b o : Nat) : (ldAt 61 (.pointer (some ⟨b, o, none⟩))).run Tryd.prog w = (grab w b o 42).elim (ldAlt Tryd.prog 61 ⟨b, o, none⟩ w) (fun cs => .ok (.agg cs.toArray) w) := run_ldAt (by kernel_rfl) w b o
theorem View.rw_st (x v : Value) : Instr.storeAt 61 x v = stAt 61 x v := rfl
theorem View.run_st (w : World) (b o : Nat) (vs : List Value) : (stAt 61 (.pointer (some ⟨b, o, none⟩)) (.agg vs.toArray)).run Tryd.prog w = if putOk w b o 42 = true ∧ vs.length = 42 ∧ allOne vs = true then .ok () (put w b o vs) else stAlt Tryd.prog 61 ⟨b, o, none⟩ (.agg vs.toArray) w := run_stAt (by kernel_rfl) w b o vs
theorem View.rw_bd (parts : Array (Nat × Value)) : Instr.build 61 parts = bdAt 61 parts := rfl
theorem View.run_bd (parts : Array (Nat × Value)) (w : World) : (bdAt 61 parts).run Tryd.prog w = (bld [(0, 8), (8, 8), (16, 8), (24, 8), (32, 8), (40, 1), (41, 1)] View.zero.cells parts.toList).elim (bdAlt Tryd.prog 61 parts w) (fun cs => .ok (.agg cs.toArray) w) := run_bdAt (by kernel_rfl) parts w
theorem View.rw_zv : zeroValue 61 = zvAt 61 := rfl
theorem View.run_zv (w : World) : (zvAt 61).run Tryd.prog w = .ok (.agg View.zero.cells.toArray) w := by kernel_rfl
attribute [go_sem ↓ high] View.rw_ld View.rw_st View.rw_bd View.rw_zv
attribute [go_sem] View.run_ld View.run_st View.run_bd View.run_zv
theorem View.flat : flatOf Tryd.prog 9 61 = some View.ks := by kernel_rfl
theorem View.cellsOf : Tryd.prog.cellsOf 61 = 42 := by kernel_rfl
theorem View.run_eq (x y : View) (w : World) : (Op.equalIn 10000 61 (.agg x.cells.toArray) (.agg y.cells.toArray)).run Tryd.prog w = .ok (decide (x = y)) w := by
 rw [run_equalIn_flat (by omega) View.flat (by kernel_rfl) x.shape y.shape w]
 congr 1
 exact decide_eq_decide.2 ⟨View.inj, fun h => by rw [h]⟩
attribute [go_sem high] View.run_eq
theorem Cell.rw_ld (x : Value) : Instr.loadAt 63 x = ldAt 63 x := rfl
theorem Cell.run_ld (w : World) (b o : Nat) : (ldAt 63 (.pointer (some ⟨b, o, none⟩))).run Tryd.prog w = (grab w b o 55).elim (ldAlt Tryd.prog 63 ⟨b, o, none⟩ w) (fun cs => .ok (.agg cs.toArray) w) := run_ldAt (by kernel_rfl) w b o
theorem Cell.rw_st (x v : Value) : Instr.storeAt 63 x v = stAt 63 x v := rfl
theorem Cell.run_st (w : World) (b o : Nat) (vs : List Value) : (stAt 63 (.pointer (some ⟨b, o, none⟩)) (.agg vs.toArray)).run Tryd.prog w = if putOk w b o 55 = true ∧ vs.length = 55 ∧ allOne vs = true then .ok () (put w b o vs) else stAlt Tryd.prog 63 ⟨b, o, none⟩ (.agg vs.toArray) w := run_stAt (by kernel_rfl) w b o vs
theorem Cell.rw_bd (parts : Array (Nat × Value)) : Instr.build 63 parts = bdAt 63 parts := rfl
theorem Cell.run_bd (parts : Array (Nat × Value)) (w : World) : (bdAt 63 parts).run Tryd.prog w = (bld [(0, 1), (1, 6), (7, 6), (13, 42)] Cell.zero.cells parts.toList).elim (bdAlt Tryd.prog 63 parts w) (fun cs => .ok (.agg cs.toArray) w) := run_bdAt (by kernel_rfl) parts w
theorem Cell.rw_zv : zeroValue 63 = zvAt 63 := rfl
theorem Cell.run_zv (w : World) : (zvAt 63).run Tryd.prog w = .ok (.agg Cell.zero.cells.toArray) w := by kernel_rfl
attribute [go_sem ↓ high] Cell.rw_ld Cell.rw_st Cell.rw_bd Cell.rw_zv
attribute [go_sem] Cell.run_ld Cell.run_st Cell.run_bd Cell.run_zv
theorem Cell.flat : flatOf Tryd.prog 9 63 = some Cell.ks := by kernel_rfl
theorem Cell.cellsOf : Tryd.prog.cellsOf 63 = 55 := by kernel_rfl
theorem Cell.run_eq (x y : Cell) (w : World) : (Op.equalIn 10000 63 (.agg x.cells.toArray) (.agg y.cells.toArray)).run Tryd.prog w = .ok (decide (x = y)) w := by
 rw [run_equalIn_flat (by omega) Cell.flat (by kernel_rfl) x.shape y.shape w]
 congr 1
 exact decide_eq_decide.2 ⟨Cell.inj, fun h => by rw [h]⟩
attribute [go_sem high] Cell.run_eq
theorem Held.rw_ld (x : Value) : Instr.loadAt 65 x = ldAt 65 x := rfl
theorem Held.run_ld (w : World) (b o : Nat) : (ldAt 65 (.pointer (some ⟨b, o, none⟩))).run Tryd.prog w = (grab w b o 56).elim (ldAlt Tryd.prog 65 ⟨b, o, none⟩ w) (fun cs => .ok (.agg cs.toArray) w) := run_ldAt (by kernel_rfl) w b o
theorem Held.rw_st (x v : Value) : Instr.storeAt 65 x v = stAt 65 x v := rfl
theorem Held.run_st (w : World) (b o : Nat) (vs : List Value) : (stAt 65 (.pointer (some ⟨b, o, none⟩)) (.agg vs.toArray)).run Tryd.prog w = if putOk w b o 56 = true ∧ vs.length = 56 ∧ allOne vs = true then .ok () (put w b o vs) else stAlt Tryd.prog 65 ⟨b, o, none⟩ (.agg vs.toArray) w := run_stAt (by kernel_rfl) w b o vs
theorem Held.rw_bd (parts : Array (Nat × Value)) : Instr.build 65 parts = bdAt 65 parts := rfl
theorem Held.run_bd (parts : Array (Nat × Value)) (w : World) : (bdAt 65 parts).run Tryd.prog w = (bld [(0, 1), (1, 55)] Held.zero.cells parts.toList).elim (bdAlt Tryd.prog 65 parts w) (fun cs => .ok (.agg cs.toArray) w) := run_bdAt (by kernel_rfl) parts w
theorem Held.rw_zv : zeroValue 65 = zvAt 65 := rfl
theorem Held.run_zv (w : World) : (zvAt 65).run Tryd.prog w = .ok (.agg Held.zero.cells.toArray) w := by kernel_rfl
attribute [go_sem ↓ high] Held.rw_ld Held.rw_st Held.rw_bd Held.rw_zv
attribute [go_sem] Held.run_ld Held.run_st Held.run_bd Held.run_zv
theorem Held.flat : flatOf Tryd.prog 9 65 = some Held.ks := by kernel_rfl
theorem Held.cellsOf : Tryd.prog.cellsOf 65 = 56 := by kernel_rfl
theorem Held.run_eq (x y : Held) (w : World) : (Op.equalIn 10000 65 (.agg x.cells.toArray) (.agg y.cells.toArray)).run Tryd.prog w = .ok (decide (x = y)) w := by
 rw [run_equalIn_flat (by omega) Held.flat (by kernel_rfl) x.shape y.shape w]
 congr 1
 exact decide_eq_decide.2 ⟨Held.inj, fun h => by rw [h]⟩
attribute [go_sem high] Held.run_eq
attribute [go_sem] bld List.flatMap_cons List.flatMap_nil
end Go.Proofs.YtgdoojlfbebaaaaDoor
end
