/- The structures of TyDefs at this seat's numbers: load, store, build, zero, '=='. Printed by wip/gen_types.py. -/
import Derived.Test.YtjmiocacnilchaaJReportsOne2
import Derived.Test.YtjmiocacnilchaaChecked
set_option linter.unusedSimpArgs false
set_option linter.unusedVariables false
section
namespace Go.Proofs.Ytjmiocacnilchaa
open Go.RowKit
theorem Payload.rw_ld (x : Value) : Instr.loadAt 39 x = ldAt 39 x := rfl
theorem Payload.run_ld (w : World) (b o : Nat) : (ldAt 39 (.pointer (some ⟨b, o, none⟩))).run Try.prog w = (grab w b o 4).elim (ldAlt Try.prog 39 ⟨b, o, none⟩ w) (fun cs => .ok (.agg cs.toArray) w) := run_ldAt (by kernel_rfl) w b o
theorem Payload.rw_st (x v : Value) : Instr.storeAt 39 x v = stAt 39 x v := rfl
theorem Payload.run_st (w : World) (b o : Nat) (vs : List Value) : (stAt 39 (.pointer (some ⟨b, o, none⟩)) (.agg vs.toArray)).run Try.prog w = if putOk w b o 4 = true ∧ vs.length = 4 ∧ allOne vs = true then .ok () (put w b o vs) else stAlt Try.prog 39 ⟨b, o, none⟩ (.agg vs.toArray) w := run_stAt (by kernel_rfl) w b o vs
theorem Payload.rw_bd (parts : Array (Nat × Value)) : Instr.build 39 parts = bdAt 39 parts := rfl
theorem Payload.run_bd (parts : Array (Nat × Value)) (w : World) : (bdAt 39 parts).run Try.prog w = (bld [(0, 1), (1, 1), (2, 1), (3, 1)] Payload.zero.cells parts.toList).elim (bdAlt Try.prog 39 parts w) (fun cs => .ok (.agg cs.toArray) w) := run_bdAt (by kernel_rfl) parts w
theorem Payload.rw_zv : zeroValue 39 = zvAt 39 := rfl
theorem Payload.run_zv (w : World) : (zvAt 39).run Try.prog w = .ok (.agg Payload.zero.cells.toArray) w := by kernel_rfl
attribute [go_sem ↓ high] Payload.rw_ld Payload.rw_st Payload.rw_bd Payload.rw_zv
attribute [go_sem] Payload.run_ld Payload.run_st Payload.run_bd Payload.run_zv
theorem Payload.flat : flatOf Try.prog 9 39 = some Payload.ks := by kernel_rfl
theorem Payload.cellsOf : Try.prog.cellsOf 39 = 4 := by kernel_rfl
theorem Payload.run_eq (x y : Payload) (w : World) : (Op.equalIn 10000 39 (.agg x.cells.toArray) (.agg y.cells.toArray)).run Try.prog w = .ok (decide (x = y)) w := by
 rw [run_equalIn_flat (by omega) Payload.flat (by kernel_rfl) x.shape y.shape w]
 congr 1
 exact decide_eq_decide.2 ⟨Payload.inj, fun h => by rw [h]⟩
attribute [go_sem high] Payload.run_eq
theorem Said.rw_ld (x : Value) : Instr.loadAt 41 x = ldAt 41 x := rfl
theorem Said.run_ld (w : World) (b o : Nat) : (ldAt 41 (.pointer (some ⟨b, o, none⟩))).run Try.prog w = (grab w b o 6).elim (ldAlt Try.prog 41 ⟨b, o, none⟩ w) (fun cs => .ok (.agg cs.toArray) w) := run_ldAt (by kernel_rfl) w b o
theorem Said.rw_st (x v : Value) : Instr.storeAt 41 x v = stAt 41 x v := rfl
theorem Said.run_st (w : World) (b o : Nat) (vs : List Value) : (stAt 41 (.pointer (some ⟨b, o, none⟩)) (.agg vs.toArray)).run Try.prog w = if putOk w b o 6 = true ∧ vs.length = 6 ∧ allOne vs = true then .ok () (put w b o vs) else stAlt Try.prog 41 ⟨b, o, none⟩ (.agg vs.toArray) w := run_stAt (by kernel_rfl) w b o vs
theorem Said.rw_bd (parts : Array (Nat × Value)) : Instr.build 41 parts = bdAt 41 parts := rfl
theorem Said.run_bd (parts : Array (Nat × Value)) (w : World) : (bdAt 41 parts).run Try.prog w = (bld [(0, 1), (1, 1), (2, 4)] Said.zero.cells parts.toList).elim (bdAlt Try.prog 41 parts w) (fun cs => .ok (.agg cs.toArray) w) := run_bdAt (by kernel_rfl) parts w
theorem Said.rw_zv : zeroValue 41 = zvAt 41 := rfl
theorem Said.run_zv (w : World) : (zvAt 41).run Try.prog w = .ok (.agg Said.zero.cells.toArray) w := by kernel_rfl
attribute [go_sem ↓ high] Said.rw_ld Said.rw_st Said.rw_bd Said.rw_zv
attribute [go_sem] Said.run_ld Said.run_st Said.run_bd Said.run_zv
theorem Said.flat : flatOf Try.prog 9 41 = some Said.ks := by kernel_rfl
theorem Said.cellsOf : Try.prog.cellsOf 41 = 6 := by kernel_rfl
theorem Said.run_eq (x y : Said) (w : World) : (Op.equalIn 10000 41 (.agg x.cells.toArray) (.agg y.cells.toArray)).run Try.prog w = .ok (decide (x = y)) w := by
 rw [run_equalIn_flat (by omega) Said.flat (by kernel_rfl) x.shape y.shape w]
 congr 1
 exact decide_eq_decide.2 ⟨Said.inj, fun h => by rw [h]⟩
attribute [go_sem high] Said.run_eq
theorem View.rw_ld (x : Value) : Instr.loadAt 49 x = ldAt 49 x := rfl
theorem View.run_ld (w : World) (b o : Nat) : (ldAt 49 (.pointer (some ⟨b, o, none⟩))).run Try.prog w = (grab w b o 42).elim (ldAlt Try.prog 49 ⟨b, o, none⟩ w) (fun cs => .ok (.agg cs.toArray) w) := run_ldAt (by kernel_rfl) w b o
theorem View.rw_st (x v : Value) : Instr.storeAt 49 x v = stAt 49 x v := rfl
theorem View.run_st (w : World) (b o : Nat) (vs : List Value) : (stAt 49 (.pointer (some ⟨b, o, none⟩)) (.agg vs.toArray)).run Try.prog w = if putOk w b o 42 = true ∧ vs.length = 42 ∧ allOne vs = true then .ok () (put w b o vs) else stAlt Try.prog 49 ⟨b, o, none⟩ (.agg vs.toArray) w := run_stAt (by kernel_rfl) w b o vs
theorem View.rw_bd (parts : Array (Nat × Value)) : Instr.build 49 parts = bdAt 49 parts := rfl
theorem View.run_bd (parts : Array (Nat × Value)) (w : World) : (bdAt 49 parts).run Try.prog w = (bld [(0, 8), (8, 8), (16, 8), (24, 8), (32, 8), (40, 1), (41, 1)] View.zero.cells parts.toList).elim (bdAlt Try.prog 49 parts w) (fun cs => .ok (.agg cs.toArray) w) := run_bdAt (by kernel_rfl) parts w
theorem View.rw_zv : zeroValue 49 = zvAt 49 := rfl
theorem View.run_zv (w : World) : (zvAt 49).run Try.prog w = .ok (.agg View.zero.cells.toArray) w := by kernel_rfl
attribute [go_sem ↓ high] View.rw_ld View.rw_st View.rw_bd View.rw_zv
attribute [go_sem] View.run_ld View.run_st View.run_bd View.run_zv
theorem View.flat : flatOf Try.prog 9 49 = some View.ks := by kernel_rfl
theorem View.cellsOf : Try.prog.cellsOf 49 = 42 := by kernel_rfl
theorem View.run_eq (x y : View) (w : World) : (Op.equalIn 10000 49 (.agg x.cells.toArray) (.agg y.cells.toArray)).run Try.prog w = .ok (decide (x = y)) w := by
 rw [run_equalIn_flat (by omega) View.flat (by kernel_rfl) x.shape y.shape w]
 congr 1
 exact decide_eq_decide.2 ⟨View.inj, fun h => by rw [h]⟩
attribute [go_sem high] View.run_eq
theorem Cell.rw_ld (x : Value) : Instr.loadAt 51 x = ldAt 51 x := rfl
theorem Cell.run_ld (w : World) (b o : Nat) : (ldAt 51 (.pointer (some ⟨b, o, none⟩))).run Try.prog w = (grab w b o 55).elim (ldAlt Try.prog 51 ⟨b, o, none⟩ w) (fun cs => .ok (.agg cs.toArray) w) := run_ldAt (by kernel_rfl) w b o
theorem Cell.rw_st (x v : Value) : Instr.storeAt 51 x v = stAt 51 x v := rfl
theorem Cell.run_st (w : World) (b o : Nat) (vs : List Value) : (stAt 51 (.pointer (some ⟨b, o, none⟩)) (.agg vs.toArray)).run Try.prog w = if putOk w b o 55 = true ∧ vs.length = 55 ∧ allOne vs = true then .ok () (put w b o vs) else stAlt Try.prog 51 ⟨b, o, none⟩ (.agg vs.toArray) w := run_stAt (by kernel_rfl) w b o vs
theorem Cell.rw_bd (parts : Array (Nat × Value)) : Instr.build 51 parts = bdAt 51 parts := rfl
theorem Cell.run_bd (parts : Array (Nat × Value)) (w : World) : (bdAt 51 parts).run Try.prog w = (bld [(0, 1), (1, 6), (7, 6), (13, 42)] Cell.zero.cells parts.toList).elim (bdAlt Try.prog 51 parts w) (fun cs => .ok (.agg cs.toArray) w) := run_bdAt (by kernel_rfl) parts w
theorem Cell.rw_zv : zeroValue 51 = zvAt 51 := rfl
theorem Cell.run_zv (w : World) : (zvAt 51).run Try.prog w = .ok (.agg Cell.zero.cells.toArray) w := by kernel_rfl
attribute [go_sem ↓ high] Cell.rw_ld Cell.rw_st Cell.rw_bd Cell.rw_zv
attribute [go_sem] Cell.run_ld Cell.run_st Cell.run_bd Cell.run_zv
theorem Cell.flat : flatOf Try.prog 9 51 = some Cell.ks := by kernel_rfl
theorem Cell.cellsOf : Try.prog.cellsOf 51 = 55 := by kernel_rfl
theorem Cell.run_eq (x y : Cell) (w : World) : (Op.equalIn 10000 51 (.agg x.cells.toArray) (.agg y.cells.toArray)).run Try.prog w = .ok (decide (x = y)) w := by
 rw [run_equalIn_flat (by omega) Cell.flat (by kernel_rfl) x.shape y.shape w]
 congr 1
 exact decide_eq_decide.2 ⟨Cell.inj, fun h => by rw [h]⟩
attribute [go_sem high] Cell.run_eq
theorem Held.rw_ld (x : Value) : Instr.loadAt 53 x = ldAt 53 x := rfl
theorem Held.run_ld (w : World) (b o : Nat) : (ldAt 53 (.pointer (some ⟨b, o, none⟩))).run Try.prog w = (grab w b o 56).elim (ldAlt Try.prog 53 ⟨b, o, none⟩ w) (fun cs => .ok (.agg cs.toArray) w) := run_ldAt (by kernel_rfl) w b o
theorem Held.rw_st (x v : Value) : Instr.storeAt 53 x v = stAt 53 x v := rfl
theorem Held.run_st (w : World) (b o : Nat) (vs : List Value) : (stAt 53 (.pointer (some ⟨b, o, none⟩)) (.agg vs.toArray)).run Try.prog w = if putOk w b o 56 = true ∧ vs.length = 56 ∧ allOne vs = true then .ok () (put w b o vs) else stAlt Try.prog 53 ⟨b, o, none⟩ (.agg vs.toArray) w := run_stAt (by kernel_rfl) w b o vs
theorem Held.rw_bd (parts : Array (Nat × Value)) : Instr.build 53 parts = bdAt 53 parts := rfl
theorem Held.run_bd (parts : Array (Nat × Value)) (w : World) : (bdAt 53 parts).run Try.prog w = (bld [(0, 1), (1, 55)] Held.zero.cells parts.toList).elim (bdAlt Try.prog 53 parts w) (fun cs => .ok (.agg cs.toArray) w) := run_bdAt (by kernel_rfl) parts w
theorem Held.rw_zv : zeroValue 53 = zvAt 53 := rfl
theorem Held.run_zv (w : World) : (zvAt 53).run Try.prog w = .ok (.agg Held.zero.cells.toArray) w := by kernel_rfl
attribute [go_sem ↓ high] Held.rw_ld Held.rw_st Held.rw_bd Held.rw_zv
attribute [go_sem] Held.run_ld Held.run_st Held.run_bd Held.run_zv
theorem Held.flat : flatOf Try.prog 9 53 = some Held.ks := by kernel_rfl
theorem Held.cellsOf : Try.prog.cellsOf 53 = 56 := by kernel_rfl
theorem Held.run_eq (x y : Held) (w : World) : (Op.equalIn 10000 53 (.agg x.cells.toArray) (.agg y.cells.toArray)).run Try.prog w = .ok (decide (x = y)) w := by
 rw [run_equalIn_flat (by omega) Held.flat (by kernel_rfl) x.shape y.shape w]
 congr 1
 exact decide_eq_decide.2 ⟨Held.inj, fun h => by rw [h]⟩
attribute [go_sem high] Held.run_eq
attribute [go_sem] bld List.flatMap_cons List.flatMap_nil
end Go.Proofs.Ytjmiocacnilchaa
end
