/- Parts of a proof. -/
import Derived.Test.YtljeokninakliaaGreatDoorJModelsCrew2
import Derived.Test.YtljeokninakliaaGreatDoorChecked
set_option linter.unusedSimpArgs false
set_option linter.unusedVariables false
section
namespace Go.Proofs.YtljeokninakliaaGreatDoor
open Go.RowKit Tryz
theorem Payload.rw_ld (x:Value):Instr.loadAt 49 x=U8 49 x:=rfl
theorem Payload.run_ld (w:World) (b o:Nat):(U8 49 (.pointer (some ⟨b,o,none⟩))).run prog w=(grab w b o 4).elim (SG prog 49 ⟨b,o,none⟩ w) (fun cs=>.ok (.agg cs.toArray) w):=P4 (by kernel_rfl) w b o
theorem Payload.rw_st (x v:Value):Instr.storeAt 49 x v=TO 49 x v:=rfl
theorem Payload.run_st (w:World) (b o:Nat) (vs:List Value):(TO 49 (.pointer (some ⟨b,o,none⟩)) (.agg vs.toArray)).run prog w=if putOk w b o 4=true/\vs.length=4/\YL vs=true then .ok () (put w b o vs) else SN prog 49 ⟨b,o,none⟩ (.agg vs.toArray) w:=Nr (by kernel_rfl) w b o vs
theorem Payload.rw_bd (parts:Array (Nat × Value)):Instr.build 49 parts=Th 49 parts:=rfl
theorem Payload.run_bd (parts:Array (Nat × Value)) (w:World):(Th 49 parts).run prog w=(OE [(0,1),(1,1),(2,1),(3,1)] Payload.zero.cells parts.toList).elim (Sz prog 49 parts w) (fun cs=>.ok (.agg cs.toArray) w):=Ns (by kernel_rfl) parts w
theorem Payload.rw_zv:zeroValue 49=T5 49:=rfl
theorem Payload.run_zv (w:World):(T5 49).run prog w= .ok (.agg Payload.zero.cells.toArray) w:=by kernel_rfl
attribute [go_sem ↓ high] Payload.rw_ld Payload.rw_st Payload.rw_bd Payload.rw_zv
attribute [go_sem] Payload.run_ld Payload.run_st Payload.run_bd Payload.run_zv
theorem Payload.flat:Zp prog 9 49=some Payload.ks:=by kernel_rfl
theorem Payload.cellsOf:Tryz.prog.cellsOf 49=4:=by kernel_rfl
theorem Payload.run_eq (x y:Payload) (w:World):(Op.equalIn 10000 49 (.agg x.cells.toArray) (.agg y.cells.toArray)).run prog w= .ok (decide (x=y)) w:=by
 rw[J5 (by omega) Payload.flat (by kernel_rfl) x.shape y.shape w];congr 1;exact decide_eq_decide.2 ⟨Payload.inj,fun h=>by rw[h]⟩
attribute [go_sem high] Payload.run_eq
theorem Said.rw_ld (x:Value):Instr.loadAt 51 x=U8 51 x:=rfl
theorem Said.run_ld (w:World) (b o:Nat):(U8 51 (.pointer (some ⟨b,o,none⟩))).run prog w=(grab w b o 6).elim (SG prog 51 ⟨b,o,none⟩ w) (fun cs=>.ok (.agg cs.toArray) w):=P4 (by kernel_rfl) w b o
theorem Said.rw_st (x v:Value):Instr.storeAt 51 x v=TO 51 x v:=rfl
theorem Said.run_st (w:World) (b o:Nat) (vs:List Value):(TO 51 (.pointer (some ⟨b,o,none⟩)) (.agg vs.toArray)).run prog w=if putOk w b o 6=true/\vs.length=6/\YL vs=true then .ok () (put w b o vs) else SN prog 51 ⟨b,o,none⟩ (.agg vs.toArray) w:=Nr (by kernel_rfl) w b o vs
theorem Said.rw_bd (parts:Array (Nat × Value)):Instr.build 51 parts=Th 51 parts:=rfl
theorem Said.run_bd (parts:Array (Nat × Value)) (w:World):(Th 51 parts).run prog w=(OE [(0,1),(1,1),(2,4)] Said.zero.cells parts.toList).elim (Sz prog 51 parts w) (fun cs=>.ok (.agg cs.toArray) w):=Ns (by kernel_rfl) parts w
theorem Said.rw_zv:zeroValue 51=T5 51:=rfl
theorem Said.run_zv (w:World):(T5 51).run prog w= .ok (.agg Said.zero.cells.toArray) w:=by kernel_rfl
attribute [go_sem ↓ high] Said.rw_ld Said.rw_st Said.rw_bd Said.rw_zv
attribute [go_sem] Said.run_ld Said.run_st Said.run_bd Said.run_zv
theorem Said.flat:Zp prog 9 51=some Said.ks:=by kernel_rfl
theorem Said.cellsOf:Tryz.prog.cellsOf 51=6:=by kernel_rfl
theorem Said.run_eq (x y:Said) (w:World):(Op.equalIn 10000 51 (.agg x.cells.toArray) (.agg y.cells.toArray)).run prog w= .ok (decide (x=y)) w:=by
 rw[J5 (by omega) Said.flat (by kernel_rfl) x.shape y.shape w];congr 1;exact decide_eq_decide.2 ⟨Said.inj,fun h=>by rw[h]⟩
attribute [go_sem high] Said.run_eq
theorem View.rw_ld (x:Value):Instr.loadAt 32 x=U8 32 x:=rfl
theorem View.run_ld (w:World) (b o:Nat):(U8 32 (.pointer (some ⟨b,o,none⟩))).run prog w=(grab w b o 42).elim (SG prog 32 ⟨b,o,none⟩ w) (fun cs=>.ok (.agg cs.toArray) w):=P4 (by kernel_rfl) w b o
theorem View.rw_st (x v:Value):Instr.storeAt 32 x v=TO 32 x v:=rfl
theorem View.run_st (w:World) (b o:Nat) (vs:List Value):(TO 32 (.pointer (some ⟨b,o,none⟩)) (.agg vs.toArray)).run prog w=if putOk w b o 42=true/\vs.length=42/\YL vs=true then .ok () (put w b o vs) else SN prog 32 ⟨b,o,none⟩ (.agg vs.toArray) w:=Nr (by kernel_rfl) w b o vs
theorem View.rw_bd (parts:Array (Nat × Value)):Instr.build 32 parts=Th 32 parts:=rfl
theorem View.run_bd (parts:Array (Nat × Value)) (w:World):(Th 32 parts).run prog w=(OE [(0,8),(8,8),(16,8),(24,8),(32,8),(40,1),(41,1)] View.zero.cells parts.toList).elim (Sz prog 32 parts w) (fun cs=>.ok (.agg cs.toArray) w):=Ns (by kernel_rfl) parts w
theorem View.rw_zv:zeroValue 32=T5 32:=rfl
theorem View.run_zv (w:World):(T5 32).run prog w= .ok (.agg View.zero.cells.toArray) w:=by kernel_rfl
attribute [go_sem ↓ high] View.rw_ld View.rw_st View.rw_bd View.rw_zv
attribute [go_sem] View.run_ld View.run_st View.run_bd View.run_zv
theorem View.flat:Zp prog 9 32=some View.ks:=by kernel_rfl
theorem View.cellsOf:Tryz.prog.cellsOf 32=42:=by kernel_rfl
theorem View.run_eq (x y:View) (w:World):(Op.equalIn 10000 32 (.agg x.cells.toArray) (.agg y.cells.toArray)).run prog w= .ok (decide (x=y)) w:=by
 rw[J5 (by omega) View.flat (by kernel_rfl) x.shape y.shape w];congr 1;exact decide_eq_decide.2 ⟨View.inj,fun h=>by rw[h]⟩
attribute [go_sem high] View.run_eq
theorem Cell.rw_ld (x:Value):Instr.loadAt 60 x=U8 60 x:=rfl
theorem Cell.run_ld (w:World) (b o:Nat):(U8 60 (.pointer (some ⟨b,o,none⟩))).run prog w=(grab w b o 55).elim (SG prog 60 ⟨b,o,none⟩ w) (fun cs=>.ok (.agg cs.toArray) w):=P4 (by kernel_rfl) w b o
theorem Cell.rw_st (x v:Value):Instr.storeAt 60 x v=TO 60 x v:=rfl
theorem Cell.run_st (w:World) (b o:Nat) (vs:List Value):(TO 60 (.pointer (some ⟨b,o,none⟩)) (.agg vs.toArray)).run prog w=if putOk w b o 55=true/\vs.length=55/\YL vs=true then .ok () (put w b o vs) else SN prog 60 ⟨b,o,none⟩ (.agg vs.toArray) w:=Nr (by kernel_rfl) w b o vs
theorem Cell.rw_bd (parts:Array (Nat × Value)):Instr.build 60 parts=Th 60 parts:=rfl
theorem Cell.run_bd (parts:Array (Nat × Value)) (w:World):(Th 60 parts).run prog w=(OE [(0,1),(1,6),(7,6),(13,42)] Cell.zero.cells parts.toList).elim (Sz prog 60 parts w) (fun cs=>.ok (.agg cs.toArray) w):=Ns (by kernel_rfl) parts w
theorem Cell.rw_zv:zeroValue 60=T5 60:=rfl
theorem Cell.run_zv (w:World):(T5 60).run prog w= .ok (.agg Cell.zero.cells.toArray) w:=by kernel_rfl
attribute [go_sem ↓ high] Cell.rw_ld Cell.rw_st Cell.rw_bd Cell.rw_zv
attribute [go_sem] Cell.run_ld Cell.run_st Cell.run_bd Cell.run_zv
theorem Cell.flat:Zp prog 9 60=some Cell.ks:=by kernel_rfl
theorem Cell.cellsOf:Tryz.prog.cellsOf 60=55:=by kernel_rfl
theorem Cell.run_eq (x y:Cell) (w:World):(Op.equalIn 10000 60 (.agg x.cells.toArray) (.agg y.cells.toArray)).run prog w= .ok (decide (x=y)) w:=by
 rw[J5 (by omega) Cell.flat (by kernel_rfl) x.shape y.shape w];congr 1;exact decide_eq_decide.2 ⟨Cell.inj,fun h=>by rw[h]⟩
attribute [go_sem high] Cell.run_eq
theorem Held.rw_ld (x:Value):Instr.loadAt 62 x=U8 62 x:=rfl
theorem Held.run_ld (w:World) (b o:Nat):(U8 62 (.pointer (some ⟨b,o,none⟩))).run prog w=(grab w b o 56).elim (SG prog 62 ⟨b,o,none⟩ w) (fun cs=>.ok (.agg cs.toArray) w):=P4 (by kernel_rfl) w b o
theorem Held.rw_st (x v:Value):Instr.storeAt 62 x v=TO 62 x v:=rfl
theorem Held.run_st (w:World) (b o:Nat) (vs:List Value):(TO 62 (.pointer (some ⟨b,o,none⟩)) (.agg vs.toArray)).run prog w=if putOk w b o 56=true/\vs.length=56/\YL vs=true then .ok () (put w b o vs) else SN prog 62 ⟨b,o,none⟩ (.agg vs.toArray) w:=Nr (by kernel_rfl) w b o vs
theorem Held.rw_bd (parts:Array (Nat × Value)):Instr.build 62 parts=Th 62 parts:=rfl
theorem Held.run_bd (parts:Array (Nat × Value)) (w:World):(Th 62 parts).run prog w=(OE [(0,1),(1,55)] Held.zero.cells parts.toList).elim (Sz prog 62 parts w) (fun cs=>.ok (.agg cs.toArray) w):=Ns (by kernel_rfl) parts w
theorem Held.rw_zv:zeroValue 62=T5 62:=rfl
theorem Held.run_zv (w:World):(T5 62).run prog w= .ok (.agg Held.zero.cells.toArray) w:=by kernel_rfl
attribute [go_sem ↓ high] Held.rw_ld Held.rw_st Held.rw_bd Held.rw_zv
attribute [go_sem] Held.run_ld Held.run_st Held.run_bd Held.run_zv
theorem Held.flat:Zp prog 9 62=some Held.ks:=by kernel_rfl
theorem Held.cellsOf:Tryz.prog.cellsOf 62=56:=by kernel_rfl
theorem Held.run_eq (x y:Held) (w:World):(Op.equalIn 10000 62 (.agg x.cells.toArray) (.agg y.cells.toArray)).run prog w= .ok (decide (x=y)) w:=by
 rw[J5 (by omega) Held.flat (by kernel_rfl) x.shape y.shape w];congr 1;exact decide_eq_decide.2 ⟨Held.inj,fun h=>by rw[h]⟩
attribute [go_sem high] Held.run_eq
attribute [go_sem] OE List.flatMap_cons List.flatMap_nil
end Go.Proofs.YtljeokninakliaaGreatDoor
end
