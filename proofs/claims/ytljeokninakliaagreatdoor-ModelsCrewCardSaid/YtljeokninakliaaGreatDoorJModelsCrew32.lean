/- Parts of a proof. -/
import Derived.Test.YtljeokninakliaaGreatDoorJModelsCrew0
import Derived.Deep.DeepHandedRow
import Derived.Lib.LaidTab
import Derived.SevenTiedAt
set_option linter.unusedSimpArgs false
set_option linter.unusedVariables false
section
namespace Go.Proofs.YtljeokninakliaaGreatDoor
open Go.RowKit Go.WideShapes Go.ChangeShapes Go.ChangeAt
section
variable {H:Type} {enc:TypeId × Value->H}
theorem jjcg {C:Checked} {os:Os} {f:FuncId} {fn:Func} {s:ChangeSpec} {tb:TypeId} {conds:List PathCond} {laid:List (String × DataW Unit)} {F:Stop.Interp}
 (own:ownKnob C.prog.godebug=none) (started:os.Started) (noInit:C.prog.inits.idxOf? f=none) (hfn:C.prog.funcs[f]? =some fn)
 (hl:laidOutB C.prog=true) (hts:(fn.params.toList.all fun t=>C.prog.readableRec t&&decide (t<C.prog.types.size))=true)
 (hres:fn.resultTypes= #[tb]) (htb:C.prog.underlying tb=some .bool) (hvars:s.vars=[])
 (hs:∀ds:List (DataW H),ds.length=fn.params.toList.length->s.fn H (ds++[])= {results:=[.lit (.bool true)],args:=ds})
 (witness:∃(w:World) (tape:Tape) (i:Input),w.os=os/\(w.forCall tape i).Shaped C.prog/\i.vars=[]/\Input.okWide C.prog (w.forCall tape i) .any w.heap.size f i/\
  (OpenSpec.ofChange s).preRow enc C.prog fn conds false laid (w.forCall tape i).memory i.args/\(({}:Assume)).holds C.prog (lone (Frame.enter C.prog f i.args .normal) [] (w.forCall tape i)))
 (walk:∀(W:World) (base:Nat) (args:Array Value) (ds:List (DataW H)) (p:List MemPlace),
  (∀(j:Nat) t v,fn.params[j]? =some t->args[j]? =some v->Value.okWide C.prog W .any base t v)->
  DataW.TrodAll enc C.prog W 0 (fun _=>true) true fn.params.toList args.toList ds p->laidMetH C.prog laid W->
  Calls C.prog f args W fun e W'=>e= .returned (.bool true)/\Below W.heap.size W W'):
 ReturnsInHanded {} C os f .any ((OpenSpec.ofChange s).preRow enc C.prog fn conds false laid) (((OpenSpec.ofChange s).at F).post enc C.prog fn false true false false):=by
 refine returnsInHanded_of_row own started noInit hfn witness ?_;intro W base args ds gs before hval hW _ _ _ hL _ _;obtain⟨p,q,hA,hV,rfl,hfz,hnd⟩:=id hW;have hvars':(OpenSpec.ofChange s).vars=[]:=hvars;rw[hvars'] at hV;obtain⟨rfl,rfl⟩:=trodVars_none hV;have hd:=hs ds (Cf hA);refine(walk W base args ds p hval hA hL).mono fun e W' ⟨he,bel⟩=>⟨_,he,?_⟩
 show s.post enc C.prog fn false true false false W args (.bool true) W';refine⟨ds,[],p++[],[],p,[],hW,?_,?_,?_,bel.frame _,fun h=>by cases h⟩
 . rw[hd,hres]
   exact trodAll_mk1 (shut_bool htb _)
 . rw[hd]
   exact Cj hl bel hts hA
 . rw[hd,hvars]
   exact rfl
theorem jjak {C:Checked} {os:Os} {f:FuncId} {fn:Func} {s:ChangeSpec} {conds:List PathCond} {laid:List (String × DataW Unit)} (w0:World) (args:Array Value) (hos:w0.os=os)
 (hv:(w0.forCall (fun _ _=>0) ⟨#[],args,[]⟩).variablesB C.prog=true)
 (hr:((w0.forCall (fun _ _=>0) ⟨#[],args,[]⟩).heap.toList.drop C.prog.globals.size).take ((begin C.prog (fun _ _=>0) default).world.heap.size-C.prog.globals.size)=
  (begin C.prog (fun _ _=>0) default).world.heap.toList.drop C.prog.globals.size)
 (hok:Input.okWideB C.prog (w0.forCall (fun _ _=>0) ⟨#[],args,[]⟩) f ⟨#[],args,[]⟩=true)
 (hx:(match DataW.whole enc C.prog (w0.forCall (fun _ _=>0) ⟨#[],args,[]⟩).memory fn.params.toList s.vars false args.toList 9 with
  |some x=>conds.all (PathCond.test C.prog ⟨fn.params.toList,x.1,(OpenSpec.ofChange s).bare.plain.varTypes C.prog,x.2.1⟩)
  |none=>false)=true)
 (hsz:(OpenSpec.ofChange s).bare.sizedB enc C.prog fn false (w0.forCall (fun _ _=>0) ⟨#[],args,[]⟩).memory args 9=true)
 (hlaid:laidMetH C.prog laid (w0.forCall (fun _ _=>0) ⟨#[],args,[]⟩).memory):
 ∃(w:World) (tape:Tape) (i:Input),w.os=os/\(w.forCall tape i).Shaped C.prog/\i.vars=[]/\Input.okWide C.prog (w.forCall tape i) .any w.heap.size f i/\
  (OpenSpec.ofChange s).preRow enc C.prog fn conds false laid (w.forCall tape i).memory i.args/\(({}:Assume)).holds C.prog (lone (Frame.enter C.prog f i.args .normal) [] (w.forCall tape i)):=by
 split at hx
 . rename_i x hw
   exact witness_row_at (enc:=enc) (C:=C) false w0 args hos hv hr hok (OpenSpec.preRow_of_cond 9 hw hx (fun k hk=>by cases hk) hsz hlaid)
 . cases hx
end
end Go.Proofs.YtljeokninakliaaGreatDoor
end
