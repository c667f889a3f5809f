/- Parts of a proof. -/
import Derived.Test.YtljeokninakliaaGreatDoorJModelsCrew2
import Derived.StillTail
import Derived.OrdersIn
import Derived.RangeFuncRecord
set_option linter.unusedSimpArgs false
set_option linter.unusedVariables false
section
namespace Go.Proofs.YtljeokninakliaaGreatDoor
open Go.RowKit
inductive Dec where
 |a
 |b (d:Bool)
structure Zl where
 slots:List Nat
 ids:List Nat
 tm:List AV
 m:AMem
 n:Nat
 e:Exit
structure St where
 tm:List AV
 m:AMem
 n:Nat
 str:Nat
 sk:Bool
 path:List Dec
 ob:List Bool
 po:List Prop
 ms:List Nat
 rd:Option Nat
 lp:List (Option Zl)
abbrev Yk:=List AV->AMem->Nat->Option (AV × AMem × Nat × List Bool)
structure Env where
 P:Program
 ct:List (FuncId × Yk)
def WC (l:List (FuncId × Yk)) (f:FuncId) (args:List AV) (m:AMem) (n:Nat):Option (AV × AMem × Nat × List Bool):=
 match l with
 | []=>none
 |(g,c)::r=>match Nat.beq g f with|true=>c args m n|false=>WC r f args m n
def St.need (s:St) (l:List Bool):Option St:=
 match s.sk with
 |true=>match l.all (fun b=>b) with|true=>some s|false=>none
 |false=>some {s with ob:=l++s.ob}
def WR (tm:List AV):Option Tmp->AV->List AV
 |none,_=>tm
 |some d,v=>tm.set d v
def St.put (s:St) (d:Option Tmp) (v:AV):St:={s with tm:=WR s.tm d v}
def St.dec (s:St) (t:Tmp) (b:Bool):Option (Bool × St):=
 match s.path with
 | .b d::p=>some (d,{s with path:=p,tm:=s.tm.set t (.c (.v (.bool d))),ob:=(b==d)::s.ob})
 | .a::p=>match b with|true=>some (true,{s with path:=p})|false=>some (false,{s with path:=p})
 |_=>match b with|true=>some (true,s)|false=>some (false,s)
def Yt (ops:Array Oper) (o:Oper) (s:St):Option (Bool × St):=
 match o.guard with
 |none=>some (true,s)
 | some (j,want)=>
  match (ops[j]?).bind (·.dst) with
  |none=>some (false,s)
  |some t=>
   match s.tm[t]? with
   |some (.c (.v (.bool b)))=>match s.dec t b with|some (d,s')=>some (d==want,s')|none=>none
   |some (.c (.v (.tuple _)))=>some (false,s)
   |_=>none
def ZR:Nat:=100000000000000000000000000000000000000000000000000000000000000000000000000000000
def R6 (E:Env) (Zw:FuncId->List AV->St->Option (AV × St)) (f:FuncId) (args:List AV) (s:St):Option (AV × St):=
 match WC E.ct f args s.m s.n with
 |some (r,news,k,ob)=>match Nat.ble (s.n+k) ZR,s.need ob with|true,some s=>some (r,{s with m:=s.m++news,n:=s.n+k})|_,_=>none
 |none=>Zw f args s
def FN (E:Env) (Zw:FuncId->List AV->St->Option (AV × St)) (yF:Nat->List AV->St->Option (AV × St)) (ops:Array Oper) (o:Oper) (s:St):Option St:=
 match Yt ops o s with
 |none=>none
 |some (false,s)=>some (s.put o.dst (.c (.v undef)))
 |some (true,s)=>
  match Nat.ble (s.n+1) ZR,U0 E.P s.tm s.m s.n o.op with
  |true,some (.eff v news ob)=>match s.need ob with|some s=>some ({s with m:=s.m++news,n:=s.n+1}.put o.dst v)|none=>none
  |true,some (.upd v e ob)=>match X8 o.op,s.need ob with|true,some s=>some ({s with m:=e.on s.m,n:=s.n+1}.put o.dst v)|_,_=>none
  |true,some (.call f args)=>match Y2 o.op,R6 E Zw f args s with|true,some (v,s)=>some (s.put o.dst v)|_,_=>none
  |true,some (.yld id args)=>match Y2 o.op,yF id args s with|true,some (v,s)=>some (s.put o.dst v)|_,_=>none
  |_,_=>none
def RD (E:Env) (Zw:FuncId->List AV->St->Option (AV × St)) (yF:Nat->List AV->St->Option (AV × St)) (ops:Array Oper):List Oper->St->Option St
 | [],s=>some s
 |o::r,s=>match FN E Zw yF ops o s with|some s=>RD E Zw yF ops r s|none=>none
def K3:List Bool->List Bool->List Bool
 | [],l=>l
 |l,[]=>l
 |x::r,y::q=>(x||y)::K3 r q
def SP:Nat->List Bool
 |0=>[true]
 |n+1=>false::SP n
def RU (acc:List (List Bool)):List Edge->List Bool
 | []=>[]
 |e::r=>match Region.binds .any e with|true=>K3 (SP e.on) (K3 (acc.getD e.on []) (RU acc r))|false=>RU acc r
def clo:List Oper->List (List Bool)->List (List Bool)
 | [],acc=>acc
 |o::r,acc=>clo r (acc++[RU acc o.after.toList])
def Zv (ops:Array Oper) (i j:Nat):Bool:=((clo ops.toList []).getD i []).getD j false
def Xb (ls:List Nat):Nat->List AV->List AV
 |_,[]=>[]
 |i,x::r=>(match ls.contains i with|true=>x|false=>.any)::Xb ls (i+1) r
def Wa (ops:Array Oper) (i:Nat):List (Nat × AMem)->AMem
 | []=>[]
 |(j,l)::r=>match Zv ops i j with|true=>l++Wa ops i r|false=>Wa ops i r
def Xw:List (Nat × AMem)->AMem
 | []=>[]
 |(_,l)::r=>l++Xw r
def Xm (x:ABlk):Bool:=match x.cs with | .obj _=>true|_=>false
def Mj:AMem->AMem
 | []=>[]
 |(i,b)::r=>match Xm b with|true=>Uu (Mj r) i|false=>(i,{b with own:=false})::Mj r
def YG (n:Nat):AMem->AMem
 | []=>[]
 |(i,b)::r=>match Nat.ble n i&&Nat.blt i ZR with|true=>(match Xm b with|true=>Uu (YG n r) i|false=>(i,b)::YG n r)|false=>YG n r
def KO (b str:Nat) (l:AMem):Bool:=l.all fun x=>Nat.ble b x.1&&Nat.blt x.1 (b+str)
def GG (E:Env) (Zw:FuncId->List AV->St->Option (AV × St)) (ops:Array Oper) (i:Nat) (o:Oper) (mi:AMem) (b:Nat) (s:St):Option (AV × AMem × St):=
 match Yt ops o s with
 |none=>none
 |some (false,s)=>some (.c (.v undef),[],s)
 | some (true,s)=>
  match Nat.ble (b+s.str) ZR&&Nat.ble 1 s.str,U0 E.P (Xb (o.looksAt ops) 0 s.tm) mi b o.op with
  |true,some (.eff v news ob)=>match KO b s.str news,s.need ob with|true,some s=>some (v,news,s)|_,_=>none
  | true,some (.call f args)=>
   match Y2 o.op,WC E.ct f args mi b with
   |true,some (r,news,k,ob)=>match Nat.ble k s.str&&KO b s.str news,s.need ob with|true,some s=>some (r,news,s)|_,_=>none
   | true,none=>
    match Zw f args {s with m:=Mj mi,n:=b,str:=s.str / 100000000,ms:=[],rd:=none} with
    |some (r,s')=>
     match Nat.ble s'.n (b+s.str)&&(KO b s.str (YG b s'.m)&&(YG b s'.m).all (fun x=>x.2.own)) with
     |true=>some (r,YG b s'.m,{s with path:=s'.path,lp:=s'.lp,ob:=s'.ob,po:=s'.po})
     |false=>none
    |none=>none
   |_,_=>none
  |_,_=>none
def QH (E:Env) (Zw:FuncId->List AV->St->Option (AV × St)) (ops:Array Oper) (n0:Nat):List Oper->Nat->List (Nat × AMem)->St->Option (List (Nat × AMem) × St)
 | [],_,acc,s=>some (acc,s)
 |o::r,i,acc,s=>
  match GG E Zw ops i o (s.m++Wa ops i acc) (n0+i*s.str) s with
  |some (v,news,s)=>QH E Zw ops n0 r (i+1) (acc++[(i,news)]) (s.put o.dst v)
  |none=>none
def Tf (ops:Array Oper) (q:Nat):Bool:=
 (List.range q).all fun j=>(List.range j).all fun i=>Zv ops j i||(match ops[i]?,ops[j]? with|some x,some y=>x.apart ops y|_,_=>false)
def SD (ops:Array Oper):Bool:=(List.range ops.size).all fun i=>match ops[i]? with|some o=>o.after.toList.all fun e=>!Region.binds .any e||Nat.blt e.on i|none=>true
def Vi (ops:Array Oper) (q:Nat):Array Bool:=((List.range ops.size).map fun i=>Nat.blt i q).toArray
def Tq (ops:Array Oper) (q:Nat):Bool:=
 Region.noSelect ops&&(SD ops&&(Tf ops q&&(Nat.ble q ops.size&&(Region.seqB .any ops (ops.size-q) q (Vi ops q)&&(Nat.beq q ops.size||(Region.sinkB .any ops q&&Region.chainB .any ops q))))))
def YJ:List Oper->Nat
 | []=>0
 |o::r=>match X8 o.op with|true=>0|false=>YJ r+1
def Ol (E:Env) (Zw:FuncId->List AV->St->Option (AV × St)) (yF:Nat->List AV->St->Option (AV × St)) (ops:Array Oper) (s:St):Option St:=
 match Tq ops (YJ ops.toList) with
 |true=>
  match QH E Zw ops s.n (ops.toList.take (YJ ops.toList)) 0 [] s with
  |some (acc,s')=>RD E Zw yF ops (ops.toList.drop (YJ ops.toList)) {s' with m:=s'.m++Xw acc,n:=s'.n+YJ ops.toList*s'.str}
  |none=>none
 |false=>none
inductive AStep where
 |news (l:AMem)
 |efx (e:Efx)
 |many (ps:List (Nat × Option ABlk)) (l:AMem)
def X3:List (Nat × Option ABlk)->AMem
 | []=>[]
 |(i,some b)::r=>(i,b)::X3 r
 |(_,none)::r=>X3 r
def N9:List (Nat × Option ABlk)->AMem->AMem
 | [],m=>m
 |(i,_)::r,m=>Uu (N9 r m) i
def AStep.on:AStep->AMem->AMem
 | .news l,m=>m++l
 | .efx e,m=>e.on m
 | .many ps l,m=>X3 ps++N9 ps m++l
def AStep.tids:AStep->List Nat
 | .news _=>[]
 | .efx e=>[e.tid]
 | .many ps _=>ps.map (·.1)
def Ue:AMem->AMem
 | []=>[]
 |(i,b)::r=>match Xm b with|true=>Uu (Ue r) i|false=>(i,b)::Ue r
def PH (x:Option ABlk):Option ABlk:=match x with|some b=>(match Xm b with|true=>none|false=>some b)|none=>none
def Yn (m':AMem):AMem->List (Nat × Option ABlk)
 | []=>[]
 |(i,b)::r=>match b.own with|true=>(i,PH (ZY m' i))::Yn m' r|false=>Yn m' r
def V4 (ops:Array Oper) (ts:List (Nat × Nat)) (n0 str i id:Nat):Bool:=
 (match Nat.ble n0 id&&Nat.blt id (n0+ops.size*str) with|true=>Zv ops i ((id-n0) / str)|false=>true)&&
  ts.all fun p=>!Nat.beq p.2 id||(Zv ops i p.1||(Zv ops p.1 i||Nat.beq i p.1))
def VA (ops:Array Oper) (ts:List (Nat × Nat)) (n0 str i:Nat):AMem->AMem
 | []=>[]
 |(id,b)::r=>match V4 ops ts n0 str i id with|true=>(id,b)::VA ops ts n0 str i r|false=>VA ops ts n0 str i r
def Na (b:Nat):Efx->Bool
 | .put _ _=>true
 | .app t ib _=>Nat.beq ib b&&!Nat.beq t ib
def Al (P:Program) (t:TypeId):Bool:=match P.underlying t with|some (.pointer _)=>true|_=>false
def Wf (P:Program) (o:Op):Bool:=
 match o with
 | .call c=>
  match c.callee with
  | .value (.func f)=>match P.funcs[f]? with|some fn=>fn.params.toList.any (Al P)|none=>false
  |_=>false
 |_=>false
def FO (E:Env) (Zw:FuncId->List AV->St->Option (AV × St)) (ops:Array Oper) (o:Oper) (mi:AMem) (b:Nat) (s:St):Option (AV × AStep × St):=
 match Yt ops o s with
 |none=>none
 |some (false,s)=>some (.c (.v undef),.news [],s)
 | some (true,s)=>
  match Nat.ble (b+s.str) ZR&&Nat.ble 1 s.str,U0 E.P (Xb (o.looksAt ops) 0 s.tm) mi b o.op with
  | true,some (.call f args)=>
   match Y2 o.op,WC E.ct f args mi b with
   |true,some (r,news,k,ob)=>match Nat.ble k s.str&&KO b s.str news,s.need ob with|true,some s=>some (r,.news news,s)|_,_=>none
   | true,none=>
    match Zw f args {s with m:=Ue mi,n:=b,str:=s.str / 100000000,ms:=[],rd:=none} with
    |some (r,s')=>
     match Nat.ble s'.n (b+s.str)&&(KO b s.str (YG b s'.m)&&(YG b s'.m).all (fun x=>x.2.own)) with
     |true=>some (r,.many (Yn s'.m (Ue mi)) (YG b s'.m),{s with path:=s'.path,lp:=s'.lp,ob:=s'.ob,po:=s'.po})
     |false=>none
    |none=>none
   |_,_=>none
  |_,_=>none
def FM (E:Env) (Zw:FuncId->List AV->St->Option (AV × St)) (wm:Bool) (ops:Array Oper) (i:Nat) (o:Oper) (mi:AMem) (b:Nat) (s:St):Option (AV × AStep × St):=
 match X8 o.op with
 |false=>
  match wm&&Wf E.P o.op with
  |false=>match GG E Zw ops i o mi b s with|some (v,l,s)=>some (v,.news l,s)|none=>none
  |true=>FO E Zw ops o mi b s
 | true=>
  match Yt ops o s with
  |none=>none
  |some (false,s)=>some (.c (.v undef),.news [],s)
  |some (true,s)=>
   match Nat.ble (b+s.str) ZR&&Nat.ble 1 s.str,U0 E.P (Xb (o.looksAt ops) 0 s.tm) mi b o.op with
   |true,some (.eff v l ob)=>match KO b s.str l,s.need ob with|true,some s=>some (v,.news l,s)|_,_=>none
   |true,some (.upd v e ob)=>match Na b e,s.need ob with|true,some s=>some (v,.efx e,s)|_,_=>none
   |_,_=>none
def Or (i:Nat) (z:AStep):List (Nat × Nat):=z.tids.map fun t=>(i,t)
def Ua (E:Env) (Zw:FuncId->List AV->St->Option (AV × St)) (wm:Bool) (ops:Array Oper) (vis:Nat->AMem->AMem) (n0:Nat):List Oper->Nat->List (Nat × Nat)->St->Option (List (Nat × Nat) × St)
 | [],_,acc,s=>some (acc,s)
 |o::r,i,acc,s=>
  match FM E Zw wm ops i o (vis i s.m) (n0+i*s.str) s with
  |some (v,z,s)=>Ua E Zw wm ops vis n0 r (i+1) (acc++Or i z) ({s with m:=z.on s.m}.put o.dst v)
  |none=>none
def KI:List (Nat × Nat)->List (Nat × Nat)->Bool
 | [],[]=>true
 |(a,b)::r,(c,d)::q=>Nat.beq a c&&(Nat.beq b d&&KI r q)
 |_,_=>false
def RT (ops:Array Oper) (ts:List (Nat × Nat)):Bool:=ts.all fun p=>ts.all fun q=>Nat.ble q.1 p.1||Zv ops q.1 p.1
def Uk (ops:Array Oper):Bool:=Region.noSelect ops&&(SD ops&&Tf ops ops.size)
def Me (E:Env) (Zw:FuncId->List AV->St->Option (AV × St)) (ops:Array Oper) (s:St):Option St:=
 match Uk ops,Ua E Zw false ops (VA ops [] s.n s.str) s.n ops.toList 0 [] s with
 |true,some (ts,_)=>
  match Ua E Zw false ops (VA ops ts s.n s.str) s.n ops.toList 0 [] s with
  |some (ts',s')=>match KI ts' ts&&RT ops ts with|true=>some {s' with n:=s.n+ops.size*s.str}|false=>none
  |none=>none
 |_,_=>none
def Nf:Operand->Bool
 | .global _=>true
 |_=>false
def TN (o:Op):Bool:=
 match o with
 | .move _ | .assign _ | .pick _ _ _ | .unOp _ _ _ | .convert _ _ _ | .extract _ _ | .field _ _ _ | .build _ _ | .index _ _ _ | .alloc _ | .box _ _ | .fieldAddr _ _ _ | .nilCheck _=>o.operands.any Nf
 |_=>true
def UK (P:Program) (o:Op):Bool:=Wf P o||X8 o
def O5 (ops:Array Oper) (i:Nat):List Oper->Nat->Bool
 | [],_=>true
 |o::r,j=>(!TN o.op||(Nat.beq i j||(Zv ops i j||Zv ops j i)))&&O5 ops i r (j+1)
def Ms (P:Program) (ops:Array Oper):List Oper->Nat->Bool
 | [],_=>true
 |o::r,i=>(!UK P o.op||O5 ops i ops.toList 0)&&Ms P ops r (i+1)
def B2 (P:Program) (ops:Array Oper):Bool:=ops.toList.any (fun o=>Wf P o.op)&&(Ms P ops ops.toList 0&&Uk ops)
def PW (ops:Array Oper) (n0 str i id:Nat):Bool:=
 match Nat.ble n0 id&&Nat.blt id (n0+ops.size*str) with|true=>Zv ops i ((id-n0) / str)|false=>true
def Rb (ops:Array Oper) (n0 str i:Nat):AMem->AMem
 | []=>[]
 |(id,b)::r=>match PW ops n0 str i id with|true=>(id,b)::Rb ops n0 str i r|false=>Rb ops n0 str i r
def Jp (ops:Array Oper) (n0 str i:Nat) (m:AMem):AMem:=
 match ops[i]? with
 |some o=>match TN o.op with|true=>Rb ops n0 str i m|false=>[]
 |none=>[]
def Mf (E:Env) (Zw:FuncId->List AV->St->Option (AV × St)) (ops:Array Oper) (s:St):Option St:=
 match Ua E Zw true ops (Jp ops s.n s.str) s.n ops.toList 0 [] s with
 |some (_,s')=>some {s' with n:=s.n+ops.size*s.str}
 |none=>none
def Qd (tm:List AV) (a:Tmp):List Oper->List Nat
 | []=>match tm[a]? with|some (.c (.ptr id _ _))=>[id]|_=>[]
 |o::r=>
  match o.dst,o.op with
  |some d,.fieldAddr _ (.tmp b) _=>match Nat.beq d a,tm[b]? with|true,some (.c (.ptr id _ _))=>[id]|_,_=>Qd tm a r
  |_,_=>Qd tm a r
def KL (ops:Array Oper) (tm:List AV) (i:Nat):List Oper->Nat->List Nat
 | [],_=>[]
 |o::r,j=>
  match o.op with
  | .load _ (.tmp a)=>match Nat.beq i j||(Zv ops i j||Zv ops j i) with|true=>KL ops tm i r (j+1)|false=>Qd tm a ops.toList++KL ops tm i r (j+1)
  |_=>KL ops tm i r (j+1)
def Tr (h:List Nat):AMem->AMem
 | []=>[]
 |(i,b)::r=>match h.any (Nat.beq i) with|true=>Tr h r|false=>(i,b)::Tr h r
def PB (P:Program) (ops:Array Oper) (tm:List AV) (ts:List (Nat × Nat)) (n0 str i:Nat) (m:AMem):AMem:=
 match ops[i]? with
 |some o=>match Wf P o.op with|true=>Tr (KL ops tm i ops.toList 0) (VA ops ts n0 str i m)|false=>VA ops ts n0 str i m
 |none=>[]
def Mg (E:Env) (Zw:FuncId->List AV->St->Option (AV × St)) (ops:Array Oper) (s:St):Option St:=
 match Uk ops,Ua E Zw true ops (PB E.P ops s.tm [] s.n s.str) s.n ops.toList 0 [] s with
 |true,some (ts,_)=>
  match Ua E Zw true ops (PB E.P ops s.tm ts s.n s.str) s.n ops.toList 0 [] s with
  |some (ts',s')=>match KI ts' ts&&RT ops ts with|true=>some {s' with n:=s.n+ops.size*s.str}|false=>none
  |none=>none
 |_,_=>none
def yOn (E:Env) (ops:Array Oper):Bool:=match E.ct with|a::b::_=>Nat.beq a.1 b.1&&ops.toList.any fun o=>Wf E.P o.op|_=>false
def Om (E:Env) (Zw:FuncId->List AV->St->Option (AV × St)) (yF:Nat->List AV->St->Option (AV × St)) (ops:Array Oper) (s:St):Option St:=
 match B2 E.P ops with
 |true=>Mf E Zw ops s
 | false=>
  match yOn E ops with
  |true=>Mg E Zw ops s
  |false=>
   match Tq ops (YJ ops.toList) with
   |true=>Ol E Zw yF ops s
   |false=>Me E Zw ops s
def QP (P:Program) (tm:List AV) (m:AMem):List ResultVar->Option (List AV × List Bool)
 | []=>some ([],[])
 | .tmp t::r=>
  match tm[t]?,QP P tm m r with
  |some (.c x),some (l,ob)=>some (.c x::l,ob)
  |some (.agg x),some (l,ob)=>some (.agg x::l,ob)
  |_,_=>none
 | .cell a t::r=>
  match tm[a]?,QP P tm m r with
  |some v,some (l,ob)=>match Ug P m t v with|some (.eff u _ ob')=>some (u::l,ob'++ob)|_=>none
  |_,_=>none
def PA:List AV->AV
 | [x]=>x
 |l=>.tup l
def Tj:List Nat->AMem->Option AMem
 | [],m=>some m
 |d::r,m=>
  match ZY m d with
  |some x=>match x.cs with | .obj (.dfr true)=>Tj r (Xz m d {x with cs:=.obj (.dfr false)})|_=>none
  |none=>none
def R9 (P:Program) (fn:Func) (s s':St):Option (AV × St):=
 match Tj s'.ms s'.m with
 |some m=>
  match QP P s'.tm m fn.results.toList with
  |some (l,ob)=>match s'.need ob with|some s'=>some (PA l,{s' with tm:=s.tm,m:=m,ms:=s.ms,rd:=s.rd})|none=>none
  |none=>none
 |none=>none
def RX (ids:List Nat):AMem->AMem
 | []=>[]
 |(i,b)::r=>match ids.any (Nat.beq i) with|true=>RX ids r|false=>(i,b)::RX ids r
def CallV (P:Program) (f:FuncId) (args:List AV) (ids:List Nat) (blks:List (Option ABlk)) (n:Nat) (r:AV) (mF:AMem) (n':Nat):Prop:=
 ∀(C:Ctx) (β:Nm) (m:AMem) (w:World) (vs:List Value),ids.map (ZY m)=blks->γt β args=some vs->Rel C β m w->(∀id,n<=id->id<n'->β id=none)->
  Calls P f vs.toArray w (fun e w'=>∃β' v,e= .returned v/\Ext β β'/\(∀id,id<n\/n'<=id->β' id=β id)/\γ β' r=some v/\Rel C β' (mF++RX ids m) w')
def WA (f:Nat):Nat:=1000000000+f
def Ki (f:FuncId):List (Option Zl)->Option (List Nat × AV × AMem × Nat × List (Option Zl))
 |some ⟨_,ids,[r],m,k,.exit id⟩::p=>match Nat.beq id (WA f) with|true=>some (ids,r,m,k,p)|false=>none
 |_=>none
def Zw (E:Env) (run:Code->St->Option (Exit × St)) (f:FuncId) (args:List AV) (s:St):Option (AV × St):=
 match E.P.funcs[f]? with
 | some fn=>
  match fn.body with
  | some c=>
   match Ki f s.lp with
   |some (ids,r,m,k,p)=>
    match Nat.ble s.n k&&Nat.ble k ZR with
    |true=>some (r,{s with n:=k,m:=m++RX ids s.m,lp:=p,po:=CallV E.P f args ids (ids.map (ZY s.m)) s.n r m k::s.po})
    |false=>none
   |none=>
    match run c {s with tm:=args++List.replicate (fn.ntmps-args.length) (.c (.v undef)),ms:=[],rd:=none} with
    |some (.ret,s')|some (.normal,s')=>R9 E.P fn s s'
    |_=>none
  |none=>none
 |none=>none
def SM:List Tmp->List AV->List AV->List AV
 |t::ts,x::xs,tm=>SM ts xs (tm.set t x)
 |_,_,tm=>tm
def QE:Exit->Option (Option Code)
 | .normal=>some none
 | .ret=>some (some .ret)
 | .exit id=>some (some (.exit id))
 |_=>none
def isN:Option Code->Bool
 |none=>true
 |some _=>false
def OO (id:Nat) (e:Exit) (s s':St):Option (AV × St):=
 match QE e,ZY s'.m id with
 |some j,some x=>
  match x.cs with
  | .obj (.loop _ _ tm ps as bd dn)=>some (.c (.v (.bool (isN j))),{s' with tm:=s.tm,ms:=s.ms,rd:=s.rd,m:=Xz s'.m id {x with cs:=.obj (.loop (match isN j with|true=>.ready|false=>.done) j tm ps as bd dn)}})
  |_=>none
 |_,_=>none
def Wg (run:Code->St->Option (Exit × St)) (id:Nat) (args:List AV) (s:St):Option (AV × St):=
 match ZY s.m id with
 | some x=>
  match x.cs with
  | .obj (.loop _ _ tm ps as bd _)=>
   match Nat.beq args.length ps.size with
   | true=>
    match run as {s with tm:=SM ps.toList args tm,ms:=[],rd:=some id} with
    | some (.normal,s1)=>
     match ZY s1.m id with
     | some x1=>
      match x1.cs with
      | .obj (.loop .ready pd1 tm1 ps1 as1 bd1 dn1)=>
       match run bd {s1 with m:=Xz s1.m id {x1 with cs:=.obj (.loop .busy pd1 tm1 ps1 as1 bd1 dn1)}} with
       |some (e,s2)=>OO id e s s2
       |none=>none
      |_=>none
     |none=>none
    |_=>none
   |false=>none
  |_=>none
 |none=>none
def RZ (s:St) (ps:Array Tmp) (as bd:Code):Option (AMem × List Nat):=
 match s.rd with
 |none=>some (s.m++[(s.n,Xx (.dfr true))]++[(s.n+1,Xx (.loop .ready none s.tm ps as bd s.n))],s.n::s.ms)
 |some r=>
  match ZY s.m r with
  |some x=>match x.cs with | .obj (.loop _ _ _ _ _ _ dn)=>some (s.m++[(s.n+1,Xx (.loop .ready none s.tm ps as bd dn))],s.ms)|_=>none
  |none=>none
def Vu (l:Nat) (s:St):Option (Exit × St):=
 match ZY s.m l with
 | some x=>
  match x.cs with
  | .obj (.loop .busy _ _ _ _ _ _)=>none
  | .obj (.loop _ pd tm ps as bd dn)=>
   match pd with
   |none=>some (.normal,{s with m:=Xz s.m l {x with cs:=.obj (.loop .exhausted pd tm ps as bd dn)}})
   |some .ret=>some (.ret,{s with m:=Xz s.m l {x with cs:=.obj (.loop .exhausted pd tm ps as bd dn)}})
   |some (.exit id)=>some (.exit id,{s with m:=Xz s.m l {x with cs:=.obj (.loop .exhausted pd tm ps as bd dn)}})
   |_=>none
  |_=>none
 |none=>none
def FW (r:Option Nat):Fence:={Fence.wide with round:=r}
def M6 (r:Option Nat) (P:Program) (c:Code) (Q:Exit->Act->World->Prop) (a:Act) (w:World):Prop:=
 ∀(b:Frame) (k:List Item) (cs:List Frame),b.roundOf=r->∃e a' w',Q e a' w'/\ArrivesIn (Machine.fenced P (FW r)) P (lone (b.atR a (.code c:: .inLoop c::k)) cs w) b k cs e a' w'
def RdOk (β:Nm):Option Nat->Option Nat->Prop
 |none,none=>True
 |some id,some b=>∃L,β id=some L/\L.nil=false/\L.b=b
 |_,_=>False
theorem RdOk.ext {β β':Nm} (he:Ext β β'):∀{rd r:Option Nat},RdOk β rd r->RdOk β' rd r
 |none,none,_=>trivial
 |some _,some _,⟨L,h1,h2⟩=>⟨L,he _ _ h1,h2⟩
def GQ (P:Program) (c:Code) (tm:List AV) (m:AMem) (n:Nat) (tm':List AV) (m':AMem) (n':Nat) (e:Exit) (rd:Option Nat):Prop:=
 ∀(r:Option Nat) (C:Ctx) (β:Nm) (a:Act) (w:World),RdOk β rd r->FrOk β tm a.tmps->Rel C β m w->(∀id,n<=id->id<n'->β id=none)->
  M6 r P c (fun e' a' w'=>e'=e/\a'.defers=a.defers/\∃β',Ext β β'/\(∀id,id<n\/n'<=id->β' id=β id)/\FrOk β' tm' a'.tmps/\Rel C β' m' w') a w
def LoopV (P:Program) (c:Code) (slots ids:List Nat) (vals:List (Option AV)) (blks:List (Option ABlk)) (len n:Nat) (tm':List AV) (m':AMem) (n':Nat) (e:Exit) (rd:Option Nat):Prop:=
 ∀tm m,slots.map (fun t=>tm[t]?)=vals->ids.map (ZY m)=blks->tm.length=len->GQ P c tm m n tm' m' n' e rd
def UH (run:Code->St->Option (Exit × St)) (a:Code):Nat->Code->St->Option (Exit × St)
 |0,_,_=>none
 |k+1,c,s=>
  match run c s with
  |some (.goto l,s)=>match findLabel a l with|some c'=>UH run a k c' s|none=>some (.goto l,s)
  |r=>r
def XI (E:Env):Nat->Code->St->Option (Exit × St)
 |0,_,_=>none
 | n + 1,c,s=>
  match c with
  | .skip=>some (.normal,s)
  | .label _=>some (.normal,s)
  | .region _ ops d=>
   match d with
   |false=>match RD E (Zw E (XI E n)) (Wg (XI E n)) ops ops.toList s with|some s=>some (.normal,s)|none=>none
   |true=>match Om E (Zw E (XI E n)) (Wg (XI E n)) ops s with|some s=>some (.normal,s)|none=>none
  | .seq a b=>
   match XI E n a s with
   |some (.normal,s)=>XI E n b s
   |r=>r
  | .cond (.tmp t) a b=>
   match s.tm[t]? with
   |some (.c (.v (.bool x)))=>match s.dec t x with|some (true,s)=>XI E n a s|some (false,s)=>XI E n b s|none=>none
   |_=>none
  | .cond (.const (.bool x)) a b=>match x with|true=>XI E n a s|false=>XI E n b s
  | .block id a=>
   match XI E n a s with
   |some (.exit id',s)=>match Nat.beq id' id with|true=>some (.normal,s)|false=>some (.exit id',s)
   |r=>r
  | .loop a=>
   match s.lp with
   |some ⟨slots,ids,tm,m,k,e⟩::p=>
    match Nat.ble s.n k&&Nat.ble k ZR with
    |true=>some (e,{s with tm:=tm,m:=m,n:=k,lp:=p,po:=LoopV E.P a slots ids (slots.map fun t=>s.tm[t]?) (ids.map (ZY s.m)) s.tm.length s.n tm m k e s.rd::s.po})
    |false=>none
   |none::p=>match XI E n a {s with lp:=p} with|some (.normal,s)=>XI E n (.loop a) {s with lp:=none::s.lp}|r=>r
   | []=>match XI E n a s with|some (.normal,s)=>XI E n (.loop a) s|r=>r
  | .exit id=>some (.exit id,s)
  | .goto l=>some (.goto l,s)
  | .scope a=>UH (XI E n) a 200 a s
  | .ret=>some (.ret,s)
  | .rangeFunc f ps as bd=>
   match Nat.ble (s.n+2) ZR,WE s.tm s.m f,RZ s ps as bd with
   | true,some v,some (m',ms')=>
    match UQ [.c (.yld (s.n+1))] v with
    |some (.call g args)=>
     match Zw E (XI E n) g args {s with m:=m',n:=s.n+2} with
     |some (_,s1)=>Vu (s.n+1) {s1 with ms:=ms'}
     |none=>none
    |_=>none
   |_,_,_=>none
  |_=>none
def XM:Code->List Code
 | .seq a b=>XM a++XM b
 | .cond _ a b=>XM a++XM b
 | .block _ a=>XM a
 | .loop a=>a::XM a
 | .scope a=>XM a
 | .rangeFunc _ _ a b=>XM a++XM b
 |_=>[]
def ZW (P:Program) (f k:Nat):Code:=
 match P.funcs[f]? with
 |some fn=>match fn.body with|some c=>(XM c).getD k .skip|none=>.skip
 |none=>.skip
def VE:Code->List (Code × Code)
 | .seq a b=>VE a++VE b
 | .cond _ a b=>VE a++VE b
 | .block _ a=>VE a
 | .loop a=>VE a
 | .scope a=>VE a
 | .rangeFunc _ _ a b=>(a,b)::(VE a++VE b)
 |_=>[]
def Gi (P:Program) (f k:Nat):Code × Code:=
 match P.funcs[f]? with
 |some fn=>match fn.body with|some c=>(VE c).getD k (.skip,.skip)|none=>(.skip,.skip)
 |none=>(.skip,.skip)
def Oy (P:Program) (f k:Nat):Code:=(Gi P f k).1
def Oz (P:Program) (f k:Nat):Code:=(Gi P f k).2
end Go.Proofs.YtljeokninakliaaGreatDoor
end
