/- Parts of a proof. -/
import Derived.Test.YtodpbgbpifiniaaGreatDoorJModelsPlay2
import Derived.StillTail
import Derived.OrdersIn
import Derived.RangeFuncRecord
set_option linter.unusedSimpArgs false
set_option linter.unusedVariables false
section
namespace Go.Proofs.YtodpbgbpifiniaaGreatDoor
open Go.RowKit
inductive Dec where
 |a
 |b (d:Bool)
structure Zh where
 slots:List Nat
 ids:List Nat
 tm:List AV
 m:AMem
 n:Nat
 e:Exit
structure St where
 tm:List AV
 m:AMem
 n:Nat
 str:Nat
 sk:Bool
 path:List Dec
 ob:List Bool
 po:List Prop
 ms:List Nat
 rd:Option Nat
 lp:List (Option Zh)
abbrev Yq:=List AV->AMem->Nat->Option (AV × AMem × Nat × List Bool)
structure Env where
 P:Program
 ct:List (FuncId × Yq)
def Ww (l:List (FuncId × Yq)) (f:FuncId) (args:List AV) (m:AMem) (n:Nat):Option (AV × AMem × Nat × List Bool):=
 match l with
 | []=>none
 |(g,c)::r=>match Nat.beq g f with|true=>c args m n|false=>Ww r f args m n
def St.need (s:St) (l:List Bool):Option St:=
 match s.sk with
 |true=>match l.all (fun b=>b) with|true=>some s|false=>none
 |false=>some {s with ob:=l++s.ob}
def WQ (tm:List AV):Option Tmp->AV->List AV
 |none,_=>tm
 |some d,v=>tm.set d v
def St.put (s:St) (d:Option Tmp) (v:AV):St:={s with tm:=WQ s.tm d v}
def St.dec (s:St) (t:Tmp) (b:Bool):Option (Bool × St):=
 match s.path with
 | .b d::p=>some (d,{s with path:=p,tm:=s.tm.set t (.c (.v (.bool d))),ob:=(b==d)::s.ob})
 | .a::p=>match b with|true=>some (true,{s with path:=p})|false=>some (false,{s with path:=p})
 |_=>match b with|true=>some (true,s)|false=>some (false,s)
def Yp (ops:Array Oper) (o:Oper) (s:St):Option (Bool × St):=
 match o.guard with
 |none=>some (true,s)
 | some (j,want)=>
  match (ops[j]?).bind (·.dst) with
  |none=>some (false,s)
  |some t=>
   match s.tm[t]? with
   |some (.c (.v (.bool b)))=>match s.dec t b with|some (d,s')=>some (d==want,s')|none=>none
   |some (.c (.v (.tuple _)))=>some (false,s)
   |_=>none
def ZQ:Nat:=100000000000000000000000000000000000000000000000000000000000000000000000000000000
def R6 (E:Env) (Zm:FuncId->List AV->St->Option (AV × St)) (f:FuncId) (args:List AV) (s:St):Option (AV × St):=
 match Ww E.ct f args s.m s.n with
 |some (r,news,k,ob)=>match Nat.ble (s.n+k) ZQ,s.need ob with|true,some s=>some (r,{s with m:=s.m++news,n:=s.n+k})|_,_=>none
 |none=>Zm f args s
def FP (E:Env) (Zm:FuncId->List AV->St->Option (AV × St)) (yF:Nat->List AV->St->Option (AV × St)) (ops:Array Oper) (o:Oper) (s:St):Option St:=
 match Yp ops o s with
 |none=>none
 |some (false,s)=>some (s.put o.dst (.c (.v undef)))
 |some (true,s)=>
  match Nat.ble (s.n+1) ZQ,Uc E.P s.tm s.m s.n o.op with
  |true,some (.eff v news ob)=>match s.need ob with|some s=>some ({s with m:=s.m++news,n:=s.n+1}.put o.dst v)|none=>none
  |true,some (.upd v e ob)=>match X5 o.op,s.need ob with|true,some s=>some ({s with m:=e.on s.m,n:=s.n+1}.put o.dst v)|_,_=>none
  |true,some (.call f args)=>match XX o.op,R6 E Zm f args s with|true,some (v,s)=>some (s.put o.dst v)|_,_=>none
  |true,some (.yld id args)=>match XX o.op,yF id args s with|true,some (v,s)=>some (s.put o.dst v)|_,_=>none
  |_,_=>none
def RC (E:Env) (Zm:FuncId->List AV->St->Option (AV × St)) (yF:Nat->List AV->St->Option (AV × St)) (ops:Array Oper):List Oper->St->Option St
 | [],s=>some s
 |o::r,s=>match FP E Zm yF ops o s with|some s=>RC E Zm yF ops r s|none=>none
def JY:List Bool->List Bool->List Bool
 | [],l=>l
 |l,[]=>l
 |x::r,y::q=>(x||y)::JY r q
def SU:Nat->List Bool
 |0=>[true]
 |n+1=>false::SU n
def S3 (acc:List (List Bool)):List Edge->List Bool
 | []=>[]
 |e::r=>match Region.binds .any e with|true=>JY (SU e.on) (JY (acc.getD e.on []) (S3 acc r))|false=>S3 acc r
def clo:List Oper->List (List Bool)->List (List Bool)
 | [],acc=>acc
 |o::r,acc=>clo r (acc++[S3 acc o.after.toList])
def Zl (ops:Array Oper) (i j:Nat):Bool:=((clo ops.toList []).getD i []).getD j false
def X9 (ls:List Nat):Nat->List AV->List AV
 |_,[]=>[]
 |i,x::r=>(match ls.contains i with|true=>x|false=>.any)::X9 ls (i+1) r
def We (ops:Array Oper) (i:Nat):List (Nat × AMem)->AMem
 | []=>[]
 |(j,l)::r=>match Zl ops i j with|true=>l++We ops i r|false=>We ops i r
def Xq:List (Nat × AMem)->AMem
 | []=>[]
 |(_,l)::r=>l++Xq r
def Xe (x:ABlk):Bool:=match x.cs with | .obj _=>true|_=>false
def Jl:AMem->AMem
 | []=>[]
 |(i,b)::r=>match Xe b with|true=>UA (Jl r) i|false=>(i,{b with own:=false})::Jl r
def Yw (n:Nat):AMem->AMem
 | []=>[]
 |(i,b)::r=>match Nat.ble n i&&Nat.blt i ZQ with|true=>(match Xe b with|true=>UA (Yw n r) i|false=>(i,b)::Yw n r)|false=>Yw n r
def KL (b str:Nat) (l:AMem):Bool:=l.all fun x=>Nat.ble b x.1&&Nat.blt x.1 (b+str)
def Hg (E:Env) (Zm:FuncId->List AV->St->Option (AV × St)) (ops:Array Oper) (i:Nat) (o:Oper) (mi:AMem) (b:Nat) (s:St):Option (AV × AMem × St):=
 match Yp ops o s with
 |none=>none
 |some (false,s)=>some (.c (.v undef),[],s)
 | some (true,s)=>
  match Nat.ble (b+s.str) ZQ&&Nat.ble 1 s.str,Uc E.P (X9 (o.looksAt ops) 0 s.tm) mi b o.op with
  |true,some (.eff v news ob)=>match KL b s.str news,s.need ob with|true,some s=>some (v,news,s)|_,_=>none
  | true,some (.call f args)=>
   match XX o.op,Ww E.ct f args mi b with
   |true,some (r,news,k,ob)=>match Nat.ble k s.str&&KL b s.str news,s.need ob with|true,some s=>some (r,news,s)|_,_=>none
   | true,none=>
    match Zm f args {s with m:=Jl mi,n:=b,str:=s.str / 100000000,ms:=[],rd:=none} with
    |some (r,s')=>
     match Nat.ble s'.n (b+s.str)&&(KL b s.str (Yw b s'.m)&&(Yw b s'.m).all (fun x=>x.2.own)) with
     |true=>some (r,Yw b s'.m,{s with path:=s'.path,lp:=s'.lp,ob:=s'.ob,po:=s'.po})
     |false=>none
    |none=>none
   |_,_=>none
  |_,_=>none
def QF (E:Env) (Zm:FuncId->List AV->St->Option (AV × St)) (ops:Array Oper) (n0:Nat):List Oper->Nat->List (Nat × AMem)->St->Option (List (Nat × AMem) × St)
 | [],_,acc,s=>some (acc,s)
 |o::r,i,acc,s=>
  match Hg E Zm ops i o (s.m++We ops i acc) (n0+i*s.str) s with
  |some (v,news,s)=>QF E Zm ops n0 r (i+1) (acc++[(i,news)]) (s.put o.dst v)
  |none=>none
def To (ops:Array Oper) (q:Nat):Bool:=
 (List.range q).all fun j=>(List.range j).all fun i=>Zl ops j i||(match ops[i]?,ops[j]? with|some x,some y=>x.apart ops y|_,_=>false)
def SG (ops:Array Oper):Bool:=(List.range ops.size).all fun i=>match ops[i]? with|some o=>o.after.toList.all fun e=>!Region.binds .any e||Nat.blt e.on i|none=>true
def Vl (ops:Array Oper) (q:Nat):Array Bool:=((List.range ops.size).map fun i=>Nat.blt i q).toArray
def Tz (ops:Array Oper) (q:Nat):Bool:=
 Region.noSelect ops&&(SG ops&&(To ops q&&(Nat.ble q ops.size&&(Region.seqB .any ops (ops.size-q) q (Vl ops q)&&(Nat.beq q ops.size||(Region.sinkB .any ops q&&Region.chainB .any ops q))))))
def Yy:List Oper->Nat
 | []=>0
 |o::r=>match X5 o.op with|true=>0|false=>Yy r+1
def Og (E:Env) (Zm:FuncId->List AV->St->Option (AV × St)) (yF:Nat->List AV->St->Option (AV × St)) (ops:Array Oper) (s:St):Option St:=
 match Tz ops (Yy ops.toList) with
 |true=>
  match QF E Zm ops s.n (ops.toList.take (Yy ops.toList)) 0 [] s with
  |some (acc,s')=>RC E Zm yF ops (ops.toList.drop (Yy ops.toList)) {s' with m:=s'.m++Xq acc,n:=s'.n+Yy ops.toList*s'.str}
  |none=>none
 |false=>none
inductive AStep where
 |news (l:AMem)
 |efx (e:Efx)
 |many (ps:List (Nat × Option ABlk)) (l:AMem)
def WZ:List (Nat × Option ABlk)->AMem
 | []=>[]
 |(i,some b)::r=>(i,b)::WZ r
 |(_,none)::r=>WZ r
def Nb:List (Nat × Option ABlk)->AMem->AMem
 | [],m=>m
 |(i,_)::r,m=>UA (Nb r m) i
def AStep.on:AStep->AMem->AMem
 | .news l,m=>m++l
 | .efx e,m=>e.on m
 | .many ps l,m=>WZ ps++Nb ps m++l
def AStep.tids:AStep->List Nat
 | .news _=>[]
 | .efx e=>[e.tid]
 | .many ps _=>ps.map (·.1)
def Un:AMem->AMem
 | []=>[]
 |(i,b)::r=>match Xe b with|true=>UA (Un r) i|false=>(i,b)::Un r
def PJ (x:Option ABlk):Option ABlk:=match x with|some b=>(match Xe b with|true=>none|false=>some b)|none=>none
def Yh (m':AMem):AMem->List (Nat × Option ABlk)
 | []=>[]
 |(i,b)::r=>match b.own with|true=>(i,PJ (ZX m' i))::Yh m' r|false=>Yh m' r
def V6 (ops:Array Oper) (ts:List (Nat × Nat)) (n0 str i id:Nat):Bool:=
 (match Nat.ble n0 id&&Nat.blt id (n0+ops.size*str) with|true=>Zl ops i ((id-n0) / str)|false=>true)&&
  ts.all fun p=>!Nat.beq p.2 id||(Zl ops i p.1||(Zl ops p.1 i||Nat.beq i p.1))
def VG (ops:Array Oper) (ts:List (Nat × Nat)) (n0 str i:Nat):AMem->AMem
 | []=>[]
 |(id,b)::r=>match V6 ops ts n0 str i id with|true=>(id,b)::VG ops ts n0 str i r|false=>VG ops ts n0 str i r
def Nc (b:Nat):Efx->Bool
 | .put _ _=>true
 | .app t ib _=>Nat.beq ib b&&!Nat.beq t ib
def AX (P:Program) (t:TypeId):Bool:=match P.underlying t with|some (.pointer _)=>true|_=>false
def Wh (P:Program) (o:Op):Bool:=
 match o with
 | .call c=>
  match c.callee with
  | .value (.func f)=>match P.funcs[f]? with|some fn=>fn.params.toList.any (AX P)|none=>false
  |_=>false
 |_=>false
def FQ (E:Env) (Zm:FuncId->List AV->St->Option (AV × St)) (ops:Array Oper) (o:Oper) (mi:AMem) (b:Nat) (s:St):Option (AV × AStep × St):=
 match Yp ops o s with
 |none=>none
 |some (false,s)=>some (.c (.v undef),.news [],s)
 | some (true,s)=>
  match Nat.ble (b+s.str) ZQ&&Nat.ble 1 s.str,Uc E.P (X9 (o.looksAt ops) 0 s.tm) mi b o.op with
  | true,some (.call f args)=>
   match XX o.op,Ww E.ct f args mi b with
   |true,some (r,news,k,ob)=>match Nat.ble k s.str&&KL b s.str news,s.need ob with|true,some s=>some (r,.news news,s)|_,_=>none
   | true,none=>
    match Zm f args {s with m:=Un mi,n:=b,str:=s.str / 100000000,ms:=[],rd:=none} with
    |some (r,s')=>
     match Nat.ble s'.n (b+s.str)&&(KL b s.str (Yw b s'.m)&&(Yw b s'.m).all (fun x=>x.2.own)) with
     |true=>some (r,.many (Yh s'.m (Un mi)) (Yw b s'.m),{s with path:=s'.path,lp:=s'.lp,ob:=s'.ob,po:=s'.po})
     |false=>none
    |none=>none
   |_,_=>none
  |_,_=>none
def FO (E:Env) (Zm:FuncId->List AV->St->Option (AV × St)) (wm:Bool) (ops:Array Oper) (i:Nat) (o:Oper) (mi:AMem) (b:Nat) (s:St):Option (AV × AStep × St):=
 match X5 o.op with
 |false=>
  match wm&&Wh E.P o.op with
  |false=>match Hg E Zm ops i o mi b s with|some (v,l,s)=>some (v,.news l,s)|none=>none
  |true=>FQ E Zm ops o mi b s
 | true=>
  match Yp ops o s with
  |none=>none
  |some (false,s)=>some (.c (.v undef),.news [],s)
  |some (true,s)=>
   match Nat.ble (b+s.str) ZQ&&Nat.ble 1 s.str,Uc E.P (X9 (o.looksAt ops) 0 s.tm) mi b o.op with
   |true,some (.eff v l ob)=>match KL b s.str l,s.need ob with|true,some s=>some (v,.news l,s)|_,_=>none
   |true,some (.upd v e ob)=>match Nc b e,s.need ob with|true,some s=>some (v,.efx e,s)|_,_=>none
   |_,_=>none
def Oq (i:Nat) (z:AStep):List (Nat × Nat):=z.tids.map fun t=>(i,t)
def Ug (E:Env) (Zm:FuncId->List AV->St->Option (AV × St)) (wm:Bool) (ops:Array Oper) (vis:Nat->AMem->AMem) (n0:Nat):List Oper->Nat->List (Nat × Nat)->St->Option (List (Nat × Nat) × St)
 | [],_,acc,s=>some (acc,s)
 |o::r,i,acc,s=>
  match FO E Zm wm ops i o (vis i s.m) (n0+i*s.str) s with
  |some (v,z,s)=>Ug E Zm wm ops vis n0 r (i+1) (acc++Oq i z) ({s with m:=z.on s.m}.put o.dst v)
  |none=>none
def KF:List (Nat × Nat)->List (Nat × Nat)->Bool
 | [],[]=>true
 |(a,b)::r,(c,d)::q=>Nat.beq a c&&(Nat.beq b d&&KF r q)
 |_,_=>false
def S2 (ops:Array Oper) (ts:List (Nat × Nat)):Bool:=ts.all fun p=>ts.all fun q=>Nat.ble q.1 p.1||Zl ops q.1 p.1
def Ur (ops:Array Oper):Bool:=Region.noSelect ops&&(SG ops&&To ops ops.size)
def M7 (E:Env) (Zm:FuncId->List AV->St->Option (AV × St)) (ops:Array Oper) (s:St):Option St:=
 match Ur ops,Ug E Zm false ops (VG ops [] s.n s.str) s.n ops.toList 0 [] s with
 |true,some (ts,_)=>
  match Ug E Zm false ops (VG ops ts s.n s.str) s.n ops.toList 0 [] s with
  |some (ts',s')=>match KF ts' ts&&S2 ops ts with|true=>some {s' with n:=s.n+ops.size*s.str}|false=>none
  |none=>none
 |_,_=>none
def Ng:Operand->Bool
 | .global _=>true
 |_=>false
def U2 (o:Op):Bool:=
 match o with
 | .move _ | .assign _ | .pick _ _ _ | .unOp _ _ _ | .convert _ _ _ | .extract _ _ | .field _ _ _ | .build _ _ | .index _ _ _ | .alloc _ | .box _ _ | .fieldAddr _ _ _ | .nilCheck _=>o.operands.any Ng
 |_=>true
def UQ (P:Program) (o:Op):Bool:=Wh P o||X5 o
def NV (ops:Array Oper) (i:Nat):List Oper->Nat->Bool
 | [],_=>true
 |o::r,j=>(!U2 o.op||(Nat.beq i j||(Zl ops i j||Zl ops j i)))&&NV ops i r (j+1)
def Mj (P:Program) (ops:Array Oper):List Oper->Nat->Bool
 | [],_=>true
 |o::r,i=>(!UQ P o.op||NV ops i ops.toList 0)&&Mj P ops r (i+1)
def BU (P:Program) (ops:Array Oper):Bool:=ops.toList.any (fun o=>Wh P o.op)&&(Mj P ops ops.toList 0&&Ur ops)
def PX (ops:Array Oper) (n0 str i id:Nat):Bool:=
 match Nat.ble n0 id&&Nat.blt id (n0+ops.size*str) with|true=>Zl ops i ((id-n0) / str)|false=>true
def Rc (ops:Array Oper) (n0 str i:Nat):AMem->AMem
 | []=>[]
 |(id,b)::r=>match PX ops n0 str i id with|true=>(id,b)::Rc ops n0 str i r|false=>Rc ops n0 str i r
def Jq (ops:Array Oper) (n0 str i:Nat) (m:AMem):AMem:=
 match ops[i]? with
 |some o=>match U2 o.op with|true=>Rc ops n0 str i m|false=>[]
 |none=>[]
def M8 (E:Env) (Zm:FuncId->List AV->St->Option (AV × St)) (ops:Array Oper) (s:St):Option St:=
 match Ug E Zm true ops (Jq ops s.n s.str) s.n ops.toList 0 [] s with
 |some (_,s')=>some {s' with n:=s.n+ops.size*s.str}
 |none=>none
def Qe (tm:List AV) (a:Tmp):List Oper->List Nat
 | []=>match tm[a]? with|some (.c (.ptr id _ _))=>[id]|_=>[]
 |o::r=>
  match o.dst,o.op with
  |some d,.fieldAddr _ (.tmp b) _=>match Nat.beq d a,tm[b]? with|true,some (.c (.ptr id _ _))=>[id]|_,_=>Qe tm a r
  |_,_=>Qe tm a r
def KK (ops:Array Oper) (tm:List AV) (i:Nat):List Oper->Nat->List Nat
 | [],_=>[]
 |o::r,j=>
  match o.op with
  | .load _ (.tmp a)=>match Nat.beq i j||(Zl ops i j||Zl ops j i) with|true=>KK ops tm i r (j+1)|false=>Qe tm a ops.toList++KK ops tm i r (j+1)
  |_=>KK ops tm i r (j+1)
def TA (h:List Nat):AMem->AMem
 | []=>[]
 |(i,b)::r=>match h.any (Nat.beq i) with|true=>TA h r|false=>(i,b)::TA h r
def PE (P:Program) (ops:Array Oper) (tm:List AV) (ts:List (Nat × Nat)) (n0 str i:Nat) (m:AMem):AMem:=
 match ops[i]? with
 |some o=>match Wh P o.op with|true=>TA (KK ops tm i ops.toList 0) (VG ops ts n0 str i m)|false=>VG ops ts n0 str i m
 |none=>[]
def M9 (E:Env) (Zm:FuncId->List AV->St->Option (AV × St)) (ops:Array Oper) (s:St):Option St:=
 match Ur ops,Ug E Zm true ops (PE E.P ops s.tm [] s.n s.str) s.n ops.toList 0 [] s with
 |true,some (ts,_)=>
  match Ug E Zm true ops (PE E.P ops s.tm ts s.n s.str) s.n ops.toList 0 [] s with
  |some (ts',s')=>match KF ts' ts&&S2 ops ts with|true=>some {s' with n:=s.n+ops.size*s.str}|false=>none
  |none=>none
 |_,_=>none
def yOn (E:Env) (ops:Array Oper):Bool:=match E.ct with|a::b::_=>Nat.beq a.1 b.1&&ops.toList.any fun o=>Wh E.P o.op|_=>false
def Oi (E:Env) (Zm:FuncId->List AV->St->Option (AV × St)) (yF:Nat->List AV->St->Option (AV × St)) (ops:Array Oper) (s:St):Option St:=
 match BU E.P ops with
 |true=>M8 E Zm ops s
 | false=>
  match yOn E ops with
  |true=>M9 E Zm ops s
  |false=>
   match Tz ops (Yy ops.toList) with
   |true=>Og E Zm yF ops s
   |false=>M7 E Zm ops s
def QU (P:Program) (tm:List AV) (m:AMem):List ResultVar->Option (List AV × List Bool)
 | []=>some ([],[])
 | .tmp t::r=>
  match tm[t]?,QU P tm m r with
  |some (.c x),some (l,ob)=>some (.c x::l,ob)
  |some (.agg x),some (l,ob)=>some (.agg x::l,ob)
  |_,_=>none
 | .cell a t::r=>
  match tm[a]?,QU P tm m r with
  |some v,some (l,ob)=>match Up P m t v with|some (.eff u _ ob')=>some (u::l,ob'++ob)|_=>none
  |_,_=>none
def PD:List AV->AV
 | [x]=>x
 |l=>.tup l
def Tq:List Nat->AMem->Option AMem
 | [],m=>some m
 |d::r,m=>
  match ZX m d with
  |some x=>match x.cs with | .obj (.dfr true)=>Tq r (Xv m d {x with cs:=.obj (.dfr false)})|_=>none
  |none=>none
def Ra (P:Program) (fn:Func) (s s':St):Option (AV × St):=
 match Tq s'.ms s'.m with
 |some m=>
  match QU P s'.tm m fn.results.toList with
  |some (l,ob)=>match s'.need ob with|some s'=>some (PD l,{s' with tm:=s.tm,m:=m,ms:=s.ms,rd:=s.rd})|none=>none
  |none=>none
 |none=>none
def S5 (ids:List Nat):AMem->AMem
 | []=>[]
 |(i,b)::r=>match ids.any (Nat.beq i) with|true=>S5 ids r|false=>(i,b)::S5 ids r
def CallV (P:Program) (f:FuncId) (args:List AV) (ids:List Nat) (blks:List (Option ABlk)) (n:Nat) (r:AV) (mF:AMem) (n':Nat):Prop:=
 ∀(C:Ctx) (β:Nm) (m:AMem) (w:World) (vs:List Value),ids.map (ZX m)=blks->γt β args=some vs->Rel C β m w->(∀id,n<=id->id<n'->β id=none)->
  Calls P f vs.toArray w (fun e w'=>∃β' v,e= .returned v/\Ext β β'/\(∀id,id<n\/n'<=id->β' id=β id)/\γ β' r=some v/\Rel C β' (mF++S5 ids m) w')
def Vi (f:Nat):Nat:=1000000000+f
def Kl (f:FuncId):List (Option Zh)->Option (List Nat × AV × AMem × Nat × List (Option Zh))
 |some ⟨_,ids,[r],m,k,.exit id⟩::p=>match Nat.beq id (Vi f) with|true=>some (ids,r,m,k,p)|false=>none
 |_=>none
def Zm (E:Env) (run:Code->St->Option (Exit × St)) (f:FuncId) (args:List AV) (s:St):Option (AV × St):=
 match E.P.funcs[f]? with
 | some fn=>
  match fn.body with
  | some c=>
   match Kl f s.lp with
   |some (ids,r,m,k,p)=>
    match Nat.ble s.n k&&Nat.ble k ZQ with
    |true=>some (r,{s with n:=k,m:=m++S5 ids s.m,lp:=p,po:=CallV E.P f args ids (ids.map (ZX s.m)) s.n r m k::s.po})
    |false=>none
   |none=>
    match run c {s with tm:=args++List.replicate (fn.ntmps-args.length) (.c (.v undef)),ms:=[],rd:=none} with
    |some (.ret,s')|some (.normal,s')=>Ra E.P fn s s'
    |_=>none
  |none=>none
 |none=>none
def ST:List Tmp->List AV->List AV->List AV
 |t::ts,x::xs,tm=>ST ts xs (tm.set t x)
 |_,_,tm=>tm
def QA:Exit->Option (Option Code)
 | .normal=>some none
 | .ret=>some (some .ret)
 | .exit id=>some (some (.exit id))
 |_=>none
def isN:Option Code->Bool
 |none=>true
 |some _=>false
def OM (id:Nat) (e:Exit) (s s':St):Option (AV × St):=
 match QA e,ZX s'.m id with
 |some j,some x=>
  match x.cs with
  | .obj (.loop _ _ tm ps as bd dn)=>some (.c (.v (.bool (isN j))),{s' with tm:=s.tm,ms:=s.ms,rd:=s.rd,m:=Xv s'.m id {x with cs:=.obj (.loop (match isN j with|true=>.ready|false=>.done) j tm ps as bd dn)}})
  |_=>none
 |_,_=>none
def Wi (run:Code->St->Option (Exit × St)) (id:Nat) (args:List AV) (s:St):Option (AV × St):=
 match ZX s.m id with
 | some x=>
  match x.cs with
  | .obj (.loop _ _ tm ps as bd _)=>
   match Nat.beq args.length ps.size with
   | true=>
    match run as {s with tm:=ST ps.toList args tm,ms:=[],rd:=some id} with
    | some (.normal,s1)=>
     match ZX s1.m id with
     | some x1=>
      match x1.cs with
      | .obj (.loop .ready pd1 tm1 ps1 as1 bd1 dn1)=>
       match run bd {s1 with m:=Xv s1.m id {x1 with cs:=.obj (.loop .busy pd1 tm1 ps1 as1 bd1 dn1)}} with
       |some (e,s2)=>OM id e s s2
       |none=>none
      |_=>none
     |none=>none
    |_=>none
   |false=>none
  |_=>none
 |none=>none
def S7 (s:St) (ps:Array Tmp) (as bd:Code):Option (AMem × List Nat):=
 match s.rd with
 |none=>some (s.m++[(s.n,Xr (.dfr true))]++[(s.n+1,Xr (.loop .ready none s.tm ps as bd s.n))],s.n::s.ms)
 |some r=>
  match ZX s.m r with
  |some x=>match x.cs with | .obj (.loop _ _ _ _ _ _ dn)=>some (s.m++[(s.n+1,Xr (.loop .ready none s.tm ps as bd dn))],s.ms)|_=>none
  |none=>none
def Vs (l:Nat) (s:St):Option (Exit × St):=
 match ZX s.m l with
 | some x=>
  match x.cs with
  | .obj (.loop .busy _ _ _ _ _ _)=>none
  | .obj (.loop _ pd tm ps as bd dn)=>
   match pd with
   |none=>some (.normal,{s with m:=Xv s.m l {x with cs:=.obj (.loop .exhausted pd tm ps as bd dn)}})
   |some .ret=>some (.ret,{s with m:=Xv s.m l {x with cs:=.obj (.loop .exhausted pd tm ps as bd dn)}})
   |some (.exit id)=>some (.exit id,{s with m:=Xv s.m l {x with cs:=.obj (.loop .exhausted pd tm ps as bd dn)}})
   |_=>none
  |_=>none
 |none=>none
def FW (r:Option Nat):Fence:={Fence.wide with round:=r}
def LO (r:Option Nat) (P:Program) (c:Code) (Q:Exit->Act->World->Prop) (a:Act) (w:World):Prop:=
 ∀(b:Frame) (k:List Item) (cs:List Frame),b.roundOf=r->∃e a' w',Q e a' w'/\ArrivesIn (Machine.fenced P (FW r)) P (lone (b.atR a (.code c:: .inLoop c::k)) cs w) b k cs e a' w'
def RdOk (β:Nm):Option Nat->Option Nat->Prop
 |none,none=>True
 |some id,some b=>∃L,β id=some L/\L.nil=false/\L.b=b
 |_,_=>False
theorem RdOk.ext {β β':Nm} (he:Ext β β'):∀{rd r:Option Nat},RdOk β rd r->RdOk β' rd r
 |none,none,_=>trivial
 |some _,some _,⟨L,h1,h2⟩=>⟨L,he _ _ h1,h2⟩
def Ht (P:Program) (c:Code) (tm:List AV) (m:AMem) (n:Nat) (tm':List AV) (m':AMem) (n':Nat) (e:Exit) (rd:Option Nat):Prop:=
 ∀(r:Option Nat) (C:Ctx) (β:Nm) (a:Act) (w:World),RdOk β rd r->FrOk β tm a.tmps->Rel C β m w->(∀id,n<=id->id<n'->β id=none)->
  LO r P c (fun e' a' w'=>e'=e/\a'.defers=a.defers/\∃β',Ext β β'/\(∀id,id<n\/n'<=id->β' id=β id)/\FrOk β' tm' a'.tmps/\Rel C β' m' w') a w
def LoopV (P:Program) (c:Code) (slots ids:List Nat) (vals:List (Option AV)) (blks:List (Option ABlk)) (len n:Nat) (tm':List AV) (m':AMem) (n':Nat) (e:Exit) (rd:Option Nat):Prop:=
 ∀tm m,slots.map (fun t=>tm[t]?)=vals->ids.map (ZX m)=blks->tm.length=len->Ht P c tm m n tm' m' n' e rd
def UP (run:Code->St->Option (Exit × St)) (a:Code):Nat->Code->St->Option (Exit × St)
 |0,_,_=>none
 |k+1,c,s=>
  match run c s with
  |some (.goto l,s)=>match findLabel a l with|some c'=>UP run a k c' s|none=>some (.goto l,s)
  |r=>r
def XC (E:Env):Nat->Code->St->Option (Exit × St)
 |0,_,_=>none
 | n + 1,c,s=>
  match c with
  | .skip=>some (.normal,s)
  | .label _=>some (.normal,s)
  | .region _ ops d=>
   match d with
   |false=>match RC E (Zm E (XC E n)) (Wi (XC E n)) ops ops.toList s with|some s=>some (.normal,s)|none=>none
   |true=>match Oi E (Zm E (XC E n)) (Wi (XC E n)) ops s with|some s=>some (.normal,s)|none=>none
  | .seq a b=>
   match XC E n a s with
   |some (.normal,s)=>XC E n b s
   |r=>r
  | .cond (.tmp t) a b=>
   match s.tm[t]? with
   |some (.c (.v (.bool x)))=>match s.dec t x with|some (true,s)=>XC E n a s|some (false,s)=>XC E n b s|none=>none
   |_=>none
  | .cond (.const (.bool x)) a b=>match x with|true=>XC E n a s|false=>XC E n b s
  | .block id a=>
   match XC E n a s with
   |some (.exit id',s)=>match Nat.beq id' id with|true=>some (.normal,s)|false=>some (.exit id',s)
   |r=>r
  | .loop a=>
   match s.lp with
   |some ⟨slots,ids,tm,m,k,e⟩::p=>
    match Nat.ble s.n k&&Nat.ble k ZQ with
    |true=>some (e,{s with tm:=tm,m:=m,n:=k,lp:=p,po:=LoopV E.P a slots ids (slots.map fun t=>s.tm[t]?) (ids.map (ZX s.m)) s.tm.length s.n tm m k e s.rd::s.po})
    |false=>none
   |none::p=>match XC E n a {s with lp:=p} with|some (.normal,s)=>XC E n (.loop a) {s with lp:=none::s.lp}|r=>r
   | []=>match XC E n a s with|some (.normal,s)=>XC E n (.loop a) s|r=>r
  | .exit id=>some (.exit id,s)
  | .goto l=>some (.goto l,s)
  | .scope a=>UP (XC E n) a 200 a s
  | .ret=>some (.ret,s)
  | .rangeFunc f ps as bd=>
   match Nat.ble (s.n+2) ZQ,Wx s.tm s.m f,S7 s ps as bd with
   | true,some v,some (m',ms')=>
    match UW [.c (.yld (s.n+1))] v with
    |some (.call g args)=>
     match Zm E (XC E n) g args {s with m:=m',n:=s.n+2} with
     |some (_,s1)=>Vs (s.n+1) {s1 with ms:=ms'}
     |none=>none
    |_=>none
   |_,_,_=>none
  |_=>none
def XN:Code->List Code
 | .seq a b=>XN a++XN b
 | .cond _ a b=>XN a++XN b
 | .block _ a=>XN a
 | .loop a=>a::XN a
 | .scope a=>XN a
 | .rangeFunc _ _ a b=>XN a++XN b
 |_=>[]
def ZY (P:Program) (f k:Nat):Code:=
 match P.funcs[f]? with
 |some fn=>match fn.body with|some c=>(XN c).getD k .skip|none=>.skip
 |none=>.skip
def VJ:Code->List (Code × Code)
 | .seq a b=>VJ a++VJ b
 | .cond _ a b=>VJ a++VJ b
 | .block _ a=>VJ a
 | .loop a=>VJ a
 | .scope a=>VJ a
 | .rangeFunc _ _ a b=>(a,b)::(VJ a++VJ b)
 |_=>[]
def GS (P:Program) (f k:Nat):Code × Code:=
 match P.funcs[f]? with
 |some fn=>match fn.body with|some c=>(VJ c).getD k (.skip,.skip)|none=>(.skip,.skip)
 |none=>(.skip,.skip)
def Oz (P:Program) (f k:Nat):Code:=(GS P f k).1
def OA (P:Program) (f k:Nat):Code:=(GS P f k).2
end Go.Proofs.YtodpbgbpifiniaaGreatDoor
end
