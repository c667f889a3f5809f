/- Parts, one behind the other. Parts of a proof. -/
import Derived.Test.YtodpbgbpifiniaaGreatDoorJModelsPlay9
import Derived.Test.YtodpbgbpifiniaaGreatDoorChecked
import Derived.KernelRfl
import Derived.Test.YtodpbgbpifiniaaGreatDoorJModelsPlay2
import Derived.IntWalk
set_option linter.unusedSimpArgs false
set_option linter.unusedVariables false
section
namespace Go.Proofs.YtodpbgbpifiniaaGreatDoor
open Go.RowKit Tryz
def ZA:ABlk:=⟨false,false,159,0,.lit [.v (.int .i64 1),.v (.int .i64 (-1))]⟩
def mS:AMem:=[(YR 0,ZA)]
structure Cfg where
 nodes:Int
 np:Nat
 fp:Nat->Int
 ns:Nat
 fs:Nat->Int
 long:Int
 nb:Nat
 fb:Nat->Int
 nt:Nat
 ft:Nat->Station
 miss:Int
 good:Int
 fresh:Int
def Z4 (F:Nat->List AC) (i:Nat):Station:=⟨ZP ((F i).getD 0 ZS),ZP ((F i).getD 1 ZS),ZP ((F i).getD 2 ZS)⟩
def OQ:List AC->Bool
 | [.v (.int .i64 _),.v (.int .u32 _),.v (.int .i64 _)]=>true
 |_=>false
theorem jjk8 {l:List AC} (h:OQ l=true):l=(⟨ZP (l.getD 0 ZS),ZP (l.getD 1 ZS),ZP (l.getD 2 ZS)⟩:Station).cells.map .v:=by
 unfold OQ at h;split at h
 . rfl
 . cases h
def Yc (n:Nat) (F:Nat->List AC):Bool:=(List.range n).all fun k=>OQ (F k)
theorem If {n:Nat} {F:Nat->List AC} (h:Yc n F=true):∀i,i<n->F i=((fun i=>(Z4 F i).cells) i).map .v:=fun i hi=>jjk8 (List.all_eq_true.1 h i (by simpa using hi))
abbrev Xj (n:Nat) (f:Nat->Station):ABlk:=XH 85 3 n fun i=>[.int .i64 (f i).node,.int .u32 (f i).safe,.int .i64 (f i).hold]
def Yi (c:Cfg):List AC:=[.v (.int .i64 c.nodes),.sl 0 0 0 c.np none,.sl 1 0 0 c.ns none,.v (.int .i64 c.long),.sl 2 0 0 c.nb none,.sl 3 0 0 c.nt none,.v (.int .i64 c.miss),.v (.int .i64 c.good),.v (.int .i64 c.fresh)]
abbrev MQ (c:Cfg):AMem:=[(0,ZG 3 c.np c.fp),(1,ZG 3 c.ns c.fs),(2,ZG 3 c.nb c.fb),(3,Xj c.nt c.ft)]
abbrev Xl (c:Cfg):AMem:=[(YR 0,ZA),(0,ZG 3 c.np c.fp),(1,ZG 3 c.ns c.fs),(2,ZG 3 c.nb c.fb),(3,Xj c.nt c.ft)]
def VD (l:List AC) (m:AMem):Option (Cfg × Bool):=
 match l with
 | [.v (.int .i64 nodes),p,s,.v (.int .i64 long),b,t,.v (.int .i64 miss),.v (.int .i64 good),.v (.int .i64 fresh)]=>
  match XB 1 m p,XB 1 m s,XB 1 m b,XB 3 m t with
  |some (np,P,b1),some (ns,S,b2),some (nb,B,b3),some (nt,T,b4)=>some (⟨nodes,np,fA P,ns,fA S,long,nb,fA B,nt,Z4 T,miss,good,fresh⟩,b1&&(b2&&(b3&&(b4&&(Zy np P&&(Zy ns S&&(Zy nb B&&Yc nt T)))))))
  |_,_,_,_=>none
 |_=>none
theorem jjgm {C:Ctx} {β:Nm} {m m2:AMem} {w:World} (hs:Sub m m2) (hr:Rel C β m2 w) {l:List AC} {c:Cfg} (h:VD l m=some (c,true)) (hg:WG mS m=true) {cs:List Value} (hv:γs β l=some cs):
 ∃β',Rel (Zx w) β' (Xl c) w/\γs β' (Yi c)=some cs/\(∀id,4<=id->id<ZQ->β' id=none)/\∀i x,ZX (Xl c) i=some x->x.own=false/\Xe x=false:=by
 unfold VD at h;split at h
 . rename_i nodes p s long b t miss good fresh
   split at h
   . rename_i np P b1 ns S b2 nb B b3 nt T b4 hp hsl hb ht
     simp only[Option.some.injEq,Prod.mk.injEq,Bool.and_eq_true] at h;obtain⟨rfl,rfl,rfl,rfl,rfl,i1,i2,i3,i4⟩:=h;obtain⟨hlen,hget⟩:=TI.1 hv;obtain⟨v1,e1,g1⟩:=hget 1 p rfl;obtain⟨v2,e2,g2⟩:=hget 2 s rfl;obtain⟨v4,e4,g4⟩:=hget 4 b rfl;obtain⟨v5,e5,g5⟩:=hget 5 t rfl;have r0:=Nw hr hs hg (by kernel_rfl)
     have n0:∀id x,ZX mS id=some x->x.own=false/\Xe x=false:=by
      intro id x hx;have:=Vo hx;rw[mS,List.mem_singleton] at this;cases this;exact⟨rfl,rfl⟩
     have hlo:∀id,id<ZQ->U9 β id=none:=fun id h=>by unfold U9;rw[if_neg (by omega)]
     have hgi:∀(id:Nat),id<ZQ->∀g,id≠YR g:=fun id h=>Wb h
     obtain⟨L0,k0,z0⟩:=UD hr Nat.one_pos (V4 hs hp) g1 3 (Si i1) (fun _=>rfl) (Zx w) (U9 β) rfl;obtain⟨r1,n1⟩:=PV r0 n0 (id:=0) (hlo 0 (by unfold ZQ;omega)) (hgi 0 (by unfold ZQ;omega)) rfl rfl k0;obtain⟨L1,k1,z1⟩:=UD hr Nat.one_pos (V4 hs hsl) g2 3 (Si i2) (fun _=>rfl) (Zx w) (ZR (U9 β) 0 L0) rfl;obtain⟨r2,n2⟩:=PV r1 n1 (id:=1) (by simp[ZR,hlo 1 (by unfold ZQ;omega)]) (hgi 1 (by unfold ZQ;omega)) rfl rfl k1;obtain⟨L2,k2,z2⟩:=UD hr Nat.one_pos (V4 hs hb) g4 3 (Si i3) (fun _=>rfl) (Zx w) (ZR (ZR (U9 β) 0 L0) 1 L1) rfl;obtain⟨r3,n3⟩:=PV r2 n2 (id:=2) (by simp[ZR,hlo 2 (by unfold ZQ;omega)]) (hgi 2 (by unfold ZQ;omega)) rfl rfl k2;obtain⟨L3,k3,z3⟩:=UD hr (by omega:0<3) (V4 hs ht) g5 85 (If i4) (fun _=>rfl) (Zx w) (ZR (ZR (ZR (U9 β) 0 L0) 1 L1) 2 L2) rfl;obtain⟨r4,n4⟩:=PV r3 n3 (id:=3) (by simp[ZR,hlo 3 (by unfold ZQ;omega)]) (hgi 3 (by unfold ZQ;omega)) rfl rfl k3;refine⟨_,r4,?_,fun id h1 h2=>?_,n4⟩
     . rw[TI]
       refine⟨by rw[hlen];rfl,fun i x hx=>?_⟩;have hget':=hget i
       match i,hx with
       |0,hx=>obtain⟨u,q1,q2⟩:=hget 0 _ rfl;cases hx;exact⟨u,q1,q2⟩
       |1,hx=>cases hx;exact⟨v1,e1,z0 _ 0 (by simp[ZR])⟩
       |2,hx=>cases hx;exact⟨v2,e2,z1 _ 1 (by simp[ZR])⟩
       |3,hx=>obtain⟨u,q1,q2⟩:=hget 3 _ rfl;cases hx;exact⟨u,q1,q2⟩
       |4,hx=>cases hx;exact⟨v4,e4,z2 _ 2 (by simp[ZR])⟩
       |5,hx=>cases hx;exact⟨v5,e5,z3 _ 3 (by simp[ZR])⟩
       |6,hx=>obtain⟨u,q1,q2⟩:=hget 6 _ rfl;cases hx;exact⟨u,q1,q2⟩
       |7,hx=>obtain⟨u,q1,q2⟩:=hget 7 _ rfl;cases hx;exact⟨u,q1,q2⟩
       |8,hx=>obtain⟨u,q1,q2⟩:=hget 8 _ rfl;cases hx;exact⟨u,q1,q2⟩
     . simp[ZR,hlo id h2,show id≠0 by omega,show id≠1 by omega,show id≠2 by omega,show id≠3 by omega]
   . cases h
 . cases h
theorem NE {C:Ctx} {β:Nm} {m m2:AMem} {w:World} (hs:Sub m m2) (hr:Rel C β m2 w) {l:List AC} {c:Cfg} (h:VD l m=some (c,true)) (hg:WG mS m=true) {cs:List Value} (hv:γs β l=some cs):
 ∃β',Rel (Zx w) β' (Xl c) w/\γs β' (Yi c)=some cs/\∀id,1000<=id->id<ZQ->β' id=none:=by
 obtain⟨β',h1,h2,h3,_⟩:=jjgm hs hr h hg hv;exact⟨β',h1,h2,fun id a b=>h3 id (by omega) b⟩
def Z2 (c:Cfg):Bool:=decide (0+Cfg.np c<=Cfg.np c)&&(decide (0+Cfg.ns c<=Cfg.ns c)&&(decide (0+Cfg.nb c<=Cfg.nb c)&&(decide (0+Cfg.nt c<=Cfg.nt c)&&((Zy (Cfg.np c) fun k=>List.map AC.v ((fun i=>[Value.int IntKind.i64 (Cfg.fp c i)]) k))&&((Zy (Cfg.ns c) fun k=>List.map AC.v ((fun i=>[Value.int IntKind.i64 (Cfg.fs c i)]) k))&&((Zy (Cfg.nb c) fun k=>List.map AC.v ((fun i=>[Value.int IntKind.i64 (Cfg.fb c i)]) k))&&Yc (Cfg.nt c) fun k=>List.map AC.v ((fun i=>[Value.int IntKind.i64 (Station.node (Cfg.ft c i)),Value.int IntKind.u32 (Station.safe (Cfg.ft c i)),Value.int IntKind.i64 (Station.hold (Cfg.ft c i))]) k)))))))
theorem YZ (c:Cfg):Z2 c=true:=by simp[Z2,Zy,Ut,Yc,OQ]
def YP (R:Cfg->AV) (pre:Cfg->Bool):Yq
 | [.agg l],m,_=>
  match VD l m,WG mS m with
  |some (c,b),true=>some (R c,[],0,[b,pre c])
  |_,_=>none
 |_,_,_=>none
theorem Qp {E:Env} (hE:Zz E) {f:FuncId} {R:Cfg->AV} {pre:Cfg->Bool} (hf:∃(fn:Func) (c:Code),E.P.funcs[f]? =some fn/\fn.body=some c) (hres:∀c (β1 β2:Nm) u,γ β1 (R c)=some u->γ β2 (R c)=some u) {fuel str:Nat}
 (run:∀c,pre c=true->∃p lp r,ZB [] (ZJ E (fC E fuel) f [.agg (Yi c)] 1000 str (Y7 (Xl c) p lp))=some r/\r.1=R c/\r.2.2.1<=ZQ/\ZZ r.2.2.2.1/\∀q∈r.2.2.2.2,q):ZC E.P f (YP R pre):=by
 refine⟨hf,fun C β m m2 w args ib r news k' ob vs hct ho hs hr hfree hlim hv=>?_⟩;unfold YP at hct;split at hct
 . rename_i l
   split at hct
   . rename_i c b hc hg
     simp only[Option.some.injEq,Prod.mk.injEq] at hct;obtain⟨rfl,rfl,rfl,rfl⟩:=hct;simp only[ZZ,List.forall_mem_cons] at ho;obtain⟨rfl,o2,_⟩:=ho;obtain⟨p,lp,⟨v,b',n',ob,po⟩,hrun,hvr,hn,hob,hpo⟩:=run c o2;obtain⟨s',r1,r2,r3,r4⟩:=Td hrun;have hn:n'<=ZQ:=hn;simp only[γt,γ1] at hv;split at hv
     . rename_i v0 us hv0 hus
       split at hv0
       . rename_i cs hcs
         cases hv0;cases hus;cases hv;obtain⟨β1,q1,q2,q3⟩:=NE hs hr hc hg hcs;refine(X8 hE r1 ⟨by rw[r3];exact hob,by rw[r4];exact hpo⟩ (C:=Zx w) (β:=β1) (w:=w) (vs:=[.agg cs.toArray]) ?_ q1 (fun id h1 h2=>q3 id h1 (by omega))).mono ?_
         . simp only[γt,γ1,q2]
         . rintro e w' ⟨β',u,rfl,_,_,hu,hr'⟩
           simp only at hvr;subst hvr;exact⟨β,u,rfl,Ext.refl _,fun _ _=>rfl,hres _ _ _ _ hu,by rw[List.append_nil];exact hr.below (Sr hr')⟩
       . cases hv0
     . cases hv
   . cases hct
 . cases hct
abbrev yP (c:Cfg):Cs:=Cs.arr c.np fun k=>List.map AC.v ((fun i=>[Value.int .i64 (c.fp i)]) k)
abbrev yS (c:Cfg):Cs:=Cs.arr c.ns fun k=>List.map AC.v ((fun i=>[Value.int .i64 (c.fs i)]) k)
abbrev yB (c:Cfg):Cs:=Cs.arr c.nb fun k=>List.map AC.v ((fun i=>[Value.int .i64 (c.fb i)]) k)
abbrev yT (c:Cfg):Cs:=Cs.arr c.nt fun k=>List.map AC.v ((fun i=>[Value.int .i64 (c.ft i).node,.int .u32 (c.ft i).safe,.int .i64 (c.ft i).hold]) k)
abbrev UC (n k:Nat):List AV:=[.c (.sl 0 0 0 n none),.c (.fn 84 [(1000,0,0)]),i64 (Int.ofNat n),i64 (Int.ofNat k)]
abbrev HL (f:Nat->Int) (n:Nat) (many:Int):List ABlk:=[ZG 3 n f,FN 3 [.int .i64 many]]
def insR (P:Program) (f:Nat->Int) (n:Nat) (many:Int) (k:Nat) (path:List Dec):Option VC:=
 view ([0,1,7,8]++[4]) [0,1000] (fC (E1 P) 100 (ZY P 115 0) 1000000000000000000000000000000000000000000 nSt (WR 19 [0,1,7,8] [0,1000] (UC n k) (HL f n many) path []))
theorem ins (f:Nat->Int) (n:Nat) (many:Int) (k:Nat) (Q:VC->Prop) (H:let zN:=Int.ofNat;let zD:=Int.toNat;let zz0:=(ABlk.mk false false 3 1 (Cs.arr n fun k=>List.map AC.v ((fun i=>[Value.int IntKind.i64 (f i)]) k)));let zz1:=[some (ZN (List.zip [0,1,7,8] (UC n k)) 0),some (ZN (List.zip [0,1,7,8] (UC n k)) 1),some (ZN (List.zip [0,1,7,8] (UC n k)) 7),some (ZN (List.zip [0,1,7,8] (UC n k)) 8),some (AV.c (zI (zN k)))];let zz2:=[some zz0,yR 3 0 (Cs.lit [zI many])];let zq0:List Bool:=[ABlk.inb zz0 (0+zD (zN k)) 1,true,decide (zN 0<=zN k/\zN k < ↑n),decide (zN k<zN n)==true];let zq1:List Bool:=true::true::(decide (f (0+zD (zN k))<zN 0)==false)::zq0;let zs0:=fun (l:List (Option AV))=>some (ZN (List.zip [0,1,7,8] (UC n k)) 0)::some (ZN (List.zip [0,1,7,8] (UC n k)) 1)::some (ZN (List.zip [0,1,7,8] (UC n k)) 7)::l;(((decide (zN k<zN n))=true->(((decide (f (0+zD (zN k))<zN 0))=true->Q (Exit.ret,zz1,zz2,19,1000000000000000000000000000000000000000016,((decide (f (0+zD (zN k))<zN 0)==true)::zq0),[]))/\((decide (f (0+zD (zN k))<zN 0))=false->(((decide (f (0+zD (zN k))≥many))=true->Q (Exit.ret,zz1,zz2,19,1000000000000000000000000000000000000000019,((decide (f (0+zD (zN k))≥many)==true)::zq1),[]))/\((decide (f (0+zD (zN k))≥many))=false->Q (Exit.normal,(zs0 [some (.c (zI (IntKind.wrap .i64 (zN k+zN 1)))),some (ZN (List.zip [0,1,7,8] (UC n k)) 4)]),zz2,19,1000000000000000000000000000000000000000019,((decide (f (0+zD (zN k))≥many)==false)::zq1),[]))))))/\((decide (zN k<zN n))=false->Q (Exit.exit 0,(zs0 [some (ZN (List.zip [0,1,7,8] (UC n k)) 8),some (ZN (List.zip [0,1,7,8] (UC n k)) 4)]),zz2,19,1000000000000000000000000000000000000000001,[decide (zN k<zN n)==false],[])))):
 ∃p r,insR prog f n many k p=some r/\Q r:=
 ZL H (fun g1=>ZL g1 (fun g2=>⟨pD 5 4,_,by kernel_rfl,g2⟩) (fun g2=>ZL g2 (fun g3=>⟨pD 5 88,_,by kernel_rfl,g3⟩) (fun g3=>⟨pD 5 169,_,by kernel_rfl,g3⟩))) (fun g1=>⟨pD 1 2,_,by kernel_rfl,g1⟩)
abbrev PQ (lo hi:Int) (n k:Nat):List AV:=[i64 lo,i64 hi,.c (.sl 0 0 0 n none),i64 (Int.ofNat n),i64 (Int.ofNat k)]
def Cn (P:Program) (f:Nat->Int) (n:Nat) (lo hi:Int) (k:Nat) (path:List Dec):Option VC:=
 view ([1,2,10,11,12]++[6]) [0] (fC (E1 P) 100 (ZY P 54 0) 1000000000000000000000000000000000000000000 nSt (WR 24 [1,2,10,11,12] [0] (PQ lo hi n k) [ZG 3 n f] path []))
theorem Cl (f:Nat->Int) (n:Nat) (lo hi:Int) (k:Nat) (Q:VC->Prop) (H:let zN:=Int.ofNat;let zD:=Int.toNat;let zz0:=(List.zip [1,2,10,11,12] (PQ lo hi n k));let zz1:=(ABlk.mk false false 3 1 (Cs.arr n fun k=>List.map AC.v ((fun i=>[Value.int IntKind.i64 (f i)]) k)));let zq0:List Bool:=[ABlk.inb zz1 (0+zD (zN k)) 1,true,decide (zN 0<=zN k/\zN k < ↑n),decide (zN k<zN n)==true];let zq1:List Bool:=(decide (f (0+zD (zN k))>hi)==false)::zq0;let zs0:=fun (l:List (Option AV))=>some (ZN zz0 1)::some (ZN zz0 2)::some (ZN zz0 10)::some (ZN zz0 11)::l;(((decide (zN k<zN n))=true->(((decide (f (0+zD (zN k))>hi))=true->Q (Exit.ret,(zs0 [some (ZN zz0 12),some (.c (zI (zN 3)))]),[some zz1],24,1000000000000000000000000000000000000000018,((decide (f (0+zD (zN k))>hi)==true)::zq0),[]))/\((decide (f (0+zD (zN k))>hi))=false->(((decide (f (0+zD (zN k))<lo))=true->Q (Exit.ret,(zs0 [some (ZN zz0 12),some (.c (zI (zN 1)))]),[some zz1],24,1000000000000000000000000000000000000000022,((decide (f (0+zD (zN k))<lo)==true)::zq1),[]))/\((decide (f (0+zD (zN k))<lo))=false->Q (Exit.normal,(zs0 [some (.c (zI (IntKind.wrap .i64 (zN k+zN 1)))),some (ZN zz0 6)]),[some zz1],24,1000000000000000000000000000000000000000022,((decide (f (0+zD (zN k))<lo)==false)::zq1),[]))))))/\((decide (zN k<zN n))=false->Q (Exit.exit 0,(zs0 [some (ZN zz0 12),some (ZN zz0 6)]),[some zz1],24,1000000000000000000000000000000000000000001,[decide (zN k<zN n)==false],[])))):
 ∃p r,Cn prog f n lo hi k p=some r/\Q r:=
 ZL H (fun g1=>ZL g1 (fun g2=>⟨pD 3 4,_,by kernel_rfl,g2⟩) (fun g2=>ZL g2 (fun g3=>⟨pD 4 16,_,by kernel_rfl,g3⟩) (fun g3=>⟨pD 4 25,_,by kernel_rfl,g3⟩))) (fun g1=>⟨pD 1 2,_,by kernel_rfl,g1⟩)
abbrev Sz (n k:Nat):List AV:=[.c (.sl 0 0 0 n none),i64 (Int.ofNat (n-1-k))]
def By (P:Program) (f:Nat->Int) (n:Nat) (k:Nat) (path:List Dec):Option VC:=
 view ([0,3]++[2]) [0] (fC (E1 P) 100 (ZY P 46 0) 1000000000000000000000000000000000000000000 nSt (WR 21 [0,3] [0] (Sz n k) [ZG 3 n f] path []))
theorem Bx (f:Nat->Int) (n:Nat) (k:Nat) (Q:VC->Prop) (H:let zN:=Int.ofNat;let zz0:=(0+Int.toNat (IntKind.wrap IntKind.i64 (zN (n-1-k)-zN 1)));let zz1:=(ABlk.mk false false 3 1 (Cs.arr n fun k=>List.map AC.v ((fun i=>[Value.int IntKind.i64 (f i)]) k)));let zz2:=(f (0+Int.toNat (zN (n-1-k))) !=f (0+Int.toNat (zN (n-1-k))));let zz3:=(f (0+Int.toNat (zN (n-1-k)))<f zz0);let zz4:=[some (ZN (List.zip [0,3] (Sz n k)) 0),some (ZN (List.zip [0,3] (Sz n k)) 3),some (AV.c (zB false))];let zz5:=[some (ZN (List.zip [0,3] (Sz n k)) 0),some (AV.c (zI (IntKind.wrap IntKind.i64 (zN (n-1-k)-zN 1)))),some (ZN (List.zip [0,3] (Sz n k)) 2)];let zq0:List Bool:=[ABlk.inb zz1 zz0 1,true,decide (zN 0<=IntKind.wrap .i64 (zN (n-1-k)-zN 1)/\IntKind.wrap .i64 (zN (n-1-k)-zN 1) < ↑n),ABlk.inb zz1 (0+Int.toNat (zN (n-1-k))) 1,true,decide (zN 0<=zN (n-1-k)/\zN (n-1-k) < ↑n),decide (zN (n-1-k)>zN 0)==true];let zq1:List Bool:=(zz2==true)::zq0;let zq2:List Bool:=((!f zz0 !=f zz0)==false)::zq1;let zq3:List Bool:=(zz2==false)::zq0;(((decide (zN (n-1-k)>zN 0))=true->((zz2=true->(((!f zz0 !=f zz0)=true->Q (Exit.ret,zz4,[some zz1],21,1100000000000000000000000000000000000000003,(((!f zz0 !=f zz0)==true)::zq1),[]))/\((!f zz0 !=f zz0)=false->(((decide zz3)=true->Q (Exit.ret,zz4,[some zz1],21,1100000000000000000000000000000000000000003,((decide zz3==true)::zq2),[]))/\((decide zz3)=false->Q (Exit.normal,zz5,[some zz1],21,1100000000000000000000000000000000000000005,((decide zz3==false)::zq2),[]))))))/\(zz2=false->(((decide zz3)=true->Q (Exit.ret,zz4,[some zz1],21,1100000000000000000000000000000000000000003,((decide zz3==true)::zq3),[]))/\((decide zz3)=false->Q (Exit.normal,zz5,[some zz1],21,1100000000000000000000000000000000000000005,((decide zz3==false)::zq3),[]))))))/\((decide (zN (n-1-k)>zN 0))=false->Q (Exit.exit 0,[some (ZN (List.zip [0,3] (Sz n k)) 0),some (ZN (List.zip [0,3] (Sz n k)) 3),some (ZN (List.zip [0,3] (Sz n k)) 2)],[some zz1],21,1000000000000000000000000000000000000000002,[decide (zN (n-1-k)>zN 0)==false],[])))):
 ∃p r,By prog f n k p=some r/\Q r:=
 ZL H (fun g1=>ZL g1 (fun g2=>ZL g2 (fun g3=>⟨pD 8 85,_,by kernel_rfl,g3⟩) (fun g3=>ZL g3 (fun g4=>⟨pD 8 2353,_,by kernel_rfl,g4⟩) (fun g4=>⟨pD 8 4540,_,by kernel_rfl,g4⟩))) (fun g2=>ZL g2 (fun g3=>⟨pD 8 2194,_,by kernel_rfl,g3⟩) (fun g3=>⟨pD 8 4381,_,by kernel_rfl,g3⟩))) (fun g1=>⟨pD 1 2,_,by kernel_rfl,g1⟩)
theorem Xk:Zz (E1 prog):=Xp (fun _ _ h=>by cases h) (by kernel_rfl) (by kernel_rfl)
theorem XG (x:Int) (h0: -9223372036854775808<=x) (h1:x<=9223372036854775807):IntKind.wrap .i64 x=x:=IntWalk.i64_in _ (by first|exact⟨h0,h1⟩|omega)
theorem TH {N ty n:Nat} {f:Nat->Int}:Zc N (ZG ty n f):=WU
theorem Fp (f:Nat->Int) (n:Nat) (many:Int) (N:Nat) (hN:1001<=N) (hN2:N<=1000000000000000000000000000000000000000000) (hn:n<=1000000) (j:Nat) (hj:j<=n) (hmin:∀i,i<j->0<=f i/\f i<many) (hyes:j<n->f j<0\/many<=f j) {e:Exit} {out:List (Nat × AV)}
 (hF:(j<n->e= .ret/\out=[(4,i64 (Int.ofNat j))])/\(j=n->e= .exit 0/\out=[])):
 LoopV prog (ZY prog 115 0) [0,1,7,8] [0,1000] ((UC n 0).map some) ((HL f n many).map some) 19 N (ZT 19 out) [] 100000000000000000000000000000000000000000000000000 e none:=by
 have e0:∀k:Nat,0+Int.toNat (Int.ofNat k)=k:=fun k=>by simp
 have hw:∀k,k<n->IntKind.wrap IntKind.i64 (Int.ofNat k+Int.ofNat 1)=Int.ofNat (k+1):=fun k hk=>by rw[XG _ (by simp;omega) (by simp;omega)];rfl
 refine UH Xk (fuel:=100) (str:=nSt) (nh:=1000000000000000000000000000000000000000000) [0,1,7,8] [4] [0,1000] (UC n) (HL f n many) j hN2 (by decide) (by unfold ZQ;omega) ?_ (fun _=>⟨rfl,rfl⟩) ?_ ?_ ?_ ?_ ?_
 . rcases Nat.lt_or_ge j n with h|h
   . rw[(hF.1 h).1];simp
   . rw[(hF.2 (by omega)).1];simp
 . simp[Zb];omega
 . intro k _
   simp[US,WW,Yu,XR,i64];omega
 . intro b hb
   simp only[List.mem_cons,List.not_mem_nil,or_false] at hb;rcases hb with rfl|rfl
   . exact TH
   . exact jjh6
 . intro k hk
   refine ins f n many k _ ⟨fun c1=>⟨fun c2=>?_,fun c2=>⟨fun c3=>?_,fun c3=>?_⟩⟩,fun c1=>?_⟩<;>simp only[e0] at *
   . simp at c2;have:=hmin k hk;omega
   . simp at c3;have:=hmin k hk;omega
   . have hlt:k<n:=by omega
     have:=hmin k hk;refine⟨⟨?_,rfl,by dsimp only;omega,rfl⟩,rfl,?_,BL.refl _⟩
     . simp only[ZZ,List.forall_mem_cons,e0]
       simp[Z6,hlt];omega
     . dsimp only;rw[hw k hlt];rfl
   . simp at c1;omega
 . refine ins f n many j _ ⟨fun c1=>⟨fun c2=>?_,fun c2=>⟨fun c3=>?_,fun c3=>?_⟩⟩,fun c1=>?_⟩<;>simp only[e0] at *
   . have hlt:j<n:=by simpa using c1
     obtain⟨rfl,rfl⟩:=hF.1 hlt;refine Ry ⟨?_,rfl,by dsimp only;omega,rfl⟩ rfl rfl ?_
     . simp only[ZZ,List.forall_mem_cons,e0]
       simp at c2;simp[Z6,hlt,c2]
     . simp[i64]
   . have hlt:j<n:=by simpa using c1
     obtain⟨rfl,rfl⟩:=hF.1 hlt;refine Ry ⟨?_,rfl,by dsimp only;omega,rfl⟩ rfl rfl ?_
     . simp only[ZZ,List.forall_mem_cons,e0]
       simp at c2 c3;simp[Z6,hlt,c2,c3]
     . simp[i64]
   . have hlt:j<n:=by simpa using c1
     simp at c2 c3;have:=hyes hlt;omega
   . have hlt:¬j<n:=by simpa using c1
     obtain⟨rfl,rfl⟩:=hF.2 (by omega);refine Rq ⟨?_,rfl,by dsimp only;omega,rfl⟩ rfl;simp[ZZ];omega
def ZV (x lo hi:Int):Int:=if x>hi then 3 else if x<lo then 1 else 0
theorem EU (f:Nat->Int) (n:Nat) (lo hi:Int) (N:Nat) (hN:1<=N) (hN2:N<=1000000000000000000000000000000000000000000) (hn:n<=9223372036854775807) (j:Nat) (hj:j<=n) (hmin:∀i,i<j->ZV (f i) lo hi=0) (hyes:j<n->ZV (f j) lo hi≠0) {e:Exit} {out:List (Nat × AV)}
 (hF:(j<n->e= .ret/\out=[(6,i64 (ZV (f j) lo hi))])/\(j=n->e= .exit 0/\out=[])):
 LoopV prog (ZY prog 54 0) [1,2,10,11,12] [0] ((PQ lo hi n 0).map some) ([ZG 3 n f].map some) 24 N (ZT 24 out) [] 100000000000000000000000000000000000000000000000000 e none:=by
 have e0:∀k:Nat,0+Int.toNat (Int.ofNat k)=k:=fun k=>by simp
 have hw:∀k,k<n->IntKind.wrap IntKind.i64 (Int.ofNat k+Int.ofNat 1)=Int.ofNat (k+1):=fun k hk=>by rw[XG _ (by simp;omega) (by simp;omega)];rfl
 refine UH Xk (fuel:=100) (str:=nSt) (nh:=1000000000000000000000000000000000000000000) [1,2,10,11,12] [6] [0] (PQ lo hi n) [ZG 3 n f] j hN2 (by decide) (by unfold ZQ;omega) ?_ (fun _=>⟨rfl,rfl⟩) ?_ ?_ ?_ ?_ ?_
 . rcases Nat.lt_or_ge j n with h|h
   . rw[(hF.1 h).1];simp
   . rw[(hF.2 (by omega)).1];simp
 . simp[Zb];omega
 . intro k _
   simp[US,WW,Yu,XR,i64];omega
 . intro b hb
   rw[List.mem_singleton.1 hb];exact TH
 . intro k hk
   have hm:=hmin k hk;unfold ZV at hm;refine Cl f n lo hi k _ ⟨fun c1=>⟨fun c2=>?_,fun c2=>⟨fun c3=>?_,fun c3=>?_⟩⟩,fun c1=>?_⟩<;>simp only[e0] at *
   . simp at c2;rw[if_pos c2] at hm;omega
   . simp at c2 c3;rw[if_neg (by omega),if_pos c3] at hm;omega
   . have hlt:k<n:=by omega
     simp at c2 c3;refine⟨⟨?_,rfl,by dsimp only;omega,rfl⟩,rfl,?_,BL.refl _⟩
     . simp only[ZZ,List.forall_mem_cons,e0]
       simp[Z6,hlt,c2,c3]
     . dsimp only;rw[hw k hlt];rfl
   . simp at c1;omega
 . refine Cl f n lo hi j _ ⟨fun c1=>⟨fun c2=>?_,fun c2=>⟨fun c3=>?_,fun c3=>?_⟩⟩,fun c1=>?_⟩<;>simp only[e0] at *
   . have hlt:j<n:=by simpa using c1
     obtain⟨rfl,rfl⟩:=hF.1 hlt;simp at c2;have hz:ZV (f j) lo hi=3:=by unfold ZV;rw[if_pos c2]
     refine Ry ⟨?_,rfl,by dsimp only;omega,rfl⟩ rfl rfl ?_
     . simp only[ZZ,List.forall_mem_cons,e0]
       simp[Z6,hlt,c2]
     . rw[hz];simp[i64]
   . have hlt:j<n:=by simpa using c1
     obtain⟨rfl,rfl⟩:=hF.1 hlt;simp at c2 c3;have hz:ZV (f j) lo hi=1:=by unfold ZV;rw[if_neg (by omega),if_pos c3]
     refine Ry ⟨?_,rfl,by dsimp only;omega,rfl⟩ rfl rfl ?_
     . simp only[ZZ,List.forall_mem_cons,e0]
       simp[Z6,hlt,c2,c3]
     . rw[hz];simp[i64]
   . have hlt:j<n:=by simpa using c1
     simp at c2 c3;have:=hyes hlt;unfold ZV at this;rw[if_neg (by omega),if_neg (by omega)] at this;omega
   . have hlt:¬j<n:=by simpa using c1
     obtain⟨rfl,rfl⟩:=hF.2 (by omega);refine Rq ⟨?_,rfl,by dsimp only;omega,rfl⟩ rfl;simp[ZZ];omega
theorem Fd (f:Nat->Int) (n:Nat) (N:Nat) (hN:1<=N) (hN2:N<=1000000000000000000000000000000000000000000) (hn1:1<=n) (hn:n<=1000000) (j:Nat) (hj:j<=n-1) (hmin:∀i,i<j->f (n-1-i-1)<=f (n-1-i)) (hyes:j<n-1->f (n-1-j)<f (n-1-j-1)) {e:Exit} {out:List (Nat × AV)}
 (hF:(j<n-1->e= .ret/\out=[(2,bo false)])/\(j=n-1->e= .exit 0/\out=[])) {z:Int} (hz:z=Int.ofNat (n-1-0)):
 LoopV prog (ZY prog 46 0) [0,3] [0] [some (.c (.sl 0 0 0 n none)),some (i64 z)] ([ZG 3 n f].map some) 21 N (ZT 21 out) [] 100000000000000000000000000000000000000000000000000 e none:=by
 subst hz;have e0:∀k:Nat,0+Int.toNat (Int.ofNat k)=k:=fun k=>by simp
 have hw:∀m:Nat,m<n->0<m->IntKind.wrap IntKind.i64 (Int.ofNat m-Int.ofNat 1)=Int.ofNat (m-1):=fun m hm h0=>by
  rw[XG _ (by simp;omega) (by simp;omega)];simp;omega
 refine UH Xk (fuel:=100) (str:=nSt) (nh:=1000000000000000000000000000000000000000000) [0,3] [2] [0] (Sz n) [ZG 3 n f] j hN2 (by decide) (by unfold ZQ;omega) ?_ (fun _=>⟨rfl,rfl⟩) ?_ ?_ ?_ ?_ ?_
 . rcases Nat.lt_or_ge j (n-1) with h|h
   . rw[(hF.1 h).1];simp
   . rw[(hF.2 (by omega)).1];simp
 . simp[Zb];omega
 . intro k _
   simp[US,WW,Yu,XR,i64];omega
 . intro b hb
   rw[List.mem_singleton.1 hb];exact TH
 . intro k hk
   have hm:=hmin k hk;have hpos:0<n-1-k:=by omega
   have hw1:=hw (n-1-k) (by omega) hpos;have hk2:n-1-(k+1)=n-1-k-1:=by omega
   refine Bx f n k _ ⟨fun c1=>⟨fun c2=>⟨fun c3=>?_,fun c3=>⟨fun c4=>?_,fun c4=>?_⟩⟩,fun c2=>⟨fun c4=>?_,fun c4=>?_⟩⟩,fun c1=>?_⟩<;>simp only[hw1,e0] at *
   . simp at c2
   . simp at c2
   . simp at c2
   . simp at c4;omega
   . refine⟨⟨?_,rfl,by dsimp only;omega,rfl⟩,rfl,?_,BL.refl _⟩
     . simp only[ZZ,List.forall_mem_cons,hw1,e0]
       simp at c4;simp[Z6,c4];omega
     . show _=[some _,some (i64 (Int.ofNat (n-1-(k+1))))]
       rw[hk2];rfl
   . simp at c1;omega
 . refine Bx f n j _ ⟨fun c1=>⟨fun c2=>⟨fun c3=>?_,fun c3=>⟨fun c4=>?_,fun c4=>?_⟩⟩,fun c2=>⟨fun c4=>?_,fun c4=>?_⟩⟩,fun c1=>?_⟩
   . simp at c2
   . simp at c2
   . simp at c2
   . have hpos:0<n-1-j:=by simp at c1;omega
     have hw1:=hw (n-1-j) (by omega) hpos;obtain⟨rfl,rfl⟩:=hF.1 (by omega);simp only[hw1,e0] at *;refine Ry ⟨?_,rfl,by dsimp only;omega,rfl⟩ rfl rfl ?_
     . simp only[ZZ,List.forall_mem_cons,hw1,e0]
       simp at c4;simp[Z6,c4];omega
     . simp[bo]
   . have hpos:0<n-1-j:=by simp at c1;omega
     have hw1:=hw (n-1-j) (by omega) hpos;simp only[hw1,e0] at *;have:=hyes (by omega);simp at c4;omega
   . have hlt:¬0<n-1-j:=by simp at c1;omega
     obtain⟨rfl,rfl⟩:=hF.2 (by omega);refine Rq ⟨?_,rfl,by dsimp only;omega,rfl⟩ rfl;simp[ZZ];omega
def insS (e:Exit) (l:List (Nat × AV)):Zh:=⟨[0,1,7,8],[0,1000],ZT 19 l,[],100000000000000000000000000000000000000000000000000,e⟩
def PT (P:Program) (f:Nat->Int) (n:Nat) (many:Int) (e:Exit) (l:List (Nat × AV)):Option VF:=
 ZB [] (ZJ (E1 P) (fC (E1 P) 300) 45 [.c (.sl 0 0 0 n none),i64 many] 1000 nSt (Y7 [(0,ZG 3 n f)] [] [some (insS e l)]))
theorem jjk9 (f:Nat->Int) (n:Nat) (many:Int) (j:Nat):PT prog f n many .ret [(4,i64 (Int.ofNat j))]=
 some (.c (.v (.bool false)),[],100000000000000000000000000000000000000000000000004,[],[LoopV prog (ZY prog 115 0) [0,1,7,8] [0,1000] [some (.c (.sl 0 0 0 n none)),some (.c (AC.fn 84 [(1000,0,0)])),some (.c (.v (.int .i64 ↑n))),some (.c (.v (.int .i64 (Int.ofNat 0))))] [some (ABlk.mk false false 3 1 (Cs.arr n fun k=>List.map AC.v ((fun i=>[Value.int .i64 (f i)]) k))),some (ABlk.mk true false 3 0 (Cs.lit [.v (.int .i64 many)]))] 19 1011 (ZT 19 [(4,i64 (Int.ofNat j))]) [] 100000000000000000000000000000000000000000000000000 Exit.ret none]):=by kernel_rfl
theorem jjnr (f:Nat->Int) (n:Nat) (many:Int):PT prog f n many (.exit 0) []=
 some (.c (.v (.bool true)),[],100000000000000000000000000000000000000000000000005,[],[LoopV prog (ZY prog 115 0) [0,1,7,8] [0,1000] [some (.c (.sl 0 0 0 n none)),some (.c (AC.fn 84 [(1000,0,0)])),some (.c (.v (.int .i64 ↑n))),some (.c (.v (.int .i64 (Int.ofNat 0))))] [some (ABlk.mk false false 3 1 (Cs.arr n fun k=>List.map AC.v ((fun i=>[Value.int .i64 (f i)]) k))),some (ABlk.mk true false 3 0 (Cs.lit [.v (.int .i64 many)]))] 19 1011 (ZT 19 []) [] 100000000000000000000000000000000000000000000000000 (Exit.exit 0) none]):=by kernel_rfl
def Co (e:Exit) (l:List (Nat × AV)):Zh:=⟨[1,2,10,11,12],[0],ZT 24 l,[],100000000000000000000000000000000000000000000000000,e⟩
def JG (P:Program) (f:Nat->Int) (n:Nat) (lo hi:Int) (e:Exit) (l:List (Nat × AV)):Option VF:=
 ZB [] (ZJ (E1 P) (fC (E1 P) 300) 54 [.c (.sl 0 0 0 n none),i64 lo,i64 hi] 1000 nSt (Y7 [(0,ZG 3 n f)] [] [some (Co e l)]))
theorem jjhl (f:Nat->Int) (n:Nat) (lo hi z:Int):JG prog f n lo hi .ret [(6,i64 z)]=
 some (.c (.v (.int .i64 z)),[],100000000000000000000000000000000000000000000000000,[],[LoopV prog (ZY prog 54 0) [1,2,10,11,12] [0] [some (.c (.v (.int .i64 lo))),some (.c (.v (.int .i64 hi))),some (.c (.sl 0 0 0 n none)),some (.c (.v (.int .i64 ↑n))),some (.c (.v (.int .i64 (Int.ofNat 0))))] [some (ABlk.mk false false 3 1 (Cs.arr n fun k=>List.map AC.v ((fun i=>[Value.int .i64 (f i)]) k)))] 24 1004 (ZT 24 [(6,i64 z)]) [] 100000000000000000000000000000000000000000000000000 Exit.ret none]):=by kernel_rfl
theorem jjkv (f:Nat->Int) (n:Nat) (lo hi:Int):JG prog f n lo hi (.exit 0) []=
 some (.c (.v (.int .i64 (Int.ofNat 0))),[],100000000000000000000000000000000000000000000000001,[],[LoopV prog (ZY prog 54 0) [1,2,10,11,12] [0] [some (.c (.v (.int .i64 lo))),some (.c (.v (.int .i64 hi))),some (.c (.sl 0 0 0 n none)),some (.c (.v (.int .i64 ↑n))),some (.c (.v (.int .i64 (Int.ofNat 0))))] [some (ABlk.mk false false 3 1 (Cs.arr n fun k=>List.map AC.v ((fun i=>[Value.int .i64 (f i)]) k)))] 24 1004 (ZT 24 []) [] 100000000000000000000000000000000000000000000000000 (Exit.exit 0) none]):=by kernel_rfl
def Bz (e:Exit) (l:List (Nat × AV)):Zh:=⟨[0,3],[0],ZT 21 l,[],100000000000000000000000000000000000000000000000000,e⟩
def H5 (P:Program) (f:Nat->Int) (n:Nat) (e:Exit) (l:List (Nat × AV)):Option VF:=
 ZB [] (ZJ (E1 P) (fC (E1 P) 300) 46 [.c (.sl 0 0 0 n none)] 1000 nSt (Y7 [(0,ZG 3 n f)] [] [some (Bz e l)]))
theorem jjiu (f:Nat->Int) (n:Nat):H5 prog f n .ret [(2,bo false)]=
 some (.c (.v (.bool false)),[],100000000000000000000000000000000000000000000000000,[],[LoopV prog (ZY prog 46 0) [0,3] [0] [some (.c (.sl 0 0 0 n none)),some (.c (.v (.int .i64 (IntKind.wrap .i64 (↑n-Int.ofNat 1)))))] [some (ABlk.mk false false 3 1 (Cs.arr n fun k=>List.map AC.v ((fun i=>[Value.int .i64 (f i)]) k)))] 21 1005 (ZT 21 [(2,bo false)]) [] 100000000000000000000000000000000000000000000000000 Exit.ret none]):=by kernel_rfl
theorem jjm3 (f:Nat->Int) (n:Nat):H5 prog f n (.exit 0) []=
 some (.c (.v (.bool true)),[],100000000000000000000000000000000000000000000000001,[],[LoopV prog (ZY prog 46 0) [0,3] [0] [some (.c (.sl 0 0 0 n none)),some (.c (.v (.int .i64 (IntKind.wrap .i64 (↑n-Int.ofNat 1)))))] [some (ABlk.mk false false 3 1 (Cs.arr n fun k=>List.map AC.v ((fun i=>[Value.int .i64 (f i)]) k)))] 21 1005 (ZT 21 []) [] 100000000000000000000000000000000000000000000000000 (Exit.exit 0) none]):=by kernel_rfl
theorem DK {β:Nm}:∀(l:List Value),γt β (l.map fun v=>.c (.v v))=some l
 | []=>rfl
 |x::r=>by simp only[List.map_cons,γt,γ1,γc];rw[DK r]
theorem OX (l:List Value) {restA:List AV} (h:restA=l.map fun v=>.c (.v v)):∀(β1 β2:Nm) us,γt β1 restA=some us->γt β2 restA=some us:=by
 subst h;intro β1 β2 us hu;rw[DK] at hu ⊢;exact hu
def Za (f:Nat->Int) (n:Nat) (many:Int):Bool:=(List.range n).all fun i=>decide (0<=f i/\f i<many)
def W7:Yq
 | [.c a,.c (.v (.int .i64 many))],m,_=>match XB 1 m a with|some (n,F,b)=>some (bo (Za (fA F) n many),[],0,[b,decide (n<=1000000),Zy n F])|none=>none
 |_,_,_=>none
theorem jjbq (f:Nat->Int) (n:Nat) (many:Int) (hn:n<=1000000):∃p lp r,ZB [] (ZJ (E1 prog) (fC (E1 prog) 300) 45 (.c (.sl 0 0 0 n none)::[i64 many]) 1000 nSt (Y7 [(0,ZG 3 n f)] p lp))=some r/\
 r.1=bo (Za f n many)/\r.2.2.1<=ZQ/\ZZ r.2.2.2.1/\∀q∈r.2.2.2.2,q:=by
 obtain⟨j,hj,hmin,hyes⟩:=Se n fun i=>!decide (0<=f i/\f i<many)
 have hmin:∀i,i<j->0<=f i/\f i<many:=fun i hi=>by simpa using hmin i hi
 rcases Nat.lt_or_ge j n with h|h
 . have hy:f j<0\/many<=f j:=by have:=hyes h;simp at this;omega
   refine⟨_,_,_,jjk9 f n many j,?_,by dsimp only;unfold ZQ;omega,by simp[ZZ],fun q hq=>?_⟩
   . have:Za f n many=false:=by
      unfold Za;rw[List.all_eq_false];exact⟨j,by simpa using h,by simp;omega⟩
     simp[bo,this]
   . rw[List.mem_singleton.1 hq]
     exact Fp f n many _ (by omega) (by omega) hn j hj hmin (fun _=>hy) ⟨fun _=>⟨rfl,rfl⟩,fun h=>by omega⟩
 . obtain rfl:j=n:=by omega
   refine⟨_,_,_,jjnr f j many,?_,by dsimp only;unfold ZQ;omega,by simp[ZZ],fun q hq=>?_⟩
   . have:Za f j many=true:=by
      unfold Za;exact List.all_eq_true.2 fun i hi=>by have:=hmin i (by simpa using hi);simp[this]
     simp[bo,this]
   . rw[List.mem_singleton.1 hq]
     exact Fp f j many _ (by omega) (by omega) hn j hj hmin (fun h=>by omega) ⟨fun h=>by omega,fun _=>⟨rfl,rfl⟩⟩
theorem Ia:ZC prog 45 W7:=by
 refine⟨⟨_,_,Tryz.func45,rfl⟩,fun C β m m2 w args ib r news k' ob vs hct ho hs hr hfree hlim hv=>?_⟩;unfold W7 at hct;split at hct
 . rename_i a many
   split at hct
   . rename_i n F b hsl
     simp only[Option.some.injEq,Prod.mk.injEq] at hct;obtain⟨rfl,rfl,rfl,rfl⟩:=hct;simp only[ZZ,List.forall_mem_cons,decide_eq_true_eq] at ho;obtain⟨rfl,o2,o3,_⟩:=ho;exact NN Xk hs hr hsl o3 hv (OX [.int .i64 many] rfl) (fun _ _ _ h=>h) 3 (jjbq (fA F) n many o2)
   . cases hct
 . cases hct
def Xx (f:Nat->Int) (n:Nat) (lo hi:Int):Int:=match (List.range n).find? (fun i=>!(ZV (f i) lo hi==0)) with|some j=>ZV (f j) lo hi|none=>0
def S4:Yq
 | [.c a,.c (.v (.int .i64 lo)),.c (.v (.int .i64 hi))],m,_=>match XB 1 m a with|some (n,F,b)=>some (i64 (Xx (fA F) n lo hi),[],0,[b,decide (n<=9223372036854775807),Zy n F])|none=>none
 |_,_,_=>none
theorem OW {n j:Nat} {q:Nat->Bool} (h1:∀i,i<j->q i=false) (hj:j<=n) (h2:j<n->q j=true):(List.range n).find? q=if j<n then some j else none:=by
 split
 . rename_i h
   rw[List.find?_range_eq_some];exact⟨h2 h,by simpa using h,fun i hi=>by simpa using h1 i hi⟩
 . rename_i h
   rw[List.find?_eq_none];intro i hi;have:i<j:=by simp at hi;omega
   simp[h1 i this]
theorem jjhm (f:Nat->Int) (n:Nat) (lo hi:Int) (hn:n<=9223372036854775807):∃p lp r,ZB [] (ZJ (E1 prog) (fC (E1 prog) 300) 54 (.c (.sl 0 0 0 n none)::[i64 lo,i64 hi]) 1000 nSt (Y7 [(0,ZG 3 n f)] p lp))=some r/\
 r.1=i64 (Xx f n lo hi)/\r.2.2.1<=ZQ/\ZZ r.2.2.2.1/\∀q∈r.2.2.2.2,q:=by
 obtain⟨j,hj,hmin,hyes⟩:=Se n fun i=>!(ZV (f i) lo hi==0)
 have hfd:=OW hmin hj hyes;have hmin':∀i,i<j->ZV (f i) lo hi=0:=fun i hi=>by simpa using hmin i hi
 rcases Nat.lt_or_ge j n with h|h
 . have hy:ZV (f j) lo hi≠0:=by simpa using hyes h
   rw[if_pos h] at hfd;have hE:Xx f n lo hi=ZV (f j) lo hi:=by unfold Xx;rw[hfd]
   refine⟨_,_,_,jjhl f n lo hi (ZV (f j) lo hi),by rw[hE];rfl,by dsimp only;unfold ZQ;omega,by simp[ZZ],fun q hq=>?_⟩;rw[List.mem_singleton.1 hq];exact EU f n lo hi _ (by omega) (by omega) hn j hj hmin' (fun _=>hy) ⟨fun _=>⟨rfl,rfl⟩,fun h=>by omega⟩
 . obtain rfl:j=n:=by omega
   rw[if_neg (by omega)] at hfd;have hE:Xx f j lo hi=0:=by unfold Xx;rw[hfd]
   refine⟨_,_,_,jjkv f j lo hi,by rw[hE];rfl,by dsimp only;unfold ZQ;omega,by simp[ZZ],fun q hq=>?_⟩;rw[List.mem_singleton.1 hq];exact EU f j lo hi _ (by omega) (by omega) hn j hj hmin' (fun h=>by omega) ⟨fun h=>by omega,fun _=>⟨rfl,rfl⟩⟩
theorem EX:ZC prog 54 S4:=by
 refine⟨⟨_,_,Tryz.func54,rfl⟩,fun C β m m2 w args ib r news k' ob vs hct ho hs hr hfree hlim hv=>?_⟩;unfold S4 at hct;split at hct
 . rename_i a lo hi
   split at hct
   . rename_i n F b hsl
     simp only[Option.some.injEq,Prod.mk.injEq] at hct;obtain⟨rfl,rfl,rfl,rfl⟩:=hct;simp only[ZZ,List.forall_mem_cons,decide_eq_true_eq] at ho;obtain⟨rfl,o2,o3,_⟩:=ho;exact NN Xk hs hr hsl o3 hv (OX [.int .i64 lo,.int .i64 hi] rfl) (fun _ _ _ h=>h) 3 (jjhm (fA F) n lo hi o2)
   . cases hct
 . cases hct
def Yt (f:Nat->Int) (n:Nat):Bool:=(List.range (n-1)).all fun i=>decide (f i<=f (i+1))
def W8:Yq
 | [.c a],m,_=>match XB 1 m a with|some (n,F,b)=>some (bo (Yt (fA F) n),[],0,[b,decide (1<=n),decide (n<=1000000),Zy n F])|none=>none
 |_,_,_=>none
theorem jjaw (f:Nat->Int) (n:Nat) (hn1:1<=n) (hn:n<=1000000):∃p lp r,ZB [] (ZJ (E1 prog) (fC (E1 prog) 300) 46 (.c (.sl 0 0 0 n none)::[]) 1000 nSt (Y7 [(0,ZG 3 n f)] p lp))=some r/\
 r.1=bo (Yt f n)/\r.2.2.1<=ZQ/\ZZ r.2.2.2.1/\∀q∈r.2.2.2.2,q:=by
 obtain⟨j,hj,hmin,hyes⟩:=Se (n-1) fun i=>decide (f (n-1-i)<f (n-1-i-1))
 have hmin':∀i,i<j->f (n-1-i-1)<=f (n-1-i):=fun i hi=>by have:=hmin i hi;simp at this;omega
 have hz:IntKind.wrap IntKind.i64 (((n:Nat):Int)-Int.ofNat 1)=Int.ofNat (n-1-0):=by rw[XG _ (by simp;omega) (by simp;omega)];simp;omega
 rcases Nat.lt_or_ge j (n-1) with h|h
 . have hy:f (n-1-j)<f (n-1-j-1):=by simpa using hyes h
   refine⟨_,_,_,jjiu f n,?_,by dsimp only;unfold ZQ;omega,by simp[ZZ],fun q hq=>?_⟩
   . have:Yt f n=false:=by
      unfold Yt;rw[List.all_eq_false];refine⟨n-1-j-1,by simp;omega,?_⟩;have e:n-1-j-1+1=n-1-j:=by omega
      rw[e];simp;omega
     simp[bo,this]
   . rw[List.mem_singleton.1 hq]
     exact Fd f n _ (by omega) (by omega) hn1 hn j hj hmin' (fun _=>hy) ⟨fun _=>⟨rfl,rfl⟩,fun h=>by omega⟩ hz
 . obtain rfl:j=n-1:=by omega
   refine⟨_,_,_,jjm3 f n,?_,by dsimp only;unfold ZQ;omega,by simp[ZZ],fun q hq=>?_⟩
   . have:Yt f n=true:=by
      unfold Yt;refine List.all_eq_true.2 fun i hi=>?_
      have hi:i<n-1:=by simpa using hi
      have:=hmin' (n-1-i-1) (by omega);have e1:n-1-(n-1-i-1)=i+1:=by omega
      have e2:n-1-(n-1-i-1)-1=i:=by omega
      rw[e2,e1] at this;simpa using this
     simp[bo,this]
   . rw[List.mem_singleton.1 hq]
     exact Fd f n _ (by omega) (by omega) hn1 hn (n-1) hj hmin' (fun h=>by omega) ⟨fun h=>by omega,fun _=>⟨rfl,rfl⟩⟩ hz
theorem I9:ZC prog 46 W8:=by
 refine⟨⟨_,_,Tryz.func46,rfl⟩,fun C β m m2 w args ib r news k' ob vs hct ho hs hr hfree hlim hv=>?_⟩;unfold W8 at hct;split at hct
 . rename_i a
   split at hct
   . rename_i n F b hsl
     simp only[Option.some.injEq,Prod.mk.injEq] at hct;obtain⟨rfl,rfl,rfl,rfl⟩:=hct;simp only[ZZ,List.forall_mem_cons,decide_eq_true_eq] at ho;obtain⟨rfl,o1,o2,o3,_⟩:=ho;exact NN Xk hs hr hsl o3 hv (OX [] rfl) (fun _ _ _ h=>h) 3 (jjaw (fA F) n o1 o2)
   . cases hct
 . cases hct
def C1 (P:Program):Env:=⟨P,[(45,W7),(54,S4),(46,W8)]⟩
def R7 (P:Program) (f:FuncId) (c:Cfg) (path:List Dec):Option VF:=ZB [] (ZJ (C1 P) (fC (C1 P) 300) f [.agg (Yi c)] 1000 nSt (Y7 (Xl c) path []))
theorem ru1 (c:Cfg) (Q:VF->Prop) (H:let zN:=Int.ofNat;(((decide (c.nodes>zN 16))=true->Q (.c (zI (zN 3)),[],1011,[decide (c.nodes>zN 16)==true,true,true],[]))/\((decide (c.nodes>zN 16))=false->(((decide (c.nodes<zN 4))=true->Q (.c (zI (zN 1)),[],1015,[decide (c.nodes<zN 4)==true,decide (c.nodes>zN 16)==false,true,true],[]))/\((decide (c.nodes<zN 4))=false->Q (.c (zI (zN 0)),[],1015,[decide (c.nodes<zN 4)==false,decide (c.nodes>zN 16)==false,true,true],[])))))):
 ∃p r,R7 prog 40 c p=some r/\Q r:=
 ZL H (fun g1=>⟨pD 1 1,_,by kernel_rfl,g1⟩) (fun g1=>ZL g1 (fun g2=>⟨pD 2 5,_,by kernel_rfl,g2⟩) (fun g2=>⟨pD 2 8,_,by kernel_rfl,g2⟩))
theorem ru2 (c:Cfg) (Q:VF->Prop) (H:let zN:=Int.ofNat;(((decide (↑(c.np)>zN 8))=true->Q (.c (zI (zN 3)),[],1012,[decide (↑(c.np)>zN 8)==true,true],[]))/\((decide (↑(c.np)>zN 8))=false->(((decide (↑(c.np)<zN 2))=true->Q (.c (zI (zN 1)),[],1016,[decide (↑(c.np)<zN 2)==true,decide (↑(c.np)>zN 8)==false,true],[]))/\((decide (↑(c.np)<zN 2))=false->Q (.c (zI (zN 0)),[],1016,[decide (↑(c.np)<zN 2)==false,decide (↑(c.np)>zN 8)==false,true],[])))))):
 ∃p r,R7 prog 42 c p=some r/\Q r:=
 ZL H (fun g1=>⟨pD 1 1,_,by kernel_rfl,g1⟩) (fun g1=>ZL g1 (fun g2=>⟨pD 2 5,_,by kernel_rfl,g2⟩) (fun g2=>⟨pD 2 8,_,by kernel_rfl,g2⟩))
theorem ru4 (c:Cfg) (Q:VF->Prop) (H:let zN:=Int.ofNat;(((decide (↑(c.ns)>zN 16))=true->Q (.c (zI (zN 3)),[],1012,[decide (↑(c.ns)>zN 16)==true,true],[]))/\((decide (↑(c.ns)>zN 16))=false->(((decide (↑(c.ns)<zN 1))=true->Q (.c (zI (zN 1)),[],1016,[decide (↑(c.ns)<zN 1)==true,decide (↑(c.ns)>zN 16)==false,true],[]))/\((decide (↑(c.ns)<zN 1))=false->Q (.c (zI (zN 0)),[],1016,[decide (↑(c.ns)<zN 1)==false,decide (↑(c.ns)>zN 16)==false,true],[])))))):
 ∃p r,R7 prog 48 c p=some r/\Q r:=
 ZL H (fun g1=>⟨pD 1 1,_,by kernel_rfl,g1⟩) (fun g1=>ZL g1 (fun g2=>⟨pD 2 5,_,by kernel_rfl,g2⟩) (fun g2=>⟨pD 2 8,_,by kernel_rfl,g2⟩))
theorem ru6 (c:Cfg) (Q:VF->Prop) (H:let zN:=Int.ofNat;let zz0:=(Cfg.long c<if IntKind.wrap IntKind.i64 (IntKind.wrap IntKind.i64 (Cfg.nodes c+zN 114)+zN 2)>IntKind.wrap IntKind.i64 (IntKind.wrap IntKind.i64 (zN 3*Cfg.nodes c)+zN 1) then IntKind.wrap IntKind.i64 (IntKind.wrap IntKind.i64 (Cfg.nodes c+zN 114)+zN 2) else IntKind.wrap IntKind.i64 (IntKind.wrap IntKind.i64 (zN 3*Cfg.nodes c)+zN 1));(((decide (c.long>zN 4096))=true->Q (.c (zI (zN 3)),[],1020,[decide (c.long>zN 4096)==true,true,true,true,true,true,true],[]))/\((decide (c.long>zN 4096))=false->(((decide zz0)=true->Q (.c (zI (zN 1)),[],1024,[decide zz0==true,decide (c.long>zN 4096)==false,true,true,true,true,true,true],[]))/\((decide zz0)=false->Q (.c (zI (zN 0)),[],1024,[decide zz0==false,decide (c.long>zN 4096)==false,true,true,true,true,true,true],[])))))):
 ∃p r,R7 prog 51 c p=some r/\Q r:=
 ZL H (fun g1=>⟨pD 1 1,_,by kernel_rfl,g1⟩) (fun g1=>ZL g1 (fun g2=>⟨pD 2 5,_,by kernel_rfl,g2⟩) (fun g2=>⟨pD 2 8,_,by kernel_rfl,g2⟩))
theorem ru7 (c:Cfg) (Q:VF->Prop) (H:let zz0:=(Xx (Cfg.fb c) (Cfg.nb c) (Int.ofNat 0) (Int.ofNat 4096) !=Int.ofNat 0);let zq0:List Bool:=[true,true,true];let zq1:List Bool:=y3 (y3 ((decide (0+c.nb<=c.nb))::(decide (c.nb<=9223372036854775807))::(Zy c.nb fun k=>List.map AC.v ((fun i=>[Value.int .i64 (c.fb i)]) k))::true::((!↑(c.nb)==c.nodes)==false)::zq0));(((!↑(c.nb)==c.nodes)=true->Q (.c (zI (Int.ofNat 1)),[],130000000000000000000000000000000000001002,(y3 (y3 ((decide (0+c.nb<=c.nb))::(decide (c.nb<=9223372036854775807))::(Zy c.nb fun k=>List.map AC.v ((fun i=>[Value.int .i64 (c.fb i)]) k))::true::((!↑(c.nb)==c.nodes)==true)::zq0))),[]))/\((!↑(c.nb)==c.nodes)=false->((zz0=true->Q (.c (zI (Xx c.fb c.nb (Int.ofNat 0) (Int.ofNat 4096))),[],130000000000000000000000000000000000001002,(y3 ((zz0==true)::zq1)),[]))/\(zz0=false->Q (.c (zI (Int.ofNat 0)),[],130000000000000000000000000000000000001002,((zz0==false)::zq1),[])))))):
 ∃p r,R7 prog 52 c p=some r/\Q r:=
 ZL H (fun g1=>⟨pD 4 1,_,by kernel_rfl,g1⟩) (fun g1=>ZL g1 (fun g2=>⟨pD 6 83,_,by kernel_rfl,g2⟩) (fun g2=>⟨pD 7 164,_,by kernel_rfl,g2⟩))
theorem ru8 (c:Cfg) (Q:VF->Prop) (H:(((decide (↑(c.nt)>Int.ofNat 8))=true->Q (.c (zI (Int.ofNat 3)),[],1012,[decide (↑(c.nt)>Int.ofNat 8)==true,true],[]))/\((decide (↑(c.nt)>Int.ofNat 8))=false->Q (.c (zI (Int.ofNat 0)),[],1016,[decide (↑(c.nt)>Int.ofNat 8)==false,true],[])))):
 ∃p r,R7 prog 55 c p=some r/\Q r:=
 ZL H (fun g1=>⟨pD 1 1,_,by kernel_rfl,g1⟩) (fun g1=>⟨pD 2 2,_,by kernel_rfl,g1⟩)
theorem Bm (c:Cfg) (Q:VF->Prop) (H:Q (.c (zI (Xx (fA (Zt (ABlk.mk true false 3 0 (Cs.lit [zI c.miss,zI c.good,zI c.fresh])) 0 0 1)) 3 (Int.ofNat 1) (Int.ofNat 100))),[],1010,(zt [true]),[])):
 ∃p r,R7 prog 57 c p=some r/\Q r:=
 ⟨pD 0 0,_,by kernel_rfl,H⟩
def Kk (P:Program) (n d a k:Int) (path:List Dec):Option VF:=ZB [] (ZJ (E1 P) (fC (E1 P) 300) 63 [i64 n,.c (.v (.int .u8 d)),i64 a,i64 k] 1000 nSt (Y7 mS path []))
theorem stp (n a k:Int) (Q:VF->Prop) (H:let zN:=Int.ofNat;let zq0:List Bool:=[decide (n≥zN 4)==true];let zq1:List Bool:=(decide (n<=zN 16)==true)::zq0;let zq2:List Bool:=(decide (a≥zN 0)==true)::zq1;(((decide (n≥zN 4))=true->(((decide (n<=zN 16))=true->(((decide (a≥zN 0))=true->(((!decide (a<n))=true->Q (.c (zI (Int.negSucc 0)),[],1031,(((!decide (a<n))==true)::zq2),[]))/\((!decide (a<n))=false->Q (.c (zI (Int.tmod (IntKind.wrap .i64 (Int.tmod (IntKind.wrap .i64 (a+IntKind.wrap .i64 (zN 1*Int.tmod k n))) n+n)) n)),[],120000000000000000000000000000000000001030,((decide (n≠zN 0))::(decide (n≠zN 0))::(decide (n≠zN 0))::y3 (((!decide (a<n))==false)::zq2)),[]))))/\((decide (a≥zN 0))=false->Q (.c (zI (Int.negSucc 0)),[],1028,((decide (a≥zN 0)==false)::zq1),[]))))/\((decide (n<=zN 16))=false->Q (.c (zI (Int.negSucc 0)),[],1017,((decide (n<=zN 16)==false)::zq0),[]))))/\((decide (n≥zN 4))=false->Q (.c (zI (Int.negSucc 0)),[],1015,[decide (n≥zN 4)==false],[])))):
 ∃p r,Kk prog n 0 a k p=some r/\Q r:=
 ZL H (fun g1=>ZL g1 (fun g2=>ZL g2 (fun g3=>ZL g3 (fun g4=>⟨pD 12 179344,_,by kernel_rfl,g4⟩) (fun g4=>⟨pD 12 356491,_,by kernel_rfl,g4⟩)) (fun g3=>⟨pD 12 4384,_,by kernel_rfl,g3⟩)) (fun g2=>⟨pD 9 19,_,by kernel_rfl,g2⟩)) (fun g1=>⟨pD 9 2,_,by kernel_rfl,g1⟩)
abbrev Ms (v:Int) (n k:Nat):List AV:=[.c (.sl 0 0 0 n none),i64 v,i64 (Int.ofNat n),i64 (Int.ofNat k)]
def ixR (P:Program) (f:Nat->Int) (n:Nat) (v:Int) (k:Nat) (path:List Dec):Option VC:=
 view ([0,1,7,8]++[4]) [0] (fC (E1 P) 100 (ZY P 89 0) 1000000000000000000000000000000000000000000 nSt (WR 19 [0,1,7,8] [0] (Ms v n k) [ZG 3 n f] path []))
theorem ix (f:Nat->Int) (n:Nat) (v:Int) (k:Nat) (Q:VC->Prop) (H:let zN:=Int.ofNat;let zz0:=(ABlk.mk false false 3 1 (Cs.arr n fun k=>List.map AC.v ((fun i=>[Value.int IntKind.i64 (f i)]) k)));let zq0:List Bool:=[ABlk.inb zz0 (0+Int.toNat (zN k)) 1,true,decide (zN 0<=zN k/\zN k < ↑n),decide (zN k<zN n)==true];let zs0:=fun (l:List (Option AV))=>some (ZN (List.zip [0,1,7,8] (Ms v n k)) 0)::some (ZN (List.zip [0,1,7,8] (Ms v n k)) 1)::some (ZN (List.zip [0,1,7,8] (Ms v n k)) 7)::l;(((decide (zN k<zN n))=true->(((v==f (0+Int.toNat (zN k)))=true->Q (Exit.ret,(zs0 [some (ZN (List.zip [0,1,7,8] (Ms v n k)) 8),some (.c (zI (zN k)))]),[some zz0],19,1000000000000000000000000000000000000000011,(((v==f (0+Int.toNat (zN k)))==true)::zq0),[]))/\((v==f (0+Int.toNat (zN k)))=false->Q (Exit.normal,(zs0 [some (.c (zI (IntKind.wrap .i64 (zN k+zN 1)))),some (ZN (List.zip [0,1,7,8] (Ms v n k)) 4)]),[some zz0],19,1000000000000000000000000000000000000000011,(((v==f (0+Int.toNat (zN k)))==false)::zq0),[]))))/\((decide (zN k<zN n))=false->Q (Exit.exit 0,(zs0 [some (ZN (List.zip [0,1,7,8] (Ms v n k)) 8),some (ZN (List.zip [0,1,7,8] (Ms v n k)) 4)]),[some zz0],19,1000000000000000000000000000000000000000001,[decide (zN k<zN n)==false],[])))):
 ∃p r,ixR prog f n v k p=some r/\Q r:=
 ZL H (fun g1=>ZL g1 (fun g2=>⟨pD 2 4,_,by kernel_rfl,g2⟩) (fun g2=>⟨pD 2 7,_,by kernel_rfl,g2⟩)) (fun g1=>⟨pD 1 2,_,by kernel_rfl,g1⟩)
def ixS (e:Exit) (l:List (Nat × AV)):Zh:=⟨[0,1,7,8],[0],ZT 19 l,[],100000000000000000000000000000000000000000000000000,e⟩
def SD (P:Program) (f:Nat->Int) (n:Nat) (v:Int) (e:Exit) (l:List (Nat × AV)):Option VF:=
 ZB [] (ZJ (E1 P) (fC (E1 P) 300) 50 [.c (.sl 0 0 0 n none),i64 v] 1000 nSt (Y7 [(0,ZG 3 n f)] [] [some (ixS e l)]))
theorem jj8m (f:Nat->Int) (n:Nat) (v:Int) (j:Nat):SD prog f n v .ret [(4,i64 (Int.ofNat j))]=
 some (.c (.v (.bool true)),[],100000000000000000000000000000000000000000000000002,[],[LoopV prog (ZY prog 89 0) [0,1,7,8] [0] [some (.c (.sl 0 0 0 n none)),some (.c (.v (.int .i64 v))),some (.c (.v (.int .i64 ↑n))),some (.c (.v (.int .i64 (Int.ofNat 0))))] [some (ABlk.mk false false 3 1 (Cs.arr n fun k=>List.map AC.v ((fun i=>[Value.int .i64 (f i)]) k)))] 19 1007 (ZT 19 [(4,i64 (Int.ofNat j))]) [] 100000000000000000000000000000000000000000000000000 Exit.ret none]):=by kernel_rfl
theorem jjab (f:Nat->Int) (n:Nat) (v:Int):SD prog f n v (.exit 0) []=
 some (.c (.v (.bool false)),[],100000000000000000000000000000000000000000000000003,[],[LoopV prog (ZY prog 89 0) [0,1,7,8] [0] [some (.c (.sl 0 0 0 n none)),some (.c (.v (.int .i64 v))),some (.c (.v (.int .i64 ↑n))),some (.c (.v (.int .i64 (Int.ofNat 0))))] [some (ABlk.mk false false 3 1 (Cs.arr n fun k=>List.map AC.v ((fun i=>[Value.int .i64 (f i)]) k)))] 19 1007 (ZT 19 []) [] 100000000000000000000000000000000000000000000000000 (Exit.exit 0) none]):=by kernel_rfl
theorem Pe {ty n:Nat} {f:Nat->Int} {o r:Bool}:fA (Z8 ⟨o,r,ty,1,.arr n fun k=>List.map AC.v ((fun i=>[Value.int .i64 (f i)]) k)⟩ 0 0 1)=f:=by
 funext i;simp[fA,Z8,ZP]
theorem YT {n:Nat} {f:Nat->Int}:Zy n (fun k=>List.map AC.v ((fun i=>[Value.int .i64 (f i)]) k))=true:=by
 unfold Zy;exact List.all_eq_true.2 fun i _=>by simp[Ut]
theorem hENw:Zz (C1 prog):=by
 refine Xp (fun f g h=>?_) (by kernel_rfl) (by kernel_rfl);simp only[C1,List.mem_cons,Prod.mk.injEq,List.not_mem_nil,or_false] at h;rcases h with⟨rfl,rfl⟩|⟨rfl,rfl⟩|⟨rfl,rfl⟩
 . exact Ia
 . exact EX
 . exact I9
theorem PW (z:Int) (β1 β2:Nm) (u:Value) (h:γ β1 (i64 z)=some u):γ β2 (i64 z)=some u:=h
theorem Qm {f:FuncId} {R:Cfg->AV} {pre:Cfg->Bool} (hf:∃(fn:Func) (c:Code),Tryz.prog.funcs[f]? =some fn/\fn.body=some c) (hres:∀c (β1 β2:Nm) u,γ β1 (R c)=some u->γ β2 (R c)=some u)
 (h:∀c,pre c=true->∃p r,R7 prog f c p=some r/\(r.1=R c/\r.2.2.1<=ZQ/\ZZ r.2.2.2.1/\∀q∈r.2.2.2.2,q)):ZC prog f (YP R pre):=
 Qp (E:=C1 prog) (fuel:=300) (str:=nSt) hENw hf hres fun c hp=>by
  obtain⟨p,r,h1,h2⟩:=h c hp;exact⟨p,[],r,h1,h2⟩
def Ya (c:Cfg):Int:=ZV c.nodes 4 16
def XJ (c:Cfg):Int:=ZV c.np 2 8
def XK (c:Cfg):Int:=ZV c.ns 1 16
def Xi (c:Cfg):Int:=ZV c.long (max (3*c.nodes+1) (c.nodes+116)) 4096
def YA (c:Cfg):Int:=if (c.nb:Int)=c.nodes then Xx c.fb c.nb 0 4096 else 1
def XL (c:Cfg):Int:=ZV c.nt 0 8
def Y0 (c:Cfg):Int:=if ZV c.miss 1 100≠0 then ZV c.miss 1 100 else if ZV c.good 1 100≠0 then ZV c.good 1 100 else ZV c.fresh 1 100
def W1 (c:Cfg):Bool:=decide (4<=c.nodes/\c.nodes<=16)
theorem A8:ZC prog 40 (YP (fun c=>i64 (Ya c)) fun _=>true):=by
 refine Qm ⟨_,_,Tryz.func40,rfl⟩ (fun c=>PW _) fun c hp=>ru1 c _ ?_
 repeat' (first|refine⟨fun h=>?_,fun h=>?_⟩|fail)
 all_goals (refine⟨?_,(by first|(unfold ZQ;omega)|(dsimp only;unfold ZQ;omega)),?_,by simp⟩)
 all_goals (simp_all[ZZ,Ya,ZV,i64])
 all_goals (rw[if_neg (by omega),if_neg (by omega)])
theorem A7:ZC prog 42 (YP (fun c=>i64 (XJ c)) fun _=>true):=by
 refine Qm ⟨_,_,Tryz.func42,rfl⟩ (fun c=>PW _) fun c hp=>ru2 c _ ?_
 repeat' (first|refine⟨fun h=>?_,fun h=>?_⟩|fail)
 all_goals (refine⟨?_,(by first|(unfold ZQ;omega)|(dsimp only;unfold ZQ;omega)),?_,by simp⟩)
 all_goals (simp_all[ZZ,XJ,ZV,i64])
 all_goals (try omega)
theorem A5:ZC prog 48 (YP (fun c=>i64 (XK c)) fun _=>true):=by
 refine Qm ⟨_,_,Tryz.func48,rfl⟩ (fun c=>PW _) fun c hp=>ru4 c _ ?_
 repeat' (first|refine⟨fun h=>?_,fun h=>?_⟩|fail)
 all_goals (refine⟨?_,(by first|(unfold ZQ;omega)|(dsimp only;unfold ZQ;omega)),?_,by simp⟩)
 all_goals (simp_all[ZZ,XK,ZV,i64])
 all_goals (try omega)
theorem A3:ZC prog 51 (YP (fun c=>i64 (Xi c)) W1):=by
 refine Qm ⟨_,_,Tryz.func51,rfl⟩ (fun c=>PW _) fun c hp=>ru6 c _ ?_
 simp only[W1,decide_eq_true_eq] at hp
 have w1:IntKind.wrap IntKind.i64 (IntKind.wrap IntKind.i64 (Cfg.nodes c+Int.ofNat 114)+Int.ofNat 2)=c.nodes+116:=by
  rw[XG (Cfg.nodes c+Int.ofNat 114) (by simp;omega) (by simp;omega),XG _ (by simp;omega) (by simp;omega)];simp;omega
 have w2:IntKind.wrap IntKind.i64 (IntKind.wrap IntKind.i64 (Int.ofNat 3*Cfg.nodes c)+Int.ofNat 1)=3*c.nodes+1:=by
  rw[XG (Int.ofNat 3*Cfg.nodes c) (by simp;omega) (by simp;omega),XG _ (by simp;omega) (by simp;omega)];simp
 simp only[w1,w2];have hm:(if c.nodes+116>3*c.nodes+1 then c.nodes+116 else 3*c.nodes+1)=max (3*c.nodes+1) (c.nodes+116):=by split<;>omega
 simp only[hm];have hr:Xi c=ZV c.long (max (3*c.nodes+1) (c.nodes+116)) 4096:=rfl;generalize max (3*c.nodes+1) (c.nodes+116)=q at *
 repeat' (first|refine⟨fun h=>?_,fun h=>?_⟩|fail)
 all_goals (refine⟨?_,(by first|(unfold ZQ;omega)|(dsimp only;unfold ZQ;omega)),?_,by simp⟩)
 all_goals (simp_all[ZZ,ZV,i64])
 all_goals (try omega)
theorem A1:ZC prog 52 (YP (fun c=>i64 (YA c)) fun c=>decide (c.nb<=9223372036854775807)):=by
 refine Qm ⟨_,_,Tryz.func52,rfl⟩ (fun c=>PW _) fun c hp=>ru7 c _ ?_
 simp only[decide_eq_true_eq] at hp;simp only[Pe,YT]
 repeat' (first|refine⟨fun h=>?_,fun h=>?_⟩|fail)
 all_goals (refine⟨?_,(by first|(unfold ZQ;omega)|(dsimp only;unfold ZQ;omega)),?_,by simp⟩)
 all_goals (simp_all[ZZ,YA,i64])
theorem A0:ZC prog 55 (YP (fun c=>i64 (XL c)) fun _=>true):=by
 refine Qm ⟨_,_,Tryz.func55,rfl⟩ (fun c=>PW _) fun c hp=>ru8 c _ ?_
 repeat' (first|refine⟨fun h=>?_,fun h=>?_⟩|fail)
 all_goals (refine⟨?_,(by first|(unfold ZQ;omega)|(dsimp only;unfold ZQ;omega)),?_,by simp⟩)
 all_goals (simp_all[ZZ,XL,ZV,i64])
 all_goals (try omega)
theorem Cm (f:Nat->Int) (lo hi:Int):Xx f 3 lo hi=if ZV (f 0) lo hi≠0 then ZV (f 0) lo hi else if ZV (f 1) lo hi≠0 then ZV (f 1) lo hi else ZV (f 2) lo hi:=by
 unfold Xx;rw[show List.range 3=[0,1,2] from rfl];by_cases h0:ZV (f 0) lo hi=0
 . by_cases h1:ZV (f 1) lo hi=0
   . by_cases h2:ZV (f 2) lo hi=0
     . simp[h0,h1,h2]
     . simp[h0,h1,h2]
   . simp[h0,h1]
 . simp[h0]
theorem jjl0:ZC prog 57 (YP (fun c=>i64 (Y0 c)) fun _=>true):=by
 refine Qm ⟨_,_,Tryz.func57,rfl⟩ (fun c=>PW _) fun c hp=>Bm c _ ?_
 refine⟨?_,(by first|(unfold ZQ;omega)|(dsimp only;unfold ZQ;omega)),by simp[ZZ],by simp⟩;show i64 _=i64 _;rw[Cm];rfl
theorem JP (f:Nat->Int) (n:Nat) (v:Int) (N:Nat) (hN:1<=N) (hN2:N<=1000000000000000000000000000000000000000000) (hn:n<=1000000) (j:Nat) (hj:j<=n) (hmin:∀i,i<j->f i≠v) (hyes:j<n->f j=v) {e:Exit} {out:List (Nat × AV)}
 (hF:(j<n->e= .ret/\out=[(4,i64 (Int.ofNat j))])/\(j=n->e= .exit 0/\out=[])):
 LoopV prog (ZY prog 89 0) [0,1,7,8] [0] ((Ms v n 0).map some) ([ZG 3 n f].map some) 19 N (ZT 19 out) [] 100000000000000000000000000000000000000000000000000 e none:=by
 have e0:∀k:Nat,0+Int.toNat (Int.ofNat k)=k:=fun k=>by simp
 have hw:∀k,k<n->IntKind.wrap IntKind.i64 (Int.ofNat k+Int.ofNat 1)=Int.ofNat (k+1):=fun k hk=>by rw[XG _ (by simp;omega) (by simp;omega)];rfl
 refine UH Xk (fuel:=100) (str:=nSt) (nh:=1000000000000000000000000000000000000000000) [0,1,7,8] [4] [0] (Ms v n) [ZG 3 n f] j hN2 (by decide) (by unfold ZQ;omega) ?_ (fun _=>⟨rfl,rfl⟩) ?_ ?_ ?_ ?_ ?_
 . rcases Nat.lt_or_ge j n with h|h
   . rw[(hF.1 h).1];simp
   . rw[(hF.2 (by omega)).1];simp
 . simp[Zb];omega
 . intro k _
   simp[US,WW,Yu,XR,i64];omega
 . intro b hb
   rw[List.mem_singleton.1 hb];exact TH
 . intro k hk
   have hm:=hmin k hk;refine ix f n v k _ ⟨fun c1=>⟨fun c2=>?_,fun c2=>?_⟩,fun c1=>?_⟩<;>simp only[e0] at *
   . simp at c2;exact absurd c2.symm hm
   . have hlt:k<n:=by omega
     simp at c2;refine⟨⟨?_,rfl,by dsimp only;omega,rfl⟩,rfl,?_,BL.refl _⟩
     . simp only[ZZ,List.forall_mem_cons,e0]
       simp[Z6,hlt,c2]
     . dsimp only;rw[hw k hlt];rfl
   . simp at c1;omega
 . refine ix f n v j _ ⟨fun c1=>⟨fun c2=>?_,fun c2=>?_⟩,fun c1=>?_⟩<;>simp only[e0] at *
   . have hlt:j<n:=by simpa using c1
     obtain⟨rfl,rfl⟩:=hF.1 hlt;refine Ry ⟨?_,rfl,by dsimp only;omega,rfl⟩ rfl rfl ?_
     . simp only[ZZ,List.forall_mem_cons,e0]
       simp at c2;simp[Z6,hlt,c2]
     . simp[i64]
   . have hlt:j<n:=by simpa using c1
     simp at c2;exact absurd (hyes hlt).symm c2
   . have hlt:¬j<n:=by simpa using c1
     obtain⟨rfl,rfl⟩:=hF.2 (by omega);refine Rq ⟨?_,rfl,by dsimp only;omega,rfl⟩ rfl;simp[ZZ];omega
def Wm (f:Nat->Int) (n:Nat) (v:Int):Bool:=(List.range n).any fun i=>f i==v
theorem jj8n (f:Nat->Int) (n:Nat) (v:Int) (hn:n<=1000000):∃p lp r,ZB [] (ZJ (E1 prog) (fC (E1 prog) 300) 50 (.c (.sl 0 0 0 n none)::[i64 v]) 1000 nSt (Y7 [(0,ZG 3 n f)] p lp))=some r/\
 r.1=bo (Wm f n v)/\r.2.2.1<=ZQ/\ZZ r.2.2.2.1/\∀q∈r.2.2.2.2,q:=by
 obtain⟨j,hj,hmin,hyes⟩:=Se n fun i=>f i==v
 have hmin':∀i,i<j->f i≠v:=fun i hi=>by simpa using hmin i hi
 rcases Nat.lt_or_ge j n with h|h
 . have hy:f j=v:=by simpa using hyes h
   refine⟨_,_,_,jj8m f n v j,?_,by dsimp only;unfold ZQ;omega,by simp[ZZ],fun q hq=>?_⟩
   . have:Wm f n v=true:=List.any_eq_true.2 ⟨j,by simpa using h,by simp[hy]⟩
     simp[bo,this]
   . rw[List.mem_singleton.1 hq]
     exact JP f n v _ (by omega) (by omega) hn j hj hmin' (fun _=>hy) ⟨fun _=>⟨rfl,rfl⟩,fun h=>by omega⟩
 . obtain rfl:j=n:=by omega
   refine⟨_,_,_,jjab f j v,?_,by dsimp only;unfold ZQ;omega,by simp[ZZ],fun q hq=>?_⟩
   . have:Wm f j v=false:=List.any_eq_false.2 fun i hi=>by have:=hmin' i (by simpa using hi);simpa using this
     simp[bo,this]
   . rw[List.mem_singleton.1 hq]
     exact JP f j v _ (by omega) (by omega) hn j hj hmin' (fun h=>by omega) ⟨fun h=>by omega,fun _=>⟨rfl,rfl⟩⟩
def Vk:Yq
 | [.c a,.c (.v (.int .i64 v))],m,_=>match XB 1 m a with|some (n,F,b)=>some (bo (Wm (fA F) n v),[],0,[b,decide (n<=1000000),Zy n F])|none=>none
 |_,_,_=>none
theorem jjaa:ZC prog 50 Vk:=by
 refine⟨⟨_,_,Tryz.func50,rfl⟩,fun C β m m2 w args ib r news k' ob vs hct ho hs hr hfree hlim hv=>?_⟩;unfold Vk at hct;split at hct
 . rename_i a v
   split at hct
   . rename_i n F b hsl
     simp only[Option.some.injEq,Prod.mk.injEq] at hct;obtain⟨rfl,rfl,rfl,rfl⟩:=hct;simp only[ZZ,List.forall_mem_cons,decide_eq_true_eq] at ho;obtain⟨rfl,o2,o3,_⟩:=ho;exact NN Xk hs hr hsl o3 hv (OX [.int .i64 v] rfl) (fun _ _ _ h=>h) 3 (jj8n (fA F) n v o2)
   . cases hct
 . cases hct
def Mn (P:Program):Env:=⟨P,[(45,W7),(54,S4),(46,W8),(50,Vk)]⟩
theorem KJ:Zz (Mn prog):=by
 refine Xp (fun f g h=>?_) (by kernel_rfl) (by kernel_rfl);simp only[Mn,List.mem_cons,Prod.mk.injEq,List.not_mem_nil,or_false] at h;rcases h with⟨rfl,rfl⟩|⟨rfl,rfl⟩|⟨rfl,rfl⟩|⟨rfl,rfl⟩
 . exact Ia
 . exact EX
 . exact I9
 . exact jjaa
abbrev Zr (c:Cfg):ABlk:=⟨true,false,25,0,.lit (Yi c)⟩
abbrev Od (c:Cfg) (al:Bool) (k:Nat):List AV:=[.c (.ptr 1000 0 0),bo al,i64 (Int.ofNat c.np),i64 (Int.ofNat k)]
def r5R (P:Program) (c:Cfg) (al:Bool) (k:Nat) (path:List Dec):Option VC:=
 view ([1,3,13,14]++[]) [1,1000] (fC (Mn P) 100 (ZY P 49 0) 1000000000000000000000000000000000000000000 nSt (WR 27 [1,3,13,14] [1,1000] (Od c al k) [ZG 3 c.ns c.fs,Zr c] path []))
theorem r5 (c:Cfg) (al:Bool) (k:Nat) (Q:VC->Prop) (H:let zN:=Int.ofNat;let zz0:=[yF 3 1 (yS c),yR 25 0 (Cs.lit [zI (Cfg.nodes c),AC.sl 0 0 0 (Cfg.np c) none,AC.sl 1 0 0 (Cfg.ns c) none,zI (Cfg.long c),AC.sl 2 0 0 (Cfg.nb c) none,AC.sl 3 0 0 (Cfg.nt c) none,zI (Cfg.miss c),zI (Cfg.good c),zI (Cfg.fresh c)])];(((decide (zN k<zN c.np))=true->((al=true->Q (Exit.normal,[some (ZN (List.zip [1,3,13,14] (Od c al k)) 1),some (.c (zB (Wm c.fs c.ns (zN k)))),some (ZN (List.zip [1,3,13,14] (Od c al k)) 13),some (.c (zI (IntKind.wrap .i64 (zN k+zN 1))))],zz0,27,1000000000000000000000000000000000000000012,[decide (0+c.ns<=c.ns),decide (c.ns<=1000000),Zy c.ns fun k=>List.map AC.v ((fun i=>[Value.int .i64 (c.fs i)]) k),true,al==true,decide (zN k<zN c.np)==true],[]))/\(al=false->Q (Exit.normal,[some (ZN (List.zip [1,3,13,14] (Od c al k)) 1),some (.c (zB false)),some (ZN (List.zip [1,3,13,14] (Od c al k)) 13),some (.c (zI (IntKind.wrap .i64 (zN k+zN 1))))],zz0,27,1000000000000000000000000000000000000000009,[al==false,decide (zN k<zN c.np)==true],[]))))/\((decide (zN k<zN c.np))=false->Q (Exit.exit 0,[some (ZN (List.zip [1,3,13,14] (Od c al k)) 1),some (ZN (List.zip [1,3,13,14] (Od c al k)) 3),some (ZN (List.zip [1,3,13,14] (Od c al k)) 13),some (ZN (List.zip [1,3,13,14] (Od c al k)) 14)],zz0,27,1000000000000000000000000000000000000000001,[decide (zN k<zN c.np)==false],[])))):
 ∃p r,r5R prog c al k p=some r/\Q r:=
 ZL H (fun g1=>ZL g1 (fun g2=>⟨pD 5 4,_,by kernel_rfl,g2⟩) (fun g2=>⟨pD 5 7,_,by kernel_rfl,g2⟩)) (fun g1=>⟨pD 1 2,_,by kernel_rfl,g1⟩)
abbrev Q4 (c:Cfg) (k:Nat):List AV:=[.c (.ptr 1000 0 0),.c (.sl 3 0 0 c.nt none),i64 (Int.ofNat c.nt),i64 (Int.ofNat k)]
def r9R (P:Program) (c:Cfg) (k:Nat) (path:List Dec):Option VC:=
 view ([1,7,8,9]++[2]) [3,1000] (fC (Mn P) 100 (ZY P 56 0) 1000000000000000000000000000000000000000000 nSt (WR 33 [1,7,8,9] [3,1000] (Q4 c k) [Xj c.nt c.ft,Zr c] path []))
theorem r9 (c:Cfg) (k:Nat) (Q:VC->Prop) (H:let zN:=Int.ofNat;let zz1:=(ABlk.mk false false 85 3 (yT c));let zz0:=[some zz1,yR 25 0 (Cs.lit [zI (Cfg.nodes c),AC.sl 0 0 0 (Cfg.np c) none,AC.sl 1 0 0 (Cfg.ns c) none,zI (Cfg.long c),AC.sl 2 0 0 (Cfg.nb c) none,AC.sl 3 0 0 (Cfg.nt c) none,zI (Cfg.miss c),zI (Cfg.good c),zI (Cfg.fresh c)])];let zz2:=[some (ZN (List.zip [1,7,8,9] (Q4 c k)) 1),some (ZN (List.zip [1,7,8,9] (Q4 c k)) 7),some (ZN (List.zip [1,7,8,9] (Q4 c k)) 8),some (ZN (List.zip [1,7,8,9] (Q4 c k)) 9),some (AV.c (zI (zN 1)))];let zz3:=(Station.hold (c.10 (0+Int.toNat (zN k)))>zN 100);let zz4:=(Station.hold (c.10 (0+Int.toNat (zN k)))<zN 1);let zz5:=(Station.node (c.10 (0+Int.toNat (zN k)))≥zN 0);let zz6:=(Station.node (c.10 (0+Int.toNat (zN k)))<Cfg.nodes c);let zq0:List Bool:=[true,true,true,ABlk.inb zz1 (0+Int.toNat (zN k)) 3,true,true,true,decide (zN 0<=zN k/\zN k < ↑(c.nt)),decide (zN k<zN c.nt)==true];let zq1:List Bool:=y3 (true::(decide zz5==true)::zq0);let zq2:List Bool:=true::true::((!decide zz6)==true)::zq1;let zq3:List Bool:=(decide zz3==false)::zq2;let zq4:List Bool:=true::true::((!decide zz6)==false)::zq1;let zq5:List Bool:=(decide zz3==false)::zq4;let zq6:List Bool:=true::true::(decide zz5==false)::zq0;let zq7:List Bool:=(decide zz3==false)::zq6;let zs0:=fun (l:List (Option AV))=>some (ZN (List.zip [1,7,8,9] (Q4 c k)) 1)::some (ZN (List.zip [1,7,8,9] (Q4 c k)) 7)::some (ZN (List.zip [1,7,8,9] (Q4 c k)) 8)::l;(((decide (zN k<zN c.nt))=true->(((decide zz5)=true->(((!decide zz6)=true->(((decide zz3)=true->Q (Exit.ret,zz2,zz0,33,1170000000000000000000000000000000000000009,(y3 (y3 ((decide zz3==true)::zq2))),[]))/\((decide zz3)=false->(((decide zz4)=true->Q (Exit.ret,zz2,zz0,33,1170000000000000000000000000000000000000009,(y3 (y3 ((decide zz4==true)::zq3))),[]))/\((decide zz4)=false->Q (Exit.ret,zz2,zz0,33,1170000000000000000000000000000000000000009,(y3 (y3 ((decide zz4==false)::zq3))),[]))))))/\((!decide zz6)=false->(((decide zz3)=true->Q (Exit.ret,(zs0 [some (ZN (List.zip [1,7,8,9] (Q4 c k)) 9),some (.c (zI (zN 3)))]),zz0,33,1170000000000000000000000000000000000000009,(zt (true::((decide zz3==true)::zq4))),[]))/\((decide zz3)=false->(((decide zz4)=true->Q (Exit.ret,zz2,zz0,33,1170000000000000000000000000000000000000009,(zt (true::((decide zz4==true)::zq5))),[]))/\((decide zz4)=false->Q (Exit.normal,(zs0 [some (.c (zI (IntKind.wrap .i64 (zN k+zN 1)))),some (ZN (List.zip [1,7,8,9] (Q4 c k)) 2)]),zz0,33,1170000000000000000000000000000000000000009,(y3 (y3 ((decide zz4==false)::zq5))),[]))))))))/\((decide zz5)=false->(((decide zz3)=true->Q (Exit.ret,zz2,zz0,33,1170000000000000000000000000000000000000009,(y3 (y3 ((decide zz3==true)::zq6))),[]))/\((decide zz3)=false->(((decide zz4)=true->Q (Exit.ret,zz2,zz0,33,1170000000000000000000000000000000000000009,(y3 (y3 ((decide zz4==true)::zq7))),[]))/\((decide zz4)=false->Q (Exit.ret,zz2,zz0,33,1170000000000000000000000000000000000000009,(y3 (y3 ((decide zz4==false)::zq7))),[]))))))))/\((decide (zN k<zN c.nt))=false->Q (Exit.exit 0,(zs0 [some (ZN (List.zip [1,7,8,9] (Q4 c k)) 9),some (ZN (List.zip [1,7,8,9] (Q4 c k)) 2)]),zz0,33,1000000000000000000000000000000000000000001,[decide (zN k<zN c.nt)==false],[])))):
 ∃p r,r9R prog c k p=some r/\Q r:=
 ZL H (fun g1=>ZL g1 (fun g2=>ZL g2 (fun g3=>ZL g3 (fun g4=>⟨pD 12 2920,_,by kernel_rfl,g4⟩) (fun g4=>ZL g4 (fun g5=>⟨pD 13 11668,_,by kernel_rfl,g5⟩) (fun g5=>⟨pD 13 18229,_,by kernel_rfl,g5⟩))) (fun g3=>ZL g3 (fun g4=>⟨pD 14 3649,_,by kernel_rfl,g4⟩) (fun g4=>ZL g4 (fun g5=>⟨pD 15 12397,_,by kernel_rfl,g5⟩) (fun g5=>⟨pD 16 18958,_,by kernel_rfl,g5⟩)))) (fun g2=>ZL g2 (fun g3=>⟨pD 12 2194,_,by kernel_rfl,g3⟩) (fun g3=>ZL g3 (fun g4=>⟨pD 13 10942,_,by kernel_rfl,g4⟩) (fun g4=>⟨pD 13 17503,_,by kernel_rfl,g4⟩)))) (fun g1=>⟨pD 1 2,_,by kernel_rfl,g1⟩)
def r5S (c:Cfg) (al:Bool):Zh:=⟨[1,3,13,14],[1,1000],ZT 27 [(3,bo al)],[],100000000000000000000000000000000000000000000000000,.exit 0⟩
def GY (P:Program) (c:Cfg) (al:Bool) (path:List Dec):Option VF:=ZB [] (ZJ (Mn P) (fC (Mn P) 300) 49 [.agg (Yi c)] 1000 nSt (Y7 (Xl c) path [some (r5S c al)]))
theorem ru5 (c:Cfg) (al:Bool) (Q:VF->Prop) (H:let zz0:=[LoopV prog (ZY prog 49 0) [1,3,13,14] [1,1000] [some (AV.c (AC.ptr 1000 0 0)),some (AV.c (zB (Za (Cfg.fs c) (Cfg.ns c) ↑(Cfg.np c)))),some (AV.c (AC.v (Value.int IntKind.i64 ↑(Cfg.np c)))),some (AV.c (zI (Int.ofNat 0)))] [yF 3 1 (yS c),yR 25 0 (Cs.lit [zI (Cfg.nodes c),AC.sl 0 0 0 (Cfg.np c) none,AC.sl 1 0 0 (Cfg.ns c) none,zI (Cfg.long c),AC.sl 2 0 0 (Cfg.nb c) none,AC.sl 3 0 0 (Cfg.nt c) none,zI (Cfg.miss c),zI (Cfg.good c),zI (Cfg.fresh c)])] 27 1012 (ZT 27 [(3,bo al)]) [] 100000000000000000000000000000000000000000000000000 (Exit.exit 0) none];let zq0:List Bool:=[true,decide (0+c.ns<=c.ns),decide (c.ns<=1000000),Zy c.ns fun k=>List.map AC.v ((fun i=>[Value.int .i64 (c.fs i)]) k),true,true];(((!al)=true->Q (.c (zI (Int.ofNat 1)),[],100000000000000000000000000000000000000000000000006,(((!al)==true)::zq0),zz0))/\((!al)=false->Q (.c (zI (Int.ofNat 0)),[],100000000000000000000000000000000000000000000000006,(((!al)==false)::zq0),zz0)))):
 ∃p r,GY prog c al p=some r/\Q r:=
 ZL H (fun g1=>⟨pD 1 1,_,by kernel_rfl,g1⟩) (fun g1=>⟨pD 1 2,_,by kernel_rfl,g1⟩)
def r9S (e:Exit) (l:List (Nat × AV)):Zh:=⟨[1,7,8,9],[3,1000],ZT 33 l,[],100000000000000000000000000000000000000000000000000,e⟩
def GZ (P:Program) (c:Cfg) (e:Exit) (l:List (Nat × AV)):Option VF:=ZB [] (ZJ (Mn P) (fC (Mn P) 300) 56 [.agg (Yi c)] 1000 nSt (Y7 (Xl c) [] [some (r9S e l)]))
theorem jjiz (c:Cfg) (z:Int):GZ prog c .ret [(2,i64 z)]=
 some (.c (.v (.int .i64 z)),[],100000000000000000000000000000000000000000000000000,[true],[LoopV prog (ZY prog 56 0) [1,7,8,9] [3,1000] [some (.c (.ptr 1000 0 0)),some (.c (.sl 3 0 0 (c.nt) none)),some (.c (.v (.int .i64 ↑(c.nt)))),some (.c (.v (.int .i64 (Int.ofNat 0))))] [some (ABlk.mk false false 85 3 (Cs.arr (c.nt) fun k=>List.map AC.v ((fun i=>[Value.int .i64 (Station.node (c.ft i)),Value.int .u32 (Station.safe (c.ft i)),Value.int .i64 (Station.hold (c.ft i))]) k))),some (ABlk.mk true false 25 0 (Cs.lit [.v (.int .i64 (c.nodes)),AC.sl 0 0 0 (c.np) none,AC.sl 1 0 0 (c.ns) none,.v (.int .i64 (c.long)),AC.sl 2 0 0 (c.nb) none,AC.sl 3 0 0 (c.nt) none,.v (.int .i64 (c.miss)),.v (.int .i64 (c.good)),.v (.int .i64 (c.fresh))]))] 33 1006 (ZT 33 [(2,i64 z)]) [] 100000000000000000000000000000000000000000000000000 Exit.ret none]):=by kernel_rfl
theorem jjmi (c:Cfg):GZ prog c (.exit 0) []=
 some (.c (.v (.int .i64 (Int.ofNat 0))),[],100000000000000000000000000000000000000000000000001,[true],[LoopV prog (ZY prog 56 0) [1,7,8,9] [3,1000] [some (.c (.ptr 1000 0 0)),some (.c (.sl 3 0 0 (c.nt) none)),some (.c (.v (.int .i64 ↑(c.nt)))),some (.c (.v (.int .i64 (Int.ofNat 0))))] [some (ABlk.mk false false 85 3 (Cs.arr (c.nt) fun k=>List.map AC.v ((fun i=>[Value.int .i64 (Station.node (c.ft i)),Value.int .u32 (Station.safe (c.ft i)),Value.int .i64 (Station.hold (c.ft i))]) k))),some (ABlk.mk true false 25 0 (Cs.lit [.v (.int .i64 (c.nodes)),AC.sl 0 0 0 (c.np) none,AC.sl 1 0 0 (c.ns) none,.v (.int .i64 (c.long)),AC.sl 2 0 0 (c.nb) none,AC.sl 3 0 0 (c.nt) none,.v (.int .i64 (c.miss)),.v (.int .i64 (c.good)),.v (.int .i64 (c.fresh))]))] 33 1006 (ZT 33 []) [] 100000000000000000000000000000000000000000000000000 (Exit.exit 0) none]):=by kernel_rfl
def X6 (c:Cfg) (k:Nat):Bool:=Za c.fs c.ns c.np&&(List.range k).all fun p=>Wm c.fs c.ns (Int.ofNat p)
theorem DI (c:Cfg) (k:Nat):X6 c (k+1)=(X6 c k&&Wm c.fs c.ns (Int.ofNat k)):=by
 unfold X6;rw[List.range_succ,List.all_append,Bool.and_assoc];simp
theorem VN {N:Nat} {c:Cfg} (hN:4<=N):Zc N (Zr c):=XW (by simp[Yi,Yu];omega)
theorem GM (c:Cfg) (N:Nat) (hN:1001<=N) (hN2:N<=1000000000000000000000000000000000000000000) (hp:c.np<=1000000) (hs:c.ns<=1000000):
 LoopV prog (ZY prog 49 0) [1,3,13,14] [1,1000] ((Od c (X6 c 0) 0).map some) ([ZG 3 c.ns c.fs,Zr c].map some) 27 N (ZT 27 [(3,bo (X6 c c.np))]) [] 100000000000000000000000000000000000000000000000000 (.exit 0) none:=by
 have hw:∀k,k<c.np->IntKind.wrap IntKind.i64 (Int.ofNat k+Int.ofNat 1)=Int.ofNat (k+1):=fun k hk=>by rw[XG _ (by simp;omega) (by simp;omega)];rfl
 refine UH KJ (fuel:=100) (str:=nSt) (nh:=1000000000000000000000000000000000000000000) [1,3,13,14] [] [1,1000] (fun k=>Od c (X6 c k) k) [ZG 3 c.ns c.fs,Zr c] c.np hN2 (by decide) (by unfold ZQ;omega) (by simp) (fun _=>⟨rfl,rfl⟩) ?_ ?_ ?_ ?_ ?_
 . simp[Zb];omega
 . intro k _
   simp[US,WW,Yu,XR,i64,bo];omega
 . intro b hb
   simp only[List.mem_cons,List.not_mem_nil,or_false] at hb;rcases hb with rfl|rfl
   . exact TH
   . exact VN (by omega)
 . intro k hk
   refine r5 c (X6 c k) k _ ⟨fun c1=>⟨fun c2=>?_,fun c2=>?_⟩,fun c1=>?_⟩
   . refine⟨⟨?_,rfl,by dsimp only;omega,rfl⟩,rfl,?_,BL.refl _⟩
     . simp only[ZZ,List.forall_mem_cons,YT,c2]
       simp[hs,hk]
     . dsimp only;rw[hw k hk];(try rw[Pe]);rw[DI,c2];rfl
   . refine⟨⟨?_,rfl,by dsimp only;omega,rfl⟩,rfl,?_,BL.refl _⟩
     . simp only[ZZ,List.forall_mem_cons,c2]
       simp[hk]
     . dsimp only;rw[hw k hk,DI,c2];rfl
   . simp at c1;omega
 . refine r5 c (X6 c c.np) c.np _ ⟨fun c1=>⟨fun c2=>?_,fun c2=>?_⟩,fun c1=>?_⟩
   . simp at c1
   . simp at c1
   . refine Ry ⟨?_,rfl,by dsimp only;omega,rfl⟩ rfl rfl ?_
     . simp[ZZ]
     . show (3,some _)∈[(1,_),(3,some (bo (X6 c c.np))),(13,_),(14,_)]
       simp
def Yb (c:Cfg):Int:=if X6 c c.np=true then 0 else 1
theorem A4:ZC prog 49 (YP (fun c=>i64 (Yb c)) fun c=>decide (c.np<=1000000)&&decide (c.ns<=1000000)):=by
 refine Qp (E:=Mn prog) (fuel:=300) (str:=nSt) KJ ⟨_,_,Tryz.func49,rfl⟩ (fun c=>PW _) fun c hp=>?_
 simp only[Bool.and_eq_true,decide_eq_true_eq] at hp;refine(?_:(∃p r,GY prog c (X6 c c.np) p=some r/\(r.1=i64 (Yb c)/\r.2.2.1<=ZQ/\ZZ r.2.2.2.1/\∀q∈r.2.2.2.2,q))->_) (ru5 c (X6 c c.np) _ ?_)
 . rintro⟨p,r,h1,h2⟩
   exact⟨p,_,r,h1,h2⟩
 . simp only[Pe,YT]
   have hl:=GM c 1012 (by omega) (by omega) hp.1 hp.2;refine⟨fun h=>?_,fun h=>?_⟩
   . refine⟨?_,(by first|(unfold ZQ;omega)|(dsimp only;unfold ZQ;omega)),?_,fun q hq=>?_⟩
     . have:X6 c c.np=false:=by simpa using h
       simp[Yb,this,i64]
     . simp[ZZ,hp,h]
     . rw[List.mem_singleton.1 hq]
       have e:X6 c 0=Za c.fs c.ns c.np:=by simp[X6]
       rw[e] at hl;exact hl
   . refine⟨?_,(by first|(unfold ZQ;omega)|(dsimp only;unfold ZQ;omega)),?_,fun q hq=>?_⟩
     . have:X6 c c.np=true:=by simpa using h
       simp[Yb,this,i64]
     . simp[ZZ,hp,h]
     . rw[List.mem_singleton.1 hq]
       have e:X6 c 0=Za c.fs c.ns c.np:=by simp[X6]
       rw[e] at hl;exact hl
def Zo (c:Cfg) (i:Nat):Int:=if 0<=(c.ft i).node/\(c.ft i).node<c.nodes then ZV (c.ft i).hold 1 100 else 1
theorem Kh (c:Cfg) (N:Nat) (hN:1001<=N) (hN2:N<=1000000000000000000000000000000000000000000) (hn:c.nt<=1000000) (j:Nat) (hj:j<=c.nt) (hmin:∀i,i<j->Zo c i=0) (hyes:j<c.nt->Zo c j≠0) {e:Exit} {out:List (Nat × AV)}
 (hF:(j<c.nt->e= .ret/\out=[(2,i64 (Zo c j))])/\(j=c.nt->e= .exit 0/\out=[])):
 LoopV prog (ZY prog 56 0) [1,7,8,9] [3,1000] ((Q4 c 0).map some) ([Xj c.nt c.ft,Zr c].map some) 33 N (ZT 33 out) [] 100000000000000000000000000000000000000000000000000 e none:=by
 have e0:∀k:Nat,0+Int.toNat (Int.ofNat k)=k:=fun k=>by simp
 have hw:∀k,k<c.nt->IntKind.wrap IntKind.i64 (Int.ofNat k+Int.ofNat 1)=Int.ofNat (k+1):=fun k hk=>by rw[XG _ (by simp;omega) (by simp;omega)];rfl
 refine UH KJ (fuel:=100) (str:=nSt) (nh:=1000000000000000000000000000000000000000000) [1,7,8,9] [2] [3,1000] (Q4 c) [Xj c.nt c.ft,Zr c] j hN2 (by decide) (by unfold ZQ;omega) ?_ (fun _=>⟨rfl,rfl⟩) ?_ ?_ ?_ ?_ ?_
 . rcases Nat.lt_or_ge j c.nt with h|h
   . rw[(hF.1 h).1];simp
   . rw[(hF.2 (by omega)).1];simp
 . simp[Zb];omega
 . intro k _
   simp[US,WW,Yu,XR,i64];omega
 . intro b hb
   simp only[List.mem_cons,List.not_mem_nil,or_false] at hb;rcases hb with rfl|rfl
   . exact WU
   . exact VN (by omega)
 . intro k hk
   have hm:=hmin k hk;have hlt:k<c.nt:=by omega
   refine r9 c k _ ?_;simp only[e0];unfold Zo ZV at hm
   repeat' (first|refine⟨fun h=>?_,fun h=>?_⟩|fail)
   all_goals (first|(exfalso;simp at *;done)|(exfalso;simp at *;omega)|(exfalso;simp at *;split at hm<;>omega)|(exfalso;simp at *;split at hm<;>first|omega|(split at hm<;>first|omega|(split at hm<;>omega)))|skip)
   all_goals (refine⟨⟨?_,rfl,by dsimp only;omega,rfl⟩,rfl,?_,BL.refl _⟩)
   . simp at *
     simp[ZZ,Z6,Yk,e0, *]
   . dsimp only;rw[hw k hlt];rfl
 . rcases Nat.lt_or_ge j c.nt with hlt|hge
   . obtain⟨rfl,rfl⟩:=hF.1 hlt
     have hy:=hyes hlt;refine r9 c j _ ?_;simp only[e0]
     repeat' (first|refine⟨fun h=>?_,fun h=>?_⟩|fail)
     all_goals (first
      |(exfalso;simp at *;omega)
      |(have hz:Zo c j=0:=(by simp at *;unfold Zo ZV;rw[if_pos (by omega),if_neg (by omega),if_neg (by omega)]);exact absurd hz hy)
      |(have hz:Zo c j=3:=(by simp at *;unfold Zo ZV;rw[if_pos (by omega),if_pos (by omega)]);rw[hz];refine Ry ⟨?_,rfl,by dsimp only;omega,rfl⟩ rfl rfl (by simp[i64]);simp at *;simp[ZZ,Z6,Yk, *])
      |(have hz:Zo c j=1:=(by simp at *;unfold Zo ZV;rw[if_pos (by omega),if_neg (by omega),if_pos (by omega)]);rw[hz];refine Ry ⟨?_,rfl,by dsimp only;omega,rfl⟩ rfl rfl (by simp[i64]);simp at *;simp[ZZ,Z6,Yk, *])
      |(have hz:Zo c j=1:=(by simp at *;unfold Zo ZV;rw[if_neg (by omega)]);rw[hz];refine Ry ⟨?_,rfl,by dsimp only;omega,rfl⟩ rfl rfl (by simp[i64]);simp at *;simp[ZZ,Z6,Yk, *]))
   . obtain rfl:j=c.nt:=by omega
     obtain⟨rfl,rfl⟩:=hF.2 rfl;refine r9 c c.nt _ ?_;simp only[e0]
     repeat' (first|refine⟨fun h=>?_,fun h=>?_⟩|fail)
     all_goals (first|(exfalso;simp at *;done)|skip)
     refine Rq ⟨?_,rfl,by dsimp only;omega,rfl⟩ rfl;simp[ZZ]
def Ys (c:Cfg):Int:=match (List.range c.nt).find? (fun i=>!(Zo c i==0)) with|some j=>Zo c j|none=>0
theorem jjo0:ZC prog 56 (YP (fun c=>i64 (Ys c)) fun c=>decide (c.nt<=1000000)):=by
 refine Qp (E:=Mn prog) (fuel:=300) (str:=nSt) KJ ⟨_,_,Tryz.func56,rfl⟩ (fun c=>PW _) fun c hp=>?_
 simp only[decide_eq_true_eq] at hp;obtain⟨j,hj,hmin,hyes⟩:=Se c.nt fun i=>!(Zo c i==0)
 have hfd:=OW hmin hj hyes;have hmin':∀i,i<j->Zo c i=0:=fun i hi=>by simpa using hmin i hi
 rcases Nat.lt_or_ge j c.nt with h|h
 . have hy:Zo c j≠0:=by simpa using hyes h
   rw[if_pos h] at hfd;have hE:Ys c=Zo c j:=by unfold Ys;rw[hfd]
   refine⟨_,_,_,jjiz c (Zo c j),by rw[hE];rfl,by dsimp only;unfold ZQ;omega,by simp[ZZ],fun q hq=>?_⟩;rw[List.mem_singleton.1 hq];exact Kh c _ (by omega) (by omega) hp j hj hmin' (fun _=>hy) ⟨fun _=>⟨rfl,rfl⟩,fun h=>by omega⟩
 . obtain rfl:j=c.nt:=by omega
   rw[if_neg (by omega)] at hfd;have hE:Ys c=0:=by unfold Ys;rw[hfd]
   refine⟨_,_,_,jjmi c,by rw[hE];rfl,by dsimp only;unfold ZQ;omega,by simp[ZZ],fun q hq=>?_⟩;rw[List.mem_singleton.1 hq];exact Kh c _ (by omega) (by omega) hp c.nt hj hmin' (fun h=>by omega) ⟨fun h=>by omega,fun _=>⟨rfl,rfl⟩⟩
def Uv (n a k:Int):Int:=if 4<=n/\n<=16/\0<=a/\a<n then (a+k) % n else -1
theorem jjga (n a k:Int) (h0:4<=n) (h1:n<=16) (h2:0<=a) (h3:a<n):
 (IntKind.wrap IntKind.i64 (Int.tmod (IntKind.wrap IntKind.i64 (a+IntKind.wrap IntKind.i64 (Int.ofNat 1*Int.tmod k n))) n+n)).tmod n=(a+k) % n:=by
 have hn:0<n:=by omega
 have t1:k.tmod n<n:=Int.tmod_lt_of_pos _ hn;have t2: -n<k.tmod n:=Int.lt_tmod_of_pos _ hn;have t3:k.tmod n=k-n*k.tdiv n:=Int.tmod_def k n;rw[show Int.ofNat 1*Int.tmod k n=k.tmod n by simp,XG (k.tmod n) (by omega) (by omega),XG (a+k.tmod n) (by omega) (by omega)];generalize ht:k.tmod n=t at *;have u1:(a+t).tmod n<n:=Int.tmod_lt_of_pos _ hn;have u2: -n<(a+t).tmod n:=Int.lt_tmod_of_pos _ hn;have u3:(a+t).tmod n=(a+t)-n*(a+t).tdiv n:=Int.tmod_def _ _;generalize (a+t).tmod n=u at *;rw[XG (u+n) (by omega) (by omega),Int.tmod_eq_emod_of_nonneg (by omega),Int.add_emod_right,u3,t3];rw[show a+(k-n*k.tdiv n)-n*(a+(k-n*k.tdiv n)).tdiv n=a+k-n*(k.tdiv n+(a+(k-n*k.tdiv n)).tdiv n) by rw[Int.mul_add];omega];exact Int.sub_mul_emod_self_left _ _ _
theorem jjgb (n a k:Int):∃p r,Kk prog n 0 a k p=some r/\(r.1=i64 (Uv n a k)/\r.2.2.1<=ZQ/\ZZ r.2.2.2.1/\∀q∈r.2.2.2.2,q):=by
 refine stp n a k _ ?_
 repeat' (first|refine⟨fun h=>?_,fun h=>?_⟩|fail)
 all_goals (refine⟨?_,by dsimp only;unfold ZQ;omega,?_,by simp⟩)
 all_goals first
  | (have hm:4<=n/\n<=16/\0<=a/\a<n:=(by simp at *;omega)
     show i64 _=i64 _;rw[jjga n a k (by omega) (by omega) (by omega) (by omega)];unfold Uv;rw[if_pos hm];done)
  | (have hm:¬(4<=n/\n<=16/\0<=a/\a<n):=(by simp at *;omega)
     show i64 _=i64 _;unfold Uv;rw[if_neg hm];rfl)
  |(simp at *;simp[ZZ, *];done)
  |(simp at *;simp[ZZ, *];omega)
  |(simp_all[ZZ];done)
  |(simp_all[ZZ];omega)
def Qh:Yq
 | [.c (.v (.int .i64 n)),.c (.v (.int .u8 d)),.c (.v (.int .i64 a)),.c (.v (.int .i64 k))],m,_=>match decide (d=0),WG mS m with|true,true=>some (i64 (Uv n a k),[],0,[])|_,_=>none
 |_,_,_=>none
theorem jjkz:ZC prog 63 Qh:=by
 refine⟨⟨_,_,Tryz.func63,rfl⟩,fun C β m m2 w args ib r news k' ob vs hct ho hs hr hfree hlim hv=>?_⟩;unfold Qh at hct;split at hct
 . rename_i n d a k
   split at hct
   . rename_i hd hg
     have hd:=of_decide_eq_true hd;subst hd;simp only[Option.some.injEq,Prod.mk.injEq] at hct;obtain⟨rfl,rfl,rfl,rfl⟩:=hct;cases hv;obtain⟨p,⟨v,b',n',ob,po⟩,hrun,hvr,hn,hob,hpo⟩:=jjgb n a k;obtain⟨s',r1,r2,r3,r4⟩:=Td hrun;have hn:n'<=ZQ:=hn;refine(X8 Xk r1 ⟨by rw[r3];exact hob,by rw[r4];exact hpo⟩ (C:=Zx w) (β:=U9 β) (w:=w) (vs:=[.int .i64 n,.int .u8 0,.int .i64 a,.int .i64 k]) rfl (Nw hr hs hg (by kernel_rfl)) (fun id h1 h2=>by unfold U9;rw[if_neg (by omega)])).mono ?_;rintro e w' ⟨β',u,rfl,_,_,hu,hr'⟩;simp only at hvr;subst hvr;cases hu;exact⟨β,_,rfl,Ext.refl _,fun _ _=>rfl,rfl,by rw[List.append_nil];exact hr.below (Sr hr')⟩
   . cases hct
 . cases hct
def BY (P:Program):Env:=⟨P,[(63,Qh)]⟩
theorem Cw:Zz (BY prog):=by
 refine Xp (fun f g h=>?_) (by kernel_rfl) (by kernel_rfl);simp only[BY,List.mem_cons,Prod.mk.injEq,List.not_mem_nil,or_false] at h;obtain⟨rfl,rfl⟩:=h;exact jjkz
def Zs (c:Cfg) (i:Nat):Int:=if i % 2=0 then c.fp (i / 2) else Uv c.nodes (c.fp (i / 2)) 1
abbrev OP (c:Cfg) (k:Nat):ABlk:=XD 3 1 (2*k) fun i=>[.int .i64 (Zs c i)]
abbrev Sa (c:Cfg) (k:Nat):List (Nat × AV):=[(1,.c (.ptr 1000 0 0)),(2,.c (.sl 2000 0 0 (2*k) none)),(6,.c (.sl 0 0 0 c.np none)),(7,i64 (Int.ofNat c.np)),(8,i64 (Int.ofNat k))]
abbrev HK (c:Cfg) (k:Nat):AMem:=[(2000,OP c k),(0,ZG 3 c.np c.fp),(1000,Zr c),(YR 0,ZA)]
def CC (P:Program) (c:Cfg) (k:Nat) (path:List Dec):Option VC:=
 view [1,2,6,7,8] [2000,1000000000000000000000000000000000000000010,0,1000,YR 0] (fC (BY P) 100 (ZY P 19 0) 1000000000000000000000000000000000000000000 nSt ⟨ZT 22 (Sa c k),HK c k,0,0,false,path,[],[],[],none,[]⟩)
theorem HJ (c:Cfg) (k:Nat) (Q:VC->Prop) (H:let zN:=Int.ofNat;let zs0:=fun (l:List (Option ABlk))=>yF 3 1 (yP c)::yR 25 0 (Cs.lit [zI c.nodes,AC.sl 0 0 0 c.np none,AC.sl 1 0 0 c.ns none,zI c.long,AC.sl 2 0 0 c.nb none,AC.sl 3 0 0 c.nt none,zI c.miss,zI c.good,zI c.fresh])::yF 159 0 (Cs.lit [zI (zN 1),zI (Int.negSucc 0)])::l;let zs1:=fun (l:List (Option AV))=>some (ZN (Sa c k) (0+1+1+1+1+1+1))::some (ZN (Sa c k) (0+1+1+1+1+1+1+1))::l;(((decide (zN k<zN c.np))=true->Q (Exit.normal,(some (ZN (Sa c k) (0+1))::some (.c (.sl 1000000000000000000000000000000000000000010 0 0 (2*k+2) none))::zs1 [some (.c (zI (IntKind.wrap .i64 (zN k+zN 1))))]),(none::yO 3 1 (Cs.arr (2*k+2) fun i=>if i<2*k then List.map AC.v ((fun i=>[Value.int .i64 (Zs c i)]) i) else Z8 (ABlk.mk true false 3 0 (Cs.lit [zI (c.fp (0+Int.toNat (zN k))),zI (Uv c.nodes (c.fp (0+Int.toNat (zN k))) (zN 1))])) 0 0 1 (i-2*k))::zs0 []),22,1000000000000000000000000000000000000000014,[true,true,decide (2*k<=2*k),decide ((2*k+2)*8<=140737488355328),true,true,ABlk.inb (ABlk.mk false false 3 1 (yP c)) (0+Int.toNat (zN k)) 1,true,decide (zN 0<=zN k/\zN k < ↑(c.np)),decide (zN k<zN c.np)==true],[]))/\((decide (zN k<zN c.np))=false->Q (Exit.exit 0,(some (ZN (Sa c k) (0+1))::some (ZN (Sa c k) (0+1+1))::zs1 [some (ZN (Sa c k) (0+1+1+1+1+1+1+1+1))]),(yO 3 1 (Cs.arr (2*k) fun k=>List.map AC.v ((fun i=>[Value.int .i64 (Zs c i)]) k))::none::zs0 []),22,1000000000000000000000000000000000000000001,[decide (zN k<zN c.np)==false],[])))):
 ∃p r,CC prog c k p=some r/\Q r:=
 ZL H (fun g1=>⟨pD 1 1,_,by kernel_rfl,g1⟩) (fun g1=>⟨pD 1 2,_,by kernel_rfl,g1⟩)
theorem jjkg (c:Cfg) (hp:c.np<=1000):
 LoopV prog (ZY prog 19 0) [1,2,6,7,8] [0,1000,YR 0] [some (.c (.ptr 1000 0 0)),some (.c (.v (.slice none 0 0))),some (.c (.sl 0 0 0 c.np none)),some (i64 (Int.ofNat c.np)),some (i64 0)] [some (ZG 3 c.np c.fp),some (Zr c),some ZA] 22 1006
  (ZT 22 [(2,.c (.sl 2000 0 0 (2*c.np) none))]) [(2000,OP c c.np)] 100000000000000000000000000000000000000000000000000 (.exit 0) none:=by
 refine Pd Cw (fuel:=100) (S:=Nat) (inv:=fun k=>k<=c.np) (μ:=fun k=>c.np-k) (tmI:=fun k=>ZT 22 (Sa c k)) (mI:=fun k=>HK c k) (nh:=1000000000000000000000000000000000000000000) (str:=nSt) (by omega) (by omega) (fun _ h=>by cases h) (s0:=0) (by omega) ?_ ?_
 . intro tm m g1 g2 g3
   simp only[List.map_cons,List.map_nil,List.cons.injEq,and_true] at g1 g2;obtain⟨s1,s2,s6,s7,s8⟩:=g1;obtain⟨b0,b1,b2⟩:=g2;refine V5 (ρ:=fun _=>.inr 1) (by omega) (by omega) (by unfold ZQ;omega) g3 ?_ ?_ ?_
   . kernel_rfl
   . exact⟨.inr (.inr (.inl ⟨by omega,by omega,rfl,Nat.one_pos,_,rfl⟩)),.inl ⟨.inl (by omega),b0,TH⟩,.inl ⟨.inl (by omega),b1,VN (by omega)⟩,.inl ⟨.inr (by unfold YR;omega),b2,XW rfl⟩,trivial⟩
   . exact⟨⟨_,s1,by simp,Xb rfl⟩,⟨_,s2,by simp,Qx (by omega) (by omega) (by omega) rfl⟩,⟨_,s6,by simp,Xb rfl⟩,⟨_,s7,by simp[i64],WM rfl⟩,⟨_,s8,by simp[i64],WM rfl⟩,trivial⟩
 . intro k hk
   have e0:0+Int.toNat (Int.ofNat k)=k:=by simp
   refine(?_:(∃p r,CC prog c k p=some r/\_)->_) (HJ c k (fun r=>ZZ r.2.2.2.2.2.1/\r.2.2.2.2.2.2=[]/\r.2.2.2.2.1<=100000000000000000000000000000000000000000000000000/\
    ∀ st':St,[1,2,6,7,8].map (fun t=>st'.tm[t]?)=r.2.1->[2000,1000000000000000000000000000000000000000010,0,1000,YR 0].map (ZX st'.m)=r.2.2.1->st'.tm.length=r.2.2.2.1->
     ((r.1= .normal/\∃s',s'<=c.np/\c.np-s'<c.np-k/\Wk 1006 1000000000000000000000000000000000000000000 100000000000000000000000000000000000000000000000000 st'.tm st'.m (ZT 22 (Sa c s')) (HK c s'))\/
      (r.1≠ .normal/\r.1= .exit 0/\Wk 1006 100000000000000000000000000000000000000000000000000 100000000000000000000000000000000000000000000000000 st'.tm st'.m (ZT 22 [(2,.c (.sl 2000 0 0 (2*c.np) none))]) [(2000,OP c c.np)]))) ⟨fun c1=>?_,fun c1=>?_⟩)
   . rintro⟨p,⟨e,l,b,len,n1,ob,po⟩,hv,hob,hpo,hn1,hw⟩
     obtain⟨st,v1,v2,v3,v4,v6,v7,v8⟩:=P2 hv;exact⟨p,[],e,n1,st,v1,hn1,⟨by rw[v6];exact hob,by rw[v7];have hpo:po=[]:=hpo;rw[hpo];simp⟩,v8,hw st v2 v3 v4⟩
   . have hlt:k<c.np:=by simpa using c1
     refine⟨?_,rfl,by dsimp only;omega,fun st' v2 v3 v4=>.inl ⟨rfl,k+1,by omega,by omega,?_⟩⟩
     . simp only[ZZ,List.forall_mem_cons,e0]
       simp[Z6,hlt];omega
     . simp only[List.map_cons,List.map_nil,List.cons.injEq,and_true] at v2 v3
       obtain⟨s1,s2,s6,s7,s8⟩:=v2;obtain⟨_,b22,b0,b1,b2⟩:=v3;refine V5 (ρ:=fun _=>.inl 1000000000000000000000000000000000000000010) (by omega) (by omega) (by unfold ZQ;omega) v4 ?_ ?_ ?_
       . kernel_rfl
       . refine⟨.inr (.inl ⟨by omega,by omega,_,_,rfl,b22,?_,XT⟩),.inl ⟨.inl (by omega),b0,TH⟩,.inl ⟨.inl (by omega),b1,VN (by omega)⟩,.inl ⟨.inr (by unfold YR;omega),b2,XW rfl⟩,trivial⟩
         refine⟨rfl,rfl,rfl,rfl,.inr (.inl ⟨2*k+2,_,_,rfl,rfl,fun i hi=>?_⟩)⟩;by_cases h1:i<2*k
         . simp[h1]
         . by_cases h2:i=2*k
           . subst h2
             simp[Z8,Zs,e0]
           . obtain rfl:i=2*k+1:=by omega
             have hm:(2*k+1) % 2=1:=by omega
             have hd:(2*k+1) / 2=k:=by omega
             simp[Z8,Zs,e0,hm,hd]
       . exact⟨⟨_,s1,by simp[ZN],Xb rfl⟩,⟨_,s2,by simp,WN (by omega) (by omega) (by omega) rfl⟩,⟨_,s6,by simp[ZN],Xb rfl⟩,⟨_,s7,by simp[i64,ZN],WM rfl⟩,
          ⟨_,s8,by simp,WM (by rw[XG _ (by simp;omega) (by simp;omega)];simp)⟩,trivial⟩
   . have hlt:¬k<c.np:=by simpa using c1
     obtain rfl:k=c.np:=by omega
     refine⟨?_,rfl,by dsimp only;omega,fun st' v2 v3 v4=>.inr ⟨by simp,rfl,?_⟩⟩
     . simp[ZZ]
     . simp only[List.map_cons,List.map_nil,List.cons.injEq,and_true] at v2 v3
       obtain⟨s1,s2,s6,s7,s8⟩:=v2;obtain⟨b22,_⟩:=v3;refine V5 (ρ:=fun _=>.inl 2000) (by omega) (by omega) (by unfold ZQ;omega) v4 rfl ?_ ?_
       . exact⟨.inr (.inl ⟨by omega,by omega,2000,_,rfl,b22,BEq.refl _,XT⟩),trivial⟩
       . exact⟨⟨_,s2,by simp[ZN],WN (by omega) (by omega) (by omega) rfl⟩,trivial⟩
def hlvS (c:Cfg):Zh:=⟨[1,2,6,7,8],[0,1000,YR 0],ZT 22 [(2,.c (.sl 2000 0 0 (2*c.np) none))],[(2000,OP c c.np)],100000000000000000000000000000000000000000000000000,.exit 0⟩
def hlv1 (P:Program) (c:Cfg):Option VF:=ZB [2000] (ZJ (BY P) (fC (BY P) 300) 19 [.agg (Yi c)] 1000 nSt (Y7 (Xl c) [] [some (hlvS c)]))
theorem jjkh (c:Cfg):hlv1 prog c=
 some (.c (.sl 2000 0 0 (2*c.np) none),[some (ABlk.mk true true 3 1 (Cs.arr (2*c.np) fun k=>List.map AC.v ((fun i=>[Value.int .i64 (Zs c i)]) k)))],100000000000000000000000000000000000000000000000002,[true],[LoopV prog (ZY prog 19 0) [1,2,6,7,8] [0,1000,YR 0] [some (.c (.ptr 1000 0 0)),some (.c (AC.v (Value.slice none 0 0))),some (.c (.sl 0 0 0 (c.np) none)),some (.c (.v (.int .i64 ↑(c.np)))),some (.c (.v (.int .i64 (Int.ofNat 0))))] [some (ABlk.mk false false 3 1 (Cs.arr (c.np) fun k=>List.map AC.v ((fun i=>[Value.int .i64 (c.fp i)]) k))),some (ABlk.mk true false 25 0 (Cs.lit [.v (.int .i64 (c.nodes)),AC.sl 0 0 0 (c.np) none,AC.sl 1 0 0 (c.ns) none,.v (.int .i64 (c.long)),AC.sl 2 0 0 (c.nb) none,AC.sl 3 0 0 (c.nt) none,.v (.int .i64 (c.miss)),.v (.int .i64 (c.good)),.v (.int .i64 (c.fresh))])),some (ABlk.mk false false 159 0 (Cs.lit [.v (.int .i64 (Int.ofNat 1)),.v (.int .i64 (Int.negSucc 0))]))] 22 1006 (ZT 22 [(2,.c (.sl 2000 0 0 (2*c.np) none))]) [(2000,OP c (c.np))] 100000000000000000000000000000000000000000000000000 (Exit.exit 0) none]):=by kernel_rfl
def UY:Yq
 | [.agg l],m,ib=>
  match VD l m,WG mS m with
  |some (c,b),true=>some (.c (.sl ib 0 0 (2*c.np) none),[(ib,OP c c.np)],1,[b,decide (c.np<=1000)])
  |_,_=>none
 |_,_,_=>none
theorem DD : ZC prog 19 UY:=by
 refine⟨⟨_,_,Tryz.func19,rfl⟩,fun C β m m2 w args ib r news k' ob vs hct ho hs hr hfree hlim hv=>?_⟩;unfold UY at hct;split at hct
 . rename_i l
   split at hct
   . rename_i c b hc hg
     simp only[Option.some.injEq,Prod.mk.injEq] at hct;obtain⟨rfl,rfl,rfl,rfl⟩:=hct;simp only[ZZ,List.forall_mem_cons,decide_eq_true_eq] at ho;obtain⟨rfl,o2,_⟩:=ho;obtain⟨s',r1,r2,r3,r4⟩:=Td (jjkh c);simp only[γt,γ1] at hv;split at hv
     . rename_i v0 us hv0 hus
       split at hv0
       . rename_i cs hcs
         cases hv0;cases hus;cases hv;obtain⟨β1,q1,q2,q3⟩:=NE hs hr hc hg hcs;refine(X8 Cw r1 ⟨by rw[r3];simp[ZZ],by rw[r4];intro q hq;rw[List.mem_singleton.1 hq];exact jjkg c o2⟩ (C:=Zx w) (β:=β1) (w:=w) (vs:=[.agg cs.toArray]) ?_ q1 (fun id h1 h2=>q3 id h1 (by unfold ZQ;omega))).mono ?_
         . simp only[γt,γ1,q2]
         . rintro e w' ⟨β',u,rfl,_,_,hu,hr'⟩
           simp only[List.map_cons,List.map_nil,List.cons.injEq,and_true] at r2;obtain⟨L,hL,hb⟩:=hr'.blk 2000 _ r2;have hid:β ib=none:=hfree ib (Nat.le_refl _) (by omega);refine⟨ZR β ib L,u,rfl,Wq hid,fun id h=>?_,?_,?_⟩
           . unfold ZR
             rw[if_neg (by omega)]
           . simp only[γ,γ1,γc,hL] at hu
             simp only[γ,γ1,γc,Wd];exact hu
           . refine Sh hr (Sr hr') hid (Wb (by omega)) hr' r2 rfl rfl (fun k j _=>?_) hL
             match j with
             |0=>exact⟨_,rfl⟩
             |j+1=>exact⟨_,rfl⟩
       . cases hv0
     . cases hv
   . cases hct
 . cases hct
abbrev Ye (n:Nat) (f:Nat->Bool):ABlk:=XD 4 1 n fun i=>[.bool (f i)]
abbrev Vc (k:Nat):List AV:=[.c (.ptr 1000 0 0),.c (.sl 1002 0 0 16 none),i64 (Int.ofNat k)]
def GK (P:Program) (c:Cfg) (u:Nat->Bool) (k:Nat) (path:List Dec):Option VC:=
 view ([1,3,4]++[2]) [0,1000,1002] (fC (E1 P) 300 (ZY P 21 0) 1000000000000000000000000000000000000000000 nSt (WR 63 [1,3,4] [0,1000,1002] (Vc k) [ZG 3 c.np c.fp,Zr c,Ye 16 u] path []))
theorem r4p (c:Cfg) (u:Nat->Bool) (k:Nat) (Q:VC->Prop) (H:let zN:=Int.ofNat;let zD:=Int.toNat;let zz2:=(ABlk.mk false false 3 1 (yP c));let zz10:=(ABlk.mk true false 25 0 (Cs.lit [zI (Cfg.nodes c),AC.sl 0 0 0 (Cfg.np c) none,AC.sl 1 0 0 (Cfg.ns c) none,zI (Cfg.long c),AC.sl 2 0 0 (Cfg.nb c) none,AC.sl 3 0 0 (Cfg.nt c) none,zI (Cfg.miss c),zI (Cfg.good c),zI (Cfg.fresh c)]));let zz3:=(ABlk.mk true true 4 1 (Cs.arr 16 fun k=>List.map AC.v ((fun i=>[Value.bool (u i)]) k)));let zz0:=[some zz2,some zz10,some zz3];let zz1:=(IntKind.wrap IntKind.i64 (Cfg.fp c (0+zD (zN k))+zN 1));let zz4:=[some (ZN (List.zip [1,3,4] (Vc k)) 1),some (ZN (List.zip [1,3,4] (Vc k)) 3),some (ZN (List.zip [1,3,4] (Vc k)) 4),some (AV.c (zB false))];let zz5:=[some zz2,some zz10,yO 4 1 (Cs.arr 16 fun i=>if i=0+zD (Int.tmod zz1 (Cfg.nodes c)) then YB ((fun i=>if i=0+zD (Cfg.fp c (0+zD (zN k))) then YB ((fun k=>List.map AC.v ((fun i=>[Value.bool (u i)]) k)) i) 0 [zB true] else List.map AC.v ((fun i=>[Value.bool (u i)]) i)) i) 0 [zB true] else if i=0+zD (Cfg.fp c (0+zD (zN k))) then YB ((fun k=>List.map AC.v ((fun i=>[Value.bool (u i)]) k)) i) 0 [zB true] else List.map AC.v ((fun i=>[Value.bool (u i)]) i))];let zz6:=(0+zD (Cfg.fp c (0+zD (zN k))));let zz11:=(0+zD (IntKind.wrap IntKind.i64 (zN k-zN 1)));let zz7:=(Cfg.fp c (0+zD (zN k))<=Cfg.fp c zz11);let zz8:=(Cfg.fp c (0+zD (zN k))<zN 0);let zz9:=(Cfg.fp c (0+zD (zN k))≥Cfg.nodes c);let zz12:=(ABlk.mk true true 4 1 (Cs.arr 16 fun i=>if i=0+zD (Cfg.fp c (0+zD (zN k))) then YB ((fun k=>List.map AC.v ((fun i=>[Value.bool (u i)]) k)) i) 0 [zB true] else List.map AC.v ((fun i=>[Value.bool (u i)]) i)));let zz13:=[some (ZN (List.zip [1,3,4] (Vc k)) 1),some (ZN (List.zip [1,3,4] (Vc k)) 3),some (AV.c (zI (IntKind.wrap IntKind.i64 (zN k+zN 1)))),some (ZN (List.zip [1,3,4] (Vc k)) 2)];let zq0:List Bool:=[true];let zq1:List Bool:=(ABlk.inb zz2 (0+zD (zN k)) 1)::true::(decide (zN 0<=zN k/\zN k < ↑(c.np)))::true::(decide (zN k < ↑(c.np))==true)::zq0;let zq2:List Bool:=true::true::(decide zz8==false)::zq1;let zq3:List Bool:=(decide zz9==false)::zq2;let zq4:List Bool:=(ABlk.inb zz2 zz11 1)::true::(decide (zN 0<=IntKind.wrap .i64 (zN k-zN 1)/\IntKind.wrap .i64 (zN k-zN 1) < ↑(c.np)))::true::(decide (zN k>zN 0)==true)::zq3;let zq5:List Bool:=(ABlk.inb zz3 zz6 1)::true::(decide (zN 0<=c.fp (0+zD (zN k))/\c.fp (0+zD (zN k))<zN 16))::(decide (c.nodes≠zN 0))::true::true::(decide zz7==false)::zq4;let zq6:List Bool:=(ABlk.inb zz3 (0+zD (Int.tmod zz1 c.nodes)) 1)::true::(decide (zN 0<=Int.tmod zz1 c.nodes/\Int.tmod zz1 c.nodes<zN 16))::(u zz6==false)::zq5;let zq7:List Bool:=(ABlk.inb zz3 zz6 1)::true::(decide (zN 0<=c.fp (0+zD (zN k))/\c.fp (0+zD (zN k))<zN 16))::(decide (c.nodes≠zN 0))::true::true::(decide (zN k>zN 0)==false)::zq3;let zq8:List Bool:=(ABlk.inb zz3 (0+zD (Int.tmod zz1 c.nodes)) 1)::true::(decide (zN 0<=Int.tmod zz1 c.nodes/\Int.tmod zz1 c.nodes<zN 16))::(u zz6==false)::zq7;(((decide (zN k < ↑(c.np)))=true->(((decide zz8)=true->Q (Exit.ret,zz4,zz0,63,1000000000000000000000000000000000000000018,((decide zz8==true)::zq1),[]))/\((decide zz8)=false->(((decide zz9)=true->Q (Exit.ret,zz4,zz0,63,1000000000000000000000000000000000000000022,((decide zz9==true)::zq2),[]))/\((decide zz9)=false->(((decide (zN k>zN 0))=true->(((decide zz7)=true->Q (Exit.ret,zz4,zz0,63,1000000000000000000000000000000000000000034,((decide zz7==true)::zq4),[]))/\((decide zz7)=false->(((u zz6)=true->Q (Exit.ret,zz4,zz0,63,1000000000000000000000000000000000000000046,((u zz6==true)::zq5),[]))/\((u zz6)=false->(((u (0+zD (Int.tmod zz1 c.nodes)))=true->Q (Exit.ret,zz4,zz0,63,1000000000000000000000000000000000000000050,((u (0+zD (Int.tmod zz1 c.nodes))==true)::zq6),[]))/\((u (0+zD (Int.tmod zz1 c.nodes)))=false->Q (Exit.normal,zz13,zz5,63,1000000000000000000000000000000000000000060,((ABlk.inb zz12 (0+zD (Int.tmod zz1 c.nodes)) 1)::(decide (zN 0<=Int.tmod zz1 c.nodes/\Int.tmod zz1 c.nodes<zN 16))::(ABlk.inb zz3 zz6 1)::(decide (zN 0<=c.fp (0+zD (zN k))/\c.fp (0+zD (zN k))<zN 16))::(u (0+zD (Int.tmod zz1 c.nodes))==false)::zq6),[]))))))))/\((decide (zN k>zN 0))=false->(((u zz6)=true->Q (Exit.ret,zz4,zz0,63,1000000000000000000000000000000000000000038,((u zz6==true)::zq7),[]))/\((u zz6)=false->(((u (0+zD (Int.tmod zz1 c.nodes)))=true->Q (Exit.ret,zz4,zz0,63,1000000000000000000000000000000000000000042,((u (0+zD (Int.tmod zz1 c.nodes))==true)::zq8),[]))/\((u (0+zD (Int.tmod zz1 c.nodes)))=false->Q (Exit.normal,zz13,zz5,63,1000000000000000000000000000000000000000052,((ABlk.inb zz12 (0+zD (Int.tmod zz1 c.nodes)) 1)::(decide (zN 0<=Int.tmod zz1 c.nodes/\Int.tmod zz1 c.nodes<zN 16))::(ABlk.inb zz3 zz6 1)::(decide (zN 0<=c.fp (0+zD (zN k))/\c.fp (0+zD (zN k))<zN 16))::(u (0+zD (Int.tmod zz1 c.nodes))==false)::zq8),[]))))))))))))/\((decide (zN k < ↑(c.np)))=false->Q (Exit.exit 0,[some (ZN (List.zip [1,3,4] (Vc k)) 1),some (ZN (List.zip [1,3,4] (Vc k)) 3),some (ZN (List.zip [1,3,4] (Vc k)) 4),some (ZN (List.zip [1,3,4] (Vc k)) 2)],zz0,63,1000000000000000000000000000000000000000005,((decide (zN k < ↑(c.np))==false)::zq0),[])))):
 ∃p r,GK prog c u k p=some r/\Q r:=
 ZL H (fun g1=>ZL g1 (fun g2=>⟨pD 10 4,_,by kernel_rfl,g2⟩) (fun g2=>ZL g2 (fun g3=>⟨pD 10 250,_,by kernel_rfl,g3⟩) (fun g3=>ZL g3 (fun g4=>ZL g4 (fun g5=>⟨pD 18 129147217,_,by kernel_rfl,g5⟩) (fun g5=>ZL g5 (fun g6=>⟨pD 23 645707869,_,by kernel_rfl,g6⟩) (fun g6=>ZL g6 (fun g7=>⟨pD 23 32414187967,_,by kernel_rfl,g7⟩) (fun g7=>⟨pD 23 63795247576,_,by kernel_rfl,g7⟩)))) (fun g4=>ZL g4 (fun g5=>⟨pD 23 387434104,_,by kernel_rfl,g5⟩) (fun g5=>ZL g5 (fun g6=>⟨pD 23 32155914202,_,by kernel_rfl,g6⟩) (fun g6=>⟨pD 23 63536973811,_,by kernel_rfl,g6⟩)))))) (fun g1=>⟨pD 1 2,_,by kernel_rfl,g1⟩)
def pcR (P:Program) (c:Cfg) (e:Exit) (l:List (Nat × AV)):Option VF:=ZB [] (ZJ (E1 P) (fC (E1 P) 300) 21 [.agg (Yi c)] 1000 nSt (Y7 (Xl c) [] [some ⟨[1,3,4],[0,1000,1002],ZT 63 l,[],100000000000000000000000000000000000000000000000000,e⟩]))
theorem jjnd (c:Cfg):pcR prog c (.exit 0) []=
 some (.c (.v (.bool true)),[],100000000000000000000000000000000000000000000000001,[true],[LoopV prog (ZY prog 21 0) [1,3,4] [0,1000,1002] [some (.c (.ptr 1000 0 0)),some (.c (.sl 1002 0 0 16 none)),some (.c (.v (.int .i64 (Int.ofNat 0))))] [some (ABlk.mk false false 3 1 (Cs.arr (c.np) fun k=>List.map AC.v ((fun i=>[Value.int .i64 (c.fp i)]) k))),some (ABlk.mk true false 25 0 (Cs.lit [.v (.int .i64 (c.nodes)),AC.sl 0 0 0 (c.np) none,AC.sl 1 0 0 (c.ns) none,.v (.int .i64 (c.long)),AC.sl 2 0 0 (c.nb) none,AC.sl 3 0 0 (c.nt) none,.v (.int .i64 (c.miss)),.v (.int .i64 (c.good)),.v (.int .i64 (c.fresh))])),some (ABlk.mk true true 4 1 (Cs.arr 16 fun x=>List.map AC.v (Array.toList (Value.cells (Value.bool false)))))] 63 1005 (ZT 63 []) [] 100000000000000000000000000000000000000000000000000 (Exit.exit 0) none]):=by kernel_rfl
theorem FS (c:Cfg):pcR prog c .ret [(2,bo false)]=
 some (.c (.v (.bool false)),[],100000000000000000000000000000000000000000000000000,[true],[LoopV prog (ZY prog 21 0) [1,3,4] [0,1000,1002] [some (.c (.ptr 1000 0 0)),some (.c (.sl 1002 0 0 16 none)),some (.c (.v (.int .i64 (Int.ofNat 0))))] [some (ABlk.mk false false 3 1 (Cs.arr (c.np) fun k=>List.map AC.v ((fun i=>[Value.int .i64 (c.fp i)]) k))),some (ABlk.mk true false 25 0 (Cs.lit [.v (.int .i64 (c.nodes)),AC.sl 0 0 0 (c.np) none,AC.sl 1 0 0 (c.ns) none,.v (.int .i64 (c.long)),AC.sl 2 0 0 (c.nb) none,AC.sl 3 0 0 (c.nt) none,.v (.int .i64 (c.miss)),.v (.int .i64 (c.good)),.v (.int .i64 (c.fresh))])),some (ABlk.mk true true 4 1 (Cs.arr 16 fun x=>List.map AC.v (Array.toList (Value.cells (Value.bool false)))))] 63 1005 (ZT 63 [(2,bo false)]) [] 100000000000000000000000000000000000000000000000000 Exit.ret none]):=by kernel_rfl
abbrev Vd (c:Cfg) (k:Nat):List AV:=[.c (.ptr 1000 0 0),.c (.sl 1005 0 0 c.np none),i64 (Int.ofNat k)]
def GL (P:Program) (c:Cfg) (u:Nat->Bool) (k:Nat) (path:List Dec):Option VC:=
 view ([1,3,4]++[2]) [1,1000,1005] (fC (E1 P) 300 (ZY P 22 0) 1000000000000000000000000000000000000000000 nSt (WR 52 [1,3,4] [1,1000,1005] (Vd c k) [ZG 3 c.ns c.fs,Zr c,Ye c.np u] path []))
theorem r4s (c:Cfg) (u:Nat->Bool) (k:Nat) (Q:VC->Prop) (H:let zN:=Int.ofNat;let zD:=Int.toNat;let zz1:=(ABlk.mk false false 3 1 (yS c));let zz2:=(ABlk.mk true false 25 0 (Cs.lit [zI (Cfg.nodes c),AC.sl 0 0 0 (Cfg.np c) none,AC.sl 1 0 0 (Cfg.ns c) none,zI (Cfg.long c),AC.sl 2 0 0 (Cfg.nb c) none,AC.sl 3 0 0 (Cfg.nt c) none,zI (Cfg.miss c),zI (Cfg.good c),zI (Cfg.fresh c)]));let zz0:=[some zz1,some zz2,yO 4 1 (Cs.arr (Cfg.np c) fun k=>List.map AC.v ((fun i=>[Value.bool (u i)]) k))];let zz3:=(Cfg.fs c (0+zD (zN k))<zN 0);let zz4:=[some (ZN (List.zip [1,3,4] (Vd c k)) 1),some (ZN (List.zip [1,3,4] (Vd c k)) 3),some (ZN (List.zip [1,3,4] (Vd c k)) 4),some (AV.c (zB false))];let zq0:List Bool:=[true];let zq1:List Bool:=(ABlk.inb zz1 (0+zD (zN k)) 1)::true::(decide (zN 0<=zN k/\zN k < ↑(c.ns)))::true::(decide (zN k < ↑(c.ns))==true)::zq0;let zq2:List Bool:=true::(ABlk.inb zz1 (0+zD (zN k)) 1)::true::(decide (zN 0<=zN k/\zN k < ↑(c.ns)))::true::(decide zz3==false)::zq1;(((decide (zN k < ↑(c.ns)))=true->(((decide zz3)=true->Q (Exit.ret,zz4,zz0,52,1170000000000000000000000000000000000000006,((decide zz3==true)::zq1),[]))/\((decide zz3)=false->(((decide (c.fs (0+zD (zN k))≥ ↑(c.np)))=true->Q (Exit.ret,zz4,zz0,52,1170000000000000000000000000000000000000006,((decide (c.fs (0+zD (zN k))≥ ↑(c.np))==true)::zq2),[]))/\((decide (c.fs (0+zD (zN k))≥ ↑(c.np)))=false->Q (Exit.normal,[some (ZN (List.zip [1,3,4] (Vd c k)) 1),some (ZN (List.zip [1,3,4] (Vd c k)) 3),some (.c (zI (IntKind.wrap .i64 (zN k+zN 1)))),some (ZN (List.zip [1,3,4] (Vd c k)) 2)],[some zz1,some zz2,yO 4 1 (Cs.arr c.np fun i=>if i=0+zD (c.fs (0+zD (zN k))) then YB ((fun k=>List.map AC.v ((fun i=>[Value.bool (u i)]) k)) i) 0 [zB true] else List.map AC.v ((fun i=>[Value.bool (u i)]) i))],52,1170000000000000000000000000000000000000016,((ABlk.inb (ABlk.mk true true 4 1 (Cs.arr c.np fun k=>List.map AC.v ((fun i=>[Value.bool (u i)]) k))) (0+zD (c.fs (0+zD (zN k)))) 1)::(decide (zN 0<=c.fs (0+zD (zN k))/\c.fs (0+zD (zN k)) < ↑(c.np)))::(ABlk.inb zz1 (0+zD (zN k)) 1)::true::(decide (zN 0<=zN k/\zN k < ↑(c.ns)))::true::(decide (c.fs (0+zD (zN k))≥ ↑(c.np))==false)::zq2),[]))))))/\((decide (zN k < ↑(c.ns)))=false->Q (Exit.exit 0,[some (ZN (List.zip [1,3,4] (Vd c k)) 1),some (ZN (List.zip [1,3,4] (Vd c k)) 3),some (ZN (List.zip [1,3,4] (Vd c k)) 4),some (ZN (List.zip [1,3,4] (Vd c k)) 2)],zz0,52,1000000000000000000000000000000000000000005,((decide (zN k < ↑(c.ns))==false)::zq0),[])))):
 ∃p r,GL prog c u k p=some r/\Q r:=
 ZL H (fun g1=>ZL g1 (fun g2=>⟨pD 11 4,_,by kernel_rfl,g2⟩) (fun g2=>ZL g2 (fun g3=>⟨pD 11 59056,_,by kernel_rfl,g3⟩) (fun g3=>⟨pD 11 118105,_,by kernel_rfl,g3⟩))) (fun g1=>⟨pD 1 2,_,by kernel_rfl,g1⟩)
abbrev Ta (c:Cfg) (k:Nat):List AV:=[.c (.sl 1005 0 0 c.np none),i64 (Int.ofNat k)]
def Ba (P:Program) (c:Cfg) (u:Nat->Bool) (k:Nat) (path:List Dec):Option VC:=
 view ([3,5]++[2]) [1005] (fC (E1 P) 300 (ZY P 22 1) 1000000000000000000000000000000000000000000000000000 nSt (WR 52 [3,5] [1005] (Ta c k) [Ye c.np u] path []))
theorem r4t (c:Cfg) (u:Nat->Bool) (k:Nat) (Q:VC->Prop) (H:let zN:=Int.ofNat;let zz0:=(ABlk.mk true true 4 1 (Cs.arr (Cfg.np c) fun k=>List.map AC.v ((fun i=>[Value.bool (u i)]) k)));let zq0:List Bool:=[ABlk.inb zz0 (0+Int.toNat (zN k)) 1,true,decide (zN 0<=zN k/\zN k < ↑(c.np)),decide (zN k < ↑(c.np))==true];(((decide (zN k < ↑(c.np)))=true->(((!u (0+Int.toNat (zN k)))=true->Q (Exit.ret,[some (ZN (List.zip [3,5] (Ta c k)) 3),some (ZN (List.zip [3,5] (Ta c k)) 5),some (.c (zB false))],[some zz0],52,1000000000000000000000000000000000000000000000000010,(((!u (0+Int.toNat (zN k)))==true)::zq0),[]))/\((!u (0+Int.toNat (zN k)))=false->Q (Exit.normal,[some (ZN (List.zip [3,5] (Ta c k)) 3),some (.c (zI (IntKind.wrap .i64 (zN k+zN 1)))),some (ZN (List.zip [3,5] (Ta c k)) 2)],[some zz0],52,1000000000000000000000000000000000000000000000000012,(((!u (0+Int.toNat (zN k)))==false)::zq0),[]))))/\((decide (zN k < ↑(c.np)))=false->Q (Exit.exit 2,[some (ZN (List.zip [3,5] (Ta c k)) 3),some (ZN (List.zip [3,5] (Ta c k)) 5),some (ZN (List.zip [3,5] (Ta c k)) 2)],[some zz0],52,1000000000000000000000000000000000000000000000000004,[decide (zN k < ↑(c.np))==false],[])))):
 ∃p r,Ba prog c u k p=some r/\Q r:=
 ZL H (fun g1=>ZL g1 (fun g2=>⟨pD 2 4,_,by kernel_rfl,g2⟩) (fun g2=>⟨pD 2 7,_,by kernel_rfl,g2⟩)) (fun g1=>⟨pD 1 2,_,by kernel_rfl,g1⟩)
def Bq (P:Program) (c:Cfg) (l:List (Option Zh)):Option VF:=ZB [] (ZJ (E1 P) (fC (E1 P) 300) 22 [.agg (Yi c)] 1000 nSt (Y7 (Xl c) [] l))
abbrev s4A (c:Cfg) (u:Nat->Bool):Zh:=⟨[1,3,4],[1,1000,1005],ZT 52 [(3,.c (.sl 1005 0 0 c.np none))],[(1005,Ye c.np u)],100000000000000000000000000000000000000000000000000,.exit 0⟩
abbrev s4B (e:Exit) (l:List (Nat × AV)):Zh:=⟨[3,5],[1005],ZT 52 l,[],10000000000000000000000000000000000000000000000000000,e⟩
theorem jjm7 (c:Cfg):Bq prog c [some ⟨[1,3,4],[1,1000,1005],ZT 52 [(2,bo false)],[],100000000000000000000000000000000000000000000000000,.ret⟩]=
 some (.c (.v (.bool false)),[],100000000000000000000000000000000000000000000000000,[decide (Int.ofNat 0 <= ↑(c.np)/\Int.ofNat (c.np)=Int.ofNat (c.np)/\ ↑(c.np)*Int.ofNat 1<=Int.ofNat 140737488355328),true],[LoopV prog (ZY prog 22 0) [1,3,4] [1,1000,1005] [some (.c (.ptr 1000 0 0)),some (.c (.sl 1005 0 0 (Int.toNat ↑(c.np)) none)),some (.c (.v (.int .i64 (Int.ofNat 0))))] [some (ABlk.mk false false 3 1 (Cs.arr (c.ns) fun k=>List.map AC.v ((fun i=>[Value.int .i64 (c.fs i)]) k))),some (ABlk.mk true false 25 0 (Cs.lit [.v (.int .i64 (c.nodes)),AC.sl 0 0 0 (c.np) none,AC.sl 1 0 0 (c.ns) none,.v (.int .i64 (c.long)),AC.sl 2 0 0 (c.nb) none,AC.sl 3 0 0 (c.nt) none,.v (.int .i64 (c.miss)),.v (.int .i64 (c.good)),.v (.int .i64 (c.fresh))])),some (ABlk.mk true true 4 1 (Cs.arr (Int.toNat ↑(c.np)) fun x=>List.map AC.v (Array.toList (Value.cells (Value.bool false)))))] 52 1008 (ZT 52 [(2,bo false)]) [] 100000000000000000000000000000000000000000000000000 Exit.ret none]):=by kernel_rfl
theorem jjm5 (c:Cfg) (u:Nat->Bool):Bq prog c [some (s4A c u),some (s4B (.exit 2) [])]=
 some (.c (.v (.bool true)),[],10000000000000000000000000000000000000000000000000001,[decide (Int.ofNat 0 <= ↑(c.np)/\Int.ofNat (c.np)=Int.ofNat (c.np)/\ ↑(c.np)*Int.ofNat 1<=Int.ofNat 140737488355328),true],[LoopV prog (ZY prog 22 1) [3,5] [1005] [some (.c (.sl 1005 0 0 (c.np) none)),some (.c (.v (.int .i64 (Int.ofNat 0))))] [some (ABlk.mk true true 4 1 (Cs.arr (c.np) fun k=>List.map AC.v ((fun i=>[Value.bool (u i)]) k)))] 52 100000000000000000000000000000000000000000000000001 (ZT 52 []) [] 10000000000000000000000000000000000000000000000000000 (Exit.exit 2) none,LoopV prog (ZY prog 22 0) [1,3,4] [1,1000,1005] [some (.c (.ptr 1000 0 0)),some (.c (.sl 1005 0 0 (Int.toNat ↑(c.np)) none)),some (.c (.v (.int .i64 (Int.ofNat 0))))] [some (ABlk.mk false false 3 1 (Cs.arr (c.ns) fun k=>List.map AC.v ((fun i=>[Value.int .i64 (c.fs i)]) k))),some (ABlk.mk true false 25 0 (Cs.lit [.v (.int .i64 (c.nodes)),AC.sl 0 0 0 (c.np) none,AC.sl 1 0 0 (c.ns) none,.v (.int .i64 (c.long)),AC.sl 2 0 0 (c.nb) none,AC.sl 3 0 0 (c.nt) none,.v (.int .i64 (c.miss)),.v (.int .i64 (c.good)),.v (.int .i64 (c.fresh))])),some (ABlk.mk true true 4 1 (Cs.arr (Int.toNat ↑(c.np)) fun x=>List.map AC.v (Array.toList (Value.cells (Value.bool false)))))] 52 1008 (ZT 52 [(3,.c (.sl 1005 0 0 (c.np) none))]) [(1005,Ye (c.np) u)] 100000000000000000000000000000000000000000000000000 (Exit.exit 0) none]):=by kernel_rfl
theorem H4 (c:Cfg) (u:Nat->Bool):Bq prog c [some (s4A c u),some (s4B .ret [(2,bo false)])]=
 some (.c (.v (.bool false)),[],10000000000000000000000000000000000000000000000000000,[decide (Int.ofNat 0 <= ↑(c.np)/\Int.ofNat (c.np)=Int.ofNat (c.np)/\ ↑(c.np)*Int.ofNat 1<=Int.ofNat 140737488355328),true],[LoopV prog (ZY prog 22 1) [3,5] [1005] [some (.c (.sl 1005 0 0 (c.np) none)),some (.c (.v (.int .i64 (Int.ofNat 0))))] [some (ABlk.mk true true 4 1 (Cs.arr (c.np) fun k=>List.map AC.v ((fun i=>[Value.bool (u i)]) k)))] 52 100000000000000000000000000000000000000000000000001 (ZT 52 [(2,bo false)]) [] 10000000000000000000000000000000000000000000000000000 Exit.ret none,LoopV prog (ZY prog 22 0) [1,3,4] [1,1000,1005] [some (.c (.ptr 1000 0 0)),some (.c (.sl 1005 0 0 (Int.toNat ↑(c.np)) none)),some (.c (.v (.int .i64 (Int.ofNat 0))))] [some (ABlk.mk false false 3 1 (Cs.arr (c.ns) fun k=>List.map AC.v ((fun i=>[Value.int .i64 (c.fs i)]) k))),some (ABlk.mk true false 25 0 (Cs.lit [.v (.int .i64 (c.nodes)),AC.sl 0 0 0 (c.np) none,AC.sl 1 0 0 (c.ns) none,.v (.int .i64 (c.long)),AC.sl 2 0 0 (c.nb) none,AC.sl 3 0 0 (c.nt) none,.v (.int .i64 (c.miss)),.v (.int .i64 (c.good)),.v (.int .i64 (c.fresh))])),some (ABlk.mk true true 4 1 (Cs.arr (Int.toNat ↑(c.np)) fun x=>List.map AC.v (Array.toList (Value.cells (Value.bool false)))))] 52 1008 (ZT 52 [(3,.c (.sl 1005 0 0 (c.np) none))]) [(1005,Ye (c.np) u)] 100000000000000000000000000000000000000000000000000 (Exit.exit 0) none]):=by kernel_rfl
def Wf (c:Cfg) (p:Nat):Int:=Int.tmod (c.fp p+1) c.nodes
def WS (c:Cfg) (k i:Nat):Bool:=(List.range k).any fun p=>decide (i=(c.fp p).toNat)||decide (i=(Wf c p).toNat)
theorem jjas (c:Cfg) (k i:Nat):WS c (k+1) i=(WS c k i||(decide (i=(c.fp k).toNat)||decide (i=(Wf c k).toNat))):=by
 unfold WS;rw[List.range_succ,List.any_append];simp
def Uz (c:Cfg) (k:Nat):Prop:=c.fp k<0\/c.nodes<=c.fp k\/(0<k/\c.fp k<=c.fp (k-1))\/WS c k (c.fp k).toNat=true\/WS c k (Wf c k).toNat=true
theorem Pc (c:Cfg) (k:Nat) (h4:4<=c.nodes) (h0:0<=c.fp k):0<=Wf c k/\Wf c k<c.nodes:=by
 unfold Wf;rw[Int.tmod_eq_emod_of_nonneg (by omega)];exact⟨Int.emod_nonneg _ (by omega),Int.emod_lt_of_pos _ (by omega)⟩
theorem Fh (c:Cfg) (h4:4<=c.nodes) (h16:c.nodes<=16) (hp:c.np<=1000000) (j:Nat) (hj:j<=c.np) (hmin:∀i,i<j->¬Uz c i) (hyes:j<c.np->Uz c j) {e:Exit} {out:List (Nat × AV)}
 (hF:(j<c.np->e= .ret/\out=[(2,bo false)])/\(j=c.np->e= .exit 0/\out=[])) {eblks:List (Option ABlk)} (heb:BL [ZG 3 c.np c.fp,Zr c,Ye 16 (WS c 0)] eblks):
 LoopV prog (ZY prog 21 0) [1,3,4] [0,1000,1002] ((Vc 0).map some) eblks 63 1005 (ZT 63 out) [] 100000000000000000000000000000000000000000000000000 e none:=by
 refine Rx Xk (fuel:=300) (str:=nSt) (nh:=1000000000000000000000000000000000000000000) (S:=Nat) (fun k=>k<=j) (fun k=>j-k) [1,3,4] [2] [0,1000,1002] Vc (fun k=>[ZG 3 c.np c.fp,Zr c,Ye 16 (WS c k)]) (by decide) (by decide) (by unfold ZQ;omega) (s0:=0) (by omega) (fun _=>⟨rfl,rfl⟩) (by kernel_rfl) heb (fun k _=>⟨rfl,fun b hb=>?_⟩) ?_
 . simp only[List.mem_cons,List.not_mem_nil,or_false] at hb
   rcases hb with rfl|rfl|rfl
   . exact TH
   . exact VN (by omega)
   . exact XT
 intro k hk;have ek:0+Int.toNat (Int.ofNat k)=k:=by simp
 obtain⟨z,hz,hz2⟩:∃z,IntKind.wrap IntKind.i64 (Int.ofNat k-Int.ofNat 1)=z/\(0<k->z=Int.ofNat (k-1)):=⟨_,rfl,fun h=>by rw[XG _ (by simp;omega) (by simp;omega)];simp;omega⟩
 obtain⟨y,hy,hy2⟩:∃y,Int.tmod (IntKind.wrap IntKind.i64 (Cfg.fp c k+Int.ofNat 1)) (Cfg.nodes c)=y/\(0<=c.fp k->c.fp k<c.nodes->y=Wf c k):=⟨_,rfl,fun h1 h2=>by rw[XG _ (by simp;omega) (by simp;omega)];rfl⟩
 have hin:=Pc c k h4;have hw:IntKind.wrap IntKind.i64 (Int.ofNat k+Int.ofNat 1)=Int.ofNat (k+1):=by rw[XG _ (by simp;omega) (by simp;omega)];rfl
 refine(?_:(∃p r,GK prog c (WS c k) k p=some r/\_)->_) (r4p c (WS c k) k (XS 1005 100000000000000000000000000000000000000000000000000 63 [1,3,4] [2] [0,1000,1002] (fun k=>k<=j) (fun k=>j-k) Vc (fun k=>[ZG 3 c.np c.fp,Zr c,Ye 16 (WS c k)]) e out [] k) ?_)
 . rintro⟨p,r,h1,h2⟩
   exact⟨p,[],r,h1,h2⟩
 . simp only [ek,hz,hy,decide_eq_true_eq,decide_eq_false_iff_not]
   rcases Nat.lt_or_ge k j with hlt|hge
   . have hm:=hmin k hlt
     unfold Uz at hm;simp only[not_or,not_and,Int.not_lt,Int.not_le,Bool.not_eq_true] at hm;obtain⟨b1,b2,b3,b4,b5⟩:=hm;obtain rfl:=hy2 b1 b2;obtain⟨i1,i2⟩:=hin b1;simp only[Nat.zero_add,b4,b5]
     repeat' (first|refine⟨fun h=>?_,fun h=>?_⟩|fail)
     all_goals (first|(exfalso;cases h;done)|(exfalso;simp only[Int.ofNat_eq_natCast] at *;omega)|skip)
     . exfalso
       rename_i h0;have h0':0<k:=by simp only[Int.ofNat_eq_natCast] at h0;omega
       have b3':=b3 h0';obtain rfl:=hz2 h0';have h9:c.fp k<=c.fp (k-1):=h;omega
     all_goals refine⟨?_,rfl,by dsimp only;omega,rfl,.inl ⟨rfl,k+1,by omega,by show j-(k+1)<j-k;omega,?_,BEq.refl _,BEq.refl _,⟨rfl,rfl,rfl,rfl,.inr (.inl ⟨16,_,_,rfl,rfl,fun i hi=>?_⟩)⟩,trivial⟩⟩
     all_goals first
      |(dsimp only;rw[hw];rfl)
      | (show _=List.map AC.v [Value.bool (WS c (k+1) i)]
         rw[jjas];by_cases g1:i=(Wf c k).toNat
         . simp[g1];split<;>rfl
         . by_cases g2:i=(c.fp k).toNat<;>simp[g1,g2]<;>split<;>rfl)
      | (by_cases h0':0<k
         . have b3':=b3 h0'
           obtain rfl:=hz2 h0';simp only[ZZ,List.forall_mem_cons,Z6,Yk,b4,b5] at *;simp at *;omega
         . simp only[ZZ,List.forall_mem_cons,Z6,Yk,b4,b5] at *
           simp at *
           omega)
   . obtain rfl:k=j:=by omega
     rcases Nat.lt_or_ge k c.np with hlt|hge
     . obtain⟨rfl,rfl⟩:=hF.1 hlt
       have hm:=hyes hlt;unfold Uz at hm;simp only[Nat.zero_add]
       repeat' (first|refine⟨fun h=>?_,fun h=>?_⟩|fail)
       all_goals (first|(exfalso;simp only[Int.ofNat_eq_natCast] at *;omega)|skip)
       all_goals (first|(have hy3:=hy2 (by simp only[Int.ofNat_eq_natCast] at *;omega) (by simp only[Int.ofNat_eq_natCast] at *;omega);subst hy3;obtain⟨i1,i2⟩:=hin (by simp only[Int.ofNat_eq_natCast] at *;omega))|skip)
       all_goals (first|(have hz3:=hz2 (by simp only[Int.ofNat_eq_natCast] at *;omega);subst hz3)|skip)
       all_goals (first
        | (exfalso
           simp only[Int.ofNat_eq_natCast,Int.toNat_natCast] at *
           rcases hm with hm|hm|⟨hm0,hm⟩|hm|hm<;>first|omega|(simp_all;done))
        | (refine⟨?_,rfl,by dsimp only;omega,rfl,.inr ⟨by simp,rfl,fun q hq=>?_,fun p hpp=>(by cases hpp)⟩⟩
           . simp only[ZZ,List.forall_mem_cons,Z6,Yk]
             simp only[Int.ofNat_eq_natCast,Int.toNat_natCast] at *;simp
             first|omega|(and_intros<;>first|assumption|omega)
           . rw[List.mem_singleton.1 hq]
             exact⟨rfl,by simp[bo]⟩))
     . obtain rfl:k=c.np:=by omega
       obtain⟨rfl,rfl⟩:=hF.2 rfl;refine⟨fun h=>?_,fun h=>?_⟩
       . exfalso;simp at h
       . refine⟨by simp[ZZ],rfl,by dsimp only;omega,rfl,.inr ⟨by simp,rfl,fun q hq=>(by cases hq),fun p hpp=>(by cases hpp)⟩⟩
instance (c:Cfg) (k:Nat):Decidable (Uz c k):=by unfold Uz;infer_instance
def YV (c:Cfg):Bool:=(List.range c.np).all fun k=>decide (¬Uz c k)
def TQ (c:Cfg):Bool:=decide (4<=c.nodes/\c.nodes<=16/\c.np<=1000000)
theorem Iu {n:Nat} {q:Nat->Prop} [∀k,Decidable (q k)] {j:Nat} (hj:j<n) (h:q j):((List.range n).all fun k=>decide (¬q k))=false:=by
 cases e:(List.range n).all fun k=>decide (¬q k) with
 |false=>rfl
 |true=>
  have:=List.all_eq_true.1 e j (by simpa using hj);exact absurd h (of_decide_eq_true this)
theorem IU {n:Nat} {q:Nat->Prop} [∀k,Decidable (q k)] (h:∀i,i<n->¬q i):((List.range n).all fun k=>decide (¬q k))=true:=
 List.all_eq_true.2 fun i hi=>decide_eq_true (h i (by simpa using hi))
theorem Nh (n:Nat) (q:Nat->Prop) [∀k,Decidable (q k)]:∃j,j<=n/\(∀i,i<j->¬q i)/\(j<n->q j):=by
 obtain⟨j,h1,h2,h3⟩:=Se n fun k=>decide (q k)
 exact⟨j,h1,fun i hi=>of_decide_eq_false (h2 i hi),fun h=>of_decide_eq_true (h3 h)⟩
theorem F0 (b:Bool) (β1 β2:Nm) (u:Value) (h:γ β1 (bo b)=some u):γ β2 (bo b)=some u:=h
theorem jje1:ZC prog 21 (YP (fun c=>bo (YV c)) TQ):=by
 refine Qp (E:=E1 prog) (fuel:=300) (str:=nSt) Xk ⟨_,_,Tryz.func21,rfl⟩ (fun c=>F0 _) fun c hp=>?_
 obtain⟨h4,h16,hn⟩:=of_decide_eq_true hp;obtain⟨j,hj,hmin,hyes⟩:=Nh c.np (Uz c);rcases Nat.lt_or_ge j c.np with h|h
 . refine⟨_,_,_,FS c,?_,by dsimp only;unfold ZQ;omega,by simp[ZZ],fun q hq=>?_⟩
   . show bo false=bo (YV c)
     unfold YV;rw[Iu h (hyes h)]
   . rw[List.mem_singleton.1 hq]
     exact Fh c h4 h16 hn j hj hmin hyes ⟨fun _=>⟨rfl,rfl⟩,fun h=>by omega⟩ ⟨BEq.refl _,BEq.refl _,⟨rfl,rfl,rfl,rfl,.inr (.inl ⟨_,_,_,rfl,rfl,fun i hi=>rfl⟩)⟩,trivial⟩
 . obtain rfl:j=c.np:=by omega
   refine⟨_,_,_,jjnd c,?_,by dsimp only;unfold ZQ;omega,by simp[ZZ],fun q hq=>?_⟩
   . show bo true=bo (YV c)
     unfold YV;rw[IU hmin]
   . rw[List.mem_singleton.1 hq]
     exact Fh c h4 h16 hn c.np hj hmin hyes ⟨fun h=>by omega,fun _=>⟨rfl,rfl⟩⟩ ⟨BEq.refl _,BEq.refl _,⟨rfl,rfl,rfl,rfl,.inr (.inl ⟨_,_,_,rfl,rfl,fun i hi=>rfl⟩)⟩,trivial⟩
def Wy (c:Cfg) (k i:Nat):Bool:=(List.range k).any fun p=>decide (i=(c.fs p).toNat)
theorem jjds (c:Cfg) (k i:Nat):Wy c (k+1) i=(Wy c k i||decide (i=(c.fs k).toNat)):=by
 unfold Wy;rw[List.range_succ,List.any_append];simp
def SV (c:Cfg) (k:Nat):Prop:=c.fs k<0\/(c.np:Int)<=c.fs k
instance (c:Cfg) (k:Nat):Decidable (SV c k):=by unfold SV;infer_instance
theorem Fe (c:Cfg) (hn:c.ns<=1000000) (j:Nat) (hj:j<=c.ns) (hmin:∀i,i<j->¬SV c i) (hyes:j<c.ns->SV c j) {e:Exit} {out:List (Nat × AV)} {mF:AMem}
 (hF:(j<c.ns->e= .ret/\out=[(2,bo false)]/\mF=[])/\(j=c.ns->e= .exit 0/\out=[(3,.c (.sl 1005 0 0 c.np none))]/\mF=[(1005,Ye c.np (Wy c c.ns))])) {eblks:List (Option ABlk)} (heb:BL [ZG 3 c.ns c.fs,Zr c,Ye c.np (Wy c 0)] eblks):
 LoopV prog (ZY prog 22 0) [1,3,4] [1,1000,1005] ((Vd c 0).map some) eblks 52 1008 (ZT 52 out) mF 100000000000000000000000000000000000000000000000000 e none:=by
 refine Rx Xk (fuel:=300) (str:=nSt) (nh:=1000000000000000000000000000000000000000000) (S:=Nat) (fun k=>k<=j) (fun k=>j-k) [1,3,4] [2] [1,1000,1005] (Vd c) (fun k=>[ZG 3 c.ns c.fs,Zr c,Ye c.np (Wy c k)]) (by decide) (by decide) (by unfold ZQ;omega) (s0:=0) (by omega) (fun _=>⟨rfl,rfl⟩) (by kernel_rfl) heb (fun k _=>⟨rfl,fun b hb=>?_⟩) ?_
 . simp only[List.mem_cons,List.not_mem_nil,or_false] at hb
   rcases hb with rfl|rfl|rfl
   . exact TH
   . exact VN (by omega)
   . exact XT
 intro k hk;have ek:0+Int.toNat (Int.ofNat k)=k:=by simp
 have hw:IntKind.wrap IntKind.i64 (Int.ofNat k+Int.ofNat 1)=Int.ofNat (k+1):=by rw[XG _ (by simp;omega) (by simp;omega)];rfl
 refine(?_:(∃p r,GL prog c (Wy c k) k p=some r/\_)->_) (r4s c (Wy c k) k (XS 1008 100000000000000000000000000000000000000000000000000 52 [1,3,4] [2] [1,1000,1005] (fun k=>k<=j) (fun k=>j-k) (Vd c) (fun k=>[ZG 3 c.ns c.fs,Zr c,Ye c.np (Wy c k)]) e out mF k) ?_)
 . rintro⟨p,r,h1,h2⟩
   exact⟨p,[],r,h1,h2⟩
 . simp only [ek,Nat.zero_add,decide_eq_true_eq,decide_eq_false_iff_not]
   rcases Nat.lt_or_ge k j with hlt|hge
   . have hm:=hmin k hlt
     unfold SV at hm;simp only[not_or,Int.not_lt,Int.not_le] at hm;obtain⟨b1,b2⟩:=hm
     repeat' (first|refine⟨fun h=>?_,fun h=>?_⟩|fail)
     all_goals (first|(exfalso;simp only[Int.ofNat_eq_natCast] at *;omega)|skip)
     refine⟨?_,rfl,by dsimp only;omega,rfl,.inl ⟨rfl,k+1,by omega,by show j-(k+1)<j-k;omega,?_,BEq.refl _,BEq.refl _,⟨rfl,rfl,rfl,rfl,.inr (.inl ⟨c.np,_,_,rfl,rfl,fun i hi=>?_⟩)⟩,trivial⟩⟩
     . simp only[ZZ,List.forall_mem_cons,Z6,Yk]
       simp only[Int.ofNat_eq_natCast,Int.toNat_natCast] at *;simp;omega
     . dsimp only;rw[hw];rfl
     . show _=List.map AC.v [Value.bool (Wy c (k+1) i)]
       rw[jjds];by_cases g1:i=(c.fs k).toNat
       . simp[g1];rfl
       . simp[g1]
   . obtain rfl:k=j:=by omega
     rcases Nat.lt_or_ge k c.ns with hlt|hge
     . obtain⟨rfl,rfl,rfl⟩:=hF.1 hlt
       have hm:=hyes hlt;unfold SV at hm
       repeat' (first|refine⟨fun h=>?_,fun h=>?_⟩|fail)
       all_goals (first
        |(exfalso;simp only[Int.ofNat_eq_natCast] at *;omega)
        | (refine⟨?_,rfl,by dsimp only;omega,rfl,.inr ⟨by simp,rfl,fun q hq=>?_,fun p hpp=>(by cases hpp)⟩⟩
           . simp only[ZZ,List.forall_mem_cons,Z6,Yk]
             simp only[Int.ofNat_eq_natCast,Int.toNat_natCast] at *;simp;omega
           . rw[List.mem_singleton.1 hq]
             exact⟨rfl,by simp[bo]⟩))
     . obtain rfl:k=c.ns:=by omega
       obtain⟨rfl,rfl,rfl⟩:=hF.2 rfl;refine⟨fun h=>?_,fun h=>?_⟩
       . exfalso;simp at h
       . refine⟨by simp[ZZ],rfl,by dsimp only;omega,rfl,.inr ⟨by simp,rfl,fun q hq=>?_,fun p hpp=>?_⟩⟩
         . rw[List.mem_singleton.1 hq]
           exact⟨rfl,by simp[ZN]⟩
         . rw[List.mem_singleton.1 hpp]
           exact⟨rfl,XT,_,(by simp;rfl),BEq.refl _⟩
theorem Fc (c:Cfg) (u:Nat->Bool) (hn:c.np<=1000000) (j:Nat) (hj:j<=c.np) (hmin:∀i,i<j->u i=true) (hyes:j<c.np->u j=false) {e:Exit} {out:List (Nat × AV)}
 (hF:(j<c.np->e= .ret/\out=[(2,bo false)])/\(j=c.np->e= .exit 2/\out=[])):
 LoopV prog (ZY prog 22 1) [3,5] [1005] ((Ta c 0).map some) ([Ye c.np u].map some) 52 100000000000000000000000000000000000000000000000001 (ZT 52 out) [] 10000000000000000000000000000000000000000000000000000 e none:=by
 refine UH Xk (fuel:=300) (str:=nSt) (nh:=1000000000000000000000000000000000000000000000000000) [3,5] [2] [1005] (Ta c) [Ye c.np u] j (by decide) (by decide) (by unfold ZQ;omega) ?_ (fun _=>⟨rfl,rfl⟩) (by kernel_rfl) (fun k _=>rfl) ?_ ?_ ?_
 . rcases Nat.lt_or_ge j c.np with h|h
   . rw[(hF.1 h).1];simp
   . rw[(hF.2 (by omega)).1];simp
 . intro b hb
   rw[List.mem_singleton.1 hb];exact XT
 . intro k hk
   have hm:=hmin k hk;have hw:IntKind.wrap IntKind.i64 (Int.ofNat k+Int.ofNat 1)=Int.ofNat (k+1):=by rw[XG _ (by simp;omega) (by simp;omega)];rfl
   have ek:0+Int.toNat (Int.ofNat k)=k:=by simp
   refine r4t c u k _ ?_;simp only[ek];refine⟨fun c1=>⟨fun c2=>?_,fun c2=>?_⟩,fun c1=>?_⟩
   . simp[hm] at c2
   . refine⟨⟨?_,rfl,by dsimp only;omega,rfl⟩,rfl,?_,BL.refl _⟩
     . simp[ZZ,Z6,hm];omega
     . dsimp only;rw[hw];rfl
   . simp at c1;omega
 . have ek:0+Int.toNat (Int.ofNat j)=j:=by simp
   refine r4t c u j _ ?_;simp only[ek];refine⟨fun c1=>⟨fun c2=>?_,fun c2=>?_⟩,fun c1=>?_⟩
   . have hlt:j<c.np:=by simpa using c1
     obtain⟨rfl,rfl⟩:=hF.1 hlt;refine Ry ⟨?_,rfl,by dsimp only;omega,rfl⟩ rfl rfl (by simp[bo]);simp[ZZ,Z6,hyes hlt,hlt]
   . have hlt:j<c.np:=by simpa using c1
     simp[hyes hlt] at c2
   . have hlt:¬j<c.np:=by simpa using c1
     obtain⟨rfl,rfl⟩:=hF.2 (by omega);refine Rq ⟨?_,rfl,by dsimp only;omega,rfl⟩ rfl;simp[ZZ];omega
def Z3 (c:Cfg):Bool:=((List.range c.ns).all fun k=>decide (¬SV c k))&&(List.range c.np).all fun i=>decide (¬(Wy c c.ns i=false))
def TR (c:Cfg):Bool:=decide (c.np<=1000000/\c.ns<=1000000)
theorem jjdx:ZC prog 22 (YP (fun c=>bo (Z3 c)) TR):=by
 refine Qp (E:=E1 prog) (fuel:=300) (str:=nSt) Xk ⟨_,_,Tryz.func22,rfl⟩ (fun c=>F0 _) fun c hp=>?_
 obtain⟨hnp,hns⟩:=of_decide_eq_true hp;have heb:BL [ZG 3 c.ns c.fs,Zr c,Ye c.np (Wy c 0)] [some (ZG 3 c.ns c.fs),some (Zr c),some (ABlk.mk true true 4 1 (Cs.arr (Int.toNat ↑(Cfg.np c)) fun x=>List.map AC.v (Array.toList (Value.cells (Value.bool false)))))]:=⟨BEq.refl _,BEq.refl _,⟨rfl,rfl,rfl,rfl,.inr (.inl ⟨_,_,_,rfl,rfl,fun i hi=>rfl⟩)⟩,trivial⟩
 obtain⟨j,hj,hmin,hyes⟩:=Nh c.ns (SV c);rcases Nat.lt_or_ge j c.ns with h|h
 . refine⟨_,_,_,jjm7 c,?_,by dsimp only;unfold ZQ;omega,?_,fun q hq=>?_⟩
   . show bo false=bo (Z3 c)
     unfold Z3;rw[Iu h (hyes h)];rfl
   . simp[ZZ];omega
   . rw[List.mem_singleton.1 hq]
     exact Fe c hns j hj hmin hyes ⟨fun _=>⟨rfl,rfl,rfl⟩,fun h=>by omega⟩ heb
 . obtain rfl:j=c.ns:=by omega
   have hs:=Fe c hns c.ns hj hmin hyes ⟨fun h=>by omega,fun _=>⟨rfl,rfl,rfl⟩⟩ heb;obtain⟨i,hi,him,hiy⟩:=Nh c.np fun i=>Wy c c.ns i=false
   have him':∀k,k<i->Wy c c.ns k=true:=fun k hk=>by simpa using him k hk
   rcases Nat.lt_or_ge i c.np with h2|h2
   . refine⟨_,_,_,H4 c (Wy c c.ns),?_,by dsimp only;unfold ZQ;omega,?_,fun q hq=>?_⟩
     . show bo false=bo (Z3 c)
       unfold Z3;rw[Iu h2 (hiy h2),Bool.and_false]
     . simp[ZZ];omega
     . simp only[List.mem_cons,List.not_mem_nil,or_false] at hq
       rcases hq with rfl|rfl
       . exact Fc c (Wy c c.ns) hnp i hi him' hiy ⟨fun _=>⟨rfl,rfl⟩,fun h=>by omega⟩
       . exact hs
   . obtain rfl:i=c.np:=by omega
     refine⟨_,_,_,jjm5 c (Wy c c.ns),?_,by dsimp only;unfold ZQ;omega,?_,fun q hq=>?_⟩
     . show bo true=bo (Z3 c)
       unfold Z3;rw[IU hmin,IU him];rfl
     . simp[ZZ];omega
     . simp only[List.mem_cons,List.not_mem_nil,or_false] at hq
       rcases hq with rfl|rfl
       . exact Fc c (Wy c c.ns) hnp c.np hi him' hiy ⟨fun h=>by omega,fun _=>⟨rfl,rfl⟩⟩
       . exact hs
abbrev T1 (v:Int) (n k:Nat):List AV:=[.c (.sl 0 0 0 n none),i64 v,i64 (Int.ofNat n),i64 (Int.ofNat k)]
def ixlR (P:Program) (f:Nat->Int) (n:Nat) (v:Int) (k:Nat) (path:List Dec):Option VC:=
 view ([0,1,7,8]++[4]) [0] (fC (E1 P) 100 (ZY P 107 0) 1000000000000000000000000000000000000000000 nSt (WR 19 [0,1,7,8] [0] (T1 v n k) [ZG 2 n f] path []))
theorem ixl (f:Nat->Int) (n:Nat) (v:Int) (k:Nat) (Q:VC->Prop) (H:let zN:=Int.ofNat;let zq0:List Bool:=[ABlk.inb (ABlk.mk false false 2 1 (Cs.arr n fun k=>List.map AC.v ((fun i=>[Value.int .i64 (f i)]) k))) (0+Int.toNat (zN k)) 1,true,decide (zN 0<=zN k/\zN k < ↑n),decide (zN k<zN n)==true];let zs0:=fun (l:List (Option AV))=>some (ZN (List.zip [0,1,7,8] (T1 v n k)) 0)::some (ZN (List.zip [0,1,7,8] (T1 v n k)) (0+1))::some (ZN (List.zip [0,1,7,8] (T1 v n k)) (0+1+1+1+1+1+1+1))::l;(((decide (zN k<zN n))=true->(((v==f (0+Int.toNat (zN k)))=true->Q (Exit.ret,(zs0 [some (ZN (List.zip [0,1,7,8] (T1 v n k)) (0+1+1+1+1+1+1+1+1)),some (.c (zI (zN k)))]),[yF 2 1 (Cs.arr n fun k=>List.map AC.v ((fun i=>[Value.int .i64 (f i)]) k))],19,1000000000000000000000000000000000000000011,(((v==f (0+Int.toNat (zN k)))==true)::zq0),[]))/\((v==f (0+Int.toNat (zN k)))=false->Q (Exit.normal,(zs0 [some (.c (zI (IntKind.wrap .i64 (zN k+zN 1)))),some (ZN (List.zip [0,1,7,8] (T1 v n k)) (0+1+1+1+1))]),[yF 2 1 (Cs.arr n fun k=>List.map AC.v ((fun i=>[Value.int .i64 (f i)]) k))],19,1000000000000000000000000000000000000000011,(((v==f (0+Int.toNat (zN k)))==false)::zq0),[]))))/\((decide (zN k<zN n))=false->Q (Exit.exit 0,(zs0 [some (ZN (List.zip [0,1,7,8] (T1 v n k)) (0+1+1+1+1+1+1+1+1)),some (ZN (List.zip [0,1,7,8] (T1 v n k)) (0+1+1+1+1))]),[yF 2 1 (Cs.arr n fun k=>List.map AC.v ((fun i=>[Value.int .i64 (f i)]) k))],19,1000000000000000000000000000000000000000001,[decide (zN k<zN n)==false],[])))):
 ∃p r,ixlR prog f n v k p=some r/\Q r:=
 ZL H (fun g1=>ZL g1 (fun g2=>⟨pD 2 4,_,by kernel_rfl,g2⟩) (fun g2=>⟨pD 2 7,_,by kernel_rfl,g2⟩)) (fun g1=>⟨pD 1 2,_,by kernel_rfl,g1⟩)
def ixlS (e:Exit) (l:List (Nat × AV)):Zh:=⟨[0,1,7,8],[0],ZT 19 l,[],100000000000000000000000000000000000000000000000000,e⟩
def Ts (P:Program) (f:Nat->Int) (n:Nat) (v:Int) (e:Exit) (l:List (Nat × AV)):Option VF:=
 ZB [] (ZJ (E1 P) (fC (E1 P) 300) 78 [.c (.sl 0 0 0 n none),i64 v] 1000 nSt (Y7 [(0,ZG 2 n f)] [] [some (ixlS e l)]))
theorem jj7l (f:Nat->Int) (n:Nat) (v:Int) (j:Nat):Ts prog f n v .ret [(4,i64 (Int.ofNat j))]=
 some (.c (.v (.bool true)),[],100000000000000000000000000000000000000000000000002,[],[LoopV prog (ZY prog 107 0) [0,1,7,8] [0] [some (.c (.sl 0 0 0 n none)),some (.c (.v (.int .i64 v))),some (.c (.v (.int .i64 ↑n))),some (.c (.v (.int .i64 (Int.ofNat 0))))] [some (ABlk.mk false false 2 1 (Cs.arr n fun k=>List.map AC.v ((fun i=>[Value.int .i64 (f i)]) k)))] 19 1007 (ZT 19 [(4,i64 (Int.ofNat j))]) [] 100000000000000000000000000000000000000000000000000 Exit.ret none]):=by kernel_rfl
theorem jj8o (f:Nat->Int) (n:Nat) (v:Int):Ts prog f n v (.exit 0) []=
 some (.c (.v (.bool false)),[],100000000000000000000000000000000000000000000000003,[],[LoopV prog (ZY prog 107 0) [0,1,7,8] [0] [some (.c (.sl 0 0 0 n none)),some (.c (.v (.int .i64 v))),some (.c (.v (.int .i64 ↑n))),some (.c (.v (.int .i64 (Int.ofNat 0))))] [some (ABlk.mk false false 2 1 (Cs.arr n fun k=>List.map AC.v ((fun i=>[Value.int .i64 (f i)]) k)))] 19 1007 (ZT 19 []) [] 100000000000000000000000000000000000000000000000000 (Exit.exit 0) none]):=by kernel_rfl
end Go.Proofs.YtodpbgbpifiniaaGreatDoor
end
