/- Parts, one behind the other. Parts of a proof. -/
import Derived.Test.YtljeokninakliaaGreatDoorJModelsCrew9
import Derived.Test.YtljeokninakliaaGreatDoorChecked
import Derived.KernelRfl
import Derived.Test.YtljeokninakliaaGreatDoorJModelsCrew2
import Derived.IntWalk
set_option linter.unusedSimpArgs false
set_option linter.unusedVariables false
section
namespace Go.Proofs.YtljeokninakliaaGreatDoor
open Go.RowKit Tryz
def Zr:ABlk:=⟨false,false,172,0,.lit [.v (.int .i64 1),.v (.int .i64 (-1))]⟩
def mS:AMem:=[(Z2 0,Zr)]
structure Cfg where
 nodes:Int
 np:Nat
 fp:Nat->Int
 ns:Nat
 fs:Nat->Int
 long:Int
 nb:Nat
 fb:Nat->Int
 nt:Nat
 ft:Nat->Station
 miss:Int
 good:Int
 fresh:Int
def YY (F:Nat->List AC) (i:Nat):Station:=⟨ZP ((F i).getD 0 ZV),ZP ((F i).getD 1 ZV),ZP ((F i).getD 2 ZV)⟩
def Rg:List AC->Bool
 | [.v (.int .i64 _),.v (.int .u32 _),.v (.int .i64 _)]=>true
 |_=>false
theorem jjmz {l:List AC} (h:Rg l=true):l=(⟨ZP (l.getD 0 ZV),ZP (l.getD 1 ZV),ZP (l.getD 2 ZV)⟩:Station).cells.map .v:=by
 unfold Rg at h;split at h
 . rfl
 . cases h
def Yv (n:Nat) (F:Nat->List AC):Bool:=(List.range n).all fun k=>Rg (F k)
theorem HY {n:Nat} {F:Nat->List AC} (h:Yv n F=true):∀i,i<n->F i=((fun i=>(YY F i).cells) i).map .v:=fun i hi=>jjmz (List.all_eq_true.1 h i (by simpa using hi))
abbrev RL (n:Nat) (f:Nat->Station):ABlk:=XX 70 3 n fun i=>[.int .i64 (f i).node,.int .u32 (f i).safe,.int .i64 (f i).hold]
def VU (c:Cfg):List AC:=[.v (.int .i64 c.nodes),.sl 0 0 0 c.np none,.sl 1 0 0 c.ns none,.v (.int .i64 c.long),.sl 2 0 0 c.nb none,.sl 3 0 0 c.nt none,.v (.int .i64 c.miss),.v (.int .i64 c.good),.v (.int .i64 c.fresh)]
abbrev MO (c:Cfg):AMem:=[(0,Zb 3 c.np c.fp),(1,Zb 3 c.ns c.fs),(2,Zb 3 c.nb c.fb),(3,RL c.nt c.ft)]
abbrev SQ (c:Cfg):AMem:=[(Z2 0,Zr),(0,Zb 3 c.np c.fp),(1,Zb 3 c.ns c.fs),(2,Zb 3 c.nb c.fb),(3,RL c.nt c.ft)]
def US (l:List AC) (m:AMem):Option (Cfg × Bool):=
 match l with
 | [.v (.int .i64 nodes),p,s,.v (.int .i64 long),b,t,.v (.int .i64 miss),.v (.int .i64 good),.v (.int .i64 fresh)]=>
  match XH 1 m p,XH 1 m s,XH 1 m b,XH 3 m t with
  |some (np,P,b1),some (ns,S,b2),some (nb,B,b3),some (nt,T,b4)=>some (⟨nodes,np,fA P,ns,fA S,long,nb,fA B,nt,YY T,miss,good,fresh⟩,b1&&(b2&&(b3&&(b4&&(ZE np P&&(ZE ns S&&(ZE nb B&&Yv nt T)))))))
  |_,_,_,_=>none
 |_=>none
theorem jjje {C:Ctx} {β:Nm} {m m2:AMem} {w:World} (hs:Sub m m2) (hr:Rel C β m2 w) {l:List AC} {c:Cfg} (h:US l m=some (c,true)) (hg:WG mS m=true) {cs:List Value} (hv:γs β l=some cs):
 ∃β',Rel (ZG w) β' (SQ c) w/\γs β' (VU c)=some cs/\(∀id,4<=id->id<ZR->β' id=none)/\∀i x,ZY (SQ c) i=some x->x.own=false/\Xm x=false:=by
 unfold US at h;split at h
 . rename_i nodes p s long b t miss good fresh
   split at h
   . rename_i np P b1 ns S b2 nb B b3 nt T b4 hp hsl hb ht
     simp only[Option.some.injEq,Prod.mk.injEq,Bool.and_eq_true] at h;obtain⟨rfl,rfl,rfl,rfl,rfl,i1,i2,i3,i4⟩:=h;obtain⟨hlen,hget⟩:=U5.1 hv;obtain⟨v1,e1,g1⟩:=hget 1 p rfl;obtain⟨v2,e2,g2⟩:=hget 2 s rfl;obtain⟨v4,e4,g4⟩:=hget 4 b rfl;obtain⟨v5,e5,g5⟩:=hget 5 t rfl;have r0:=Nt hr hs hg (by kernel_rfl)
     have n0:∀id x,ZY mS id=some x->x.own=false/\Xm x=false:=by
      intro id x hx;have:=Vn hx;rw[mS,List.mem_singleton] at this;cases this;exact⟨rfl,rfl⟩
     have hlo:∀id,id<ZR->TW β id=none:=fun id h=>by unfold TW;rw[if_neg (by omega)]
     have hgi:∀(id:Nat),id<ZR->∀g,id≠Z2 g:=fun id h=>W8 h
     obtain⟨L0,k0,z0⟩:=Uy hr Nat.one_pos (UZ hs hp) g1 3 (S9 i1) (fun _=>rfl) (ZG w) (TW β) rfl;obtain⟨r1,n1⟩:=QD r0 n0 (id:=0) (hlo 0 (by unfold ZR;omega)) (hgi 0 (by unfold ZR;omega)) rfl rfl k0;obtain⟨L1,k1,z1⟩:=Uy hr Nat.one_pos (UZ hs hsl) g2 3 (S9 i2) (fun _=>rfl) (ZG w) (ZU (TW β) 0 L0) rfl;obtain⟨r2,n2⟩:=QD r1 n1 (id:=1) (by simp[ZU,hlo 1 (by unfold ZR;omega)]) (hgi 1 (by unfold ZR;omega)) rfl rfl k1;obtain⟨L2,k2,z2⟩:=Uy hr Nat.one_pos (UZ hs hb) g4 3 (S9 i3) (fun _=>rfl) (ZG w) (ZU (ZU (TW β) 0 L0) 1 L1) rfl;obtain⟨r3,n3⟩:=QD r2 n2 (id:=2) (by simp[ZU,hlo 2 (by unfold ZR;omega)]) (hgi 2 (by unfold ZR;omega)) rfl rfl k2;obtain⟨L3,k3,z3⟩:=Uy hr (by omega:0<3) (UZ hs ht) g5 70 (HY i4) (fun _=>rfl) (ZG w) (ZU (ZU (ZU (TW β) 0 L0) 1 L1) 2 L2) rfl;obtain⟨r4,n4⟩:=QD r3 n3 (id:=3) (by simp[ZU,hlo 3 (by unfold ZR;omega)]) (hgi 3 (by unfold ZR;omega)) rfl rfl k3;refine⟨_,r4,?_,fun id h1 h2=>?_,n4⟩
     . rw[U5]
       refine⟨by rw[hlen];rfl,fun i x hx=>?_⟩;have hget':=hget i
       match i,hx with
       |0,hx=>obtain⟨u,q1,q2⟩:=hget 0 _ rfl;cases hx;exact⟨u,q1,q2⟩
       |1,hx=>cases hx;exact⟨v1,e1,z0 _ 0 (by simp[ZU])⟩
       |2,hx=>cases hx;exact⟨v2,e2,z1 _ 1 (by simp[ZU])⟩
       |3,hx=>obtain⟨u,q1,q2⟩:=hget 3 _ rfl;cases hx;exact⟨u,q1,q2⟩
       |4,hx=>cases hx;exact⟨v4,e4,z2 _ 2 (by simp[ZU])⟩
       |5,hx=>cases hx;exact⟨v5,e5,z3 _ 3 (by simp[ZU])⟩
       |6,hx=>obtain⟨u,q1,q2⟩:=hget 6 _ rfl;cases hx;exact⟨u,q1,q2⟩
       |7,hx=>obtain⟨u,q1,q2⟩:=hget 7 _ rfl;cases hx;exact⟨u,q1,q2⟩
       |8,hx=>obtain⟨u,q1,q2⟩:=hget 8 _ rfl;cases hx;exact⟨u,q1,q2⟩
     . simp[ZU,hlo id h2,show id≠0 by omega,show id≠1 by omega,show id≠2 by omega,show id≠3 by omega]
   . cases h
 . cases h
theorem LL {C:Ctx} {β:Nm} {m m2:AMem} {w:World} (hs:Sub m m2) (hr:Rel C β m2 w) {l:List AC} {c:Cfg} (h:US l m=some (c,true)) (hg:WG mS m=true) {cs:List Value} (hv:γs β l=some cs):
 ∃β',Rel (ZG w) β' (SQ c) w/\γs β' (VU c)=some cs/\∀id,1000<=id->id<ZR->β' id=none:=by
 obtain⟨β',h1,h2,h3,_⟩:=jjje hs hr h hg hv;exact⟨β',h1,h2,fun id a b=>h3 id (by omega) b⟩
def VH (c:Cfg):Bool:=decide (0+Cfg.np c<=Cfg.np c)&&(decide (0+Cfg.ns c<=Cfg.ns c)&&(decide (0+Cfg.nb c<=Cfg.nb c)&&(decide (0+Cfg.nt c<=Cfg.nt c)&&((ZE (Cfg.np c) fun k=>List.map AC.v ((fun i=>[Value.int IntKind.i64 (Cfg.fp c i)]) k))&&((ZE (Cfg.ns c) fun k=>List.map AC.v ((fun i=>[Value.int IntKind.i64 (Cfg.fs c i)]) k))&&((ZE (Cfg.nb c) fun k=>List.map AC.v ((fun i=>[Value.int IntKind.i64 (Cfg.fb c i)]) k))&&Yv (Cfg.nt c) fun k=>List.map AC.v ((fun i=>[Value.int IntKind.i64 (Station.node (Cfg.ft c i)),Value.int IntKind.u32 (Station.safe (Cfg.ft c i)),Value.int IntKind.i64 (Station.hold (Cfg.ft c i))]) k)))))))
theorem Yb (c:Cfg):VH c=true:=by simp[VH,ZE,Uo,Yv,Rg]
def Ys (R:Cfg->AV) (pre:Cfg->Bool):Yk
 | [.agg l],m,_=>
  match US l m,WG mS m with
  |some (c,b),true=>some (R c,[],0,[b,pre c])
  |_,_=>none
 |_,_,_=>none
theorem LD {E:Env} (hE:ZC E) {f:FuncId} {R:Cfg->AV} {pre:Cfg->Bool} (hf:∃(fn:Func) (c:Code),E.P.funcs[f]? =some fn/\fn.body=some c) (hres:∀c (β1 β2:Nm) u,γ β1 (R c)=some u->γ β2 (R c)=some u) {fuel str:Nat}
 (run:∀c,pre c=true->∃p lp r,ZB [] (ZM E (fC E fuel) f [.agg (VU c)] 1000 str (XW (SQ c) p lp))=some r/\r.1=R c/\r.2.2.1<=ZR/\ZZ r.2.2.2.1/\∀q∈r.2.2.2.2,q):ZA E.P f (Ys R pre):=by
 refine⟨hf,fun C β m m2 w args ib r news k' ob vs hct ho hs hr hfree hlim hv=>?_⟩;unfold Ys at hct;split at hct
 . rename_i l
   split at hct
   . rename_i c b hc hg
     simp only[Option.some.injEq,Prod.mk.injEq] at hct;obtain⟨rfl,rfl,rfl,rfl⟩:=hct;simp only[ZZ,List.forall_mem_cons] at ho;obtain⟨rfl,o2,_⟩:=ho;obtain⟨p,lp,⟨v,b',n',ob,po⟩,hrun,hvr,hn,hob,hpo⟩:=run c o2;obtain⟨s',r1,r2,r3,r4⟩:=T7 hrun;have hn:n'<=ZR:=hn;simp only[γt,γ1] at hv;split at hv
     . rename_i v0 us hv0 hus
       split at hv0
       . rename_i cs hcs
         cases hv0;cases hus;cases hv;obtain⟨β1,q1,q2,q3⟩:=LL hs hr hc hg hcs;refine(Xa hE r1 ⟨by rw[r3];exact hob,by rw[r4];exact hpo⟩ (C:=ZG w) (β:=β1) (w:=w) (vs:=[.agg cs.toArray]) ?_ q1 (fun id h1 h2=>q3 id h1 (by omega))).mono ?_
         . simp only[γt,γ1,q2]
         . rintro e w' ⟨β',u,rfl,_,_,hu,hr'⟩
           simp only at hvr;subst hvr;exact⟨β,u,rfl,Ext.refl _,fun _ _=>rfl,hres _ _ _ _ hu,by rw[List.append_nil];exact hr.below (So hr')⟩
       . cases hv0
     . cases hv
   . cases hct
 . cases hct
abbrev yP (c:Cfg):Cs:=Cs.arr c.np fun k=>List.map AC.v ((fun i=>[Value.int .i64 (c.fp i)]) k)
abbrev yS (c:Cfg):Cs:=Cs.arr c.ns fun k=>List.map AC.v ((fun i=>[Value.int .i64 (c.fs i)]) k)
abbrev yB (c:Cfg):Cs:=Cs.arr c.nb fun k=>List.map AC.v ((fun i=>[Value.int .i64 (c.fb i)]) k)
abbrev yT (c:Cfg):Cs:=Cs.arr c.nt fun k=>List.map AC.v ((fun i=>[Value.int .i64 (c.ft i).node,.int .u32 (c.ft i).safe,.int .i64 (c.ft i).hold]) k)
abbrev Uv (n k:Nat):List AV:=[.c (.sl 0 0 0 n none),.c (.fn 81 [(1000,0,0)]),i64 (Int.ofNat n),i64 (Int.ofNat k)]
abbrev Hf (f:Nat->Int) (n:Nat) (many:Int):List ABlk:=[Zb 3 n f,FL 3 [.int .i64 many]]
def insR (P:Program) (f:Nat->Int) (n:Nat) (many:Int) (k:Nat) (path:List Dec):Option VC:=
 view ([0,1,7,8]++[4]) [0,1000] (fC (E1 P) 100 (ZW P 109 0) 1000000000000000000000000000000000000000000 nSt (Wi 19 [0,1,7,8] [0,1000] (Uv n k) (Hf f n many) path []))
theorem ins (f:Nat->Int) (n:Nat) (many:Int) (k:Nat) (Q:VC->Prop) (H:let zN:=Int.ofNat;let zD:=Int.toNat;let zz0:=(ABlk.mk false false 3 1 (Cs.arr n fun k=>List.map AC.v ((fun i=>[Value.int IntKind.i64 (f i)]) k)));let zz1:=[some (ZO (List.zip [0,1,7,8] (Uv n k)) 0),some (ZO (List.zip [0,1,7,8] (Uv n k)) 1),some (ZO (List.zip [0,1,7,8] (Uv n k)) 7),some (ZO (List.zip [0,1,7,8] (Uv n k)) 8),some (AV.c (zI (zN k)))];let zz2:=[some zz0,yR 3 0 (Cs.lit [zI many])];let zq0:List Bool:=[ABlk.inb zz0 (0+zD (zN k)) 1,true,decide (zN 0<=zN k/\zN k < ↑n),decide (zN k<zN n)==true];let zq1:List Bool:=true::true::(decide (f (0+zD (zN k))<zN 0)==false)::zq0;let zs0:=fun (l:List (Option AV))=>some (ZO (List.zip [0,1,7,8] (Uv n k)) 0)::some (ZO (List.zip [0,1,7,8] (Uv n k)) 1)::some (ZO (List.zip [0,1,7,8] (Uv n k)) 7)::l;(((decide (zN k<zN n))=true->(((decide (f (0+zD (zN k))<zN 0))=true->Q (Exit.ret,zz1,zz2,19,1000000000000000000000000000000000000000016,((decide (f (0+zD (zN k))<zN 0)==true)::zq0),[]))/\((decide (f (0+zD (zN k))<zN 0))=false->(((decide (f (0+zD (zN k))≥many))=true->Q (Exit.ret,zz1,zz2,19,1000000000000000000000000000000000000000019,((decide (f (0+zD (zN k))≥many)==true)::zq1),[]))/\((decide (f (0+zD (zN k))≥many))=false->Q (Exit.normal,(zs0 [some (.c (zI (IntKind.wrap .i64 (zN k+zN 1)))),some (ZO (List.zip [0,1,7,8] (Uv n k)) 4)]),zz2,19,1000000000000000000000000000000000000000019,((decide (f (0+zD (zN k))≥many)==false)::zq1),[]))))))/\((decide (zN k<zN n))=false->Q (Exit.exit 0,(zs0 [some (ZO (List.zip [0,1,7,8] (Uv n k)) 8),some (ZO (List.zip [0,1,7,8] (Uv n k)) 4)]),zz2,19,1000000000000000000000000000000000000000001,[decide (zN k<zN n)==false],[])))):
 ∃p r,insR prog f n many k p=some r/\Q r:=
 ZD H (fun g1=>ZD g1 (fun g2=>⟨pD 5 4,_,by kernel_rfl,g2⟩) (fun g2=>ZD g2 (fun g3=>⟨pD 5 88,_,by kernel_rfl,g3⟩) (fun g3=>⟨pD 5 169,_,by kernel_rfl,g3⟩))) (fun g1=>⟨pD 1 2,_,by kernel_rfl,g1⟩)
abbrev PP (lo hi:Int) (n k:Nat):List AV:=[i64 lo,i64 hi,.c (.sl 0 0 0 n none),i64 (Int.ofNat n),i64 (Int.ofNat k)]
def BN (P:Program) (f:Nat->Int) (n:Nat) (lo hi:Int) (k:Nat) (path:List Dec):Option VC:=
 view ([1,2,10,11,12]++[6]) [0] (fC (E1 P) 100 (ZW P 52 0) 1000000000000000000000000000000000000000000 nSt (Wi 24 [1,2,10,11,12] [0] (PP lo hi n k) [Zb 3 n f] path []))
theorem BK (f:Nat->Int) (n:Nat) (lo hi:Int) (k:Nat) (Q:VC->Prop) (H:let zN:=Int.ofNat;let zD:=Int.toNat;let zz0:=(List.zip [1,2,10,11,12] (PP lo hi n k));let zz1:=(ABlk.mk false false 3 1 (Cs.arr n fun k=>List.map AC.v ((fun i=>[Value.int IntKind.i64 (f i)]) k)));let zq0:List Bool:=[ABlk.inb zz1 (0+zD (zN k)) 1,true,decide (zN 0<=zN k/\zN k < ↑n),decide (zN k<zN n)==true];let zq1:List Bool:=(decide (f (0+zD (zN k))>hi)==false)::zq0;let zs0:=fun (l:List (Option AV))=>some (ZO zz0 1)::some (ZO zz0 2)::some (ZO zz0 10)::some (ZO zz0 11)::l;(((decide (zN k<zN n))=true->(((decide (f (0+zD (zN k))>hi))=true->Q (Exit.ret,(zs0 [some (ZO zz0 12),some (.c (zI (zN 3)))]),[some zz1],24,1000000000000000000000000000000000000000018,((decide (f (0+zD (zN k))>hi)==true)::zq0),[]))/\((decide (f (0+zD (zN k))>hi))=false->(((decide (f (0+zD (zN k))<lo))=true->Q (Exit.ret,(zs0 [some (ZO zz0 12),some (.c (zI (zN 1)))]),[some zz1],24,1000000000000000000000000000000000000000022,((decide (f (0+zD (zN k))<lo)==true)::zq1),[]))/\((decide (f (0+zD (zN k))<lo))=false->Q (Exit.normal,(zs0 [some (.c (zI (IntKind.wrap .i64 (zN k+zN 1)))),some (ZO zz0 6)]),[some zz1],24,1000000000000000000000000000000000000000022,((decide (f (0+zD (zN k))<lo)==false)::zq1),[]))))))/\((decide (zN k<zN n))=false->Q (Exit.exit 0,(zs0 [some (ZO zz0 12),some (ZO zz0 6)]),[some zz1],24,1000000000000000000000000000000000000000001,[decide (zN k<zN n)==false],[])))):
 ∃p r,BN prog f n lo hi k p=some r/\Q r:=
 ZD H (fun g1=>ZD g1 (fun g2=>⟨pD 3 4,_,by kernel_rfl,g2⟩) (fun g2=>ZD g2 (fun g3=>⟨pD 4 16,_,by kernel_rfl,g3⟩) (fun g3=>⟨pD 4 25,_,by kernel_rfl,g3⟩))) (fun g1=>⟨pD 1 2,_,by kernel_rfl,g1⟩)
abbrev Sw (n k:Nat):List AV:=[.c (.sl 0 0 0 n none),i64 (Int.ofNat (n-1-k))]
def AE (P:Program) (f:Nat->Int) (n:Nat) (k:Nat) (path:List Dec):Option VC:=
 view ([0,3]++[2]) [0] (fC (E1 P) 100 (ZW P 44 0) 1000000000000000000000000000000000000000000 nSt (Wi 21 [0,3] [0] (Sw n k) [Zb 3 n f] path []))
theorem AD (f:Nat->Int) (n:Nat) (k:Nat) (Q:VC->Prop) (H:let zN:=Int.ofNat;let zz0:=(0+Int.toNat (IntKind.wrap IntKind.i64 (zN (n-1-k)-zN 1)));let zz1:=(ABlk.mk false false 3 1 (Cs.arr n fun k=>List.map AC.v ((fun i=>[Value.int IntKind.i64 (f i)]) k)));let zz2:=(f (0+Int.toNat (zN (n-1-k))) !=f (0+Int.toNat (zN (n-1-k))));let zz3:=(f (0+Int.toNat (zN (n-1-k)))<f zz0);let zz4:=[some (ZO (List.zip [0,3] (Sw n k)) 0),some (ZO (List.zip [0,3] (Sw n k)) 3),some (AV.c (zB false))];let zz5:=[some (ZO (List.zip [0,3] (Sw n k)) 0),some (AV.c (zI (IntKind.wrap IntKind.i64 (zN (n-1-k)-zN 1)))),some (ZO (List.zip [0,3] (Sw n k)) 2)];let zq0:List Bool:=[ABlk.inb zz1 zz0 1,true,decide (zN 0<=IntKind.wrap .i64 (zN (n-1-k)-zN 1)/\IntKind.wrap .i64 (zN (n-1-k)-zN 1) < ↑n),ABlk.inb zz1 (0+Int.toNat (zN (n-1-k))) 1,true,decide (zN 0<=zN (n-1-k)/\zN (n-1-k) < ↑n),decide (zN (n-1-k)>zN 0)==true];let zq1:List Bool:=(zz2==true)::zq0;let zq2:List Bool:=((!f zz0 !=f zz0)==false)::zq1;let zq3:List Bool:=(zz2==false)::zq0;(((decide (zN (n-1-k)>zN 0))=true->((zz2=true->(((!f zz0 !=f zz0)=true->Q (Exit.ret,zz4,[some zz1],21,1100000000000000000000000000000000000000003,(((!f zz0 !=f zz0)==true)::zq1),[]))/\((!f zz0 !=f zz0)=false->(((decide zz3)=true->Q (Exit.ret,zz4,[some zz1],21,1100000000000000000000000000000000000000003,((decide zz3==true)::zq2),[]))/\((decide zz3)=false->Q (Exit.normal,zz5,[some zz1],21,1100000000000000000000000000000000000000005,((decide zz3==false)::zq2),[]))))))/\(zz2=false->(((decide zz3)=true->Q (Exit.ret,zz4,[some zz1],21,1100000000000000000000000000000000000000003,((decide zz3==true)::zq3),[]))/\((decide zz3)=false->Q (Exit.normal,zz5,[some zz1],21,1100000000000000000000000000000000000000005,((decide zz3==false)::zq3),[]))))))/\((decide (zN (n-1-k)>zN 0))=false->Q (Exit.exit 0,[some (ZO (List.zip [0,3] (Sw n k)) 0),some (ZO (List.zip [0,3] (Sw n k)) 3),some (ZO (List.zip [0,3] (Sw n k)) 2)],[some zz1],21,1000000000000000000000000000000000000000002,[decide (zN (n-1-k)>zN 0)==false],[])))):
 ∃p r,AE prog f n k p=some r/\Q r:=
 ZD H (fun g1=>ZD g1 (fun g2=>ZD g2 (fun g3=>⟨pD 8 85,_,by kernel_rfl,g3⟩) (fun g3=>ZD g3 (fun g4=>⟨pD 8 2353,_,by kernel_rfl,g4⟩) (fun g4=>⟨pD 8 4540,_,by kernel_rfl,g4⟩))) (fun g2=>ZD g2 (fun g3=>⟨pD 8 2194,_,by kernel_rfl,g3⟩) (fun g3=>⟨pD 8 4381,_,by kernel_rfl,g3⟩))) (fun g1=>⟨pD 1 2,_,by kernel_rfl,g1⟩)
theorem Vk:ZC (E1 prog):=Xf (fun _ _ h=>by cases h) (by kernel_rfl) (by kernel_rfl)
theorem Wu (x:Int) (h0: -9223372036854775808<=x) (h1:x<=9223372036854775807):IntKind.wrap .i64 x=x:=IntWalk.i64_in _ (by first|exact⟨h0,h1⟩|omega)
theorem Rq {N ty n:Nat} {f:Nat->Int}:Zd N (Zb ty n f):=Vt
theorem Fi (f:Nat->Int) (n:Nat) (many:Int) (N:Nat) (hN:1001<=N) (hN2:N<=1000000000000000000000000000000000000000000) (hn:n<=1000000) (j:Nat) (hj:j<=n) (hmin:∀i,i<j->0<=f i/\f i<many) (hyes:j<n->f j<0\/many<=f j) {e:Exit} {out:List (Nat × AV)}
 (hF:(j<n->e= .ret/\out=[(4,i64 (Int.ofNat j))])/\(j=n->e= .exit 0/\out=[])):
 LoopV prog (ZW prog 109 0) [0,1,7,8] [0,1000] ((Uv n 0).map some) ((Hf f n many).map some) 19 N (ZQ 19 out) [] 100000000000000000000000000000000000000000000000000 e none:=by
 have e0:∀k:Nat,0+Int.toNat (Int.ofNat k)=k:=fun k=>by simp
 have hw:∀k,k<n->IntKind.wrap IntKind.i64 (Int.ofNat k+Int.ofNat 1)=Int.ofNat (k+1):=fun k hk=>by rw[Wu _ (by simp;omega) (by simp;omega)];rfl
 refine Rx Vk (fuel:=100) (str:=nSt) (nh:=1000000000000000000000000000000000000000000) [0,1,7,8] [4] [0,1000] (Uv n) (Hf f n many) j hN2 (by decide) (by unfold ZR;omega) ?_ (fun _=>⟨rfl,rfl⟩) ?_ ?_ ?_ ?_ ?_
 . rcases Nat.lt_or_ge j n with h|h
   . rw[(hF.1 h).1];simp
   . rw[(hF.2 (by omega)).1];simp
 . simp[Zc];omega
 . intro k _
   simp[Wb,WZ,YI,XT,i64];omega
 . intro b hb
   simp only[List.mem_cons,List.not_mem_nil,or_false] at hb;rcases hb with rfl|rfl
   . exact Rq
   . exact jjjw
 . intro k hk
   refine ins f n many k _ ⟨fun c1=>⟨fun c2=>?_,fun c2=>⟨fun c3=>?_,fun c3=>?_⟩⟩,fun c1=>?_⟩<;>simp only[e0] at *
   . simp at c2;have:=hmin k hk;omega
   . simp at c3;have:=hmin k hk;omega
   . have hlt:k<n:=by omega
     have:=hmin k hk;refine⟨⟨?_,rfl,by dsimp only;omega,rfl⟩,rfl,?_,BL.refl _⟩
     . simp only[ZZ,List.forall_mem_cons,e0]
       simp[YK,hlt];omega
     . dsimp only;rw[hw k hlt];rfl
   . simp at c1;omega
 . refine ins f n many j _ ⟨fun c1=>⟨fun c2=>?_,fun c2=>⟨fun c3=>?_,fun c3=>?_⟩⟩,fun c1=>?_⟩<;>simp only[e0] at *
   . have hlt:j<n:=by simpa using c1
     obtain⟨rfl,rfl⟩:=hF.1 hlt;refine U4 ⟨?_,rfl,by dsimp only;omega,rfl⟩ rfl rfl ?_
     . simp only[ZZ,List.forall_mem_cons,e0]
       simp at c2;simp[YK,hlt,c2]
     . simp[i64]
   . have hlt:j<n:=by simpa using c1
     obtain⟨rfl,rfl⟩:=hF.1 hlt;refine U4 ⟨?_,rfl,by dsimp only;omega,rfl⟩ rfl rfl ?_
     . simp only[ZZ,List.forall_mem_cons,e0]
       simp at c2 c3;simp[YK,hlt,c2,c3]
     . simp[i64]
   . have hlt:j<n:=by simpa using c1
     simp at c2 c3;have:=hyes hlt;omega
   . have hlt:¬j<n:=by simpa using c1
     obtain⟨rfl,rfl⟩:=hF.2 (by omega);refine Qv ⟨?_,rfl,by dsimp only;omega,rfl⟩ rfl;simp[ZZ];omega
def ZL (x lo hi:Int):Int:=if x>hi then 3 else if x<lo then 1 else 0
theorem EQ (f:Nat->Int) (n:Nat) (lo hi:Int) (N:Nat) (hN:1<=N) (hN2:N<=1000000000000000000000000000000000000000000) (hn:n<=9223372036854775807) (j:Nat) (hj:j<=n) (hmin:∀i,i<j->ZL (f i) lo hi=0) (hyes:j<n->ZL (f j) lo hi≠0) {e:Exit} {out:List (Nat × AV)}
 (hF:(j<n->e= .ret/\out=[(6,i64 (ZL (f j) lo hi))])/\(j=n->e= .exit 0/\out=[])):
 LoopV prog (ZW prog 52 0) [1,2,10,11,12] [0] ((PP lo hi n 0).map some) ([Zb 3 n f].map some) 24 N (ZQ 24 out) [] 100000000000000000000000000000000000000000000000000 e none:=by
 have e0:∀k:Nat,0+Int.toNat (Int.ofNat k)=k:=fun k=>by simp
 have hw:∀k,k<n->IntKind.wrap IntKind.i64 (Int.ofNat k+Int.ofNat 1)=Int.ofNat (k+1):=fun k hk=>by rw[Wu _ (by simp;omega) (by simp;omega)];rfl
 refine Rx Vk (fuel:=100) (str:=nSt) (nh:=1000000000000000000000000000000000000000000) [1,2,10,11,12] [6] [0] (PP lo hi n) [Zb 3 n f] j hN2 (by decide) (by unfold ZR;omega) ?_ (fun _=>⟨rfl,rfl⟩) ?_ ?_ ?_ ?_ ?_
 . rcases Nat.lt_or_ge j n with h|h
   . rw[(hF.1 h).1];simp
   . rw[(hF.2 (by omega)).1];simp
 . simp[Zc];omega
 . intro k _
   simp[Wb,WZ,YI,XT,i64];omega
 . intro b hb
   rw[List.mem_singleton.1 hb];exact Rq
 . intro k hk
   have hm:=hmin k hk;unfold ZL at hm;refine BK f n lo hi k _ ⟨fun c1=>⟨fun c2=>?_,fun c2=>⟨fun c3=>?_,fun c3=>?_⟩⟩,fun c1=>?_⟩<;>simp only[e0] at *
   . simp at c2;rw[if_pos c2] at hm;omega
   . simp at c2 c3;rw[if_neg (by omega),if_pos c3] at hm;omega
   . have hlt:k<n:=by omega
     simp at c2 c3;refine⟨⟨?_,rfl,by dsimp only;omega,rfl⟩,rfl,?_,BL.refl _⟩
     . simp only[ZZ,List.forall_mem_cons,e0]
       simp[YK,hlt,c2,c3]
     . dsimp only;rw[hw k hlt];rfl
   . simp at c1;omega
 . refine BK f n lo hi j _ ⟨fun c1=>⟨fun c2=>?_,fun c2=>⟨fun c3=>?_,fun c3=>?_⟩⟩,fun c1=>?_⟩<;>simp only[e0] at *
   . have hlt:j<n:=by simpa using c1
     obtain⟨rfl,rfl⟩:=hF.1 hlt;simp at c2;have hz:ZL (f j) lo hi=3:=by unfold ZL;rw[if_pos c2]
     refine U4 ⟨?_,rfl,by dsimp only;omega,rfl⟩ rfl rfl ?_
     . simp only[ZZ,List.forall_mem_cons,e0]
       simp[YK,hlt,c2]
     . rw[hz];simp[i64]
   . have hlt:j<n:=by simpa using c1
     obtain⟨rfl,rfl⟩:=hF.1 hlt;simp at c2 c3;have hz:ZL (f j) lo hi=1:=by unfold ZL;rw[if_neg (by omega),if_pos c3]
     refine U4 ⟨?_,rfl,by dsimp only;omega,rfl⟩ rfl rfl ?_
     . simp only[ZZ,List.forall_mem_cons,e0]
       simp[YK,hlt,c2,c3]
     . rw[hz];simp[i64]
   . have hlt:j<n:=by simpa using c1
     simp at c2 c3;have:=hyes hlt;unfold ZL at this;rw[if_neg (by omega),if_neg (by omega)] at this;omega
   . have hlt:¬j<n:=by simpa using c1
     obtain⟨rfl,rfl⟩:=hF.2 (by omega);refine Qv ⟨?_,rfl,by dsimp only;omega,rfl⟩ rfl;simp[ZZ];omega
theorem Fa (f:Nat->Int) (n:Nat) (N:Nat) (hN:1<=N) (hN2:N<=1000000000000000000000000000000000000000000) (hn1:1<=n) (hn:n<=1000000) (j:Nat) (hj:j<=n-1) (hmin:∀i,i<j->f (n-1-i-1)<=f (n-1-i)) (hyes:j<n-1->f (n-1-j)<f (n-1-j-1)) {e:Exit} {out:List (Nat × AV)}
 (hF:(j<n-1->e= .ret/\out=[(2,bo false)])/\(j=n-1->e= .exit 0/\out=[])) {z:Int} (hz:z=Int.ofNat (n-1-0)):
 LoopV prog (ZW prog 44 0) [0,3] [0] [some (.c (.sl 0 0 0 n none)),some (i64 z)] ([Zb 3 n f].map some) 21 N (ZQ 21 out) [] 100000000000000000000000000000000000000000000000000 e none:=by
 subst hz;have e0:∀k:Nat,0+Int.toNat (Int.ofNat k)=k:=fun k=>by simp
 have hw:∀m:Nat,m<n->0<m->IntKind.wrap IntKind.i64 (Int.ofNat m-Int.ofNat 1)=Int.ofNat (m-1):=fun m hm h0=>by
  rw[Wu _ (by simp;omega) (by simp;omega)];simp;omega
 refine Rx Vk (fuel:=100) (str:=nSt) (nh:=1000000000000000000000000000000000000000000) [0,3] [2] [0] (Sw n) [Zb 3 n f] j hN2 (by decide) (by unfold ZR;omega) ?_ (fun _=>⟨rfl,rfl⟩) ?_ ?_ ?_ ?_ ?_
 . rcases Nat.lt_or_ge j (n-1) with h|h
   . rw[(hF.1 h).1];simp
   . rw[(hF.2 (by omega)).1];simp
 . simp[Zc];omega
 . intro k _
   simp[Wb,WZ,YI,XT,i64];omega
 . intro b hb
   rw[List.mem_singleton.1 hb];exact Rq
 . intro k hk
   have hm:=hmin k hk;have hpos:0<n-1-k:=by omega
   have hw1:=hw (n-1-k) (by omega) hpos;have hk2:n-1-(k+1)=n-1-k-1:=by omega
   refine AD f n k _ ⟨fun c1=>⟨fun c2=>⟨fun c3=>?_,fun c3=>⟨fun c4=>?_,fun c4=>?_⟩⟩,fun c2=>⟨fun c4=>?_,fun c4=>?_⟩⟩,fun c1=>?_⟩<;>simp only[hw1,e0] at *
   . simp at c2
   . simp at c2
   . simp at c2
   . simp at c4;omega
   . refine⟨⟨?_,rfl,by dsimp only;omega,rfl⟩,rfl,?_,BL.refl _⟩
     . simp only[ZZ,List.forall_mem_cons,hw1,e0]
       simp at c4;simp[YK,c4];omega
     . show _=[some _,some (i64 (Int.ofNat (n-1-(k+1))))]
       rw[hk2];rfl
   . simp at c1;omega
 . refine AD f n j _ ⟨fun c1=>⟨fun c2=>⟨fun c3=>?_,fun c3=>⟨fun c4=>?_,fun c4=>?_⟩⟩,fun c2=>⟨fun c4=>?_,fun c4=>?_⟩⟩,fun c1=>?_⟩
   . simp at c2
   . simp at c2
   . simp at c2
   . have hpos:0<n-1-j:=by simp at c1;omega
     have hw1:=hw (n-1-j) (by omega) hpos;obtain⟨rfl,rfl⟩:=hF.1 (by omega);simp only[hw1,e0] at *;refine U4 ⟨?_,rfl,by dsimp only;omega,rfl⟩ rfl rfl ?_
     . simp only[ZZ,List.forall_mem_cons,hw1,e0]
       simp at c4;simp[YK,c4];omega
     . simp[bo]
   . have hpos:0<n-1-j:=by simp at c1;omega
     have hw1:=hw (n-1-j) (by omega) hpos;simp only[hw1,e0] at *;have:=hyes (by omega);simp at c4;omega
   . have hlt:¬0<n-1-j:=by simp at c1;omega
     obtain⟨rfl,rfl⟩:=hF.2 (by omega);refine Qv ⟨?_,rfl,by dsimp only;omega,rfl⟩ rfl;simp[ZZ];omega
def insS (e:Exit) (l:List (Nat × AV)):Zl:=⟨[0,1,7,8],[0,1000],ZQ 19 l,[],100000000000000000000000000000000000000000000000000,e⟩
def PT (P:Program) (f:Nat->Int) (n:Nat) (many:Int) (e:Exit) (l:List (Nat × AV)):Option VF:=
 ZB [] (ZM (E1 P) (fC (E1 P) 300) 43 [.c (.sl 0 0 0 n none),i64 many] 1000 nSt (XW [(0,Zb 3 n f)] [] [some (insS e l)]))
theorem jjn0 (f:Nat->Int) (n:Nat) (many:Int) (j:Nat):PT prog f n many .ret [(4,i64 (Int.ofNat j))]=
 some (.c (.v (.bool false)),[],100000000000000000000000000000000000000000000000004,[],[LoopV prog (ZW prog 109 0) [0,1,7,8] [0,1000] [some (.c (.sl 0 0 0 n none)),some (.c (AC.fn 81 [(1000,0,0)])),some (.c (.v (.int .i64 ↑n))),some (.c (.v (.int .i64 (Int.ofNat 0))))] [some (ABlk.mk false false 3 1 (Cs.arr n fun k=>List.map AC.v ((fun i=>[Value.int .i64 (f i)]) k))),some (ABlk.mk true false 3 0 (Cs.lit [.v (.int .i64 many)]))] 19 1011 (ZQ 19 [(4,i64 (Int.ofNat j))]) [] 100000000000000000000000000000000000000000000000000 Exit.ret none]):=by kernel_rfl
theorem jjqh (f:Nat->Int) (n:Nat) (many:Int):PT prog f n many (.exit 0) []=
 some (.c (.v (.bool true)),[],100000000000000000000000000000000000000000000000005,[],[LoopV prog (ZW prog 109 0) [0,1,7,8] [0,1000] [some (.c (.sl 0 0 0 n none)),some (.c (AC.fn 81 [(1000,0,0)])),some (.c (.v (.int .i64 ↑n))),some (.c (.v (.int .i64 (Int.ofNat 0))))] [some (ABlk.mk false false 3 1 (Cs.arr n fun k=>List.map AC.v ((fun i=>[Value.int .i64 (f i)]) k))),some (ABlk.mk true false 3 0 (Cs.lit [.v (.int .i64 many)]))] 19 1011 (ZQ 19 []) [] 100000000000000000000000000000000000000000000000000 (Exit.exit 0) none]):=by kernel_rfl
def BO (e:Exit) (l:List (Nat × AV)):Zl:=⟨[1,2,10,11,12],[0],ZQ 24 l,[],100000000000000000000000000000000000000000000000000,e⟩
def JJ (P:Program) (f:Nat->Int) (n:Nat) (lo hi:Int) (e:Exit) (l:List (Nat × AV)):Option VF:=
 ZB [] (ZM (E1 P) (fC (E1 P) 300) 52 [.c (.sl 0 0 0 n none),i64 lo,i64 hi] 1000 nSt (XW [(0,Zb 3 n f)] [] [some (BO e l)]))
theorem jjk9 (f:Nat->Int) (n:Nat) (lo hi z:Int):JJ prog f n lo hi .ret [(6,i64 z)]=
 some (.c (.v (.int .i64 z)),[],100000000000000000000000000000000000000000000000000,[],[LoopV prog (ZW prog 52 0) [1,2,10,11,12] [0] [some (.c (.v (.int .i64 lo))),some (.c (.v (.int .i64 hi))),some (.c (.sl 0 0 0 n none)),some (.c (.v (.int .i64 ↑n))),some (.c (.v (.int .i64 (Int.ofNat 0))))] [some (ABlk.mk false false 3 1 (Cs.arr n fun k=>List.map AC.v ((fun i=>[Value.int .i64 (f i)]) k)))] 24 1004 (ZQ 24 [(6,i64 z)]) [] 100000000000000000000000000000000000000000000000000 Exit.ret none]):=by kernel_rfl
theorem jjnn (f:Nat->Int) (n:Nat) (lo hi:Int):JJ prog f n lo hi (.exit 0) []=
 some (.c (.v (.int .i64 (Int.ofNat 0))),[],100000000000000000000000000000000000000000000000001,[],[LoopV prog (ZW prog 52 0) [1,2,10,11,12] [0] [some (.c (.v (.int .i64 lo))),some (.c (.v (.int .i64 hi))),some (.c (.sl 0 0 0 n none)),some (.c (.v (.int .i64 ↑n))),some (.c (.v (.int .i64 (Int.ofNat 0))))] [some (ABlk.mk false false 3 1 (Cs.arr n fun k=>List.map AC.v ((fun i=>[Value.int .i64 (f i)]) k)))] 24 1004 (ZQ 24 []) [] 100000000000000000000000000000000000000000000000000 (Exit.exit 0) none]):=by kernel_rfl
def AF (e:Exit) (l:List (Nat × AV)):Zl:=⟨[0,3],[0],ZQ 21 l,[],100000000000000000000000000000000000000000000000000,e⟩
def Gr (P:Program) (f:Nat->Int) (n:Nat) (e:Exit) (l:List (Nat × AV)):Option VF:=
 ZB [] (ZM (E1 P) (fC (E1 P) 300) 44 [.c (.sl 0 0 0 n none)] 1000 nSt (XW [(0,Zb 3 n f)] [] [some (AF e l)]))
theorem jjlt (f:Nat->Int) (n:Nat):Gr prog f n .ret [(2,bo false)]=
 some (.c (.v (.bool false)),[],100000000000000000000000000000000000000000000000000,[],[LoopV prog (ZW prog 44 0) [0,3] [0] [some (.c (.sl 0 0 0 n none)),some (.c (.v (.int .i64 (IntKind.wrap .i64 (↑n-Int.ofNat 1)))))] [some (ABlk.mk false false 3 1 (Cs.arr n fun k=>List.map AC.v ((fun i=>[Value.int .i64 (f i)]) k)))] 21 1005 (ZQ 21 [(2,bo false)]) [] 100000000000000000000000000000000000000000000000000 Exit.ret none]):=by kernel_rfl
theorem jjp4 (f:Nat->Int) (n:Nat):Gr prog f n (.exit 0) []=
 some (.c (.v (.bool true)),[],100000000000000000000000000000000000000000000000001,[],[LoopV prog (ZW prog 44 0) [0,3] [0] [some (.c (.sl 0 0 0 n none)),some (.c (.v (.int .i64 (IntKind.wrap .i64 (↑n-Int.ofNat 1)))))] [some (ABlk.mk false false 3 1 (Cs.arr n fun k=>List.map AC.v ((fun i=>[Value.int .i64 (f i)]) k)))] 21 1005 (ZQ 21 []) [] 100000000000000000000000000000000000000000000000000 (Exit.exit 0) none]):=by kernel_rfl
theorem Dt {β:Nm}:∀(l:List Value),γt β (l.map fun v=>.c (.v v))=some l
 | []=>rfl
 |x::r=>by simp only[List.map_cons,γt,γ1,γc];rw[Dt r]
theorem OY (l:List Value) {restA:List AV} (h:restA=l.map fun v=>.c (.v v)):∀(β1 β2:Nm) us,γt β1 restA=some us->γt β2 restA=some us:=by
 subst h;intro β1 β2 us hu;rw[Dt] at hu ⊢;exact hu
def YU (f:Nat->Int) (n:Nat) (many:Int):Bool:=(List.range n).all fun i=>decide (0<=f i/\f i<many)
def VW:Yk
 | [.c a,.c (.v (.int .i64 many))],m,_=>match XH 1 m a with|some (n,F,b)=>some (bo (YU (fA F) n many),[],0,[b,decide (n<=1000000),ZE n F])|none=>none
 |_,_,_=>none
theorem jje3 (f:Nat->Int) (n:Nat) (many:Int) (hn:n<=1000000):∃p lp r,ZB [] (ZM (E1 prog) (fC (E1 prog) 300) 43 (.c (.sl 0 0 0 n none)::[i64 many]) 1000 nSt (XW [(0,Zb 3 n f)] p lp))=some r/\
 r.1=bo (YU f n many)/\r.2.2.1<=ZR/\ZZ r.2.2.2.1/\∀q∈r.2.2.2.2,q:=by
 obtain⟨j,hj,hmin,hyes⟩:=Qn n fun i=>!decide (0<=f i/\f i<many)
 have hmin:∀i,i<j->0<=f i/\f i<many:=fun i hi=>by simpa using hmin i hi
 rcases Nat.lt_or_ge j n with h|h
 . have hy:f j<0\/many<=f j:=by have:=hyes h;simp at this;omega
   refine⟨_,_,_,jjn0 f n many j,?_,by dsimp only;unfold ZR;omega,by simp[ZZ],fun q hq=>?_⟩
   . have:YU f n many=false:=by
      unfold YU;rw[List.all_eq_false];exact⟨j,by simpa using h,by simp;omega⟩
     simp[bo,this]
   . rw[List.mem_singleton.1 hq]
     exact Fi f n many _ (by omega) (by omega) hn j hj hmin (fun _=>hy) ⟨fun _=>⟨rfl,rfl⟩,fun h=>by omega⟩
 . obtain rfl:j=n:=by omega
   refine⟨_,_,_,jjqh f j many,?_,by dsimp only;unfold ZR;omega,by simp[ZZ],fun q hq=>?_⟩
   . have:YU f j many=true:=by
      unfold YU;exact List.all_eq_true.2 fun i hi=>by have:=hmin i (by simpa using hi);simp[this]
     simp[bo,this]
   . rw[List.mem_singleton.1 hq]
     exact Fi f j many _ (by omega) (by omega) hn j hj hmin (fun h=>by omega) ⟨fun h=>by omega,fun _=>⟨rfl,rfl⟩⟩
theorem HQ:ZA prog 43 VW:=by
 refine⟨⟨_,_,Tryz.func43,rfl⟩,fun C β m m2 w args ib r news k' ob vs hct ho hs hr hfree hlim hv=>?_⟩;unfold VW at hct;split at hct
 . rename_i a many
   split at hct
   . rename_i n F b hsl
     simp only[Option.some.injEq,Prod.mk.injEq] at hct;obtain⟨rfl,rfl,rfl,rfl⟩:=hct;simp only[ZZ,List.forall_mem_cons,decide_eq_true_eq] at ho;obtain⟨rfl,o2,o3,_⟩:=ho;exact NT Vk hs hr hsl o3 hv (OY [.int .i64 many] rfl) (fun _ _ _ h=>h) 3 (jje3 (fA F) n many o2)
   . cases hct
 . cases hct
def Wr (f:Nat->Int) (n:Nat) (lo hi:Int):Int:=match (List.range n).find? (fun i=>!(ZL (f i) lo hi==0)) with|some j=>ZL (f j) lo hi|none=>0
def RW:Yk
 | [.c a,.c (.v (.int .i64 lo)),.c (.v (.int .i64 hi))],m,_=>match XH 1 m a with|some (n,F,b)=>some (i64 (Wr (fA F) n lo hi),[],0,[b,decide (n<=9223372036854775807),ZE n F])|none=>none
 |_,_,_=>none
theorem CN {n j:Nat} {q:Nat->Bool} (h1:∀i,i<j->q i=false) (hj:j<=n) (h2:j<n->q j=true):(List.range n).find? q=if j<n then some j else none:=by
 split
 . rename_i h
   rw[List.find?_range_eq_some];exact⟨h2 h,by simpa using h,fun i hi=>by simpa using h1 i hi⟩
 . rename_i h
   rw[List.find?_eq_none];intro i hi;have:i<j:=by simp at hi;omega
   simp[h1 i this]
theorem jjka (f:Nat->Int) (n:Nat) (lo hi:Int) (hn:n<=9223372036854775807):∃p lp r,ZB [] (ZM (E1 prog) (fC (E1 prog) 300) 52 (.c (.sl 0 0 0 n none)::[i64 lo,i64 hi]) 1000 nSt (XW [(0,Zb 3 n f)] p lp))=some r/\
 r.1=i64 (Wr f n lo hi)/\r.2.2.1<=ZR/\ZZ r.2.2.2.1/\∀q∈r.2.2.2.2,q:=by
 obtain⟨j,hj,hmin,hyes⟩:=Qn n fun i=>!(ZL (f i) lo hi==0)
 have hfd:=CN hmin hj hyes;have hmin':∀i,i<j->ZL (f i) lo hi=0:=fun i hi=>by simpa using hmin i hi
 rcases Nat.lt_or_ge j n with h|h
 . have hy:ZL (f j) lo hi≠0:=by simpa using hyes h
   rw[if_pos h] at hfd;have hE:Wr f n lo hi=ZL (f j) lo hi:=by unfold Wr;rw[hfd]
   refine⟨_,_,_,jjk9 f n lo hi (ZL (f j) lo hi),by rw[hE];rfl,by dsimp only;unfold ZR;omega,by simp[ZZ],fun q hq=>?_⟩;rw[List.mem_singleton.1 hq];exact EQ f n lo hi _ (by omega) (by omega) hn j hj hmin' (fun _=>hy) ⟨fun _=>⟨rfl,rfl⟩,fun h=>by omega⟩
 . obtain rfl:j=n:=by omega
   rw[if_neg (by omega)] at hfd;have hE:Wr f j lo hi=0:=by unfold Wr;rw[hfd]
   refine⟨_,_,_,jjnn f j lo hi,by rw[hE];rfl,by dsimp only;unfold ZR;omega,by simp[ZZ],fun q hq=>?_⟩;rw[List.mem_singleton.1 hq];exact EQ f j lo hi _ (by omega) (by omega) hn j hj hmin' (fun h=>by omega) ⟨fun h=>by omega,fun _=>⟨rfl,rfl⟩⟩
theorem ET:ZA prog 52 RW:=by
 refine⟨⟨_,_,Tryz.func52,rfl⟩,fun C β m m2 w args ib r news k' ob vs hct ho hs hr hfree hlim hv=>?_⟩;unfold RW at hct;split at hct
 . rename_i a lo hi
   split at hct
   . rename_i n F b hsl
     simp only[Option.some.injEq,Prod.mk.injEq] at hct;obtain⟨rfl,rfl,rfl,rfl⟩:=hct;simp only[ZZ,List.forall_mem_cons,decide_eq_true_eq] at ho;obtain⟨rfl,o2,o3,_⟩:=ho;exact NT Vk hs hr hsl o3 hv (OY [.int .i64 lo,.int .i64 hi] rfl) (fun _ _ _ h=>h) 3 (jjka (fA F) n lo hi o2)
   . cases hct
 . cases hct
def Y7 (f:Nat->Int) (n:Nat):Bool:=(List.range (n-1)).all fun i=>decide (f i<=f (i+1))
def VX:Yk
 | [.c a],m,_=>match XH 1 m a with|some (n,F,b)=>some (bo (Y7 (fA F) n),[],0,[b,decide (1<=n),decide (n<=1000000),ZE n F])|none=>none
 |_,_,_=>none
theorem jjd1 (f:Nat->Int) (n:Nat) (hn1:1<=n) (hn:n<=1000000):∃p lp r,ZB [] (ZM (E1 prog) (fC (E1 prog) 300) 44 (.c (.sl 0 0 0 n none)::[]) 1000 nSt (XW [(0,Zb 3 n f)] p lp))=some r/\
 r.1=bo (Y7 f n)/\r.2.2.1<=ZR/\ZZ r.2.2.2.1/\∀q∈r.2.2.2.2,q:=by
 obtain⟨j,hj,hmin,hyes⟩:=Qn (n-1) fun i=>decide (f (n-1-i)<f (n-1-i-1))
 have hmin':∀i,i<j->f (n-1-i-1)<=f (n-1-i):=fun i hi=>by have:=hmin i hi;simp at this;omega
 have hz:IntKind.wrap IntKind.i64 (((n:Nat):Int)-Int.ofNat 1)=Int.ofNat (n-1-0):=by rw[Wu _ (by simp;omega) (by simp;omega)];simp;omega
 rcases Nat.lt_or_ge j (n-1) with h|h
 . have hy:f (n-1-j)<f (n-1-j-1):=by simpa using hyes h
   refine⟨_,_,_,jjlt f n,?_,by dsimp only;unfold ZR;omega,by simp[ZZ],fun q hq=>?_⟩
   . have:Y7 f n=false:=by
      unfold Y7;rw[List.all_eq_false];refine⟨n-1-j-1,by simp;omega,?_⟩;have e:n-1-j-1+1=n-1-j:=by omega
      rw[e];simp;omega
     simp[bo,this]
   . rw[List.mem_singleton.1 hq]
     exact Fa f n _ (by omega) (by omega) hn1 hn j hj hmin' (fun _=>hy) ⟨fun _=>⟨rfl,rfl⟩,fun h=>by omega⟩ hz
 . obtain rfl:j=n-1:=by omega
   refine⟨_,_,_,jjp4 f n,?_,by dsimp only;unfold ZR;omega,by simp[ZZ],fun q hq=>?_⟩
   . have:Y7 f n=true:=by
      unfold Y7;refine List.all_eq_true.2 fun i hi=>?_
      have hi:i<n-1:=by simpa using hi
      have:=hmin' (n-1-i-1) (by omega);have e1:n-1-(n-1-i-1)=i+1:=by omega
      have e2:n-1-(n-1-i-1)-1=i:=by omega
      rw[e2,e1] at this;simpa using this
     simp[bo,this]
   . rw[List.mem_singleton.1 hq]
     exact Fa f n _ (by omega) (by omega) hn1 hn (n-1) hj hmin' (fun h=>by omega) ⟨fun h=>by omega,fun _=>⟨rfl,rfl⟩⟩ hz
theorem HP:ZA prog 44 VX:=by
 refine⟨⟨_,_,Tryz.func44,rfl⟩,fun C β m m2 w args ib r news k' ob vs hct ho hs hr hfree hlim hv=>?_⟩;unfold VX at hct;split at hct
 . rename_i a
   split at hct
   . rename_i n F b hsl
     simp only[Option.some.injEq,Prod.mk.injEq] at hct;obtain⟨rfl,rfl,rfl,rfl⟩:=hct;simp only[ZZ,List.forall_mem_cons,decide_eq_true_eq] at ho;obtain⟨rfl,o1,o2,o3,_⟩:=ho;exact NT Vk hs hr hsl o3 hv (OY [] rfl) (fun _ _ _ h=>h) 3 (jjd1 (fA F) n o1 o2)
   . cases hct
 . cases hct
def B7 (P:Program):Env:=⟨P,[(43,VW),(52,RW),(44,VX)]⟩
def R7 (P:Program) (f:FuncId) (c:Cfg) (path:List Dec):Option VF:=ZB [] (ZM (B7 P) (fC (B7 P) 300) f [.agg (VU c)] 1000 nSt (XW (SQ c) path []))
theorem ru1 (c:Cfg) (Q:VF->Prop) (H:let zN:=Int.ofNat;(((decide (c.nodes>zN 16))=true->Q (.c (zI (zN 3)),[],1011,[decide (c.nodes>zN 16)==true,true,true],[]))/\((decide (c.nodes>zN 16))=false->(((decide (c.nodes<zN 4))=true->Q (.c (zI (zN 1)),[],1015,[decide (c.nodes<zN 4)==true,decide (c.nodes>zN 16)==false,true,true],[]))/\((decide (c.nodes<zN 4))=false->Q (.c (zI (zN 0)),[],1015,[decide (c.nodes<zN 4)==false,decide (c.nodes>zN 16)==false,true,true],[])))))):
 ∃p r,R7 prog 38 c p=some r/\Q r:=
 ZD H (fun g1=>⟨pD 1 1,_,by kernel_rfl,g1⟩) (fun g1=>ZD g1 (fun g2=>⟨pD 2 5,_,by kernel_rfl,g2⟩) (fun g2=>⟨pD 2 8,_,by kernel_rfl,g2⟩))
theorem ru2 (c:Cfg) (Q:VF->Prop) (H:let zN:=Int.ofNat;(((decide (↑(c.np)>zN 8))=true->Q (.c (zI (zN 3)),[],1012,[decide (↑(c.np)>zN 8)==true,true],[]))/\((decide (↑(c.np)>zN 8))=false->(((decide (↑(c.np)<zN 2))=true->Q (.c (zI (zN 1)),[],1016,[decide (↑(c.np)<zN 2)==true,decide (↑(c.np)>zN 8)==false,true],[]))/\((decide (↑(c.np)<zN 2))=false->Q (.c (zI (zN 0)),[],1016,[decide (↑(c.np)<zN 2)==false,decide (↑(c.np)>zN 8)==false,true],[])))))):
 ∃p r,R7 prog 40 c p=some r/\Q r:=
 ZD H (fun g1=>⟨pD 1 1,_,by kernel_rfl,g1⟩) (fun g1=>ZD g1 (fun g2=>⟨pD 2 5,_,by kernel_rfl,g2⟩) (fun g2=>⟨pD 2 8,_,by kernel_rfl,g2⟩))
theorem ru4 (c:Cfg) (Q:VF->Prop) (H:let zN:=Int.ofNat;(((decide (↑(c.ns)>zN 16))=true->Q (.c (zI (zN 3)),[],1012,[decide (↑(c.ns)>zN 16)==true,true],[]))/\((decide (↑(c.ns)>zN 16))=false->(((decide (↑(c.ns)<zN 1))=true->Q (.c (zI (zN 1)),[],1016,[decide (↑(c.ns)<zN 1)==true,decide (↑(c.ns)>zN 16)==false,true],[]))/\((decide (↑(c.ns)<zN 1))=false->Q (.c (zI (zN 0)),[],1016,[decide (↑(c.ns)<zN 1)==false,decide (↑(c.ns)>zN 16)==false,true],[])))))):
 ∃p r,R7 prog 46 c p=some r/\Q r:=
 ZD H (fun g1=>⟨pD 1 1,_,by kernel_rfl,g1⟩) (fun g1=>ZD g1 (fun g2=>⟨pD 2 5,_,by kernel_rfl,g2⟩) (fun g2=>⟨pD 2 8,_,by kernel_rfl,g2⟩))
theorem ru6 (c:Cfg) (Q:VF->Prop) (H:let zN:=Int.ofNat;let zz0:=(Cfg.long c<if IntKind.wrap IntKind.i64 (IntKind.wrap IntKind.i64 (Cfg.nodes c+zN 114)+zN 2)>IntKind.wrap IntKind.i64 (IntKind.wrap IntKind.i64 (zN 3*Cfg.nodes c)+zN 1) then IntKind.wrap IntKind.i64 (IntKind.wrap IntKind.i64 (Cfg.nodes c+zN 114)+zN 2) else IntKind.wrap IntKind.i64 (IntKind.wrap IntKind.i64 (zN 3*Cfg.nodes c)+zN 1));(((decide (c.long>zN 4096))=true->Q (.c (zI (zN 3)),[],1020,[decide (c.long>zN 4096)==true,true,true,true,true,true,true],[]))/\((decide (c.long>zN 4096))=false->(((decide zz0)=true->Q (.c (zI (zN 1)),[],1024,[decide zz0==true,decide (c.long>zN 4096)==false,true,true,true,true,true,true],[]))/\((decide zz0)=false->Q (.c (zI (zN 0)),[],1024,[decide zz0==false,decide (c.long>zN 4096)==false,true,true,true,true,true,true],[])))))):
 ∃p r,R7 prog 49 c p=some r/\Q r:=
 ZD H (fun g1=>⟨pD 1 1,_,by kernel_rfl,g1⟩) (fun g1=>ZD g1 (fun g2=>⟨pD 2 5,_,by kernel_rfl,g2⟩) (fun g2=>⟨pD 2 8,_,by kernel_rfl,g2⟩))
theorem ru7 (c:Cfg) (Q:VF->Prop) (H:let zz0:=(Wr (Cfg.fb c) (Cfg.nb c) (Int.ofNat 0) (Int.ofNat 4096) !=Int.ofNat 0);let zq0:List Bool:=[true,true,true];let zq1:List Bool:=y3 (y3 ((decide (0+c.nb<=c.nb))::(decide (c.nb<=9223372036854775807))::(ZE c.nb fun k=>List.map AC.v ((fun i=>[Value.int .i64 (c.fb i)]) k))::true::((!↑(c.nb)==c.nodes)==false)::zq0));(((!↑(c.nb)==c.nodes)=true->Q (.c (zI (Int.ofNat 1)),[],130000000000000000000000000000000000001002,(y3 (y3 ((decide (0+c.nb<=c.nb))::(decide (c.nb<=9223372036854775807))::(ZE c.nb fun k=>List.map AC.v ((fun i=>[Value.int .i64 (c.fb i)]) k))::true::((!↑(c.nb)==c.nodes)==true)::zq0))),[]))/\((!↑(c.nb)==c.nodes)=false->((zz0=true->Q (.c (zI (Wr c.fb c.nb (Int.ofNat 0) (Int.ofNat 4096))),[],130000000000000000000000000000000000001002,(y3 ((zz0==true)::zq1)),[]))/\(zz0=false->Q (.c (zI (Int.ofNat 0)),[],130000000000000000000000000000000000001002,((zz0==false)::zq1),[])))))):
 ∃p r,R7 prog 50 c p=some r/\Q r:=
 ZD H (fun g1=>⟨pD 4 1,_,by kernel_rfl,g1⟩) (fun g1=>ZD g1 (fun g2=>⟨pD 6 83,_,by kernel_rfl,g2⟩) (fun g2=>⟨pD 7 164,_,by kernel_rfl,g2⟩))
theorem ru8 (c:Cfg) (Q:VF->Prop) (H:(((decide (↑(c.nt)>Int.ofNat 8))=true->Q (.c (zI (Int.ofNat 3)),[],1012,[decide (↑(c.nt)>Int.ofNat 8)==true,true],[]))/\((decide (↑(c.nt)>Int.ofNat 8))=false->Q (.c (zI (Int.ofNat 0)),[],1016,[decide (↑(c.nt)>Int.ofNat 8)==false,true],[])))):
 ∃p r,R7 prog 53 c p=some r/\Q r:=
 ZD H (fun g1=>⟨pD 1 1,_,by kernel_rfl,g1⟩) (fun g1=>⟨pD 2 2,_,by kernel_rfl,g1⟩)
theorem Aw (c:Cfg) (Q:VF->Prop) (H:Q (.c (zI (Wr (fA (Zj (ABlk.mk true false 3 0 (Cs.lit [zI c.miss,zI c.good,zI c.fresh])) 0 0 1)) 3 (Int.ofNat 1) (Int.ofNat 100))),[],1010,(zt [true]),[])):
 ∃p r,R7 prog 55 c p=some r/\Q r:=
 ⟨pD 0 0,_,by kernel_rfl,H⟩
def Kh (P:Program) (n d a k:Int) (path:List Dec):Option VF:=ZB [] (ZM (E1 P) (fC (E1 P) 300) 61 [i64 n,.c (.v (.int .u8 d)),i64 a,i64 k] 1000 nSt (XW mS path []))
theorem stp (n a k:Int) (Q:VF->Prop) (H:let zN:=Int.ofNat;let zq0:List Bool:=[decide (n≥zN 4)==true];let zq1:List Bool:=(decide (n<=zN 16)==true)::zq0;let zq2:List Bool:=(decide (a≥zN 0)==true)::zq1;(((decide (n≥zN 4))=true->(((decide (n<=zN 16))=true->(((decide (a≥zN 0))=true->(((!decide (a<n))=true->Q (.c (zI (Int.negSucc 0)),[],1031,(((!decide (a<n))==true)::zq2),[]))/\((!decide (a<n))=false->Q (.c (zI (Int.tmod (IntKind.wrap .i64 (Int.tmod (IntKind.wrap .i64 (a+IntKind.wrap .i64 (zN 1*Int.tmod k n))) n+n)) n)),[],120000000000000000000000000000000000001030,((decide (n≠zN 0))::(decide (n≠zN 0))::(decide (n≠zN 0))::y3 (((!decide (a<n))==false)::zq2)),[]))))/\((decide (a≥zN 0))=false->Q (.c (zI (Int.negSucc 0)),[],1028,((decide (a≥zN 0)==false)::zq1),[]))))/\((decide (n<=zN 16))=false->Q (.c (zI (Int.negSucc 0)),[],1017,((decide (n<=zN 16)==false)::zq0),[]))))/\((decide (n≥zN 4))=false->Q (.c (zI (Int.negSucc 0)),[],1015,[decide (n≥zN 4)==false],[])))):
 ∃p r,Kh prog n 0 a k p=some r/\Q r:=
 ZD H (fun g1=>ZD g1 (fun g2=>ZD g2 (fun g3=>ZD g3 (fun g4=>⟨pD 12 179344,_,by kernel_rfl,g4⟩) (fun g4=>⟨pD 12 356491,_,by kernel_rfl,g4⟩)) (fun g3=>⟨pD 12 4384,_,by kernel_rfl,g3⟩)) (fun g2=>⟨pD 9 19,_,by kernel_rfl,g2⟩)) (fun g1=>⟨pD 9 2,_,by kernel_rfl,g1⟩)
abbrev Mz (v:Int) (n k:Nat):List AV:=[.c (.sl 0 0 0 n none),i64 v,i64 (Int.ofNat n),i64 (Int.ofNat k)]
def ixR (P:Program) (f:Nat->Int) (n:Nat) (v:Int) (k:Nat) (path:List Dec):Option VC:=
 view ([0,1,7,8]++[4]) [0] (fC (E1 P) 100 (ZW P 86 0) 1000000000000000000000000000000000000000000 nSt (Wi 19 [0,1,7,8] [0] (Mz v n k) [Zb 3 n f] path []))
theorem ix (f:Nat->Int) (n:Nat) (v:Int) (k:Nat) (Q:VC->Prop) (H:let zN:=Int.ofNat;let zz0:=(ABlk.mk false false 3 1 (Cs.arr n fun k=>List.map AC.v ((fun i=>[Value.int IntKind.i64 (f i)]) k)));let zq0:List Bool:=[ABlk.inb zz0 (0+Int.toNat (zN k)) 1,true,decide (zN 0<=zN k/\zN k < ↑n),decide (zN k<zN n)==true];let zs0:=fun (l:List (Option AV))=>some (ZO (List.zip [0,1,7,8] (Mz v n k)) 0)::some (ZO (List.zip [0,1,7,8] (Mz v n k)) 1)::some (ZO (List.zip [0,1,7,8] (Mz v n k)) 7)::l;(((decide (zN k<zN n))=true->(((v==f (0+Int.toNat (zN k)))=true->Q (Exit.ret,(zs0 [some (ZO (List.zip [0,1,7,8] (Mz v n k)) 8),some (.c (zI (zN k)))]),[some zz0],19,1000000000000000000000000000000000000000011,(((v==f (0+Int.toNat (zN k)))==true)::zq0),[]))/\((v==f (0+Int.toNat (zN k)))=false->Q (Exit.normal,(zs0 [some (.c (zI (IntKind.wrap .i64 (zN k+zN 1)))),some (ZO (List.zip [0,1,7,8] (Mz v n k)) 4)]),[some zz0],19,1000000000000000000000000000000000000000011,(((v==f (0+Int.toNat (zN k)))==false)::zq0),[]))))/\((decide (zN k<zN n))=false->Q (Exit.exit 0,(zs0 [some (ZO (List.zip [0,1,7,8] (Mz v n k)) 8),some (ZO (List.zip [0,1,7,8] (Mz v n k)) 4)]),[some zz0],19,1000000000000000000000000000000000000000001,[decide (zN k<zN n)==false],[])))):
 ∃p r,ixR prog f n v k p=some r/\Q r:=
 ZD H (fun g1=>ZD g1 (fun g2=>⟨pD 2 4,_,by kernel_rfl,g2⟩) (fun g2=>⟨pD 2 7,_,by kernel_rfl,g2⟩)) (fun g1=>⟨pD 1 2,_,by kernel_rfl,g1⟩)
def ixS (e:Exit) (l:List (Nat × AV)):Zl:=⟨[0,1,7,8],[0],ZQ 19 l,[],100000000000000000000000000000000000000000000000000,e⟩
def SB (P:Program) (f:Nat->Int) (n:Nat) (v:Int) (e:Exit) (l:List (Nat × AV)):Option VF:=
 ZB [] (ZM (E1 P) (fC (E1 P) 300) 48 [.c (.sl 0 0 0 n none),i64 v] 1000 nSt (XW [(0,Zb 3 n f)] [] [some (ixS e l)]))
theorem jjag (f:Nat->Int) (n:Nat) (v:Int) (j:Nat):SB prog f n v .ret [(4,i64 (Int.ofNat j))]=
 some (.c (.v (.bool true)),[],100000000000000000000000000000000000000000000000002,[],[LoopV prog (ZW prog 86 0) [0,1,7,8] [0] [some (.c (.sl 0 0 0 n none)),some (.c (.v (.int .i64 v))),some (.c (.v (.int .i64 ↑n))),some (.c (.v (.int .i64 (Int.ofNat 0))))] [some (ABlk.mk false false 3 1 (Cs.arr n fun k=>List.map AC.v ((fun i=>[Value.int .i64 (f i)]) k)))] 19 1007 (ZQ 19 [(4,i64 (Int.ofNat j))]) [] 100000000000000000000000000000000000000000000000000 Exit.ret none]):=by kernel_rfl
theorem jjcf (f:Nat->Int) (n:Nat) (v:Int):SB prog f n v (.exit 0) []=
 some (.c (.v (.bool false)),[],100000000000000000000000000000000000000000000000003,[],[LoopV prog (ZW prog 86 0) [0,1,7,8] [0] [some (.c (.sl 0 0 0 n none)),some (.c (.v (.int .i64 v))),some (.c (.v (.int .i64 ↑n))),some (.c (.v (.int .i64 (Int.ofNat 0))))] [some (ABlk.mk false false 3 1 (Cs.arr n fun k=>List.map AC.v ((fun i=>[Value.int .i64 (f i)]) k)))] 19 1007 (ZQ 19 []) [] 100000000000000000000000000000000000000000000000000 (Exit.exit 0) none]):=by kernel_rfl
theorem Pf {ty n:Nat} {f:Nat->Int} {o r:Bool}:fA (YW ⟨o,r,ty,1,.arr n fun k=>List.map AC.v ((fun i=>[Value.int .i64 (f i)]) k)⟩ 0 0 1)=f:=by
 funext i;simp[fA,YW,ZP]
theorem Yi {n:Nat} {f:Nat->Int}:ZE n (fun k=>List.map AC.v ((fun i=>[Value.int .i64 (f i)]) k))=true:=by
 unfold ZE;exact List.all_eq_true.2 fun i _=>by simp[Uo]
theorem hENw:ZC (B7 prog):=by
 refine Xf (fun f g h=>?_) (by kernel_rfl) (by kernel_rfl);simp only[B7,List.mem_cons,Prod.mk.injEq,List.not_mem_nil,or_false] at h;rcases h with⟨rfl,rfl⟩|⟨rfl,rfl⟩|⟨rfl,rfl⟩
 . exact HQ
 . exact ET
 . exact HP
theorem Ux (z:Int) (β1 β2:Nm) (u:Value) (h:γ β1 (i64 z)=some u):γ β2 (i64 z)=some u:=h
theorem Qo {f:FuncId} {R:Cfg->AV} {pre:Cfg->Bool} (hf:∃(fn:Func) (c:Code),Tryz.prog.funcs[f]? =some fn/\fn.body=some c) (hres:∀c (β1 β2:Nm) u,γ β1 (R c)=some u->γ β2 (R c)=some u)
 (h:∀c,pre c=true->∃p r,R7 prog f c p=some r/\(r.1=R c/\r.2.2.1<=ZR/\ZZ r.2.2.2.1/\∀q∈r.2.2.2.2,q)):ZA prog f (Ys R pre):=
 LD (E:=B7 prog) (fuel:=300) (str:=nSt) hENw hf hres fun c hp=>by
  obtain⟨p,r,h1,h2⟩:=h c hp;exact⟨p,[],r,h1,h2⟩
def X7 (c:Cfg):Int:=ZL c.nodes 4 16
def WS (c:Cfg):Int:=ZL c.np 2 8
def WT (c:Cfg):Int:=ZL c.ns 1 16
def Wv (c:Cfg):Int:=ZL c.long (max (3*c.nodes+1) (c.nodes+116)) 4096
def Xl (c:Cfg):Int:=if (c.nb:Int)=c.nodes then Wr c.fb c.nb 0 4096 else 1
def WU (c:Cfg):Int:=ZL c.nt 0 8
def Xj (c:Cfg):Int:=if ZL c.miss 1 100≠0 then ZL c.miss 1 100 else if ZL c.good 1 100≠0 then ZL c.good 1 100 else ZL c.fresh 1 100
def VR (c:Cfg):Bool:=decide (4<=c.nodes/\c.nodes<=16)
theorem jjqx:ZA prog 38 (Ys (fun c=>i64 (X7 c)) fun _=>true):=by
 refine Qo ⟨_,_,Tryz.func38,rfl⟩ (fun c=>Ux _) fun c hp=>ru1 c _ ?_
 repeat' (first|refine⟨fun h=>?_,fun h=>?_⟩|fail)
 all_goals (refine⟨?_,(by first|(unfold ZR;omega)|(dsimp only;unfold ZR;omega)),?_,by simp⟩)
 all_goals (simp_all[ZZ,X7,ZL,i64])
 all_goals (rw[if_neg (by omega),if_neg (by omega)])
theorem jjqw:ZA prog 40 (Ys (fun c=>i64 (WS c)) fun _=>true):=by
 refine Qo ⟨_,_,Tryz.func40,rfl⟩ (fun c=>Ux _) fun c hp=>ru2 c _ ?_
 repeat' (first|refine⟨fun h=>?_,fun h=>?_⟩|fail)
 all_goals (refine⟨?_,(by first|(unfold ZR;omega)|(dsimp only;unfold ZR;omega)),?_,by simp⟩)
 all_goals (simp_all[ZZ,WS,ZL,i64])
 all_goals (try omega)
theorem jjqu:ZA prog 46 (Ys (fun c=>i64 (WT c)) fun _=>true):=by
 refine Qo ⟨_,_,Tryz.func46,rfl⟩ (fun c=>Ux _) fun c hp=>ru4 c _ ?_
 repeat' (first|refine⟨fun h=>?_,fun h=>?_⟩|fail)
 all_goals (refine⟨?_,(by first|(unfold ZR;omega)|(dsimp only;unfold ZR;omega)),?_,by simp⟩)
 all_goals (simp_all[ZZ,WT,ZL,i64])
 all_goals (try omega)
theorem jjqs:ZA prog 49 (Ys (fun c=>i64 (Wv c)) VR):=by
 refine Qo ⟨_,_,Tryz.func49,rfl⟩ (fun c=>Ux _) fun c hp=>ru6 c _ ?_
 simp only[VR,decide_eq_true_eq] at hp
 have w1:IntKind.wrap IntKind.i64 (IntKind.wrap IntKind.i64 (Cfg.nodes c+Int.ofNat 114)+Int.ofNat 2)=c.nodes+116:=by
  rw[Wu (Cfg.nodes c+Int.ofNat 114) (by simp;omega) (by simp;omega),Wu _ (by simp;omega) (by simp;omega)];simp;omega
 have w2:IntKind.wrap IntKind.i64 (IntKind.wrap IntKind.i64 (Int.ofNat 3*Cfg.nodes c)+Int.ofNat 1)=3*c.nodes+1:=by
  rw[Wu (Int.ofNat 3*Cfg.nodes c) (by simp;omega) (by simp;omega),Wu _ (by simp;omega) (by simp;omega)];simp
 simp only[w1,w2];have hm:(if c.nodes+116>3*c.nodes+1 then c.nodes+116 else 3*c.nodes+1)=max (3*c.nodes+1) (c.nodes+116):=by split<;>omega
 simp only[hm];have hr:Wv c=ZL c.long (max (3*c.nodes+1) (c.nodes+116)) 4096:=rfl;generalize max (3*c.nodes+1) (c.nodes+116)=q at *
 repeat' (first|refine⟨fun h=>?_,fun h=>?_⟩|fail)
 all_goals (refine⟨?_,(by first|(unfold ZR;omega)|(dsimp only;unfold ZR;omega)),?_,by simp⟩)
 all_goals (simp_all[ZZ,ZL,i64])
 all_goals (try omega)
theorem jjqr:ZA prog 50 (Ys (fun c=>i64 (Xl c)) fun c=>decide (c.nb<=9223372036854775807)):=by
 refine Qo ⟨_,_,Tryz.func50,rfl⟩ (fun c=>Ux _) fun c hp=>ru7 c _ ?_
 simp only[decide_eq_true_eq] at hp;simp only[Pf,Yi]
 repeat' (first|refine⟨fun h=>?_,fun h=>?_⟩|fail)
 all_goals (refine⟨?_,(by first|(unfold ZR;omega)|(dsimp only;unfold ZR;omega)),?_,by simp⟩)
 all_goals (simp_all[ZZ,Xl,i64])
theorem jjqq:ZA prog 53 (Ys (fun c=>i64 (WU c)) fun _=>true):=by
 refine Qo ⟨_,_,Tryz.func53,rfl⟩ (fun c=>Ux _) fun c hp=>ru8 c _ ?_
 repeat' (first|refine⟨fun h=>?_,fun h=>?_⟩|fail)
 all_goals (refine⟨?_,(by first|(unfold ZR;omega)|(dsimp only;unfold ZR;omega)),?_,by simp⟩)
 all_goals (simp_all[ZZ,WU,ZL,i64])
 all_goals (try omega)
theorem BM (f:Nat->Int) (lo hi:Int):Wr f 3 lo hi=if ZL (f 0) lo hi≠0 then ZL (f 0) lo hi else if ZL (f 1) lo hi≠0 then ZL (f 1) lo hi else ZL (f 2) lo hi:=by
 unfold Wr;rw[show List.range 3=[0,1,2] from rfl];by_cases h0:ZL (f 0) lo hi=0
 . by_cases h1:ZL (f 1) lo hi=0
   . by_cases h2:ZL (f 2) lo hi=0
     . simp[h0,h1,h2]
     . simp[h0,h1,h2]
   . simp[h0,h1]
 . simp[h0]
theorem jjnu:ZA prog 55 (Ys (fun c=>i64 (Xj c)) fun _=>true):=by
 refine Qo ⟨_,_,Tryz.func55,rfl⟩ (fun c=>Ux _) fun c hp=>Aw c _ ?_
 refine⟨?_,(by first|(unfold ZR;omega)|(dsimp only;unfold ZR;omega)),by simp[ZZ],by simp⟩;show i64 _=i64 _;rw[BM];rfl
theorem JR (f:Nat->Int) (n:Nat) (v:Int) (N:Nat) (hN:1<=N) (hN2:N<=1000000000000000000000000000000000000000000) (hn:n<=1000000) (j:Nat) (hj:j<=n) (hmin:∀i,i<j->f i≠v) (hyes:j<n->f j=v) {e:Exit} {out:List (Nat × AV)}
 (hF:(j<n->e= .ret/\out=[(4,i64 (Int.ofNat j))])/\(j=n->e= .exit 0/\out=[])):
 LoopV prog (ZW prog 86 0) [0,1,7,8] [0] ((Mz v n 0).map some) ([Zb 3 n f].map some) 19 N (ZQ 19 out) [] 100000000000000000000000000000000000000000000000000 e none:=by
 have e0:∀k:Nat,0+Int.toNat (Int.ofNat k)=k:=fun k=>by simp
 have hw:∀k,k<n->IntKind.wrap IntKind.i64 (Int.ofNat k+Int.ofNat 1)=Int.ofNat (k+1):=fun k hk=>by rw[Wu _ (by simp;omega) (by simp;omega)];rfl
 refine Rx Vk (fuel:=100) (str:=nSt) (nh:=1000000000000000000000000000000000000000000) [0,1,7,8] [4] [0] (Mz v n) [Zb 3 n f] j hN2 (by decide) (by unfold ZR;omega) ?_ (fun _=>⟨rfl,rfl⟩) ?_ ?_ ?_ ?_ ?_
 . rcases Nat.lt_or_ge j n with h|h
   . rw[(hF.1 h).1];simp
   . rw[(hF.2 (by omega)).1];simp
 . simp[Zc];omega
 . intro k _
   simp[Wb,WZ,YI,XT,i64];omega
 . intro b hb
   rw[List.mem_singleton.1 hb];exact Rq
 . intro k hk
   have hm:=hmin k hk;refine ix f n v k _ ⟨fun c1=>⟨fun c2=>?_,fun c2=>?_⟩,fun c1=>?_⟩<;>simp only[e0] at *
   . simp at c2;exact absurd c2.symm hm
   . have hlt:k<n:=by omega
     simp at c2;refine⟨⟨?_,rfl,by dsimp only;omega,rfl⟩,rfl,?_,BL.refl _⟩
     . simp only[ZZ,List.forall_mem_cons,e0]
       simp[YK,hlt,c2]
     . dsimp only;rw[hw k hlt];rfl
   . simp at c1;omega
 . refine ix f n v j _ ⟨fun c1=>⟨fun c2=>?_,fun c2=>?_⟩,fun c1=>?_⟩<;>simp only[e0] at *
   . have hlt:j<n:=by simpa using c1
     obtain⟨rfl,rfl⟩:=hF.1 hlt;refine U4 ⟨?_,rfl,by dsimp only;omega,rfl⟩ rfl rfl ?_
     . simp only[ZZ,List.forall_mem_cons,e0]
       simp at c2;simp[YK,hlt,c2]
     . simp[i64]
   . have hlt:j<n:=by simpa using c1
     simp at c2;exact absurd (hyes hlt).symm c2
   . have hlt:¬j<n:=by simpa using c1
     obtain⟨rfl,rfl⟩:=hF.2 (by omega);refine Qv ⟨?_,rfl,by dsimp only;omega,rfl⟩ rfl;simp[ZZ];omega
def VZ (f:Nat->Int) (n:Nat) (v:Int):Bool:=(List.range n).any fun i=>f i==v
theorem jjah (f:Nat->Int) (n:Nat) (v:Int) (hn:n<=1000000):∃p lp r,ZB [] (ZM (E1 prog) (fC (E1 prog) 300) 48 (.c (.sl 0 0 0 n none)::[i64 v]) 1000 nSt (XW [(0,Zb 3 n f)] p lp))=some r/\
 r.1=bo (VZ f n v)/\r.2.2.1<=ZR/\ZZ r.2.2.2.1/\∀q∈r.2.2.2.2,q:=by
 obtain⟨j,hj,hmin,hyes⟩:=Qn n fun i=>f i==v
 have hmin':∀i,i<j->f i≠v:=fun i hi=>by simpa using hmin i hi
 rcases Nat.lt_or_ge j n with h|h
 . have hy:f j=v:=by simpa using hyes h
   refine⟨_,_,_,jjag f n v j,?_,by dsimp only;unfold ZR;omega,by simp[ZZ],fun q hq=>?_⟩
   . have:VZ f n v=true:=List.any_eq_true.2 ⟨j,by simpa using h,by simp[hy]⟩
     simp[bo,this]
   . rw[List.mem_singleton.1 hq]
     exact JR f n v _ (by omega) (by omega) hn j hj hmin' (fun _=>hy) ⟨fun _=>⟨rfl,rfl⟩,fun h=>by omega⟩
 . obtain rfl:j=n:=by omega
   refine⟨_,_,_,jjcf f j v,?_,by dsimp only;unfold ZR;omega,by simp[ZZ],fun q hq=>?_⟩
   . have:VZ f j v=false:=List.any_eq_false.2 fun i hi=>by have:=hmin' i (by simpa using hi);simpa using this
     simp[bo,this]
   . rw[List.mem_singleton.1 hq]
     exact JR f j v _ (by omega) (by omega) hn j hj hmin' (fun h=>by omega) ⟨fun h=>by omega,fun _=>⟨rfl,rfl⟩⟩
def Vg:Yk
 | [.c a,.c (.v (.int .i64 v))],m,_=>match XH 1 m a with|some (n,F,b)=>some (bo (VZ (fA F) n v),[],0,[b,decide (n<=1000000),ZE n F])|none=>none
 |_,_,_=>none
theorem jjce:ZA prog 48 Vg:=by
 refine⟨⟨_,_,Tryz.func48,rfl⟩,fun C β m m2 w args ib r news k' ob vs hct ho hs hr hfree hlim hv=>?_⟩;unfold Vg at hct;split at hct
 . rename_i a v
   split at hct
   . rename_i n F b hsl
     simp only[Option.some.injEq,Prod.mk.injEq] at hct;obtain⟨rfl,rfl,rfl,rfl⟩:=hct;simp only[ZZ,List.forall_mem_cons,decide_eq_true_eq] at ho;obtain⟨rfl,o2,o3,_⟩:=ho;exact NT Vk hs hr hsl o3 hv (OY [.int .i64 v] rfl) (fun _ _ _ h=>h) 3 (jjah (fA F) n v o2)
   . cases hct
 . cases hct
def Mu (P:Program):Env:=⟨P,[(43,VW),(52,RW),(44,VX),(48,Vg)]⟩
theorem KK:ZC (Mu prog):=by
 refine Xf (fun f g h=>?_) (by kernel_rfl) (by kernel_rfl);simp only[Mu,List.mem_cons,Prod.mk.injEq,List.not_mem_nil,or_false] at h;rcases h with⟨rfl,rfl⟩|⟨rfl,rfl⟩|⟨rfl,rfl⟩|⟨rfl,rfl⟩
 . exact HQ
 . exact ET
 . exact HP
 . exact jjce
abbrev Vf (c:Cfg):ABlk:=⟨true,false,25,0,.lit (VU c)⟩
abbrev Oj (c:Cfg) (al:Bool) (k:Nat):List AV:=[.c (.ptr 1000 0 0),bo al,i64 (Int.ofNat c.np),i64 (Int.ofNat k)]
def r5R (P:Program) (c:Cfg) (al:Bool) (k:Nat) (path:List Dec):Option VC:=
 view ([1,3,13,14]++[]) [1,1000] (fC (Mu P) 100 (ZW P 47 0) 1000000000000000000000000000000000000000000 nSt (Wi 27 [1,3,13,14] [1,1000] (Oj c al k) [Zb 3 c.ns c.fs,Vf c] path []))
theorem r5 (c:Cfg) (al:Bool) (k:Nat) (Q:VC->Prop) (H:let zN:=Int.ofNat;let zz0:=[yF 3 1 (yS c),yR 25 0 (Cs.lit [zI (Cfg.nodes c),AC.sl 0 0 0 (Cfg.np c) none,AC.sl 1 0 0 (Cfg.ns c) none,zI (Cfg.long c),AC.sl 2 0 0 (Cfg.nb c) none,AC.sl 3 0 0 (Cfg.nt c) none,zI (Cfg.miss c),zI (Cfg.good c),zI (Cfg.fresh c)])];(((decide (zN k<zN c.np))=true->((al=true->Q (Exit.normal,[some (ZO (List.zip [1,3,13,14] (Oj c al k)) 1),some (.c (zB (VZ c.fs c.ns (zN k)))),some (ZO (List.zip [1,3,13,14] (Oj c al k)) 13),some (.c (zI (IntKind.wrap .i64 (zN k+zN 1))))],zz0,27,1000000000000000000000000000000000000000012,[decide (0+c.ns<=c.ns),decide (c.ns<=1000000),ZE c.ns fun k=>List.map AC.v ((fun i=>[Value.int .i64 (c.fs i)]) k),true,al==true,decide (zN k<zN c.np)==true],[]))/\(al=false->Q (Exit.normal,[some (ZO (List.zip [1,3,13,14] (Oj c al k)) 1),some (.c (zB false)),some (ZO (List.zip [1,3,13,14] (Oj c al k)) 13),some (.c (zI (IntKind.wrap .i64 (zN k+zN 1))))],zz0,27,1000000000000000000000000000000000000000009,[al==false,decide (zN k<zN c.np)==true],[]))))/\((decide (zN k<zN c.np))=false->Q (Exit.exit 0,[some (ZO (List.zip [1,3,13,14] (Oj c al k)) 1),some (ZO (List.zip [1,3,13,14] (Oj c al k)) 3),some (ZO (List.zip [1,3,13,14] (Oj c al k)) 13),some (ZO (List.zip [1,3,13,14] (Oj c al k)) 14)],zz0,27,1000000000000000000000000000000000000000001,[decide (zN k<zN c.np)==false],[])))):
 ∃p r,r5R prog c al k p=some r/\Q r:=
 ZD H (fun g1=>ZD g1 (fun g2=>⟨pD 5 4,_,by kernel_rfl,g2⟩) (fun g2=>⟨pD 5 7,_,by kernel_rfl,g2⟩)) (fun g1=>⟨pD 1 2,_,by kernel_rfl,g1⟩)
abbrev Q3 (c:Cfg) (k:Nat):List AV:=[.c (.ptr 1000 0 0),.c (.sl 3 0 0 c.nt none),i64 (Int.ofNat c.nt),i64 (Int.ofNat k)]
def r9R (P:Program) (c:Cfg) (k:Nat) (path:List Dec):Option VC:=
 view ([1,7,8,9]++[2]) [3,1000] (fC (Mu P) 100 (ZW P 54 0) 1000000000000000000000000000000000000000000 nSt (Wi 33 [1,7,8,9] [3,1000] (Q3 c k) [RL c.nt c.ft,Vf c] path []))
theorem r9 (c:Cfg) (k:Nat) (Q:VC->Prop) (H:let zN:=Int.ofNat;let zz1:=(ABlk.mk false false 70 3 (yT c));let zz0:=[some zz1,yR 25 0 (Cs.lit [zI (Cfg.nodes c),AC.sl 0 0 0 (Cfg.np c) none,AC.sl 1 0 0 (Cfg.ns c) none,zI (Cfg.long c),AC.sl 2 0 0 (Cfg.nb c) none,AC.sl 3 0 0 (Cfg.nt c) none,zI (Cfg.miss c),zI (Cfg.good c),zI (Cfg.fresh c)])];let zz2:=[some (ZO (List.zip [1,7,8,9] (Q3 c k)) 1),some (ZO (List.zip [1,7,8,9] (Q3 c k)) 7),some (ZO (List.zip [1,7,8,9] (Q3 c k)) 8),some (ZO (List.zip [1,7,8,9] (Q3 c k)) 9),some (AV.c (zI (zN 1)))];let zz3:=(Station.hold (c.10 (0+Int.toNat (zN k)))>zN 100);let zz4:=(Station.hold (c.10 (0+Int.toNat (zN k)))<zN 1);let zz5:=(Station.node (c.10 (0+Int.toNat (zN k)))≥zN 0);let zz6:=(Station.node (c.10 (0+Int.toNat (zN k)))<Cfg.nodes c);let zq0:List Bool:=[true,true,true,ABlk.inb zz1 (0+Int.toNat (zN k)) 3,true,true,true,decide (zN 0<=zN k/\zN k < ↑(c.nt)),decide (zN k<zN c.nt)==true];let zq1:List Bool:=y3 (true::(decide zz5==true)::zq0);let zq2:List Bool:=true::true::((!decide zz6)==true)::zq1;let zq3:List Bool:=(decide zz3==false)::zq2;let zq4:List Bool:=true::true::((!decide zz6)==false)::zq1;let zq5:List Bool:=(decide zz3==false)::zq4;let zq6:List Bool:=true::true::(decide zz5==false)::zq0;let zq7:List Bool:=(decide zz3==false)::zq6;let zs0:=fun (l:List (Option AV))=>some (ZO (List.zip [1,7,8,9] (Q3 c k)) 1)::some (ZO (List.zip [1,7,8,9] (Q3 c k)) 7)::some (ZO (List.zip [1,7,8,9] (Q3 c k)) 8)::l;(((decide (zN k<zN c.nt))=true->(((decide zz5)=true->(((!decide zz6)=true->(((decide zz3)=true->Q (Exit.ret,zz2,zz0,33,1170000000000000000000000000000000000000009,(y3 (y3 ((decide zz3==true)::zq2))),[]))/\((decide zz3)=false->(((decide zz4)=true->Q (Exit.ret,zz2,zz0,33,1170000000000000000000000000000000000000009,(y3 (y3 ((decide zz4==true)::zq3))),[]))/\((decide zz4)=false->Q (Exit.ret,zz2,zz0,33,1170000000000000000000000000000000000000009,(y3 (y3 ((decide zz4==false)::zq3))),[]))))))/\((!decide zz6)=false->(((decide zz3)=true->Q (Exit.ret,(zs0 [some (ZO (List.zip [1,7,8,9] (Q3 c k)) 9),some (.c (zI (zN 3)))]),zz0,33,1170000000000000000000000000000000000000009,(zt (true::((decide zz3==true)::zq4))),[]))/\((decide zz3)=false->(((decide zz4)=true->Q (Exit.ret,zz2,zz0,33,1170000000000000000000000000000000000000009,(zt (true::((decide zz4==true)::zq5))),[]))/\((decide zz4)=false->Q (Exit.normal,(zs0 [some (.c (zI (IntKind.wrap .i64 (zN k+zN 1)))),some (ZO (List.zip [1,7,8,9] (Q3 c k)) 2)]),zz0,33,1170000000000000000000000000000000000000009,(y3 (y3 ((decide zz4==false)::zq5))),[]))))))))/\((decide zz5)=false->(((decide zz3)=true->Q (Exit.ret,zz2,zz0,33,1170000000000000000000000000000000000000009,(y3 (y3 ((decide zz3==true)::zq6))),[]))/\((decide zz3)=false->(((decide zz4)=true->Q (Exit.ret,zz2,zz0,33,1170000000000000000000000000000000000000009,(y3 (y3 ((decide zz4==true)::zq7))),[]))/\((decide zz4)=false->Q (Exit.ret,zz2,zz0,33,1170000000000000000000000000000000000000009,(y3 (y3 ((decide zz4==false)::zq7))),[]))))))))/\((decide (zN k<zN c.nt))=false->Q (Exit.exit 0,(zs0 [some (ZO (List.zip [1,7,8,9] (Q3 c k)) 9),some (ZO (List.zip [1,7,8,9] (Q3 c k)) 2)]),zz0,33,1000000000000000000000000000000000000000001,[decide (zN k<zN c.nt)==false],[])))):
 ∃p r,r9R prog c k p=some r/\Q r:=
 ZD H (fun g1=>ZD g1 (fun g2=>ZD g2 (fun g3=>ZD g3 (fun g4=>⟨pD 12 2920,_,by kernel_rfl,g4⟩) (fun g4=>ZD g4 (fun g5=>⟨pD 13 11668,_,by kernel_rfl,g5⟩) (fun g5=>⟨pD 13 18229,_,by kernel_rfl,g5⟩))) (fun g3=>ZD g3 (fun g4=>⟨pD 14 3649,_,by kernel_rfl,g4⟩) (fun g4=>ZD g4 (fun g5=>⟨pD 15 12397,_,by kernel_rfl,g5⟩) (fun g5=>⟨pD 16 18958,_,by kernel_rfl,g5⟩)))) (fun g2=>ZD g2 (fun g3=>⟨pD 12 2194,_,by kernel_rfl,g3⟩) (fun g3=>ZD g3 (fun g4=>⟨pD 13 10942,_,by kernel_rfl,g4⟩) (fun g4=>⟨pD 13 17503,_,by kernel_rfl,g4⟩)))) (fun g1=>⟨pD 1 2,_,by kernel_rfl,g1⟩)
def r5S (c:Cfg) (al:Bool):Zl:=⟨[1,3,13,14],[1,1000],ZQ 27 [(3,bo al)],[],100000000000000000000000000000000000000000000000000,.exit 0⟩
def Gl (P:Program) (c:Cfg) (al:Bool) (path:List Dec):Option VF:=ZB [] (ZM (Mu P) (fC (Mu P) 300) 47 [.agg (VU c)] 1000 nSt (XW (SQ c) path [some (r5S c al)]))
theorem ru5 (c:Cfg) (al:Bool) (Q:VF->Prop) (H:let zz0:=[LoopV prog (ZW prog 47 0) [1,3,13,14] [1,1000] [some (AV.c (AC.ptr 1000 0 0)),some (AV.c (zB (YU (Cfg.fs c) (Cfg.ns c) ↑(Cfg.np c)))),some (AV.c (AC.v (Value.int IntKind.i64 ↑(Cfg.np c)))),some (AV.c (zI (Int.ofNat 0)))] [yF 3 1 (yS c),yR 25 0 (Cs.lit [zI (Cfg.nodes c),AC.sl 0 0 0 (Cfg.np c) none,AC.sl 1 0 0 (Cfg.ns c) none,zI (Cfg.long c),AC.sl 2 0 0 (Cfg.nb c) none,AC.sl 3 0 0 (Cfg.nt c) none,zI (Cfg.miss c),zI (Cfg.good c),zI (Cfg.fresh c)])] 27 1012 (ZQ 27 [(3,bo al)]) [] 100000000000000000000000000000000000000000000000000 (Exit.exit 0) none];let zq0:List Bool:=[true,decide (0+c.ns<=c.ns),decide (c.ns<=1000000),ZE c.ns fun k=>List.map AC.v ((fun i=>[Value.int .i64 (c.fs i)]) k),true,true];(((!al)=true->Q (.c (zI (Int.ofNat 1)),[],100000000000000000000000000000000000000000000000006,(((!al)==true)::zq0),zz0))/\((!al)=false->Q (.c (zI (Int.ofNat 0)),[],100000000000000000000000000000000000000000000000006,(((!al)==false)::zq0),zz0)))):
 ∃p r,Gl prog c al p=some r/\Q r:=
 ZD H (fun g1=>⟨pD 1 1,_,by kernel_rfl,g1⟩) (fun g1=>⟨pD 1 2,_,by kernel_rfl,g1⟩)
def r9S (e:Exit) (l:List (Nat × AV)):Zl:=⟨[1,7,8,9],[3,1000],ZQ 33 l,[],100000000000000000000000000000000000000000000000000,e⟩
def Gm (P:Program) (c:Cfg) (e:Exit) (l:List (Nat × AV)):Option VF:=ZB [] (ZM (Mu P) (fC (Mu P) 300) 54 [.agg (VU c)] 1000 nSt (XW (SQ c) [] [some (r9S e l)]))
theorem jjlv (c:Cfg) (z:Int):Gm prog c .ret [(2,i64 z)]=
 some (.c (.v (.int .i64 z)),[],100000000000000000000000000000000000000000000000000,[true],[LoopV prog (ZW prog 54 0) [1,7,8,9] [3,1000] [some (.c (.ptr 1000 0 0)),some (.c (.sl 3 0 0 (c.nt) none)),some (.c (.v (.int .i64 ↑(c.nt)))),some (.c (.v (.int .i64 (Int.ofNat 0))))] [some (ABlk.mk false false 70 3 (Cs.arr (c.nt) fun k=>List.map AC.v ((fun i=>[Value.int .i64 (Station.node (c.ft i)),Value.int .u32 (Station.safe (c.ft i)),Value.int .i64 (Station.hold (c.ft i))]) k))),some (ABlk.mk true false 25 0 (Cs.lit [.v (.int .i64 (c.nodes)),AC.sl 0 0 0 (c.np) none,AC.sl 1 0 0 (c.ns) none,.v (.int .i64 (c.long)),AC.sl 2 0 0 (c.nb) none,AC.sl 3 0 0 (c.nt) none,.v (.int .i64 (c.miss)),.v (.int .i64 (c.good)),.v (.int .i64 (c.fresh))]))] 33 1006 (ZQ 33 [(2,i64 z)]) [] 100000000000000000000000000000000000000000000000000 Exit.ret none]):=by kernel_rfl
theorem jjp7 (c:Cfg):Gm prog c (.exit 0) []=
 some (.c (.v (.int .i64 (Int.ofNat 0))),[],100000000000000000000000000000000000000000000000001,[true],[LoopV prog (ZW prog 54 0) [1,7,8,9] [3,1000] [some (.c (.ptr 1000 0 0)),some (.c (.sl 3 0 0 (c.nt) none)),some (.c (.v (.int .i64 ↑(c.nt)))),some (.c (.v (.int .i64 (Int.ofNat 0))))] [some (ABlk.mk false false 70 3 (Cs.arr (c.nt) fun k=>List.map AC.v ((fun i=>[Value.int .i64 (Station.node (c.ft i)),Value.int .u32 (Station.safe (c.ft i)),Value.int .i64 (Station.hold (c.ft i))]) k))),some (ABlk.mk true false 25 0 (Cs.lit [.v (.int .i64 (c.nodes)),AC.sl 0 0 0 (c.np) none,AC.sl 1 0 0 (c.ns) none,.v (.int .i64 (c.long)),AC.sl 2 0 0 (c.nb) none,AC.sl 3 0 0 (c.nt) none,.v (.int .i64 (c.miss)),.v (.int .i64 (c.good)),.v (.int .i64 (c.fresh))]))] 33 1006 (ZQ 33 []) [] 100000000000000000000000000000000000000000000000000 (Exit.exit 0) none]):=by kernel_rfl
def Wz (c:Cfg) (k:Nat):Bool:=YU c.fs c.ns c.np&&(List.range k).all fun p=>VZ c.fs c.ns (Int.ofNat p)
theorem Dq (c:Cfg) (k:Nat):Wz c (k+1)=(Wz c k&&VZ c.fs c.ns (Int.ofNat k)):=by
 unfold Wz;rw[List.range_succ,List.all_append,Bool.and_assoc];simp
theorem P8 {N:Nat} {c:Cfg} (hN:4<=N):Zd N (Vf c):=Yg (by simp[VU,YI];omega)
theorem Ge (c:Cfg) (N:Nat) (hN:1001<=N) (hN2:N<=1000000000000000000000000000000000000000000) (hp:c.np<=1000000) (hs:c.ns<=1000000):
 LoopV prog (ZW prog 47 0) [1,3,13,14] [1,1000] ((Oj c (Wz c 0) 0).map some) ([Zb 3 c.ns c.fs,Vf c].map some) 27 N (ZQ 27 [(3,bo (Wz c c.np))]) [] 100000000000000000000000000000000000000000000000000 (.exit 0) none:=by
 have hw:∀k,k<c.np->IntKind.wrap IntKind.i64 (Int.ofNat k+Int.ofNat 1)=Int.ofNat (k+1):=fun k hk=>by rw[Wu _ (by simp;omega) (by simp;omega)];rfl
 refine Rx KK (fuel:=100) (str:=nSt) (nh:=1000000000000000000000000000000000000000000) [1,3,13,14] [] [1,1000] (fun k=>Oj c (Wz c k) k) [Zb 3 c.ns c.fs,Vf c] c.np hN2 (by decide) (by unfold ZR;omega) (by simp) (fun _=>⟨rfl,rfl⟩) ?_ ?_ ?_ ?_ ?_
 . simp[Zc];omega
 . intro k _
   simp[Wb,WZ,YI,XT,i64,bo];omega
 . intro b hb
   simp only[List.mem_cons,List.not_mem_nil,or_false] at hb;rcases hb with rfl|rfl
   . exact Rq
   . exact P8 (by omega)
 . intro k hk
   refine r5 c (Wz c k) k _ ⟨fun c1=>⟨fun c2=>?_,fun c2=>?_⟩,fun c1=>?_⟩
   . refine⟨⟨?_,rfl,by dsimp only;omega,rfl⟩,rfl,?_,BL.refl _⟩
     . simp only[ZZ,List.forall_mem_cons,Yi,c2]
       simp[hs,hk]
     . dsimp only;rw[hw k hk];(try rw[Pf]);rw[Dq,c2];rfl
   . refine⟨⟨?_,rfl,by dsimp only;omega,rfl⟩,rfl,?_,BL.refl _⟩
     . simp only[ZZ,List.forall_mem_cons,c2]
       simp[hk]
     . dsimp only;rw[hw k hk,Dq,c2];rfl
   . simp at c1;omega
 . refine r5 c (Wz c c.np) c.np _ ⟨fun c1=>⟨fun c2=>?_,fun c2=>?_⟩,fun c1=>?_⟩
   . simp at c1
   . simp at c1
   . refine U4 ⟨?_,rfl,by dsimp only;omega,rfl⟩ rfl rfl ?_
     . simp[ZZ]
     . show (3,some _)∈[(1,_),(3,some (bo (Wz c c.np))),(13,_),(14,_)]
       simp
def Xk (c:Cfg):Int:=if Wz c c.np=true then 0 else 1
theorem jjqt:ZA prog 47 (Ys (fun c=>i64 (Xk c)) fun c=>decide (c.np<=1000000)&&decide (c.ns<=1000000)):=by
 refine LD (E:=Mu prog) (fuel:=300) (str:=nSt) KK ⟨_,_,Tryz.func47,rfl⟩ (fun c=>Ux _) fun c hp=>?_
 simp only[Bool.and_eq_true,decide_eq_true_eq] at hp;refine(?_:(∃p r,Gl prog c (Wz c c.np) p=some r/\(r.1=i64 (Xk c)/\r.2.2.1<=ZR/\ZZ r.2.2.2.1/\∀q∈r.2.2.2.2,q))->_) (ru5 c (Wz c c.np) _ ?_)
 . rintro⟨p,r,h1,h2⟩
   exact⟨p,_,r,h1,h2⟩
 . simp only[Pf,Yi]
   have hl:=Ge c 1012 (by omega) (by omega) hp.1 hp.2;refine⟨fun h=>?_,fun h=>?_⟩
   . refine⟨?_,(by first|(unfold ZR;omega)|(dsimp only;unfold ZR;omega)),?_,fun q hq=>?_⟩
     . have:Wz c c.np=false:=by simpa using h
       simp[Xk,this,i64]
     . simp[ZZ,hp,h]
     . rw[List.mem_singleton.1 hq]
       have e:Wz c 0=YU c.fs c.ns c.np:=by simp[Wz]
       rw[e] at hl;exact hl
   . refine⟨?_,(by first|(unfold ZR;omega)|(dsimp only;unfold ZR;omega)),?_,fun q hq=>?_⟩
     . have:Wz c c.np=true:=by simpa using h
       simp[Xk,this,i64]
     . simp[ZZ,hp,h]
     . rw[List.mem_singleton.1 hq]
       have e:Wz c 0=YU c.fs c.ns c.np:=by simp[Wz]
       rw[e] at hl;exact hl
def YX (c:Cfg) (i:Nat):Int:=if 0<=(c.ft i).node/\(c.ft i).node<c.nodes then ZL (c.ft i).hold 1 100 else 1
theorem Ke (c:Cfg) (N:Nat) (hN:1001<=N) (hN2:N<=1000000000000000000000000000000000000000000) (hn:c.nt<=1000000) (j:Nat) (hj:j<=c.nt) (hmin:∀i,i<j->YX c i=0) (hyes:j<c.nt->YX c j≠0) {e:Exit} {out:List (Nat × AV)}
 (hF:(j<c.nt->e= .ret/\out=[(2,i64 (YX c j))])/\(j=c.nt->e= .exit 0/\out=[])):
 LoopV prog (ZW prog 54 0) [1,7,8,9] [3,1000] ((Q3 c 0).map some) ([RL c.nt c.ft,Vf c].map some) 33 N (ZQ 33 out) [] 100000000000000000000000000000000000000000000000000 e none:=by
 have e0:∀k:Nat,0+Int.toNat (Int.ofNat k)=k:=fun k=>by simp
 have hw:∀k,k<c.nt->IntKind.wrap IntKind.i64 (Int.ofNat k+Int.ofNat 1)=Int.ofNat (k+1):=fun k hk=>by rw[Wu _ (by simp;omega) (by simp;omega)];rfl
 refine Rx KK (fuel:=100) (str:=nSt) (nh:=1000000000000000000000000000000000000000000) [1,7,8,9] [2] [3,1000] (Q3 c) [RL c.nt c.ft,Vf c] j hN2 (by decide) (by unfold ZR;omega) ?_ (fun _=>⟨rfl,rfl⟩) ?_ ?_ ?_ ?_ ?_
 . rcases Nat.lt_or_ge j c.nt with h|h
   . rw[(hF.1 h).1];simp
   . rw[(hF.2 (by omega)).1];simp
 . simp[Zc];omega
 . intro k _
   simp[Wb,WZ,YI,XT,i64];omega
 . intro b hb
   simp only[List.mem_cons,List.not_mem_nil,or_false] at hb;rcases hb with rfl|rfl
   . exact Vt
   . exact P8 (by omega)
 . intro k hk
   have hm:=hmin k hk;have hlt:k<c.nt:=by omega
   refine r9 c k _ ?_;simp only[e0];unfold YX ZL at hm
   repeat' (first|refine⟨fun h=>?_,fun h=>?_⟩|fail)
   all_goals (first|(exfalso;simp at *;done)|(exfalso;simp at *;omega)|(exfalso;simp at *;split at hm<;>omega)|(exfalso;simp at *;split at hm<;>first|omega|(split at hm<;>first|omega|(split at hm<;>omega)))|skip)
   all_goals (refine⟨⟨?_,rfl,by dsimp only;omega,rfl⟩,rfl,?_,BL.refl _⟩)
   . simp at *
     simp[ZZ,YK,WI,e0, *]
   . dsimp only;rw[hw k hlt];rfl
 . rcases Nat.lt_or_ge j c.nt with hlt|hge
   . obtain⟨rfl,rfl⟩:=hF.1 hlt
     have hy:=hyes hlt;refine r9 c j _ ?_;simp only[e0]
     repeat' (first|refine⟨fun h=>?_,fun h=>?_⟩|fail)
     all_goals (first
      |(exfalso;simp at *;omega)
      |(have hz:YX c j=0:=(by simp at *;unfold YX ZL;rw[if_pos (by omega),if_neg (by omega),if_neg (by omega)]);exact absurd hz hy)
      |(have hz:YX c j=3:=(by simp at *;unfold YX ZL;rw[if_pos (by omega),if_pos (by omega)]);rw[hz];refine U4 ⟨?_,rfl,by dsimp only;omega,rfl⟩ rfl rfl (by simp[i64]);simp at *;simp[ZZ,YK,WI, *])
      |(have hz:YX c j=1:=(by simp at *;unfold YX ZL;rw[if_pos (by omega),if_neg (by omega),if_pos (by omega)]);rw[hz];refine U4 ⟨?_,rfl,by dsimp only;omega,rfl⟩ rfl rfl (by simp[i64]);simp at *;simp[ZZ,YK,WI, *])
      |(have hz:YX c j=1:=(by simp at *;unfold YX ZL;rw[if_neg (by omega)]);rw[hz];refine U4 ⟨?_,rfl,by dsimp only;omega,rfl⟩ rfl rfl (by simp[i64]);simp at *;simp[ZZ,YK,WI, *]))
   . obtain rfl:j=c.nt:=by omega
     obtain⟨rfl,rfl⟩:=hF.2 rfl;refine r9 c c.nt _ ?_;simp only[e0]
     repeat' (first|refine⟨fun h=>?_,fun h=>?_⟩|fail)
     all_goals (first|(exfalso;simp at *;done)|skip)
     refine Qv ⟨?_,rfl,by dsimp only;omega,rfl⟩ rfl;simp[ZZ]
def XC (c:Cfg):Int:=match (List.range c.nt).find? (fun i=>!(YX c i==0)) with|some j=>YX c j|none=>0
theorem jjqp:ZA prog 54 (Ys (fun c=>i64 (XC c)) fun c=>decide (c.nt<=1000000)):=by
 refine LD (E:=Mu prog) (fuel:=300) (str:=nSt) KK ⟨_,_,Tryz.func54,rfl⟩ (fun c=>Ux _) fun c hp=>?_
 simp only[decide_eq_true_eq] at hp;obtain⟨j,hj,hmin,hyes⟩:=Qn c.nt fun i=>!(YX c i==0)
 have hfd:=CN hmin hj hyes;have hmin':∀i,i<j->YX c i=0:=fun i hi=>by simpa using hmin i hi
 rcases Nat.lt_or_ge j c.nt with h|h
 . have hy:YX c j≠0:=by simpa using hyes h
   rw[if_pos h] at hfd;have hE:XC c=YX c j:=by unfold XC;rw[hfd]
   refine⟨_,_,_,jjlv c (YX c j),by rw[hE];rfl,by dsimp only;unfold ZR;omega,by simp[ZZ],fun q hq=>?_⟩;rw[List.mem_singleton.1 hq];exact Ke c _ (by omega) (by omega) hp j hj hmin' (fun _=>hy) ⟨fun _=>⟨rfl,rfl⟩,fun h=>by omega⟩
 . obtain rfl:j=c.nt:=by omega
   rw[if_neg (by omega)] at hfd;have hE:XC c=0:=by unfold XC;rw[hfd]
   refine⟨_,_,_,jjp7 c,by rw[hE];rfl,by dsimp only;unfold ZR;omega,by simp[ZZ],fun q hq=>?_⟩;rw[List.mem_singleton.1 hq];exact Ke c _ (by omega) (by omega) hp c.nt hj hmin' (fun h=>by omega) ⟨fun h=>by omega,fun _=>⟨rfl,rfl⟩⟩
def TM (n a k:Int):Int:=if 4<=n/\n<=16/\0<=a/\a<n then (a+k) % n else -1
theorem jjj1 (n a k:Int) (h0:4<=n) (h1:n<=16) (h2:0<=a) (h3:a<n):
 (IntKind.wrap IntKind.i64 (Int.tmod (IntKind.wrap IntKind.i64 (a+IntKind.wrap IntKind.i64 (Int.ofNat 1*Int.tmod k n))) n+n)).tmod n=(a+k) % n:=by
 have hn:0<n:=by omega
 have t1:k.tmod n<n:=Int.tmod_lt_of_pos _ hn;have t2: -n<k.tmod n:=Int.lt_tmod_of_pos _ hn;have t3:k.tmod n=k-n*k.tdiv n:=Int.tmod_def k n;rw[show Int.ofNat 1*Int.tmod k n=k.tmod n by simp,Wu (k.tmod n) (by omega) (by omega),Wu (a+k.tmod n) (by omega) (by omega)];generalize ht:k.tmod n=t at *;have u1:(a+t).tmod n<n:=Int.tmod_lt_of_pos _ hn;have u2: -n<(a+t).tmod n:=Int.lt_tmod_of_pos _ hn;have u3:(a+t).tmod n=(a+t)-n*(a+t).tdiv n:=Int.tmod_def _ _;generalize (a+t).tmod n=u at *;rw[Wu (u+n) (by omega) (by omega),Int.tmod_eq_emod_of_nonneg (by omega),Int.add_emod_right,u3,t3];rw[show a+(k-n*k.tdiv n)-n*(a+(k-n*k.tdiv n)).tdiv n=a+k-n*(k.tdiv n+(a+(k-n*k.tdiv n)).tdiv n) by rw[Int.mul_add];omega];exact Int.sub_mul_emod_self_left _ _ _
theorem jjj2 (n a k:Int):∃p r,Kh prog n 0 a k p=some r/\(r.1=i64 (TM n a k)/\r.2.2.1<=ZR/\ZZ r.2.2.2.1/\∀q∈r.2.2.2.2,q):=by
 refine stp n a k _ ?_
 repeat' (first|refine⟨fun h=>?_,fun h=>?_⟩|fail)
 all_goals (refine⟨?_,by dsimp only;unfold ZR;omega,?_,by simp⟩)
 all_goals first
  | (have hm:4<=n/\n<=16/\0<=a/\a<n:=(by simp at *;omega)
     show i64 _=i64 _;rw[jjj1 n a k (by omega) (by omega) (by omega) (by omega)];unfold TM;rw[if_pos hm];done)
  | (have hm:¬(4<=n/\n<=16/\0<=a/\a<n):=(by simp at *;omega)
     show i64 _=i64 _;unfold TM;rw[if_neg hm];rfl)
  |(simp at *;simp[ZZ, *];done)
  |(simp at *;simp[ZZ, *];omega)
  |(simp_all[ZZ];done)
  |(simp_all[ZZ];omega)
def Qh:Yk
 | [.c (.v (.int .i64 n)),.c (.v (.int .u8 d)),.c (.v (.int .i64 a)),.c (.v (.int .i64 k))],m,_=>match decide (d=0),WG mS m with|true,true=>some (i64 (TM n a k),[],0,[])|_,_=>none
 |_,_,_=>none
theorem jjnt:ZA prog 61 Qh:=by
 refine⟨⟨_,_,Tryz.func61,rfl⟩,fun C β m m2 w args ib r news k' ob vs hct ho hs hr hfree hlim hv=>?_⟩;unfold Qh at hct;split at hct
 . rename_i n d a k
   split at hct
   . rename_i hd hg
     have hd:=of_decide_eq_true hd;subst hd;simp only[Option.some.injEq,Prod.mk.injEq] at hct;obtain⟨rfl,rfl,rfl,rfl⟩:=hct;cases hv;obtain⟨p,⟨v,b',n',ob,po⟩,hrun,hvr,hn,hob,hpo⟩:=jjj2 n a k;obtain⟨s',r1,r2,r3,r4⟩:=T7 hrun;have hn:n'<=ZR:=hn;refine(Xa Vk r1 ⟨by rw[r3];exact hob,by rw[r4];exact hpo⟩ (C:=ZG w) (β:=TW β) (w:=w) (vs:=[.int .i64 n,.int .u8 0,.int .i64 a,.int .i64 k]) rfl (Nt hr hs hg (by kernel_rfl)) (fun id h1 h2=>by unfold TW;rw[if_neg (by omega)])).mono ?_;rintro e w' ⟨β',u,rfl,_,_,hu,hr'⟩;simp only at hvr;subst hvr;cases hu;exact⟨β,_,rfl,Ext.refl _,fun _ _=>rfl,rfl,by rw[List.append_nil];exact hr.below (So hr')⟩
   . cases hct
 . cases hct
def B4 (P:Program):Env:=⟨P,[(61,Qh)]⟩
theorem BT:ZC (B4 prog):=by
 refine Xf (fun f g h=>?_) (by kernel_rfl) (by kernel_rfl);simp only[B4,List.mem_cons,Prod.mk.injEq,List.not_mem_nil,or_false] at h;obtain⟨rfl,rfl⟩:=h;exact jjnt
def Zo (c:Cfg) (i:Nat):Int:=if i % 2=0 then c.fp (i / 2) else TM c.nodes (c.fp (i / 2)) 1
abbrev OS (c:Cfg) (k:Nat):ABlk:=WH 3 1 (2*k) fun i=>[.int .i64 (Zo c i)]
abbrev S3 (c:Cfg) (k:Nat):List (Nat × AV):=[(1,.c (.ptr 1000 0 0)),(2,.c (.sl 2000 0 0 (2*k) none)),(6,.c (.sl 0 0 0 c.np none)),(7,i64 (Int.ofNat c.np)),(8,i64 (Int.ofNat k))]
abbrev He (c:Cfg) (k:Nat):AMem:=[(2000,OS c k),(0,Zb 3 c.np c.fp),(1000,Vf c),(Z2 0,Zr)]
def C2 (P:Program) (c:Cfg) (k:Nat) (path:List Dec):Option VC:=
 view [1,2,6,7,8] [2000,1000000000000000000000000000000000000000010,0,1000,Z2 0] (fC (B4 P) 100 (ZW P 17 0) 1000000000000000000000000000000000000000000 nSt ⟨ZQ 22 (S3 c k),He c k,0,0,false,path,[],[],[],none,[]⟩)
theorem Hd (c:Cfg) (k:Nat) (Q:VC->Prop) (H:let zN:=Int.ofNat;let zs0:=fun (l:List (Option ABlk))=>yF 3 1 (yP c)::yR 25 0 (Cs.lit [zI c.nodes,AC.sl 0 0 0 c.np none,AC.sl 1 0 0 c.ns none,zI c.long,AC.sl 2 0 0 c.nb none,AC.sl 3 0 0 c.nt none,zI c.miss,zI c.good,zI c.fresh])::yF 172 0 (Cs.lit [zI (zN 1),zI (Int.negSucc 0)])::l;let zs1:=fun (l:List (Option AV))=>some (ZO (S3 c k) (0+1+1+1+1+1+1))::some (ZO (S3 c k) (0+1+1+1+1+1+1+1))::l;(((decide (zN k<zN c.np))=true->Q (Exit.normal,(some (ZO (S3 c k) (0+1))::some (.c (.sl 1000000000000000000000000000000000000000010 0 0 (2*k+2) none))::zs1 [some (.c (zI (IntKind.wrap .i64 (zN k+zN 1))))]),(none::yO 3 1 (Cs.arr (2*k+2) fun i=>if i<2*k then List.map AC.v ((fun i=>[Value.int .i64 (Zo c i)]) i) else YW (ABlk.mk true false 3 0 (Cs.lit [zI (c.fp (0+Int.toNat (zN k))),zI (TM c.nodes (c.fp (0+Int.toNat (zN k))) (zN 1))])) 0 0 1 (i-2*k))::zs0 []),22,1000000000000000000000000000000000000000014,[true,true,decide (2*k<=2*k),decide ((2*k+2)*8<=140737488355328),true,true,ABlk.inb (ABlk.mk false false 3 1 (yP c)) (0+Int.toNat (zN k)) 1,true,decide (zN 0<=zN k/\zN k < ↑(c.np)),decide (zN k<zN c.np)==true],[]))/\((decide (zN k<zN c.np))=false->Q (Exit.exit 0,(some (ZO (S3 c k) (0+1))::some (ZO (S3 c k) (0+1+1))::zs1 [some (ZO (S3 c k) (0+1+1+1+1+1+1+1+1))]),(yO 3 1 (Cs.arr (2*k) fun k=>List.map AC.v ((fun i=>[Value.int .i64 (Zo c i)]) k))::none::zs0 []),22,1000000000000000000000000000000000000000001,[decide (zN k<zN c.np)==false],[])))):
 ∃p r,C2 prog c k p=some r/\Q r:=
 ZD H (fun g1=>⟨pD 1 1,_,by kernel_rfl,g1⟩) (fun g1=>⟨pD 1 2,_,by kernel_rfl,g1⟩)
theorem jjn9 (c:Cfg) (hp:c.np<=1000):
 LoopV prog (ZW prog 17 0) [1,2,6,7,8] [0,1000,Z2 0] [some (.c (.ptr 1000 0 0)),some (.c (.v (.slice none 0 0))),some (.c (.sl 0 0 0 c.np none)),some (i64 (Int.ofNat c.np)),some (i64 0)] [some (Zb 3 c.np c.fp),some (Vf c),some Zr] 22 1006
  (ZQ 22 [(2,.c (.sl 2000 0 0 (2*c.np) none))]) [(2000,OS c c.np)] 100000000000000000000000000000000000000000000000000 (.exit 0) none:=by
 refine Pd BT (fuel:=100) (S:=Nat) (inv:=fun k=>k<=c.np) (μ:=fun k=>c.np-k) (tmI:=fun k=>ZQ 22 (S3 c k)) (mI:=fun k=>He c k) (nh:=1000000000000000000000000000000000000000000) (str:=nSt) (by omega) (by omega) (fun _ h=>by cases h) (s0:=0) (by omega) ?_ ?_
 . intro tm m g1 g2 g3
   simp only[List.map_cons,List.map_nil,List.cons.injEq,and_true] at g1 g2;obtain⟨s1,s2,s6,s7,s8⟩:=g1;obtain⟨b0,b1,b2⟩:=g2;refine UA (ρ:=fun _=>.inr 1) (by omega) (by omega) (by unfold ZR;omega) g3 ?_ ?_ ?_
   . kernel_rfl
   . exact⟨.inr (.inr (.inl ⟨by omega,by omega,rfl,Nat.one_pos,_,rfl⟩)),.inl ⟨.inl (by omega),b0,Rq⟩,.inl ⟨.inl (by omega),b1,P8 (by omega)⟩,.inl ⟨.inr (by unfold Z2;omega),b2,Yg rfl⟩,trivial⟩
   . exact⟨⟨_,s1,by simp,Yp rfl⟩,⟨_,s2,by simp,M3 (by omega) (by omega) (by omega) rfl⟩,⟨_,s6,by simp,Yp rfl⟩,⟨_,s7,by simp[i64],WP rfl⟩,⟨_,s8,by simp[i64],WP rfl⟩,trivial⟩
 . intro k hk
   have e0:0+Int.toNat (Int.ofNat k)=k:=by simp
   refine(?_:(∃p r,C2 prog c k p=some r/\_)->_) (Hd c k (fun r=>ZZ r.2.2.2.2.2.1/\r.2.2.2.2.2.2=[]/\r.2.2.2.2.1<=100000000000000000000000000000000000000000000000000/\
    ∀ st':St,[1,2,6,7,8].map (fun t=>st'.tm[t]?)=r.2.1->[2000,1000000000000000000000000000000000000000010,0,1000,Z2 0].map (ZY st'.m)=r.2.2.1->st'.tm.length=r.2.2.2.1->
     ((r.1= .normal/\∃s',s'<=c.np/\c.np-s'<c.np-k/\Wk 1006 1000000000000000000000000000000000000000000 100000000000000000000000000000000000000000000000000 st'.tm st'.m (ZQ 22 (S3 c s')) (He c s'))\/
      (r.1≠ .normal/\r.1= .exit 0/\Wk 1006 100000000000000000000000000000000000000000000000000 100000000000000000000000000000000000000000000000000 st'.tm st'.m (ZQ 22 [(2,.c (.sl 2000 0 0 (2*c.np) none))]) [(2000,OS c c.np)]))) ⟨fun c1=>?_,fun c1=>?_⟩)
   . rintro⟨p,⟨e,l,b,len,n1,ob,po⟩,hv,hob,hpo,hn1,hw⟩
     obtain⟨st,v1,v2,v3,v4,v6,v7,v8⟩:=P3 hv;exact⟨p,[],e,n1,st,v1,hn1,⟨by rw[v6];exact hob,by rw[v7];have hpo:po=[]:=hpo;rw[hpo];simp⟩,v8,hw st v2 v3 v4⟩
   . have hlt:k<c.np:=by simpa using c1
     refine⟨?_,rfl,by dsimp only;omega,fun st' v2 v3 v4=>.inl ⟨rfl,k+1,by omega,by omega,?_⟩⟩
     . simp only[ZZ,List.forall_mem_cons,e0]
       simp[YK,hlt];omega
     . simp only[List.map_cons,List.map_nil,List.cons.injEq,and_true] at v2 v3
       obtain⟨s1,s2,s6,s7,s8⟩:=v2;obtain⟨_,b22,b0,b1,b2⟩:=v3;refine UA (ρ:=fun _=>.inl 1000000000000000000000000000000000000000010) (by omega) (by omega) (by unfold ZR;omega) v4 ?_ ?_ ?_
       . kernel_rfl
       . refine⟨.inr (.inl ⟨by omega,by omega,_,_,rfl,b22,?_,Y8⟩),.inl ⟨.inl (by omega),b0,Rq⟩,.inl ⟨.inl (by omega),b1,P8 (by omega)⟩,.inl ⟨.inr (by unfold Z2;omega),b2,Yg rfl⟩,trivial⟩
         refine⟨rfl,rfl,rfl,rfl,.inr (.inl ⟨2*k+2,_,_,rfl,rfl,fun i hi=>?_⟩)⟩;by_cases h1:i<2*k
         . simp[h1]
         . by_cases h2:i=2*k
           . subst h2
             simp[YW,Zo,e0]
           . obtain rfl:i=2*k+1:=by omega
             have hm:(2*k+1) % 2=1:=by omega
             have hd:(2*k+1) / 2=k:=by omega
             simp[YW,Zo,e0,hm,hd]
       . exact⟨⟨_,s1,by simp[ZO],Yp rfl⟩,⟨_,s2,by simp,Vs (by omega) (by omega) (by omega) rfl⟩,⟨_,s6,by simp[ZO],Yp rfl⟩,⟨_,s7,by simp[i64,ZO],WP rfl⟩,
          ⟨_,s8,by simp,WP (by rw[Wu _ (by simp;omega) (by simp;omega)];simp)⟩,trivial⟩
   . have hlt:¬k<c.np:=by simpa using c1
     obtain rfl:k=c.np:=by omega
     refine⟨?_,rfl,by dsimp only;omega,fun st' v2 v3 v4=>.inr ⟨by simp,rfl,?_⟩⟩
     . simp[ZZ]
     . simp only[List.map_cons,List.map_nil,List.cons.injEq,and_true] at v2 v3
       obtain⟨s1,s2,s6,s7,s8⟩:=v2;obtain⟨b22,_⟩:=v3;refine UA (ρ:=fun _=>.inl 2000) (by omega) (by omega) (by unfold ZR;omega) v4 rfl ?_ ?_
       . exact⟨.inr (.inl ⟨by omega,by omega,2000,_,rfl,b22,BEq.refl _,Y8⟩),trivial⟩
       . exact⟨⟨_,s2,by simp[ZO],Vs (by omega) (by omega) (by omega) rfl⟩,trivial⟩
def hlvS (c:Cfg):Zl:=⟨[1,2,6,7,8],[0,1000,Z2 0],ZQ 22 [(2,.c (.sl 2000 0 0 (2*c.np) none))],[(2000,OS c c.np)],100000000000000000000000000000000000000000000000000,.exit 0⟩
def hlv1 (P:Program) (c:Cfg):Option VF:=ZB [2000] (ZM (B4 P) (fC (B4 P) 300) 17 [.agg (VU c)] 1000 nSt (XW (SQ c) [] [some (hlvS c)]))
theorem jjna (c:Cfg):hlv1 prog c=
 some (.c (.sl 2000 0 0 (2*c.np) none),[some (ABlk.mk true true 3 1 (Cs.arr (2*c.np) fun k=>List.map AC.v ((fun i=>[Value.int .i64 (Zo c i)]) k)))],100000000000000000000000000000000000000000000000002,[true],[LoopV prog (ZW prog 17 0) [1,2,6,7,8] [0,1000,Z2 0] [some (.c (.ptr 1000 0 0)),some (.c (AC.v (Value.slice none 0 0))),some (.c (.sl 0 0 0 (c.np) none)),some (.c (.v (.int .i64 ↑(c.np)))),some (.c (.v (.int .i64 (Int.ofNat 0))))] [some (ABlk.mk false false 3 1 (Cs.arr (c.np) fun k=>List.map AC.v ((fun i=>[Value.int .i64 (c.fp i)]) k))),some (ABlk.mk true false 25 0 (Cs.lit [.v (.int .i64 (c.nodes)),AC.sl 0 0 0 (c.np) none,AC.sl 1 0 0 (c.ns) none,.v (.int .i64 (c.long)),AC.sl 2 0 0 (c.nb) none,AC.sl 3 0 0 (c.nt) none,.v (.int .i64 (c.miss)),.v (.int .i64 (c.good)),.v (.int .i64 (c.fresh))])),some (ABlk.mk false false 172 0 (Cs.lit [.v (.int .i64 (Int.ofNat 1)),.v (.int .i64 (Int.negSucc 0))]))] 22 1006 (ZQ 22 [(2,.c (.sl 2000 0 0 (2*c.np) none))]) [(2000,OS c (c.np))] 100000000000000000000000000000000000000000000000000 (Exit.exit 0) none]):=by kernel_rfl
def UU:Yk
 | [.agg l],m,ib=>
  match US l m,WG mS m with
  |some (c,b),true=>some (.c (.sl ib 0 0 (2*c.np) none),[(ib,OS c c.np)],1,[b,decide (c.np<=1000)])
  |_,_=>none
 |_,_,_=>none
theorem Dm : ZA prog 17 UU:=by
 refine⟨⟨_,_,Tryz.func17,rfl⟩,fun C β m m2 w args ib r news k' ob vs hct ho hs hr hfree hlim hv=>?_⟩;unfold UU at hct;split at hct
 . rename_i l
   split at hct
   . rename_i c b hc hg
     simp only[Option.some.injEq,Prod.mk.injEq] at hct;obtain⟨rfl,rfl,rfl,rfl⟩:=hct;simp only[ZZ,List.forall_mem_cons,decide_eq_true_eq] at ho;obtain⟨rfl,o2,_⟩:=ho;obtain⟨s',r1,r2,r3,r4⟩:=T7 (jjna c);simp only[γt,γ1] at hv;split at hv
     . rename_i v0 us hv0 hus
       split at hv0
       . rename_i cs hcs
         cases hv0;cases hus;cases hv;obtain⟨β1,q1,q2,q3⟩:=LL hs hr hc hg hcs;refine(Xa BT r1 ⟨by rw[r3];simp[ZZ],by rw[r4];intro q hq;rw[List.mem_singleton.1 hq];exact jjn9 c o2⟩ (C:=ZG w) (β:=β1) (w:=w) (vs:=[.agg cs.toArray]) ?_ q1 (fun id h1 h2=>q3 id h1 (by unfold ZR;omega))).mono ?_
         . simp only[γt,γ1,q2]
         . rintro e w' ⟨β',u,rfl,_,_,hu,hr'⟩
           simp only[List.map_cons,List.map_nil,List.cons.injEq,and_true] at r2;obtain⟨L,hL,hb⟩:=hr'.blk 2000 _ r2;have hid:β ib=none:=hfree ib (Nat.le_refl _) (by omega);refine⟨ZU β ib L,u,rfl,Wq hid,fun id h=>?_,?_,?_⟩
           . unfold ZU
             rw[if_neg (by omega)]
           . simp only[γ,γ1,γc,hL] at hu
             simp only[γ,γ1,γc,W9];exact hu
           . refine S8 hr (So hr') hid (W8 (by omega)) hr' r2 rfl rfl (fun k j _=>?_) hL
             match j with
             |0=>exact⟨_,rfl⟩
             |j+1=>exact⟨_,rfl⟩
       . cases hv0
     . cases hv
   . cases hct
 . cases hct
abbrev SU (v:Int) (n k:Nat):List AV:=[.c (.sl 0 0 0 n none),i64 v,i64 (Int.ofNat n),i64 (Int.ofNat k)]
def ixlR (P:Program) (f:Nat->Int) (n:Nat) (v:Int) (k:Nat) (path:List Dec):Option VC:=
 view ([0,1,7,8]++[4]) [0] (fC (E1 P) 100 (ZW P 108 0) 1000000000000000000000000000000000000000000 nSt (Wi 19 [0,1,7,8] [0] (SU v n k) [Zb 2 n f] path []))
theorem ixl (f:Nat->Int) (n:Nat) (v:Int) (k:Nat) (Q:VC->Prop) (H:let zN:=Int.ofNat;let zq0:List Bool:=[ABlk.inb (ABlk.mk false false 2 1 (Cs.arr n fun k=>List.map AC.v ((fun i=>[Value.int .i64 (f i)]) k))) (0+Int.toNat (zN k)) 1,true,decide (zN 0<=zN k/\zN k < ↑n),decide (zN k<zN n)==true];let zs0:=fun (l:List (Option AV))=>some (ZO (List.zip [0,1,7,8] (SU v n k)) 0)::some (ZO (List.zip [0,1,7,8] (SU v n k)) (0+1))::some (ZO (List.zip [0,1,7,8] (SU v n k)) (0+1+1+1+1+1+1+1))::l;(((decide (zN k<zN n))=true->(((v==f (0+Int.toNat (zN k)))=true->Q (Exit.ret,(zs0 [some (ZO (List.zip [0,1,7,8] (SU v n k)) (0+1+1+1+1+1+1+1+1)),some (.c (zI (zN k)))]),[yF 2 1 (Cs.arr n fun k=>List.map AC.v ((fun i=>[Value.int .i64 (f i)]) k))],19,1000000000000000000000000000000000000000011,(((v==f (0+Int.toNat (zN k)))==true)::zq0),[]))/\((v==f (0+Int.toNat (zN k)))=false->Q (Exit.normal,(zs0 [some (.c (zI (IntKind.wrap .i64 (zN k+zN 1)))),some (ZO (List.zip [0,1,7,8] (SU v n k)) (0+1+1+1+1))]),[yF 2 1 (Cs.arr n fun k=>List.map AC.v ((fun i=>[Value.int .i64 (f i)]) k))],19,1000000000000000000000000000000000000000011,(((v==f (0+Int.toNat (zN k)))==false)::zq0),[]))))/\((decide (zN k<zN n))=false->Q (Exit.exit 0,(zs0 [some (ZO (List.zip [0,1,7,8] (SU v n k)) (0+1+1+1+1+1+1+1+1)),some (ZO (List.zip [0,1,7,8] (SU v n k)) (0+1+1+1+1))]),[yF 2 1 (Cs.arr n fun k=>List.map AC.v ((fun i=>[Value.int .i64 (f i)]) k))],19,1000000000000000000000000000000000000000001,[decide (zN k<zN n)==false],[])))):
 ∃p r,ixlR prog f n v k p=some r/\Q r:=
 ZD H (fun g1=>ZD g1 (fun g2=>⟨pD 2 4,_,by kernel_rfl,g2⟩) (fun g2=>⟨pD 2 7,_,by kernel_rfl,g2⟩)) (fun g1=>⟨pD 1 2,_,by kernel_rfl,g1⟩)
def ixlS (e:Exit) (l:List (Nat × AV)):Zl:=⟨[0,1,7,8],[0],ZQ 19 l,[],100000000000000000000000000000000000000000000000000,e⟩
def Tk (P:Program) (f:Nat->Int) (n:Nat) (v:Int) (e:Exit) (l:List (Nat × AV)):Option VF:=
 ZB [] (ZM (E1 P) (fC (E1 P) 300) 78 [.c (.sl 0 0 0 n none),i64 v] 1000 nSt (XW [(0,Zb 2 n f)] [] [some (ixlS e l)]))
theorem jj91 (f:Nat->Int) (n:Nat) (v:Int) (j:Nat):Tk prog f n v .ret [(4,i64 (Int.ofNat j))]=
 some (.c (.v (.bool true)),[],100000000000000000000000000000000000000000000000002,[],[LoopV prog (ZW prog 108 0) [0,1,7,8] [0] [some (.c (.sl 0 0 0 n none)),some (.c (.v (.int .i64 v))),some (.c (.v (.int .i64 ↑n))),some (.c (.v (.int .i64 (Int.ofNat 0))))] [some (ABlk.mk false false 2 1 (Cs.arr n fun k=>List.map AC.v ((fun i=>[Value.int .i64 (f i)]) k)))] 19 1007 (ZQ 19 [(4,i64 (Int.ofNat j))]) [] 100000000000000000000000000000000000000000000000000 Exit.ret none]):=by kernel_rfl
theorem jjai (f:Nat->Int) (n:Nat) (v:Int):Tk prog f n v (.exit 0) []=
 some (.c (.v (.bool false)),[],100000000000000000000000000000000000000000000000003,[],[LoopV prog (ZW prog 108 0) [0,1,7,8] [0] [some (.c (.sl 0 0 0 n none)),some (.c (.v (.int .i64 v))),some (.c (.v (.int .i64 ↑n))),some (.c (.v (.int .i64 (Int.ofNat 0))))] [some (ABlk.mk false false 2 1 (Cs.arr n fun k=>List.map AC.v ((fun i=>[Value.int .i64 (f i)]) k)))] 19 1007 (ZQ 19 []) [] 100000000000000000000000000000000000000000000000000 (Exit.exit 0) none]):=by kernel_rfl
end Go.Proofs.YtljeokninakliaaGreatDoor
end
