/- Parts, one behind the other. Parts of a proof. -/
import Derived.Test.YtodpbgbpifiniaaGreatDoorJModelsPlay14
import Derived.Test.YtodpbgbpifiniaaGreatDoorJModelsPlay12
import Derived.Test.YtodpbgbpifiniaaGreatDoorJModelsPlay16
import Derived.Test.YtodpbgbpifiniaaGreatDoorJModelsPlay9
set_option linter.unusedSimpArgs false
set_option linter.unusedVariables false
set_option maxRecDepth 1000000
set_option maxHeartbeats 4000000
section
namespace Go.Proofs.YtodpbgbpifiniaaGreatDoor
open Go.RowKit Tryz
theorem Ai:ZC prog 126 MU:=by
 refine⟨⟨_,_,Tryz.func126,rfl⟩,fun C β m m2 w args ib r news k' ob vs hct ho hs hr hfree hlim hv=>?_⟩;unfold MU at hct;split at hct
 . rename_i x
   simp only[Option.some.injEq,Prod.mk.injEq] at hct;obtain⟨rfl,rfl,rfl,rfl⟩:=hct;simp only[ZZ,List.forall_mem_cons,decide_eq_true_eq] at ho;obtain⟨o1,o2,_⟩:=ho;cases hv;refine(Tryz.bits_Len x w o1 o2).mono ?_;rintro e w' ⟨rfl,rfl⟩;exact⟨β,_,rfl,Ext.refl _,fun _ _=>rfl,rfl,by rw[List.append_nil];exact hr⟩
 . cases hct
def N7:List (FuncId × Yq):=[(101,Hv),(121,Cc),(126,MU)]
theorem jjht:∀f g,(f,g)∈N7->ZC prog f g:=by
 intro f g h;simp only[N7,List.mem_cons,Prod.mk.injEq,List.not_mem_nil,or_false] at h;rcases h with⟨rfl,rfl⟩|⟨rfl,rfl⟩|⟨rfl,rfl⟩
 . exact JC
 . exact Ch
 . exact Ai
def Q9 (P:Program):Env:=⟨P,N7⟩
theorem NP:Zz (Q9 prog):=Xp jjht (by kernel_rfl) (by kernel_rfl)
abbrev UU (m:Nat) (s:Nat->Int) (f:Nat->Nat):ABlk:=XD 177 2 m fun i=>[.int .u16 (s (f i)),.int .i64 (Int.ofNat (f i))]
abbrev TS (m:Nat) (f:Nat->Nat):ABlk:=XD 3 1 m fun i=>[.int .i64 (Int.ofNat (f i))]
abbrev r1H:List Nat:=[0,3,4,5,11]
abbrev r1S (vid:Nat) (m:Nat) (s:Nat->Int) (f:Nat->Nat):Zh:=⟨r1H,Y6++[vid],ZT 53 [(5,.c (.sl 2000 0 0 m none))],[(2000,UU m s f)],100000000000000000000000000000000000000000000000000,.exit 0⟩
abbrev r2H:List Nat:=[0,1,2,3,8]
abbrev r2S (m:Nat) (s:Nat->Int) (g:Nat->Nat):Zh:=⟨r2H,[2000],ZT 53 [],[(2000,UU m s g)],1000000000000000000000000000000000000000000000000000000,.exit 0⟩
abbrev Oc:List Nat:=[8,39,40,41]
abbrev r3S (oid m:Nat) (g:Nat->Nat):Zh:=⟨Oc,[2000,oid],ZT 53 [(8,.c (.sl oid 0 0 m none))],[(oid,TS m g)],100000000000000000000000000000000000000000000000000000000,.exit 2⟩
abbrev S9:Nat:=1000000000000000000000000000000000000000000000000000002
def ftE (P:Program) (c:Cfg) (nq:Nat) (fq:Nat->Int) (v:Vw) (path:List Dec) (lp:List (Option Zh)):Option VF:=ZB [S9] (ZJ (Q9 P) (fC (Q9 P) 300) 104 [.c (.ptr 5 0 0),.agg (ZW v)] 1000 nSt (Y7 (RB c nq fq) path lp))
theorem Bh (c:Cfg) (nq:Nat) (fq:Nat->Int) (v:Vw) (m:Nat) (f g:Nat->Nat) (Q:VF->Prop) (H:let zN:=Int.ofNat;let zM:=ABlk.mk;Q (.c (.sl 1000000000000000000000000000000000000000000000000000002 0 0 m none),[yO 3 1 (Cs.arr m fun k=>List.map AC.v ((fun i=>[Value.int .i64 (zN (g i))]) k))],100000000000000000000000000000000000000000000000000000002,[decide (zN 0 <= ↑m/\(zN m=zN m)/\ ↑m*zN 8<=zN 140737488355328),decide (IntKind.wrap .i64 (↑m-zN 0)<=zN 12)==true,true,decide (IntKind.wrap .u64 ↑m<=zN 18446744073709551615)],[LoopV prog (ZY prog 104 1) Oc [2000,S9] [some (.c (.sl 1000000000000000000000000000000000000000000000000000002 0 0 (Int.toNat ↑m) none)),some (.c (.sl 2000 0 0 m none)),some (.c (zI ↑m)),some (.c (zI (zN 0)))] [yO 177 2 (Cs.arr m fun k=>List.map AC.v ((fun i=>[Value.int .u16 (Vw.score v (g i)),Value.int .i64 (zN (g i))]) k)),yO 3 1 (Cs.arr (Int.toNat ↑m) fun x=>List.map AC.v (Array.toList (Value.cells (Value.int .i64 0))))] 53 1000000000000000000000000000000000000000000000000000007 (ZT 53 [(8,.c (.sl S9 0 0 m none))]) [(S9,TS m g)] 100000000000000000000000000000000000000000000000000000000 (Exit.exit 2) none,LoopV prog (ZY prog 141 0) r2H [2000] [some (.c (.sl 2000 0 0 m none)),some (.c (zI (zN 0))),some (.c (zI ↑m)),some (.c (AC.v (Value.func (Fn.func 121) (Array.mk []) (Array.mk [])))),some (.c (zI (zN 1)))] [yO 177 2 (Cs.arr m fun k=>List.map AC.v ((fun i=>[Value.int .u16 (Vw.score v (f i)),Value.int .i64 (zN (f i))]) k))] 53 100000000000000000000000000000000000000000000000024 (ZT 53 []) [(2000,UU m (Vw.score v) g)] 1000000000000000000000000000000000000000000000000000000 (Exit.exit 0) none,LoopV prog (ZY prog 104 0) r1H (Y6++[1000]) [some (.c (.ptr 5 0 0)),some (.c (.ptr 1000 0 0)),some (.c (AC.v (Value.slice none 0 0))),some (.c (AC.v (Value.slice none 0 0))),some (.c (zI (zN 0)))] [yF 159 0 (Cs.lit [zI (zN 1),zI (Int.negSucc 0)]),yF 3 1 (yP c),yF 3 1 (yS c),yF 3 1 (yB c),yF 85 3 (yT c),yF 3 1 (Cs.arr nq fun k=>List.map AC.v ((fun i=>[Value.int .i64 (fq i)]) k)),yF 81 0 (Cs.lit [zI c.nodes,AC.sl 0 0 0 c.np none,AC.sl 1 0 0 c.ns none,zI c.long,AC.sl 2 0 0 c.nb none,AC.sl 3 0 0 c.nt none,zI c.miss,zI c.good,zI c.fresh,AC.sl 4 0 0 nq none]),yR 32 0 (Cs.lit (ZW v))] 53 1004 (ZT 53 [(5,.c (.sl 2000 0 0 m none))]) [(2000,UU m (Vw.score v) f)] 100000000000000000000000000000000000000000000000000 (Exit.exit 0) none])):
 ∃p r,ftE prog c nq fq v p [some (r1S 1000 m v.score f),none,some (r2S m v.score g),some (r3S S9 m g)]=some r/\Q r:=
 ⟨pD 1 1,_,by kernel_rfl,H⟩
abbrev r1I:List Nat:=Y6++[1000,2000]
abbrev Kf (m k:Nat):List AV:=[.c (.ptr 5 0 0),.c (.ptr 1000 0 0),.c (.v (.slice none 0 0)),.c (.sl 2000 0 0 m none),i64 (Int.ofNat k)]
def r1R (P:Program) (c:Cfg) (nq:Nat) (fq:Nat->Int) (v:Vw) (m:Nat) (f:Nat->Nat) (k:Nat) (path:List Dec):Option VC:=
 view r1H (2000::1000000000000000000000000000000000000000019::1000000000000000000000000000000000000000021::(Y6++[1000])) (fC (Q9 P) 100 (ZY P 104 0) 1000000000000000000000000000000000000000000 nSt (WR 53 r1H r1I (Kf m k) (X2 c nq fq++[Yv v,UU m v.score f]) path []))
theorem rk1 (c:Cfg) (nq:Nat) (fq:Nat->Int) (v:Vw) (m:Nat) (f:Nat->Nat) (k:Nat) (Q:VC->Prop) (H:let zN:=Int.ofNat;let zM:=ABlk.mk;let zD:=Int.toNat;let zq0:List Bool:=(YM c nq fq)::(pW VM (Y3.mk c nq fq [AV.agg (ZW v),.c (zI (zN k))]))::(zu (zt (y3 (((decide (zN k<zN 8)==true)::[])))));let zq1:List Bool:=((W9 (ZE c nq fq (zN k)) (Zv (List.getD (ZW v) (zD (zN k)) ZS)) (ZP (List.getD (ZW v) (24+zD (zN k)) ZS))==zN 1)==false)::zq0;let ze0:Option AV:=some (.c (zI (IntKind.wrap .i64 (zN k+zN 1))));let zs0:=fun (l:List (Option ABlk))=>yF 159 0 (Cs.lit [zI (zN 1),zI (Int.negSucc 0)])::yF 3 1 (yP c)::yF 3 1 (yS c)::yF 3 1 (yB c)::yF 85 3 (yT c)::yF 3 1 (Cs.arr nq fun k=>List.map AC.v ((fun i=>[Value.int .i64 (fq i)]) k))::yF 81 0 (Cs.lit [zI c.nodes,AC.sl 0 0 0 c.np none,AC.sl 1 0 0 c.ns none,zI c.long,AC.sl 2 0 0 c.nb none,AC.sl 3 0 0 c.nt none,zI c.miss,zI c.good,zI c.fresh,AC.sl 4 0 0 nq none])::yR 32 0 (Cs.lit (ZW v))::l;let zs1:=fun (l:List (Option AV))=>some (ZN (List.zip r1H (Kf m k)) 0)::some (ZN (List.zip r1H (Kf m k)) (0+1+1+1))::some (ZN (List.zip r1H (Kf m k)) (0+1+1+1+1))::l;(((decide (zN k<zN 8))=true->(((W9 (ZE c nq fq (zN k)) (Zv (List.getD (ZW v) (zD (zN k)) ZS)) (ZP (List.getD (ZW v) (24+zD (zN k)) ZS))==zN 1)=true->Q (Exit.normal,(zs1 [some (.c (.sl 1000000000000000000000000000000000000000019 0 0 (m+1) none)),ze0]),(none::yO 177 2 (Cs.arr (m+1) fun i=>if i<m then List.map AC.v ((fun i=>[Value.int .u16 (Vw.score v (f i)),Value.int .i64 (zN (f i))]) i) else Z8 (zM true false 177 0 (Cs.lit [zH (ZP (List.getD (ZW v) (24+zD (zN k)*1) ZS)),zI (zN k)])) 0 0 2 (i-m))::none::zs0 []),53,1000000000000000000000000000000000000000023,(true::true::(decide (m<=m))::(decide ((m+1)*16<=140737488355328))::(ABlk.inb (zM true false 32 0 (Cs.lit (ZW v))) 0 (24+zD (zN k)*1+1))::(Zq (Kd.i .u16) (List.getD (ZW v) (24+zD (zN k)*1) ZS))::(decide (zN 0<=zN k/\zN k<zN 8))::((W9 (ZE c nq fq (zN k)) (Zv (List.getD (ZW v) (zD (zN k)) ZS)) (ZP (List.getD (ZW v) (24+zD (zN k)) ZS))==zN 1)==true)::zq0),[]))/\((W9 (ZE c nq fq (zN k)) (Zv (List.getD (ZW v) (zD (zN k)) ZS)) (ZP (List.getD (ZW v) (24+zD (zN k)) ZS))==zN 1)=false->(((W9 (ZE c nq fq (zN k)) (Zv (List.getD (ZW v) (zD (zN k)) ZS)) (ZP (List.getD (ZW v) (24+zD (zN k)) ZS))==zN 2)=true->Q (Exit.normal,(zs1 [some (.c (.sl 1000000000000000000000000000000000000000021 0 0 (m+1) none)),ze0]),(none::none::yO 177 2 (Cs.arr (m+1) fun i=>if i<m then List.map AC.v ((fun i=>[Value.int .u16 (Vw.score v (f i)),Value.int .i64 (zN (f i))]) i) else Z8 (zM true false 177 0 (Cs.lit [zH (ZP (List.getD (ZW v) (24+zD (zN k)*1) ZS)),zI (zN k)])) 0 0 2 (i-m))::zs0 []),53,1000000000000000000000000000000000000000025,(true::true::(decide (m<=m))::(decide ((m+1)*16<=140737488355328))::(ABlk.inb (zM true false 32 0 (Cs.lit (ZW v))) 0 (24+zD (zN k)*1+1))::(Zq (Kd.i .u16) (List.getD (ZW v) (24+zD (zN k)*1) ZS))::(decide (zN 0<=zN k/\zN k<zN 8))::((W9 (ZE c nq fq (zN k)) (Zv (List.getD (ZW v) (zD (zN k)) ZS)) (ZP (List.getD (ZW v) (24+zD (zN k)) ZS))==zN 2)==true)::zq1),[]))/\((W9 (ZE c nq fq (zN k)) (Zv (List.getD (ZW v) (zD (zN k)) ZS)) (ZP (List.getD (ZW v) (24+zD (zN k)) ZS))==zN 2)=false->Q (Exit.normal,(zs1 [some (ZN (List.zip r1H (Kf m k)) (0+1+1+1+1+1)),ze0]),(yO 177 2 (Cs.arr m fun k=>List.map AC.v ((fun i=>[Value.int .u16 (Vw.score v (f i)),Value.int .i64 (zN (f i))]) k))::none::none::zs0 []),53,1000000000000000000000000000000000000000015,(((W9 (ZE c nq fq (zN k)) (Zv (List.getD (ZW v) (zD (zN k)) ZS)) (ZP (List.getD (ZW v) (24+zD (zN k)) ZS))==zN 2)==false)::zq1),[]))))))/\((decide (zN k<zN 8))=false->Q (Exit.exit 0,(zs1 [some (ZN (List.zip r1H (Kf m k)) (0+1+1+1+1+1)),some (ZN (List.zip r1H (Kf m k)) (0+1+1+1+1+1+1+1+1+1+1+1))]),(yO 177 2 (Cs.arr m fun k=>List.map AC.v ((fun i=>[Value.int .u16 (Vw.score v (f i)),Value.int .i64 (zN (f i))]) k))::none::none::zs0 []),53,1000000000000000000000000000000000000000001,[decide (zN k<zN 8)==false],[])))):
 ∃p r,r1R prog c nq fq v m f k p=some r/\Q r:=
 ZL H (fun g1=>ZL g1 (fun g2=>⟨pD 4 4,_,by kernel_rfl,g2⟩) (fun g2=>ZL g2 (fun g3=>⟨pD 4 34,_,by kernel_rfl,g3⟩) (fun g3=>⟨pD 4 61,_,by kernel_rfl,g3⟩))) (fun g1=>⟨pD 1 2,_,by kernel_rfl,g1⟩)
abbrev QS (m i:Nat):List AV:=[.c (.sl 2000 0 0 m none),i64 0,i64 (Int.ofNat m),.c (.v (.func (.func 121) #[] #[])),i64 (Int.ofNat i)]
abbrev QT:List Nat:=[0,1,2,3,8,9]
abbrev Oy (m i j:Nat):List AV:=QS m i++[i64 (Int.ofNat j)]
def r4R (P:Program) (m:Nat) (s:Nat->Int) (f:Nat->Nat) (i j:Nat) (path:List Dec):Option VC:=
 view (QT++[]) [2000] (fC (Q9 P) 100 (ZY P 141 1) 10000000000000000000000000000000000000000000000000000 nSt (WR 53 QT [2000] (Oy m i j) [UU m s f] path []))
theorem rk4 (m:Nat) (s:Nat->Int) (f:Nat->Nat) (i j:Nat) (Q:VC->Prop) (H:let zN:=Int.ofNat;let zD:=Int.toNat;let zq0:List Bool:=[true,true,ABlk.inb (ABlk.mk true true 177 2 (Cs.arr m fun k=>List.map AC.v ((fun i=>[Value.int .u16 (s (f i)),Value.int .i64 (zN (f i))]) k))) (0+zD (IntKind.wrap .i64 (zN j-zN 1))) 2,true,true,decide (zN 0<=IntKind.wrap .i64 (zN j-zN 1)/\IntKind.wrap .i64 (zN j-zN 1) < ↑m),ABlk.inb (ABlk.mk true true 177 2 (Cs.arr m fun k=>List.map AC.v ((fun i=>[Value.int .u16 (s (f i)),Value.int .i64 (zN (f i))]) k))) (0+zD (zN j)) 2,true,true,decide (zN 0<=zN j/\zN j < ↑m),decide (zN j>zN 0)==true];let zs0:=fun (l:List (Option AV))=>some (ZN (List.zip QT (Oy m i j)) 0)::some (ZN (List.zip QT (Oy m i j)) (0+1))::some (ZN (List.zip QT (Oy m i j)) (0+1+1))::some (ZN (List.zip QT (Oy m i j)) (0+1+1+1))::some (ZN (List.zip QT (Oy m i j)) (0+1+1+1+1+1+1+1+1))::l;let zs1:=fun (l:List AC)=>zH (s (f (0+zD (IntKind.wrap .i64 (zN j-zN 1)))))::zI (zN (f (0+zD (IntKind.wrap .i64 (zN j-zN 1)))))::l;(((decide (zN j>zN 0))=true->(((decide (Mf (s (f (0+zD (zN j)))) (zN (f (0+zD (zN j)))) (s (f (0+zD (IntKind.wrap .i64 (zN j-zN 1))))) (zN (f (0+zD (IntKind.wrap .i64 (zN j-zN 1)))))<zN 0))=true->Q (Exit.normal,(zs0 [some (.c (zI (IntKind.wrap .i64 (zN j-zN 1))))]),[yO 177 2 (Cs.arr m fun i=>if i=0+zD (IntKind.wrap .i64 (zN j-zN 1)) then YB ((fun i=>if i=0+zD (zN j) then YB ((fun k=>List.map AC.v ((fun i=>[Value.int .u16 (s (f i)),Value.int .i64 (zN (f i))]) k)) i) 0 (zs1 []) else List.map AC.v ((fun i=>[Value.int .u16 (s (f i)),Value.int .i64 (zN (f i))]) i)) i) 0 [zH (s (f (0+zD (zN j)))),zI (zN (f (0+zD (zN j))))] else if i=0+zD (zN j) then YB ((fun k=>List.map AC.v ((fun i=>[Value.int .u16 (s (f i)),Value.int .i64 (zN (f i))]) k)) i) 0 (zs1 []) else List.map AC.v ((fun i=>[Value.int .u16 (s (f i)),Value.int .i64 (zN (f i))]) i))],53,10000000000350000000000000000000000000000000000000003,((ABlk.inb (ABlk.mk true true 177 2 (Cs.arr m fun i=>if i=0+zD (zN j) then YB ((fun k=>List.map AC.v ((fun i=>[Value.int .u16 (s (f i)),Value.int .i64 (zN (f i))]) k)) i) 0 (zs1 []) else List.map AC.v ((fun i=>[Value.int .u16 (s (f i)),Value.int .i64 (zN (f i))]) i))) (0+zD (IntKind.wrap .i64 (zN j-zN 1))) 2)::(decide (zN 0<=IntKind.wrap .i64 (zN j-zN 1)/\IntKind.wrap .i64 (zN j-zN 1) < ↑m))::(ABlk.inb (ABlk.mk true true 177 2 (Cs.arr m fun k=>List.map AC.v ((fun i=>[Value.int .u16 (s (f i)),Value.int .i64 (zN (f i))]) k))) (0+zD (zN j)) 2)::(decide (zN 0<=zN j/\zN j < ↑m))::(ABlk.inb (ABlk.mk true true 177 2 (Cs.arr m fun k=>List.map AC.v ((fun i=>[Value.int .u16 (s (f i)),Value.int .i64 (zN (f i))]) k))) (0+zD (zN j)) 2)::true::true::(decide (zN 0<=zN j/\zN j < ↑m))::(ABlk.inb (ABlk.mk true true 177 2 (Cs.arr m fun k=>List.map AC.v ((fun i=>[Value.int .u16 (s (f i)),Value.int .i64 (zN (f i))]) k))) (0+zD (IntKind.wrap .i64 (zN j-zN 1))) 2)::true::true::(decide (zN 0<=IntKind.wrap .i64 (zN j-zN 1)/\IntKind.wrap .i64 (zN j-zN 1) < ↑m))::(decide (Mf (s (f (0+zD (zN j)))) (zN (f (0+zD (zN j)))) (s (f (0+zD (IntKind.wrap .i64 (zN j-zN 1))))) (zN (f (0+zD (IntKind.wrap .i64 (zN j-zN 1)))))<zN 0)==true)::zq0),[]))/\((decide (Mf (s (f (0+zD (zN j)))) (zN (f (0+zD (zN j)))) (s (f (0+zD (IntKind.wrap .i64 (zN j-zN 1))))) (zN (f (0+zD (IntKind.wrap .i64 (zN j-zN 1)))))<zN 0))=false->Q (Exit.exit 2,(zs0 [some (ZN (List.zip QT (Oy m i j)) (0+1+1+1+1+1+1+1+1+1))]),[yO 177 2 (Cs.arr m fun k=>List.map AC.v ((fun i=>[Value.int .u16 (s (f i)),Value.int .i64 (zN (f i))]) k))],53,10000000000170000000000000000000000000000000000000000,((decide (Mf (s (f (0+zD (zN j)))) (zN (f (0+zD (zN j)))) (s (f (0+zD (IntKind.wrap .i64 (zN j-zN 1))))) (zN (f (0+zD (IntKind.wrap .i64 (zN j-zN 1)))))<zN 0)==false)::zq0),[]))))/\((decide (zN j>zN 0))=false->Q (Exit.exit 2,(zs0 [some (ZN (List.zip QT (Oy m i j)) (0+1+1+1+1+1+1+1+1+1))]),[yO 177 2 (Cs.arr m fun k=>List.map AC.v ((fun i=>[Value.int .u16 (s (f i)),Value.int .i64 (zN (f i))]) k))],53,10000000000170000000000000000000000000000000000000000,[decide (zN j>zN 0)==false],[])))):
 ∃p r,r4R prog m s f i j p=some r/\Q r:=
 ZL H (fun g1=>ZL g1 (fun g2=>⟨pD 13 531442,_,by kernel_rfl,g2⟩) (fun g2=>⟨pD 13 1062883,_,by kernel_rfl,g2⟩)) (fun g1=>⟨pD 13 2,_,by kernel_rfl,g1⟩)
abbrev r4S (m i:Nat) (s:Nat->Int) (g:Nat->Nat):Zh:=⟨QT,[2000],ZT 53 (r2H.zip (QS m i)),[(2000,UU m s g)],100000000000000000000000000000000000000000000000000000,.exit 2⟩
def r2R (P:Program) (m:Nat) (s:Nat->Int) (f:Nat->Nat) (i:Nat) (path:List Dec) (lp:List (Option Zh)):Option VC:=
 view (r2H++[]) [2000] (fC (Q9 P) 100 (ZY P 141 0) 1000000000000000000000000000000000000000000000000000 nSt (WR 53 r2H [2000] (QS m i) [UU m s f] path lp))
theorem rk2 (m:Nat) (s:Nat->Int) (f g:Nat->Nat) (i:Nat) (Q:VC->Prop) (H:let zN:=Int.ofNat;let zs0:=fun (l:List (Option AV))=>some (ZN (List.zip r2H (QS m i)) 0)::some (ZN (List.zip r2H (QS m i)) (0+1))::some (ZN (List.zip r2H (QS m i)) (0+1+1))::some (ZN (List.zip r2H (QS m i)) (0+1+1+1))::l;(((decide (zN i<zN m))=true->Q (Exit.normal,(zs0 [some (.c (zI (IntKind.wrap .i64 (zN i+zN 1))))]),[yO 177 2 (Cs.arr m fun k=>List.map AC.v ((fun i=>[Value.int .u16 (s (g i)),Value.int .i64 (zN (g i))]) k))],53,100000000000000000000000000000000000000000000000000003,[decide (zN i<zN m)==true],[LoopV prog (ZY prog 141 1) QT [2000] [some (.c (.sl 2000 0 0 m none)),some (.c (zI (zN 0))),some (.c (zI (zN m))),some (.c (AC.v (Value.func (Fn.func 121) (Array.mk []) (Array.mk [])))),some (.c (zI (zN i))),some (.c (zI (zN i)))] [yO 177 2 (Cs.arr m fun k=>List.map AC.v ((fun i=>[Value.int .u16 (s (f i)),Value.int .i64 (zN (f i))]) k))] 53 1000000000000000000000000000000000000000000000000005 (ZT 53 (List.zip r2H (QS m i))) [(2000,UU m s g)] 100000000000000000000000000000000000000000000000000000 (Exit.exit 2) none]))/\((decide (zN i<zN m))=false->Q (Exit.exit 0,(zs0 [some (ZN (List.zip r2H (QS m i)) (0+1+1+1+1+1+1+1+1))]),[yO 177 2 (Cs.arr m fun k=>List.map AC.v ((fun i=>[Value.int .u16 (s (f i)),Value.int .i64 (zN (f i))]) k))],53,1000000000000000000000000000000000000000000000000003,[decide (zN i<zN m)==false],[])))):
 ∃p r,r2R prog m s f i p [some (r4S m i s g)]=some r/\Q r:=
 ZL H (fun g1=>⟨pD 1 1,_,by kernel_rfl,g1⟩) (fun g1=>⟨pD 1 2,_,by kernel_rfl,g1⟩)
abbrev Kg (m k:Nat):List AV:=[.c (.sl S9 0 0 m none),.c (.sl 2000 0 0 m none),i64 (Int.ofNat m),i64 (Int.ofNat k)]
def r3R (P:Program) (m:Nat) (s:Nat->Int) (g h:Nat->Nat) (k:Nat) (path:List Dec):Option VC:=
 view (Oc++[]) [2000,S9] (fC (Q9 P) 100 (ZY P 104 1) 10000000000000000000000000000000000000000000000000000000 nSt (WR 53 Oc [2000,S9] (Kg m k) [UU m s g,TS m h] path []))
theorem rk3 (m:Nat) (s:Nat->Int) (g h:Nat->Nat) (k:Nat) (Q:VC->Prop) (H:let zN:=Int.ofNat;let zs0:=fun (l:List (Option AV))=>some (ZN (List.zip Oc (Kg m k)) (0+1+1+1+1+1+1+1+1))::some (ZN (List.zip Oc (Kg m k)) (0+1+1+1+1+1+1+1+1+1+1+1+1+1+1+1+1+1+1+1+1+1+1+1+1+1+1+1+1+1+1+1+1+1+1+1+1+1+1+1))::some (ZN (List.zip Oc (Kg m k)) (0+1+1+1+1+1+1+1+1+1+1+1+1+1+1+1+1+1+1+1+1+1+1+1+1+1+1+1+1+1+1+1+1+1+1+1+1+1+1+1+1))::l;(((decide (zN k<zN m))=true->Q (Exit.normal,(zs0 [some (.c (zI (IntKind.wrap .i64 (zN k+zN 1))))]),[yO 177 2 (Cs.arr m fun k=>List.map AC.v ((fun i=>[Value.int .u16 (s (g i)),Value.int .i64 (zN (g i))]) k)),yO 3 1 (Cs.arr m fun i=>if i=0+Int.toNat (zN k) then YB ((fun k=>List.map AC.v ((fun i=>[Value.int .i64 (zN (h i))]) k)) i) 0 [zI (zN (g (0+Int.toNat (zN k))))] else List.map AC.v ((fun i=>[Value.int .i64 (zN (h i))]) i))],53,10000000000000000000000000000000000000000000000000000015,[ABlk.inb (ABlk.mk true true 3 1 (Cs.arr m fun k=>List.map AC.v ((fun i=>[Value.int .i64 (zN (h i))]) k))) (0+Int.toNat (zN k)) 1,decide (zN 0<=zN k/\zN k < ↑m),true,true,true,ABlk.inb (ABlk.mk true true 177 2 (Cs.arr m fun k=>List.map AC.v ((fun i=>[Value.int .u16 (s (g i)),Value.int .i64 (zN (g i))]) k))) (0+Int.toNat (zN k)) 2,true,true,decide (zN 0<=zN k/\zN k < ↑m),decide (zN k<zN m)==true],[]))/\((decide (zN k<zN m))=false->Q (Exit.exit 2,(zs0 [some (ZN (List.zip Oc (Kg m k)) (0+1+1+1+1+1+1+1+1+1+1+1+1+1+1+1+1+1+1+1+1+1+1+1+1+1+1+1+1+1+1+1+1+1+1+1+1+1+1+1+1+1))]),[yO 177 2 (Cs.arr m fun k=>List.map AC.v ((fun i=>[Value.int .u16 (s (g i)),Value.int .i64 (zN (g i))]) k)),yO 3 1 (Cs.arr m fun k=>List.map AC.v ((fun i=>[Value.int .i64 (zN (h i))]) k))],53,10000000000000000000000000000000000000000000000000000001,[decide (zN k<zN m)==false],[])))):
 ∃p r,r3R prog m s g h k p=some r/\Q r:=
 ZL H (fun g1=>⟨pD 1 1,_,by kernel_rfl,g1⟩) (fun g1=>⟨pD 1 2,_,by kernel_rfl,g1⟩)
theorem LL {h sc:Int} {b:Bool} (e:W9 h b sc=1\/W9 h b sc=2):0<=h/\b=true:=by
 unfold W9 at e;by_cases h0:h<0
 . rw[if_pos h0] at e;omega
 . rw[if_neg h0] at e
   cases b
   . rw[if_pos rfl] at e;omega
   . exact⟨by omega,rfl⟩
theorem Fs {h sc:Int} {b:Bool} (e1:W9 h b sc≠1) (e2:W9 h b sc≠2):¬(0<=h/\b=true):=by
 rintro⟨h0,rfl⟩;unfold W9 at e1 e2;rw[if_neg (by omega),if_neg (by simp)] at e1 e2;by_cases h1:sc<16
 . rw[if_pos h1] at e1;omega
 . rw[if_neg h1] at e2;omega
theorem EJ {t:Nat->Bool} {k i:Nat} (h:i<ZK t k):Wr t (k+1) i=Wr t k i:=by
 unfold Wr;have h':i<(WV t k).length:=by rw[Sm];exact h
 rw[show WV t (k+1)=WV t k++if t k=true then[k] else[] from rfl];simp only[List.getD_eq_getElem?_getD,List.getElem?_append_left h']
theorem EK {t:Nat->Bool} {k:Nat} (h:t k=true):Wr t (k+1) (ZK t k)=k:=by
 unfold Wr;rw[show WV t (k+1)=WV t k++if t k=true then[k] else[] from rfl,if_pos h];have h':(WV t k).length<=ZK t k:=by rw[Sm];exact Nat.le_refl _
 simp only[List.getD_eq_getElem?_getD,List.getElem?_append_right h',Sm];simp
theorem jjhe {t:Nat->Bool} {k:Nat} (h:t k=false):Wr t (k+1)=Wr t k:=by
 funext i;unfold Wr;rw[show WV t (k+1)=WV t k++if t k=true then[k] else[] from rfl,h];simp
abbrev r1F (m k:Nat):List (Nat × AV):=r1H.zip (Kf m k)
abbrev GJ (c:Cfg) (nq:Nat) (fq:Nat->Int) (v:Vw) (k:Nat):AMem:=r1I.zip (X2 c nq fq++[Yv v,UU (ZK (YL c nq fq v) k) v.score (Wr (YL c nq fq v) k)])
theorem L7 {c:Cfg} {nq n:Nat} (hn:10<=n):Zc n (JU c nq):=by
 have hc:∀i,i<10->Nat.blt i n=true:=fun i h=>by rw[Nat.blt_eq];omega
 exact XW (by simp[Yu,hc 0 (by omega),hc 1 (by omega),hc 2 (by omega),hc 3 (by omega),hc 4 (by omega),Nat.blt_eq];try omega)
def R1Q (c:Cfg) (nq:Nat) (fq:Nat->Int) (v:Vw) (k:Nat) (r:VC):Prop:=
 ZZ r.2.2.2.2.2.1/\r.2.2.2.2.2.2=[]/\r.2.2.2.2.1<=100000000000000000000000000000000000000000000000000/\
  ∀ st':St,r1H.map (fun t=>st'.tm[t]?)=r.2.1->(2000::1000000000000000000000000000000000000000019::1000000000000000000000000000000000000000021::(Y6++[1000])).map (ZX st'.m)=r.2.2.1->st'.tm.length=r.2.2.2.1->
   ((r.1= .normal/\∃s',s'<=8/\8-s'<8-k/\Wk 1004 1000000000000000000000000000000000000000000 100000000000000000000000000000000000000000000000000 st'.tm st'.m (ZT 53 (r1F (ZK (YL c nq fq v) s') s')) (GJ c nq fq v s'))\/
    (r.1≠ .normal/\r.1= .exit 0/\Wk 1004 100000000000000000000000000000000000000000000000000 100000000000000000000000000000000000000000000000000 st'.tm st'.m (ZT 53 [(5,.c (.sl 2000 0 0 (ZK (YL c nq fq v) 8) none))]) [(2000,UU (ZK (YL c nq fq v) 8) v.score (Wr (YL c nq fq v) 8))]))
theorem jjmx (c:Cfg) (nq:Nat) (fq:Nat->Int) (v:Vw) (h8:c.np<=8):
 LoopV prog (ZY prog 104 0) r1H (Y6++[1000]) [some (.c (.ptr 5 0 0)),some (.c (.ptr 1000 0 0)),some (.c (.v (.slice none 0 0))),some (.c (.v (.slice none 0 0))),some (i64 (Int.ofNat 0))] ((X2 c nq fq++[Yv v]).map some) 53 1004
  (ZT 53 [(5,.c (.sl 2000 0 0 (ZK (YL c nq fq v) 8) none))]) [(2000,UU (ZK (YL c nq fq v) 8) v.score (Wr (YL c nq fq v) 8))] 100000000000000000000000000000000000000000000000000 (.exit 0) none:=by
 refine Pd NP (fuel:=100) (S:=Nat) (inv:=fun k=>k<=8) (μ:=fun k=>8-k) (tmI:=fun k=>ZT 53 (r1F (ZK (YL c nq fq v) k) k)) (mI:=fun k=>GJ c nq fq v k) (nh:=1000000000000000000000000000000000000000000) (str:=nSt) (by omega) (by omega) (fun _ h=>by cases h) (s0:=0) (by omega) ?_ ?_
 . intro tm m g1 g2 g3
   simp only[List.map_cons,List.map_nil,List.cons_append,List.nil_append,List.cons.injEq,and_true] at g1 g2;obtain⟨s0,s3,s4,s5,s11⟩:=g1;obtain⟨bg,b0,b1,b2,b3,b4,b5,bv⟩:=g2;refine V5 (ρ:=fun _=>.inr 2) (by omega) (by omega) (by unfold ZQ;omega) g3 ?_ ?_ ?_
   . kernel_rfl
   . exact⟨.inl ⟨.inr (by unfold YR;omega),bg,XW rfl⟩,.inl ⟨.inl (by omega),b0,WU⟩,.inl ⟨.inl (by omega),b1,WU⟩,.inl ⟨.inl (by omega),b2,WU⟩,.inl ⟨.inl (by omega),b3,WU⟩,.inl ⟨.inl (by omega),b4,WU⟩,.inl ⟨.inl (by omega),b5,L7 (by omega)⟩,.inl ⟨.inl (by omega),bv,WA⟩,.inr (.inr (.inl ⟨by omega,by omega,rfl,(show (0:Nat)<2 by omega),_,rfl⟩)),trivial⟩
   . exact⟨⟨_,s0,by simp,Xb rfl⟩,⟨_,s3,by simp,Xb rfl⟩,⟨_,s4,by simp,Xb rfl⟩,⟨_,s5,by simp,Qx (by omega) (by omega) (by omega) rfl⟩,⟨_,s11,by simp[i64],WM rfl⟩,trivial⟩
 . intro k hk
   refine(?_:(∃p r,r1R prog c nq fq v (ZK (YL c nq fq v) k) (Wr (YL c nq fq v) k) k p=some r/\_)->_) (rk1 c nq fq v (ZK (YL c nq fq v) k) (Wr (YL c nq fq v) k) k (R1Q c nq fq v k) ?_)
   . rintro⟨p,⟨e,l,b,len,n1,ob,po⟩,hv,hob,hpo,hn1,hw⟩
     obtain⟨st,v1,v2,v3,v4,v6,v7,v8⟩:=P2 hv;exact⟨p,[],e,n1,st,v1,hn1,⟨by rw[v6];exact hob,by rw[v7];have hpo:po=[]:=hpo;rw[hpo];simp⟩,v8,hw st v2 v3 v4⟩
   . rcases Nat.lt_or_ge k 8 with hlt|hge
     . have hw:IntKind.wrap IntKind.i64 (Int.ofNat k+Int.ofNat 1)=Int.ofNat (k+1):=by rw[XG _ (by simp;omega) (by simp;omega)];simp
       have a0:=Wc v k hlt;have b0:=TJ v k hlt;obtain⟨a4,b4⟩:=SJ v k hlt;have e0:0+Int.toNat (Int.ofNat k)*1=Int.toNat (Int.ofNat k):=by simp
       have e1:24+Int.toNat (Int.ofNat k)*1=24+Int.toNat (Int.ofNat k):=by simp
       rw[e0] at a0 b0;rw[e1] at a4 b4;have hin:YL c nq fq v k=(decide (0<=ZE c nq fq (Int.ofNat k))&&v.inn k):=rfl;have hpw:pW VM ⟨c,nq,fq,[.agg (ZW v),.c (.v (.int .i64 (Int.ofNat k)))]⟩=true:=by simp[pW,VM,WT,h8]
       have hc:=Rt (YL c nq fq v) k;have hcs:=Sj (YL c nq fq v) k;simp only[e0,e1,a0,b0,a4,b4,hw,hpw];refine⟨fun c1=>⟨fun c2=>?_,fun c2=>⟨fun c3=>?_,fun c3=>?_⟩⟩,fun c1=>?_⟩
       . have hy:YL c nq fq v k=true:=by
          obtain⟨q1,q2⟩:=LL (.inl (by simpa using c2));rw[hin,q2,Bool.and_true];exact decide_eq_true q1
         rw[hy] at hcs;refine⟨?_,rfl,by dsimp only;omega,fun st' v2 v3 v4=>.inl ⟨rfl,k+1,by omega,by omega,?_⟩⟩
         . simp[ZZ,hlt,Yk,Vw.len,YZ,YU,YT,YO,YE,YF] at c2 ⊢
           omega
         . simp only[List.map_cons,List.map_nil,List.cons_append,List.nil_append,List.cons.injEq,and_true] at v2 v3
           obtain⟨s0,s3,s4,s5,s11⟩:=v2;obtain⟨_,b22,_,bg,b0,b1,b2,b3,b4,b5,bv⟩:=v3;simp only[if_true] at hcs;unfold GJ;rw[hcs];refine V5 (ρ:=fun _=>.inl 1000000000000000000000000000000000000000019) (by omega) (by omega) (by unfold ZQ;omega) v4 ?_ ?_ ?_
           . kernel_rfl
           . exact⟨.inl ⟨.inr (by unfold YR;omega),bg,XW rfl⟩,.inl ⟨.inl (by omega),b0,WU⟩,.inl ⟨.inl (by omega),b1,WU⟩,.inl ⟨.inl (by omega),b2,WU⟩,.inl ⟨.inl (by omega),b3,WU⟩,.inl ⟨.inl (by omega),b4,WU⟩,.inl ⟨.inl (by omega),b5,L7 (by omega)⟩,.inl ⟨.inl (by omega),bv,WA⟩,.inr (.inl ⟨by omega,by omega,_,_,rfl,b22,Iv (f:=fun i=>[.int .u16 (v.score (Wr (YL c nq fq v) k i)),.int .i64 (Int.ofNat (Wr (YL c nq fq v) k i))]) (l:=[.int .u16 (v.score k),.int .i64 (Int.ofNat k)]) (g:=fun i=>[.int .u16 (v.score (Wr (YL c nq fq v) (k+1) i)),.int .i64 (Int.ofNat (Wr (YL c nq fq v) (k+1) i))]) rfl (fun i hi=>by simp only[EJ hi]) (by simp only[EK hy]),XT⟩),trivial⟩
           . exact⟨⟨_,s0,by simp[ZN],Xb rfl⟩,⟨_,s3,by simp[ZN],Xb rfl⟩,⟨_,s4,by simp[ZN],Xb rfl⟩,⟨_,s5,by simp,WN (by omega) (by omega) (by omega) rfl⟩,⟨_,s11,by simp,WM rfl⟩,trivial⟩
       . have hy:YL c nq fq v k=true:=by
          obtain⟨q1,q2⟩:=LL (.inr (by simpa using c3));rw[hin,q2,Bool.and_true];exact decide_eq_true q1
         rw[hy] at hcs;refine⟨?_,rfl,by dsimp only;omega,fun st' v2 v3 v4=>.inl ⟨rfl,k+1,by omega,by omega,?_⟩⟩
         . simp[ZZ,hlt,Yk,Vw.len,YZ,YU,YT,YO,YE,YF] at c2 c3 ⊢
           omega
         . simp only[List.map_cons,List.map_nil,List.cons_append,List.nil_append,List.cons.injEq,and_true] at v2 v3
           obtain⟨s0,s3,s4,s5,s11⟩:=v2;obtain⟨_,_,b22,bg,b0,b1,b2,b3,b4,b5,bv⟩:=v3;simp only[if_true] at hcs;unfold GJ;rw[hcs];refine V5 (ρ:=fun _=>.inl 1000000000000000000000000000000000000000021) (by omega) (by omega) (by unfold ZQ;omega) v4 ?_ ?_ ?_
           . kernel_rfl
           . exact⟨.inl ⟨.inr (by unfold YR;omega),bg,XW rfl⟩,.inl ⟨.inl (by omega),b0,WU⟩,.inl ⟨.inl (by omega),b1,WU⟩,.inl ⟨.inl (by omega),b2,WU⟩,.inl ⟨.inl (by omega),b3,WU⟩,.inl ⟨.inl (by omega),b4,WU⟩,.inl ⟨.inl (by omega),b5,L7 (by omega)⟩,.inl ⟨.inl (by omega),bv,WA⟩,.inr (.inl ⟨by omega,by omega,_,_,rfl,b22,Iv (f:=fun i=>[.int .u16 (v.score (Wr (YL c nq fq v) k i)),.int .i64 (Int.ofNat (Wr (YL c nq fq v) k i))]) (l:=[.int .u16 (v.score k),.int .i64 (Int.ofNat k)]) (g:=fun i=>[.int .u16 (v.score (Wr (YL c nq fq v) (k+1) i)),.int .i64 (Int.ofNat (Wr (YL c nq fq v) (k+1) i))]) rfl (fun i hi=>by simp only[EJ hi]) (by simp only[EK hy]),XT⟩),trivial⟩
           . exact⟨⟨_,s0,by simp[ZN],Xb rfl⟩,⟨_,s3,by simp[ZN],Xb rfl⟩,⟨_,s4,by simp[ZN],Xb rfl⟩,⟨_,s5,by simp,WN (by omega) (by omega) (by omega) rfl⟩,⟨_,s11,by simp,WM rfl⟩,trivial⟩
       . have hy:YL c nq fq v k=false:=by
          have q:=Fs (by simpa using c2) (by simpa using c3);rw[hin]
          cases hx:(decide (0<=ZE c nq fq (Int.ofNat k))&&v.inn k) with
          |false=>rfl
          |true=>simp only[Bool.and_eq_true,decide_eq_true_eq] at hx;exact absurd hx q
         rw[hy] at hcs;refine⟨?_,rfl,by dsimp only;omega,fun st' v2 v3 v4=>.inl ⟨rfl,k+1,by omega,by omega,?_⟩⟩
         . simp[ZZ,hlt,Yk,Vw.len,YZ,YU,YT,YO,YE,YF] at c2 c3 ⊢
           omega
         . simp only[List.map_cons,List.map_nil,List.cons_append,List.nil_append,List.cons.injEq,and_true] at v2 v3
           obtain⟨s0,s3,s4,s5,s11⟩:=v2;obtain⟨b22,_,_,bg,b0,b1,b2,b3,b4,b5,bv⟩:=v3;have hcs:ZK (YL c nq fq v) (k+1)=ZK (YL c nq fq v) k:=by simpa using hcs
           unfold GJ;rw[hcs,jjhe hy];refine V5 (ρ:=fun _=>.inl 2000) (by omega) (by omega) (by unfold ZQ;omega) v4 ?_ ?_ ?_
           . kernel_rfl
           . exact⟨.inl ⟨.inr (by unfold YR;omega),bg,XW rfl⟩,.inl ⟨.inl (by omega),b0,WU⟩,.inl ⟨.inl (by omega),b1,WU⟩,.inl ⟨.inl (by omega),b2,WU⟩,.inl ⟨.inl (by omega),b3,WU⟩,.inl ⟨.inl (by omega),b4,WU⟩,.inl ⟨.inl (by omega),b5,L7 (by omega)⟩,.inl ⟨.inl (by omega),bv,WA⟩,.inr (.inl ⟨by omega,by omega,_,_,rfl,b22,BEq.refl _,XT⟩),trivial⟩
           . exact⟨⟨_,s0,by simp[ZN],Xb rfl⟩,⟨_,s3,by simp[ZN],Xb rfl⟩,⟨_,s4,by simp[ZN],Xb rfl⟩,⟨_,s5,by simp[ZN],WN (by omega) (by omega) (by omega) rfl⟩,⟨_,s11,by simp,WM rfl⟩,trivial⟩
       . exfalso;simp at c1;omega
     . obtain rfl:k=8:=by omega
       refine⟨fun c1=>?_,fun c1=>?_⟩
       . exfalso;simp at c1
       . refine⟨by simp[ZZ],rfl,by dsimp only;omega,fun st' v2 v3 v4=>.inr ⟨by simp,rfl,?_⟩⟩
         simp only[List.map_cons,List.map_nil,List.cons_append,List.nil_append,List.cons.injEq,and_true] at v2 v3;obtain⟨s0,s3,s4,s5,s11⟩:=v2;obtain⟨b22,_⟩:=v3;refine V5 (ρ:=fun _=>.inl 2000) (by omega) (by omega) (by unfold ZQ;omega) v4 rfl ?_ ?_
         . exact⟨.inr (.inl ⟨by omega,by omega,2000,_,rfl,b22,BEq.refl _,XT⟩),trivial⟩
         . exact⟨⟨_,s5,by simp[ZN],WN (by omega) (by omega) (by omega) rfl⟩,trivial⟩
theorem jjnq (v:Vw) (a b:Nat):Mf (v.score a) (Int.ofNat a) (v.score b) (Int.ofNat b)<0↔X1 v a b=true:=by
 unfold Mf X1;simp only[Int.ofNat_eq_natCast,decide_eq_true_eq]
 (repeat' split)<;>constructor<;>intro h<;>omega
theorem EG (f:Nat->Nat) (i j:Nat):X7 f i j j=f i:=if_pos rfl
theorem jjkc (f:Nat->Nat) {i j t:Nat} (h:t<j):X7 f i j t=f t:=by unfold X7;rw[if_neg (by omega),if_neg (by omega)]
abbrev B9:Nat:=1000000000000000000000000000000000000000000000000005
theorem Aq {x y:ABlk} (h:BEq y x):BL [x] [some y]:=⟨h,trivial⟩
theorem FA {x y x' y':ABlk} (h:BEq y x) (h':BEq y' x'):BL [x,x'] [some y,some y']:=⟨h,h',trivial⟩
theorem jjmu (v:Vw) (m:Nat) (f:Nat->Nat) (i:Nat) (him:i<m) (hm:m<=8):
 LoopV prog (ZY prog 141 1) QT [2000] ((Oy m i i).map some) [some (UU m v.score f)] 53 B9 (ZT 53 (r2H.zip (QS m i))) [(2000,UU m v.score (X7 f i (Xf (X1 v) f (f i) i)))] 100000000000000000000000000000000000000000000000000000 (.exit 2) none:=by
 refine Rx NP (fuel:=100) (str:=nSt) (nh:=10000000000000000000000000000000000000000000000000000) (S:=Nat) (fun j=>j<=i/\Xf (X1 v) f (f i) j=Xf (X1 v) f (f i) i) (fun j=>j) QT [] [2000] (fun j=>Oy m i j) (fun j=>[UU m v.score (X7 f i j)]) (by decide) (by decide) (by unfold ZQ;omega) (s0:=i) ⟨Nat.le_refl _,rfl⟩ (fun _=>⟨rfl,rfl⟩) (by kernel_rfl) (by rw[Dy];exact BL.refl [UU m v.score f]) (fun j _=>⟨rfl,fun b hb=>by rw[List.mem_singleton.1 hb];exact XT⟩) ?_;rintro j ⟨hj,hP⟩;refine(?_:(∃p r,r4R prog m v.score (X7 f i j) i j p=some r/\_)->_) (rk4 m v.score (X7 f i j) i j (XS B9 100000000000000000000000000000000000000000000000000000 53 QT [] [2000] (fun j=>j<=i/\Xf (X1 v) f (f i) j=Xf (X1 v) f (f i) i) (fun j=>j) (fun j=>Oy m i j) (fun j=>[UU m v.score (X7 f i j)]) (.exit 2) (r2H.zip (QS m i)) [(2000,UU m v.score (X7 f i (Xf (X1 v) f (f i) i)))] j) ?_)
 . rintro⟨p,r,h1,h2⟩
   exact⟨p,[],r,h1,h2⟩
 . have hout :∀j,∀q∈r2H.zip (QS m i),US B9 q.2=true/\(q.1,some q.2)∈(QT++[]).zip ((Oy m i j).map some):=by
    intro j q hq;simp only[List.zip_cons_cons,List.zip_nil_right,List.mem_cons,List.not_mem_nil,or_false] at hq;rcases hq with rfl|rfl|rfl|rfl|rfl<;>exact⟨rfl,by simp⟩
   match j,hj,hP with
   |0,hj,hP=>
    have e:Xf (X1 v) f (f i) i=0:=by rw[<- hP];rfl
    refine⟨fun h1=>?_,fun h1=>?_⟩
    . exfalso;simp at h1
    . refine⟨by simp[ZZ],rfl,by dsimp only;omega,rfl,.inr ⟨by simp,rfl,hout _,fun p hpp=>?_⟩⟩
      rw[List.mem_singleton.1 hpp,e];exact⟨by kernel_rfl,XT,_,List.mem_cons_self ..,BEq.refl _⟩
   | j + 1, hj,hP=>
    have w1:IntKind.wrap .i64 (Int.ofNat (j+1)-Int.ofNat 1)=Int.ofNat j:=by rw[XG _ (by simp only[Int.ofNat_eq_natCast];omega) (by simp only[Int.ofNat_eq_natCast];omega)];simp only[Int.ofNat_eq_natCast];omega
    have e0:0+Int.toNat (Int.ofNat (j+1))=j+1:=by simp
    have e1:0+Int.toNat (Int.ofNat j)=j:=by simp
    have ea:=EG f i (j+1);have eb:=jjkc f (i:=i) (show j<j+1 by omega);have hk:=jjnq v (f i) (f j);have hpos:Xf (X1 v) f (f i) (j+1)=if X1 v (f i) (f j)=true then Xf (X1 v) f (f i) j else j+1:=rfl
    rw[hpos] at hP;simp only[w1,e0,e1,ea,eb];refine⟨fun h1=>⟨fun h2=>?_,fun h2=>?_⟩,fun h1=>?_⟩
    . have hy:X1 v (f i) (f j)=true:=hk.1 (by simpa using h2)
      rw[if_pos hy] at hP;refine⟨?_,rfl,by dsimp only;omega,rfl,.inl ⟨rfl,j,⟨by omega,hP⟩,by show j<j+1;omega,rfl,?_⟩⟩
      . simp at h2
        simp[ZZ,Z6,h2];omega
      . refine Aq ⟨rfl,rfl,rfl,rfl,.inr (.inl ⟨m,_,_,rfl,rfl,fun t ht=>?_⟩)⟩
        by_cases t1:t=j
        . subst t1
          simp[YB,VB,ZU,EG]
        . by_cases t2:t=j+1
          . subst t2
            have:X7 f i j (j+1)=f j:=by unfold X7;rw[if_neg (by omega),if_pos ⟨by omega,by omega⟩];rfl
            simp[YB,VB,ZU,this]
          . have:X7 f i j t=X7 f i (j+1) t:=by
             unfold X7;rw[if_neg t1,if_neg t2];by_cases t3:j+1<t/\t<=i
             . rw[if_pos (by omega),if_pos t3]
             . rw[if_neg (by omega),if_neg t3]
            simp[t1,t2,this]
    . have hn:¬X1 v (f i) (f j)=true:=fun e=>of_decide_eq_false h2 (hk.2 e)
      rw[if_neg hn] at hP;refine⟨?_,rfl,by dsimp only;omega,rfl,.inr ⟨by simp,rfl,hout _,fun p hpp=>?_⟩⟩
      . simp at h2
        simp[ZZ,Z6,h2];omega
      . rw[List.mem_singleton.1 hpp,<- hP]
        exact⟨by kernel_rfl,XT,_,List.mem_cons_self ..,BEq.refl _⟩
    . exfalso;simp at h1<;>omega
abbrev r2N:Nat:=100000000000000000000000000000000000000000000000024
theorem jjmw (v:Vw) (m:Nat) (f:Nat->Nat) (hm:m<=8):
 LoopV prog (ZY prog 141 0) r2H [2000] ((QS m 1).map some) [some (UU m v.score f)] 53 r2N (ZT 53 []) [(2000,UU m v.score (XV (X1 v) f m))] 1000000000000000000000000000000000000000000000000000000 (.exit 0) none:=by
 refine Dh NP (fuel:=100) (str:=nSt) (nh:=1000000000000000000000000000000000000000000000000000) (S:=Nat) (fun i=>1<=i/\(i<=m\/i=1)) (fun i=>m-i) r2H [] [2000] (fun i=>QS m i) (fun i=>[UU m v.score (XV (X1 v) f i)]) (by decide) (by decide) (by unfold ZQ;omega) (s0:=1) ⟨Nat.le_refl _,.inr rfl⟩ (fun _=>⟨rfl,rfl⟩) (by kernel_rfl) (by rw[DO];exact BL.refl [UU m v.score f]) (fun j _=>⟨rfl,fun b hb=>by rw[List.mem_singleton.1 hb];exact XT⟩) ?_;rintro i ⟨hi,hi2⟩;refine(?_:(∃p r,r2R prog m v.score (XV (X1 v) f i) i p [some (r4S m i v.score (XV (X1 v) f (i+1)))]=some r/\_)->_) (rk2 m v.score (XV (X1 v) f i) (XV (X1 v) f (i+1)) i (Tj r2N 1000000000000000000000000000000000000000000000000000000 53 r2H [] [2000] (fun i=>1<=i/\(i<=m\/i=1)) (fun i=>m-i) (fun i=>QS m i) (fun i=>[UU m v.score (XV (X1 v) f i)]) (.exit 0) [] [(2000,UU m v.score (XV (X1 v) f m))] i) ?_)
 . rintro⟨p,r,h1,h2⟩
   exact⟨p,_,r,h1,h2⟩
 . refine⟨fun h1=>?_,fun h1=>?_⟩
   . have hlt:i<m:=by simp at h1;omega
     have w1:IntKind.wrap .i64 (Int.ofNat i+Int.ofNat 1)=Int.ofNat (i+1):=by rw[XG _ (by simp;omega) (by simp;omega)];simp
     have hs:=jjmu v m (XV (X1 v) f i) i hlt hm;rw[w1];refine⟨by simp[ZZ];omega,fun q hq=>?_,by dsimp only;omega,rfl,.inl ⟨rfl,i+1,⟨by omega,by omega⟩,by show m-(i+1)<m-i;omega,rfl,BL.refl _⟩⟩;rw[List.mem_singleton.1 hq];exact hs
   . have hge:m<=i:=by simp at h1;omega
     have e:XV (X1 v) f m=XV (X1 v) f i:=by
      by_cases hm1:m=i
      . rw[hm1]
      . obtain rfl:m=0:=by omega
        obtain rfl:i=1:=by omega
        rw[DO];rfl
     refine⟨by simp[ZZ];omega,(fun q hq=>by cases hq),by dsimp only;omega,rfl,.inr ⟨by simp,rfl,(fun q hq=>by cases hq),fun p hpp=>?_⟩⟩;rw[List.mem_singleton.1 hpp,e];exact⟨by kernel_rfl,XT,_,List.mem_cons_self ..,BEq.refl _⟩
abbrev r3N:Nat:=1000000000000000000000000000000000000000000000000000007
abbrev Jh (g:Nat->Nat) (k t:Nat):Nat:=if t<k then g t else 0
theorem jjmv (v:Vw) (m:Nat) (g:Nat->Nat) (hm:m<=8) {eb:ABlk} (heb:BEq eb (TS m fun _=>0)):
 LoopV prog (ZY prog 104 1) Oc [2000,S9] ((Kg m 0).map some) [some (UU m v.score g),some eb] 53 r3N (ZT 53 [(8,.c (.sl S9 0 0 m none))]) [(S9,TS m g)] 100000000000000000000000000000000000000000000000000000000 (.exit 2) none:=by
 refine Rx NP (fuel:=100) (str:=nSt) (nh:=10000000000000000000000000000000000000000000000000000000) (S:=Nat) (fun k=>k<=m) (fun k=>m-k) Oc [] [2000,S9] (fun k=>Kg m k) (fun k=>[UU m v.score g,TS m (Jh g k)]) (by decide) (by decide) (by unfold ZQ;omega) (s0:=0) (Nat.zero_le _) (fun _=>⟨rfl,rfl⟩) (by kernel_rfl) (FA (BEq.refl _) heb) (fun j _=>⟨rfl,fun b hb=>by simp only[List.mem_cons,List.not_mem_nil,or_false] at hb;rcases hb with rfl|rfl<;>exact XT⟩) ?_;intro k hk;refine(?_:(∃p r,r3R prog m v.score g (Jh g k) k p=some r/\_)->_) (rk3 m v.score g (Jh g k) k (XS r3N 100000000000000000000000000000000000000000000000000000000 53 Oc [] [2000,S9] (fun k=>k<=m) (fun k=>m-k) (fun k=>Kg m k) (fun k=>[UU m v.score g,TS m (Jh g k)]) (.exit 2) [(8,.c (.sl S9 0 0 m none))] [(S9,TS m g)] k) ?_)
 . rintro⟨p,r,h1,h2⟩
   exact⟨p,[],r,h1,h2⟩
 . have e0:0+Int.toNat (Int.ofNat k)=k:=by simp
   refine⟨fun h1=>?_,fun h1=>?_⟩
   . have hlt:k<m:=by simp at h1;omega
     have w1:IntKind.wrap .i64 (Int.ofNat k+Int.ofNat 1)=Int.ofNat (k+1):=by rw[XG _ (by simp;omega) (by simp;omega)];simp
     rw[w1,e0];refine⟨?_,rfl,by dsimp only;omega,rfl,.inl ⟨rfl,k+1,hlt,by show m-(k+1)<m-k;omega,rfl,FA (BEq.refl _) ⟨rfl,rfl,rfl,rfl,.inr (.inl ⟨m,_,_,rfl,rfl,fun t ht=>?_⟩)⟩⟩⟩
     . simp[ZZ,Z6]
       omega
     . by_cases t1:t=k
       . subst t1
         simp[YB,VB,ZU,Jh]
       . have:(t<k+1)=(t<k):=by apply propext;omega
         simp[t1,Jh,this]
   . have hge:k=m:=by simp at h1;omega
     subst hge;refine⟨by simp[ZZ],rfl,by dsimp only;omega,rfl,.inr ⟨by simp,rfl,fun q hq=>?_,fun p hpp=>?_⟩⟩
     . rw[List.mem_singleton.1 hq];exact⟨rfl,by simp[ZN]⟩
     . rw[List.mem_singleton.1 hpp]
       refine⟨by kernel_rfl,XT,_,List.mem_cons_of_mem _ (List.mem_cons_self ..),⟨rfl,rfl,rfl,rfl,.inr (.inl ⟨k,_,_,rfl,rfl,fun t ht=>?_⟩)⟩⟩;simp[Jh,ht]
def mA (c:Cfg) (nq:Nat) (fq:Nat->Int) (l:List AC):Nat:=ZK (YL c nq fq (Zk l)) 8
def Y9 (c:Cfg) (nq:Nat) (fq:Nat->Int) (l:List AC):Nat->Nat:=Vm (Zk l) (YL c nq fq (Zk l))
theorem Fq {c:Cfg} {nq:Nat} {fq:Nat->Int} {v:Vw} {p:Nat} (h:p<8):YL c nq fq (Zk (ZW v)) p=YL c nq fq v p:=by
 unfold YL;rw[(HY v).inn p h]
theorem JQ (c:Cfg) (nq:Nat) (fq:Nat->Int) (v:Vw):mA c nq fq (ZW v)=ZK (YL c nq fq v) 8:=Sf fun p hp=>Fq hp
theorem EI {t u:Nat->Bool}:∀{n:Nat},(∀p,p<n->t p=u p)->WV t n=WV u n
 |0,_=>rfl
 |n+1,h=>by
  unfold WV;rw[EI fun p hp=>h p (by omega),h n (by omega)]
theorem EH {t:Nat->Bool} {n i:Nat} (h:i<ZK t n):Wr t n i<n:=by
 have:Wr t n i∈WV t n:=by
  unfold Wr;rw[Lw (by rw[Sm];exact h)];exact List.getElem_mem _
 exact((Nx t _ n).1 this).1
theorem Df {lt lt':Nat->Nat->Bool} {f g:Nat->Nat} {x:Nat}:∀{j:Nat},(∀t,t<j->f t=g t/\lt x (f t)=lt' x (f t))->Xf lt f x j=Xf lt' g x j
 |0,_=>rfl
 |j+1,h=>by
  unfold Xf;rw[Df fun t ht=>h t (by omega),(h j (by omega)).2,(h j (by omega)).1]
theorem Dc {lt lt':Nat->Nat->Bool} {f g:Nat->Nat} {n:Nat} (hf:∀t,t<n->f t=g t) (hl:∀s t,s<n->t<n->lt (f s) (f t)=lt' (f s) (f t)) (hA:∀a b,lt a b=true->lt b a=false) (hN:∀a b c,lt a b=false->lt b c=false->lt a c=false):∀i,i<=n->∀t,t<n->XV lt f i t=XV lt' g i t
 |0,_,t,ht=>hf t ht
 | i + 1,hi,t,ht=>by
  have ih:=Dc hf hl hA hN i (by omega);obtain⟨_,h2,h3,_⟩:=Lp hA hN f i
  have him:∀s,s<n->∃q,q<n/\XV lt f i s=f q:=fun s hs=>by
   by_cases e:s<i
   . obtain⟨q,hq,he⟩:=h3 s e
     exact⟨q,by omega,he⟩
   . exact⟨s,hs,h2 s (by omega)⟩
  have hp:Xf lt (XV lt f i) (XV lt f i i) i=Xf lt' (XV lt' g i) (XV lt' g i i) i:=by
   rw[<- ih i (by omega)];refine Df fun s hs=>⟨ih s (by omega),?_⟩
   obtain⟨q1,e1,e2⟩:=him i (by omega);obtain⟨q2,e3,e4⟩:=him s (by omega);rw[e2,e4];exact hl q1 q2 e1 e3
  show X7 (XV lt f i) i _ t=X7 (XV lt' g i) i _ t;rw[hp];unfold X7;rw[ih i (by omega),ih t ht];split
  . rfl
  . split
    . rw[ih (t-1) (by omega)]
    . rfl
theorem EQ {c:Cfg} {nq:Nat} {fq:Nat->Int} {v:Vw} {i:Nat} (h:i<ZK (YL c nq fq v) 8):Y9 c nq fq (ZW v) i=Vm v (YL c nq fq v) i:=by
 have e1:∀p,p<8->YL c nq fq (Zk (ZW v)) p=YL c nq fq v p:=fun p hp=>Fq hp
 have e2:Wr (YL c nq fq (Zk (ZW v))) 8=Wr (YL c nq fq v) 8:=by funext j;unfold Wr;rw[EI e1]
 unfold Y9 Vm;rw[e2,Sf e1];have hs:=HY v;refine Dc (lt:=X1 (Zk (ZW v))) (lt':=X1 v) (n:=ZK (YL c nq fq v) 8) (fun _ _=>rfl) (fun s t hs' ht'=>?_) (fun _ _=>Im) (fun _ _ _=>I1) _ (Nat.le_refl _) i h;have a1:=hs.score _ (EH hs');have a2:=hs.score _ (EH ht');unfold X1;rw[a1,a2]
def MT:Yq:=fun xs m ib=>
 match xs with
 | [x,.agg l]=>
  match netRd.dec [x,.agg l] m with
  |some (⟨c,nq,fq,_⟩,b)=>some (.c (.sl ib 0 0 (mA c nq fq l) none),[(ib,TS (mA c nq fq l) (Y9 c nq fq l))],1,[b,Yx l,decide (c.np<=8)])
  |none=>none
 |_=>none
theorem jjkn (c:Cfg) (nq:Nat) (fq:Nat->Int) (v:Vw) (h8:c.np<=8):∃p lp r,ftE prog c nq fq v p lp=some r/\r.1= .c (.sl S9 0 0 (ZK (YL c nq fq v) 8) none)/\r.2.1=[some (TS (ZK (YL c nq fq v) 8) (Vm v (YL c nq fq v)))]/\r.2.2.1<=ZQ/\ZZ r.2.2.2.1/\∀q∈r.2.2.2.2,q:=by
 have h8m:=cnt8 (YL c nq fq v);refine(?_:(∃p r,ftE prog c nq fq v p [some (r1S 1000 (ZK (YL c nq fq v) 8) v.score (Wr (YL c nq fq v) 8)),none,some (r2S (ZK (YL c nq fq v) 8) v.score (Vm v (YL c nq fq v))),some (r3S S9 (ZK (YL c nq fq v) 8) (Vm v (YL c nq fq v)))]=some r/\_)->_) (Bh c nq fq v (ZK (YL c nq fq v) 8) (Wr (YL c nq fq v) 8) (Vm v (YL c nq fq v)) (fun r=>r.1= .c (.sl S9 0 0 (ZK (YL c nq fq v) 8) none)/\r.2.1=[some (TS (ZK (YL c nq fq v) 8) (Vm v (YL c nq fq v)))]/\r.2.2.1<=ZQ/\ZZ r.2.2.2.1/\∀q∈r.2.2.2.2,q) ?_)
 . rintro⟨p,r,h1,h2⟩
   exact⟨p,_,r,h1,h2⟩
 . refine⟨rfl,rfl,(by first|(unfold ZQ;omega)|(dsimp only;unfold ZQ;omega)),?_,fun q hq=>?_⟩
   . have w1:IntKind.wrap .i64 ((ZK (YL c nq fq v) 8:Int)-Int.ofNat 0)=(ZK (YL c nq fq v) 8:Int):=by rw[XG _ (by simp only[Int.ofNat_eq_natCast];omega) (by simp only[Int.ofNat_eq_natCast];omega)];simp
     have w2:IntKind.wrap .u64 (ZK (YL c nq fq v) 8:Int)=(ZK (YL c nq fq v) 8:Int):=by
      simp only[IntKind.wrap,IntKind.bits,IntKind.signed]
      first|omega|(simp;omega)
     simp only[w1,w2];simp[ZZ];omega
   . simp only[List.mem_cons,List.not_mem_nil,or_false] at hq
     rcases hq with rfl|rfl|rfl
     . exact jjmv v _ _ h8m (BEq.refl _)
     . exact jjmw v _ _ h8m
     . exact jjmx c nq fq v h8
theorem jjbl {x:AV} {r:List AV} {m:AMem} {s:Y3} {b:Bool} (h:netRd.dec (x::r) m=some (s,b)):s.rest=r:=by
 unfold netRd Xz at h;simp only at h;split at h
 . rename_i e
   cases e;split at h
   . split at h
     . cases h;rfl
     . cases h
   . cases h
 . cases h
theorem Ak:ZC prog 104 MT:=by
 refine⟨⟨_,_,Tryz.func104,rfl⟩,fun C β m m2 w args ib r news k' ob vs hct ho hs hr hfree hlim hv=>?_⟩;unfold MT at hct;split at hct
 . rename_i x l
   split at hct
   . rename_i c nq fq rest b hd
     simp only[Option.some.injEq,Prod.mk.injEq] at hct;obtain⟨rfl,rfl,rfl,rfl⟩:=hct;simp only[ZZ,List.forall_mem_cons,decide_eq_true_eq] at ho;obtain⟨rfl,ol,o8,_⟩:=ho;have hrest:rest=[.agg l]:=jjbl hd;subst hrest;obtain⟨β1,q1,q2,q3⟩:=netRd.ok hs hr hd hv;have el:=UJ ol;have q2:γt β1 [.c (.ptr 5 0 0),.agg (ZW (Zk l))]=some vs:=by rw[ZW,<- el];exact q2
     have q1:Rel (Zx w) β1 (RB c nq fq) w:=q1;obtain⟨p,lp,⟨vv,bb,n',ob,po⟩,hrun,hv1,hbb,hn,hob,hpo⟩:=jjkn c nq fq (Zk l) o8;obtain⟨s',r1,r2,r3,r4⟩:=Td hrun;have hn:n'<=ZQ:=hn;have hbb:bb=_:=hbb;subst hbb;have hv1:vv=_:=hv1;subst hv1;refine(X8 NP r1 ⟨by rw[r3];exact hob,by rw[r4];exact hpo⟩ (C:=Zx w) (β:=β1) (w:=w) (vs:=vs) q2 q1 (fun id h1 h2=>q3 id h1 (by omega))).mono ?_;rintro e w' ⟨β',u,rfl,_,_,hu,hr'⟩;simp only[List.map_cons,List.map_nil,List.cons.injEq,and_true] at r2;obtain⟨L,hL,hb⟩:=hr'.blk S9 _ r2;have hid:β ib=none:=hfree ib (Nat.le_refl _) (by omega);refine⟨ZR β ib L,u,rfl,Wq hid,fun id h=>?_,?_,?_⟩
     . unfold ZR
       rw[if_neg (by omega)]
     . simp only[γ,γ1,γc,hL] at hu
       simp only[γ,γ1,γc,Wd];exact hu
     . refine Sh hr ⟨hr'.os,hr'.tape,hr'.output,hr'.size,fun b hb=>hr'.out b hb fun h=>h⟩ hid (Wb (by omega)) hr' r2 rfl rfl (fun k j _=>?_) hL
       match j with
       |0=>exact⟨_,rfl⟩
       |j+1=>exact⟨_,rfl⟩
   . cases hct
 . cases hct
def N6:List (FuncId × Yq):=[(101,Hv),(102,Jy),(104,MT)]
theorem jjhu:∀f g,(f,g)∈N6->ZC prog f g:=by
 intro f g h;simp only[N6,List.mem_cons,Prod.mk.injEq,List.not_mem_nil,or_false] at h;rcases h with⟨rfl,rfl⟩|⟨rfl,rfl⟩|⟨rfl,rfl⟩
 . exact JC
 . exact Ah
 . exact Ak
def Kp (P:Program):Env:=⟨P,N6⟩
theorem Cu:Zz (Kp prog):=Xp jjhu (by kernel_rfl) (by kernel_rfl)
theorem Bg (c:Cfg) (nq:Nat) (fq:Nat->Int) (v:Vw) (Q:VF->Prop) (H:let zN:=Int.ofNat;let zM:=ABlk.mk;let zD:=Int.toNat;let zq0:List Bool:=(YM c nq fq)::(pW VM (Y3.mk c nq fq [AV.agg (ZW v),.c (zI (IntKind.wrap .i64 (Vw.command v)))]))::(zu (zt (zt [])));let zq1:List Bool:=((W9 (ZE c nq fq (IntKind.wrap .i64 (Vw.command v))) (Zv (List.getD (ZW v) (zD (IntKind.wrap .i64 (Vw.command v))) ZS)) (ZP (List.getD (ZW v) (24+zD (IntKind.wrap .i64 (Vw.command v))) ZS)) !=zN 1)==true)::zq0;let zq2:List Bool:=(YM c nq fq)::true::(decide (c.np<=8))::(zu (zt (y3 (y3 ((((W9 (ZE c nq fq (IntKind.wrap .i64 (Vw.command v))) (Zv (List.getD (ZW v) (zD (IntKind.wrap .i64 (Vw.command v))) ZS)) (ZP (List.getD (ZW v) (24+zD (IntKind.wrap .i64 (Vw.command v))) ZS)) !=zN 2)==true)::zq1))))));let zq3:List Bool:=(ABlk.inb (zM true true 3 1 (Cs.arr (mA c nq fq (ZW v)) fun k=>List.map AC.v ((fun i=>[Value.int .i64 (zN (Y9 (Cfg.mk c.nodes c.np (fA (Zt (zM false false 3 1 (yP c)) 0 0 1)) c.ns (fA (Zt (zM false false 3 1 (yS c)) 0 0 1)) c.long c.nb (fA (Zt (zM false false 3 1 (yB c)) 0 0 1)) c.nt (Z4 (Zt (zM false false 85 3 (yT c)) 0 0 3)) c.miss c.good c.fresh) nq (fA (Zt (zM false false 3 1 (Cs.arr nq fun k=>List.map AC.v ((fun i=>[Value.int .i64 (fq i)]) k))) 0 0 1)) (ZW v) i))]) k))) 0 1)::true::(decide (zN 0<=zN 0/\zN 0 < ↑(mA c nq fq (ZW v))))::(decide (↑(mA c nq fq (ZW v))>zN 0)==true)::zq2;let zq4:List Bool:=true::true::(ABlk.inb (zM true false 32 0 (Cs.lit (ZW v))) 0 (24+zD (IntKind.wrap .i64 (Vw.command v))*1+1))::(Zq (Kd.i .u16) (List.getD (ZW v) (24+zD (IntKind.wrap .i64 (Vw.command v))*1) ZS))::(decide (zN 0<=IntKind.wrap .i64 (Vw.command v)/\IntKind.wrap .i64 (Vw.command v)<zN 8))::((W9 (ZE c nq fq (IntKind.wrap .i64 (Vw.command v))) (Zv (List.getD (ZW v) (zD (IntKind.wrap .i64 (Vw.command v))) ZS)) (ZP (List.getD (ZW v) (24+zD (IntKind.wrap .i64 (Vw.command v))) ZS)) !=zN 2)==false)::zq1;let zq5:List Bool:=(YM c nq fq)::true::(decide (c.np<=8))::(zu (zt (y3 (y3 ((((VP (ZP (List.getD (ZW v) (24+zD (IntKind.wrap .i64 (Vw.command v))*1) ZS))==zN 2)==true)::zq4))))));let zq6:List Bool:=(ABlk.inb (zM true true 3 1 (Cs.arr (mA c nq fq (ZW v)) fun k=>List.map AC.v ((fun i=>[Value.int .i64 (zN (Y9 (Cfg.mk c.nodes c.np (fA (Zt (zM false false 3 1 (yP c)) 0 0 1)) c.ns (fA (Zt (zM false false 3 1 (yS c)) 0 0 1)) c.long c.nb (fA (Zt (zM false false 3 1 (yB c)) 0 0 1)) c.nt (Z4 (Zt (zM false false 85 3 (yT c)) 0 0 3)) c.miss c.good c.fresh) nq (fA (Zt (zM false false 3 1 (Cs.arr nq fun k=>List.map AC.v ((fun i=>[Value.int .i64 (fq i)]) k))) 0 0 1)) (ZW v) i))]) k))) 0 1)::true::(decide (zN 0<=zN 0/\zN 0 < ↑(mA c nq fq (ZW v))))::(decide (↑(mA c nq fq (ZW v))>zN 0)==true)::zq5;let zq7:List Bool:=true::true::((VP (ZP (List.getD (ZW v) (24+zD (IntKind.wrap .i64 (Vw.command v))*1) ZS))==zN 2)==false)::zq4;let zq8:List Bool:=(YM c nq fq)::true::(decide (c.np<=8))::(zu (zt (y3 (y3 ((((Vw.command v !=Int.negSucc 0)==false)::zq7))))));let zq9:List Bool:=(ABlk.inb (zM true true 3 1 (Cs.arr (mA c nq fq (ZW v)) fun k=>List.map AC.v ((fun i=>[Value.int .i64 (zN (Y9 (Cfg.mk c.nodes c.np (fA (Zt (zM false false 3 1 (yP c)) 0 0 1)) c.ns (fA (Zt (zM false false 3 1 (yS c)) 0 0 1)) c.long c.nb (fA (Zt (zM false false 3 1 (yB c)) 0 0 1)) c.nt (Z4 (Zt (zM false false 85 3 (yT c)) 0 0 3)) c.miss c.good c.fresh) nq (fA (Zt (zM false false 3 1 (Cs.arr nq fun k=>List.map AC.v ((fun i=>[Value.int .i64 (fq i)]) k))) 0 0 1)) (ZW v) i))]) k))) 0 1)::true::(decide (zN 0<=zN 0/\zN 0 < ↑(mA c nq fq (ZW v))))::(decide (↑(mA c nq fq (ZW v))>zN 0)==true)::zq8;let zq10:List Bool:=true::true::(ABlk.inb (zM true false 32 0 (Cs.lit (ZW v))) 0 (24+zD (IntKind.wrap .i64 (Vw.command v))*1+1))::(Zq (Kd.i .u16) (List.getD (ZW v) (24+zD (IntKind.wrap .i64 (Vw.command v))*1) ZS))::(decide (zN 0<=IntKind.wrap .i64 (Vw.command v)/\IntKind.wrap .i64 (Vw.command v)<zN 8))::((W9 (ZE c nq fq (IntKind.wrap .i64 (Vw.command v))) (Zv (List.getD (ZW v) (zD (IntKind.wrap .i64 (Vw.command v))) ZS)) (ZP (List.getD (ZW v) (24+zD (IntKind.wrap .i64 (Vw.command v))) ZS)) !=zN 1)==false)::zq0;let zq11:List Bool:=(YM c nq fq)::true::(decide (c.np<=8))::(zu (zt (y3 (y3 ((((VP (ZP (List.getD (ZW v) (24+zD (IntKind.wrap .i64 (Vw.command v))*1) ZS))==zN 2)==true)::zq10))))));let zq12:List Bool:=(ABlk.inb (zM true true 3 1 (Cs.arr (mA c nq fq (ZW v)) fun k=>List.map AC.v ((fun i=>[Value.int .i64 (zN (Y9 (Cfg.mk c.nodes c.np (fA (Zt (zM false false 3 1 (yP c)) 0 0 1)) c.ns (fA (Zt (zM false false 3 1 (yS c)) 0 0 1)) c.long c.nb (fA (Zt (zM false false 3 1 (yB c)) 0 0 1)) c.nt (Z4 (Zt (zM false false 85 3 (yT c)) 0 0 3)) c.miss c.good c.fresh) nq (fA (Zt (zM false false 3 1 (Cs.arr nq fun k=>List.map AC.v ((fun i=>[Value.int .i64 (fq i)]) k))) 0 0 1)) (ZW v) i))]) k))) 0 1)::true::(decide (zN 0<=zN 0/\zN 0 < ↑(mA c nq fq (ZW v))))::(decide (↑(mA c nq fq (ZW v))>zN 0)==true)::zq11;let zq13:List Bool:=true::true::((VP (ZP (List.getD (ZW v) (24+zD (IntKind.wrap .i64 (Vw.command v))*1) ZS))==zN 2)==false)::zq10;let zq14:List Bool:=(YM c nq fq)::true::(decide (c.np<=8))::(zu (zt (y3 (y3 ((((Vw.command v !=Int.negSucc 0)==false)::zq13))))));let zq15:List Bool:=(ABlk.inb (zM true true 3 1 (Cs.arr (mA c nq fq (ZW v)) fun k=>List.map AC.v ((fun i=>[Value.int .i64 (zN (Y9 (Cfg.mk c.nodes c.np (fA (Zt (zM false false 3 1 (yP c)) 0 0 1)) c.ns (fA (Zt (zM false false 3 1 (yS c)) 0 0 1)) c.long c.nb (fA (Zt (zM false false 3 1 (yB c)) 0 0 1)) c.nt (Z4 (Zt (zM false false 85 3 (yT c)) 0 0 3)) c.miss c.good c.fresh) nq (fA (Zt (zM false false 3 1 (Cs.arr nq fun k=>List.map AC.v ((fun i=>[Value.int .i64 (fq i)]) k))) 0 0 1)) (ZW v) i))]) k))) 0 1)::true::(decide (zN 0<=zN 0/\zN 0 < ↑(mA c nq fq (ZW v))))::(decide (↑(mA c nq fq (ZW v))>zN 0)==true)::zq14;let ze1:AV:=.c (.v (.int .i8 (IntKind.wrap .i8 (zN (Y9 c nq fq (ZW v) 0)))));let ze0:AV:=.c (.v (.int .i8 (Int.negSucc 0)));(((W9 (ZE c nq fq (IntKind.wrap .i64 (Vw.command v))) (Zv (List.getD (ZW v) (zD (IntKind.wrap .i64 (Vw.command v))) ZS)) (ZP (List.getD (ZW v) (24+zD (IntKind.wrap .i64 (Vw.command v))) ZS)) !=zN 1)=true->(((W9 (ZE c nq fq (IntKind.wrap .i64 (Vw.command v))) (Zv (List.getD (ZW v) (zD (IntKind.wrap .i64 (Vw.command v))) ZS)) (ZP (List.getD (ZW v) (24+zD (IntKind.wrap .i64 (Vw.command v))) ZS)) !=zN 2)=true->(((decide (↑(mA c nq fq (ZW v))>zN 0))=true->(((IntKind.wrap .i8 (zN (Y9 c nq fq (ZW v) 0)) !=Int.negSucc 0)=true->Q (ze1,[],1063,(((IntKind.wrap .i8 (zN (Y9 c nq fq (ZW v) 0)) !=Int.negSucc 0)==true)::zq3),[]))/\((IntKind.wrap .i8 (zN (Y9 c nq fq (ZW v) 0)) !=Int.negSucc 0)=false->Q (ze0,[],1065,(((IntKind.wrap .i8 (zN (Y9 c nq fq (ZW v) 0)) !=Int.negSucc 0)==false)::zq3),[]))))/\((decide (↑(mA c nq fq (ZW v))>zN 0))=false->Q (ze0,[],1061,((decide (↑(mA c nq fq (ZW v))>zN 0)==false)::zq2),[]))))/\((W9 (ZE c nq fq (IntKind.wrap .i64 (Vw.command v))) (Zv (List.getD (ZW v) (zD (IntKind.wrap .i64 (Vw.command v))) ZS)) (ZP (List.getD (ZW v) (24+zD (IntKind.wrap .i64 (Vw.command v))) ZS)) !=zN 2)=false->(((VP (ZP (List.getD (ZW v) (24+zD (IntKind.wrap .i64 (Vw.command v))*1) ZS))==zN 2)=true->(((decide (↑(mA c nq fq (ZW v))>zN 0))=true->(((IntKind.wrap .i8 (zN (Y9 c nq fq (ZW v) 0)) !=Int.negSucc 0)=true->Q (ze1,[],1068,(((IntKind.wrap .i8 (zN (Y9 c nq fq (ZW v) 0)) !=Int.negSucc 0)==true)::zq6),[]))/\((IntKind.wrap .i8 (zN (Y9 c nq fq (ZW v) 0)) !=Int.negSucc 0)=false->Q (ze0,[],1070,(((IntKind.wrap .i8 (zN (Y9 c nq fq (ZW v) 0)) !=Int.negSucc 0)==false)::zq6),[]))))/\((decide (↑(mA c nq fq (ZW v))>zN 0))=false->Q (ze0,[],1066,((decide (↑(mA c nq fq (ZW v))>zN 0)==false)::zq5),[]))))/\((VP (ZP (List.getD (ZW v) (24+zD (IntKind.wrap .i64 (Vw.command v))*1) ZS))==zN 2)=false->(((Vw.command v !=Int.negSucc 0)=true->Q (.c (.v (.int .i8 (Vw.command v))),[],1047,(((Vw.command v !=Int.negSucc 0)==true)::zq7),[]))/\((Vw.command v !=Int.negSucc 0)=false->(((decide (↑(mA c nq fq (ZW v))>zN 0))=true->(((IntKind.wrap .i8 (zN (Y9 c nq fq (ZW v) 0)) !=Int.negSucc 0)=true->Q (ze1,[],1070,(((IntKind.wrap .i8 (zN (Y9 c nq fq (ZW v) 0)) !=Int.negSucc 0)==true)::zq9),[]))/\((IntKind.wrap .i8 (zN (Y9 c nq fq (ZW v) 0)) !=Int.negSucc 0)=false->Q (ze0,[],1072,(((IntKind.wrap .i8 (zN (Y9 c nq fq (ZW v) 0)) !=Int.negSucc 0)==false)::zq9),[]))))/\((decide (↑(mA c nq fq (ZW v))>zN 0))=false->Q (ze0,[],1068,((decide (↑(mA c nq fq (ZW v))>zN 0)==false)::zq8),[]))))))))))/\((W9 (ZE c nq fq (IntKind.wrap .i64 (Vw.command v))) (Zv (List.getD (ZW v) (zD (IntKind.wrap .i64 (Vw.command v))) ZS)) (ZP (List.getD (ZW v) (24+zD (IntKind.wrap .i64 (Vw.command v))) ZS)) !=zN 1)=false->(((VP (ZP (List.getD (ZW v) (24+zD (IntKind.wrap .i64 (Vw.command v))*1) ZS))==zN 2)=true->(((decide (↑(mA c nq fq (ZW v))>zN 0))=true->(((IntKind.wrap .i8 (zN (Y9 c nq fq (ZW v) 0)) !=Int.negSucc 0)=true->Q (ze1,[],1066,(((IntKind.wrap .i8 (zN (Y9 c nq fq (ZW v) 0)) !=Int.negSucc 0)==true)::zq12),[]))/\((IntKind.wrap .i8 (zN (Y9 c nq fq (ZW v) 0)) !=Int.negSucc 0)=false->Q (ze0,[],1068,(((IntKind.wrap .i8 (zN (Y9 c nq fq (ZW v) 0)) !=Int.negSucc 0)==false)::zq12),[]))))/\((decide (↑(mA c nq fq (ZW v))>zN 0))=false->Q (ze0,[],1064,((decide (↑(mA c nq fq (ZW v))>zN 0)==false)::zq11),[]))))/\((VP (ZP (List.getD (ZW v) (24+zD (IntKind.wrap .i64 (Vw.command v))*1) ZS))==zN 2)=false->(((Vw.command v !=Int.negSucc 0)=true->Q (.c (.v (.int .i8 (Vw.command v))),[],1045,(((Vw.command v !=Int.negSucc 0)==true)::zq13),[]))/\((Vw.command v !=Int.negSucc 0)=false->(((decide (↑(mA c nq fq (ZW v))>zN 0))=true->(((IntKind.wrap .i8 (zN (Y9 c nq fq (ZW v) 0)) !=Int.negSucc 0)=true->Q (ze1,[],1068,(((IntKind.wrap .i8 (zN (Y9 c nq fq (ZW v) 0)) !=Int.negSucc 0)==true)::zq15),[]))/\((IntKind.wrap .i8 (zN (Y9 c nq fq (ZW v) 0)) !=Int.negSucc 0)=false->Q (ze0,[],1070,(((IntKind.wrap .i8 (zN (Y9 c nq fq (ZW v) 0)) !=Int.negSucc 0)==false)::zq15),[]))))/\((decide (↑(mA c nq fq (ZW v))>zN 0))=false->Q (ze0,[],1066,((decide (↑(mA c nq fq (ZW v))>zN 0)==false)::zq14),[])))))))))):
 ∃p r,QZ (Kp prog) 76 c nq fq v [] p []=some r/\Q r:=
 ZL H (fun g1=>ZL g1 (fun g2=>ZL g2 (fun g3=>ZL g3 (fun g4=>⟨pD 14 2125794,_,by kernel_rfl,g4⟩) (fun g4=>⟨pD 15 3720117,_,by kernel_rfl,g4⟩)) (fun g3=>⟨pD 15 1062912,_,by kernel_rfl,g3⟩)) (fun g2=>ZL g2 (fun g3=>ZL g3 (fun g4=>ZL g4 (fun g5=>⟨pD 14 2145504,_,by kernel_rfl,g5⟩) (fun g5=>⟨pD 15 3739827,_,by kernel_rfl,g5⟩)) (fun g4=>⟨pD 15 1082622,_,by kernel_rfl,g4⟩)) (fun g3=>ZL g3 (fun g4=>⟨pD 11 98472,_,by kernel_rfl,g4⟩) (fun g4=>ZL g4 (fun g5=>ZL g5 (fun g6=>⟨pD 14 2283285,_,by kernel_rfl,g6⟩) (fun g6=>⟨pD 15 3877608,_,by kernel_rfl,g6⟩)) (fun g5=>⟨pD 15 1220403,_,by kernel_rfl,g5⟩))))) (fun g1=>ZL g1 (fun g2=>ZL g2 (fun g3=>ZL g3 (fun g4=>⟨pD 14 2145453,_,by kernel_rfl,g4⟩) (fun g4=>⟨pD 15 3739776,_,by kernel_rfl,g4⟩)) (fun g3=>⟨pD 15 1082571,_,by kernel_rfl,g3⟩)) (fun g2=>ZL g2 (fun g3=>⟨pD 11 98421,_,by kernel_rfl,g3⟩) (fun g3=>ZL g3 (fun g4=>ZL g4 (fun g5=>⟨pD 14 2283234,_,by kernel_rfl,g5⟩) (fun g5=>⟨pD 15 3877557,_,by kernel_rfl,g5⟩)) (fun g4=>⟨pD 15 1220352,_,by kernel_rfl,g4⟩))))
def Uw (hl lev:Int):Prop:=(hl=1\/hl=2)/\lev≠2
instance (hl lev:Int):Decidable (Uw hl lev):=by unfold Uw;infer_instance
def BM (c:Cfg) (nq:Nat) (fq:Nat->Int) (l:List AC) (z:Int):Int:=W9 (ZE c nq fq z) (Zv (l.getD z.toNat ZS)) (ZP (l.getD (24+z.toNat) ZS))
def OK (c:Cfg) (nq:Nat) (fq:Nat->Int) (l:List AC) (z cmd:Int):Int:=if Uw (BM c nq fq l z) (VP (ZP (l.getD (24+z.toNat) ZS))) then cmd else if 0<mA c nq fq l then (Y9 c nq fq l 0:Int) else -1
def Tr (c:Cfg) (nq:Nat) (fq:Nat->Int) (l:List AC):Int:=OK c nq fq l (IntKind.wrap .i64 (ZP (l.getD 40 ZS))) (ZP (l.getD 40 ZS))
def Ca (c:Cfg) (nq:Nat) (fq:Nat->Int) (l:List AC) (_:List AV):AV:=.c (.v (.int .i8 (Tr c nq fq l)))
def Ky (c:Cfg) (_:List AC) (r:List AV):Bool:=r.isEmpty&&decide (c.np<=8)
def Jv:Yq:=Z9 netRd (rV Ca) (pW Ky)
theorem EL {n:Nat} (h:n<8):IntKind.wrap .i8 (Int.ofNat n)=(n:Int):=by
 simp only[IntKind.wrap,IntKind.bits,IntKind.signed,Int.ofNat_eq_natCast]
 first|omega|(simp;omega)
theorem Al:ZC prog 76 Jv:=by
 refine Ip (G:=mS) (by kernel_rfl) (E:=Kp prog) Cu ⟨_,_,Tryz.func76,rfl⟩ (fun _ _ _ _ _=>rfl) fun c nq fq v r hr=>?_
 simp only[Ky,Bool.and_eq_true,decide_eq_true_eq] at hr;obtain⟨hr,h8⟩:=hr;obtain rfl:=List.isEmpty_iff.1 hr;have hR:Ca c nq fq (ZW v) []= .c (.v (.int .i8 (OK c nq fq (ZW v) (IntKind.wrap .i64 v.command) v.command))):=rfl;rw[hR];refine(?_:(∃p q,QZ (Kp prog) 76 c nq fq v [] p []=some q/\Zp (.c (.v (.int .i8 (OK c nq fq (ZW v) (IntKind.wrap .i64 v.command) v.command)))) q)->_) (Bg c nq fq v _ ?_)
 . rintro⟨p,q,h1,h2⟩
   exact⟨p,[],q,h1,h2⟩
 . have hfit:0<mA c nq fq (ZW v)->Y9 c nq fq (ZW v) 0<8:=fun h=>by
    rw[JQ] at h;rw[EQ h];exact jjnv h
   have hpw:∀z,pW VM ⟨c,nq,fq,[.agg (ZW v),.c (.v (.int .i64 z))]⟩=true:=fun z=>by simp[pW,VM,WT,h8]
   have hm1:W9 (ZE c nq fq (IntKind.wrap .i64 (-1))) (Zv (List.getD (ZW v) (Int.toNat (IntKind.wrap .i64 (-1))) ZS)) (ZP (List.getD (ZW v) (24+Int.toNat (IntKind.wrap .i64 (-1))) ZS))=0:=by
    unfold W9;rw[if_pos];have:=@Nz c nq fq (IntKind.wrap .i64 (-1));have e:IntKind.wrap .i64 (-1)= -1:=by decide
    rw[e] at this ⊢;omega
   have hm2:∀z,z=v.command->v.command= -1->W9 (ZE c nq fq (IntKind.wrap .i64 z)) (Zv (List.getD (ZW v) (Int.toNat (IntKind.wrap .i64 z)) ZS)) (ZP (List.getD (ZW v) (24+Int.toNat (IntKind.wrap .i64 z)) ZS))=0:=fun z e1 e2=>by rw[e1,e2];exact hm1
   have hm3:=hm2 v.command rfl;unfold OK BM;have e1:24+Int.toNat (IntKind.wrap .i64 v.command)*1=24+Int.toNat (IntKind.wrap .i64 v.command):=by simp
   have hin:∀z,W9 (ZE c nq fq z) (Zv (List.getD (ZW v) (Int.toNat z) ZS)) (ZP (List.getD (ZW v) (24+Int.toNat z) ZS))=1\/W9 (ZE c nq fq z) (Zv (List.getD (ZW v) (Int.toNat z) ZS)) (ZP (List.getD (ZW v) (24+Int.toNat z) ZS))=2->(0<=z/\z<8)/\Zq (.i .u16) (List.getD (ZW v) (24+Int.toNat z) ZS)=true:=fun z h=>by
    obtain⟨a,b⟩:=Nz (LL h).1;obtain⟨k,rfl⟩:=Int.eq_ofNat_of_zero_le a;have:=(SJ v k (by omega)).2;simp only[Nat.mul_one,Int.ofNat_eq_natCast,Int.toNat_natCast] at this;simp only[Int.toNat_natCast];exact⟨⟨a,by omega⟩,this⟩
   have hin:=hin (IntKind.wrap .i64 v.command);simp only[e1,hpw];obtain⟨lv,HJ⟩:∃x,VP (ZP (List.getD (ZW v) (24+Int.toNat (IntKind.wrap .i64 v.command)) ZS))=x:=⟨_,rfl⟩
   obtain⟨hl,hhl⟩:∃x,W9 (ZE c nq fq (IntKind.wrap .i64 v.command)) (Zv (List.getD (ZW v) (Int.toNat (IntKind.wrap .i64 v.command)) ZS)) (ZP (List.getD (ZW v) (24+Int.toNat (IntKind.wrap .i64 v.command)) ZS))=x:=⟨_,rfl⟩
   obtain⟨m,hm⟩:∃x,mA c nq fq (ZW v)=x:=⟨_,rfl⟩
   obtain⟨b,hb⟩:∃x,Y9 c nq fq (ZW v) 0=x:=⟨_,rfl⟩
   rw[hm,hb] at hfit;rw[hhl] at hin hm3;simp only[HJ,hhl,hm,hb];clear HJ hhl hm1 hm2 hpw hR e1;have hneg:(Int.negSucc 0)=(-1:Int):=rfl;by_cases hs:Uw hl lv
   . simp only[if_pos hs]
     unfold Uw at hs;by_cases hm0:0<m
     . have hb8:=hfit hm0
       simp only[EL hb8,hneg];clear hb hm hfit
       (repeat' (first|refine⟨fun h=>?_,fun h=>?_⟩|fail))
       all_goals (simp only[bne_iff_ne,ne_eq,bne_eq_false_iff_eq,beq_iff_eq,beq_eq_false_iff_ne,decide_eq_true_eq,decide_eq_false_iff_not,Int.ofNat_eq_natCast,gt_iff_lt,Int.cast_ofNat_Int] at *)
       all_goals (first|(exfalso;omega)|skip)
       all_goals (refine⟨?_,(by first|(unfold ZQ;omega)|(dsimp only;unfold ZQ;omega)),?_,by simp⟩)
       all_goals first
        |rfl
        |(simp[ZZ,YZ,YU,YT,YO,YE,YF,WT,Yk,Z6,Vw.len,h8];done)
        |(have q:=hin (by omega);simp only[q.2];simp[ZZ,YZ,YU,YT,YO,YE,YF,WT,Yk,Z6,Vw.len,h8];omega)
        |(simp[ZZ,YZ,YU,YT,YO,YE,YF,WT,Yk,Z6,Vw.len,h8];omega)
     . simp only[hneg]
       clear hb hm hfit
       (repeat' (first|refine⟨fun h=>?_,fun h=>?_⟩|fail))
       all_goals (simp only[bne_iff_ne,ne_eq,bne_eq_false_iff_eq,beq_iff_eq,beq_eq_false_iff_ne,decide_eq_true_eq,decide_eq_false_iff_not,Int.ofNat_eq_natCast,gt_iff_lt,Int.cast_ofNat_Int] at *)
       all_goals (first|(exfalso;omega)|skip)
       all_goals (refine⟨?_,(by first|(unfold ZQ;omega)|(dsimp only;unfold ZQ;omega)),?_,by simp⟩)
       all_goals first
        |rfl
        |(simp[ZZ,YZ,YU,YT,YO,YE,YF,WT,Yk,Z6,Vw.len,h8];done)
        |(have q:=hin (by omega);simp only[q.2];simp[ZZ,YZ,YU,YT,YO,YE,YF,WT,Yk,Z6,Vw.len,h8];omega)
        |(simp[ZZ,YZ,YU,YT,YO,YE,YF,WT,Yk,Z6,Vw.len,h8];omega)
   . simp only[if_neg hs]
     unfold Uw at hs;by_cases hm0:0<m
     . have hb8:=hfit hm0
       simp only[EL hb8,hneg,if_pos hm0];clear hb hm hfit
       (repeat' (first|refine⟨fun h=>?_,fun h=>?_⟩|fail))
       all_goals (simp only[bne_iff_ne,ne_eq,bne_eq_false_iff_eq,beq_iff_eq,beq_eq_false_iff_ne,decide_eq_true_eq,decide_eq_false_iff_not,Int.ofNat_eq_natCast,gt_iff_lt,Int.cast_ofNat_Int] at *)
       all_goals (first|(exfalso;omega)|skip)
       all_goals (refine⟨?_,(by first|(unfold ZQ;omega)|(dsimp only;unfold ZQ;omega)),?_,by simp⟩)
       all_goals first
        |rfl
        |(simp[ZZ,YZ,YU,YT,YO,YE,YF,WT,Yk,Z6,Vw.len,h8];done)
        |(have q:=hin (by omega);simp only[q.2];simp[ZZ,YZ,YU,YT,YO,YE,YF,WT,Yk,Z6,Vw.len,h8];omega)
        |(simp[ZZ,YZ,YU,YT,YO,YE,YF,WT,Yk,Z6,Vw.len,h8];omega)
     . simp only[hneg,if_neg hm0]
       clear hb hm hfit
       (repeat' (first|refine⟨fun h=>?_,fun h=>?_⟩|fail))
       all_goals (simp only[bne_iff_ne,ne_eq,bne_eq_false_iff_eq,beq_iff_eq,beq_eq_false_iff_ne,decide_eq_true_eq,decide_eq_false_iff_not,Int.ofNat_eq_natCast,gt_iff_lt,Int.cast_ofNat_Int] at *)
       all_goals (first|(exfalso;omega)|skip)
       all_goals (refine⟨?_,(by first|(unfold ZQ;omega)|(dsimp only;unfold ZQ;omega)),?_,by simp⟩)
       all_goals first
        |rfl
        |(simp[ZZ,YZ,YU,YT,YO,YE,YF,WT,Yk,Z6,Vw.len,h8];done)
        |(have q:=hin (by omega);simp only[q.2];simp[ZZ,YZ,YU,YT,YO,YE,YF,WT,Yk,Z6,Vw.len,h8];omega)
        |(simp[ZZ,YZ,YU,YT,YO,YE,YF,WT,Yk,Z6,Vw.len,h8];omega)
def JE:List (FuncId × Yq):=[(75,JB),(76,Jv),(77,MZ),(24,Tu)]
def BX (P:Program):Env:=⟨P,JE⟩
theorem hEBd:Zz (BX prog):=by
 refine Xp (fun f g h=>?_) (by kernel_rfl) (by kernel_rfl);simp only[BX,JE,List.mem_cons,Prod.mk.injEq,List.not_mem_nil,or_false] at h;rcases h with⟨rfl,rfl⟩|⟨rfl,rfl⟩|⟨rfl,rfl⟩|⟨rfl,rfl⟩
 . exact A9
 . exact Al
 . exact jji1
 . exact Io
theorem bdT (c:Cfg) (nq:Nat) (fq:Nat->Int) (v:Vw) (Q:VF->Prop) (H:let zz0:=(SX.mk (Cfg.np c) (Cfg.miss c) (Cfg.good c));Q (.agg (z8 (fun zk=>zB (Vz zz0 zk (Vw.inn v zk) (Vw.got v zk) (Vw.miss v zk) (Vw.good v zk))) (z8 (fun zk=>zU (Vf zz0 zk (Vw.got v zk) (Vw.miss v zk))) (z8 (fun zk=>zU (Ve zz0 zk (Vw.got v zk) (Vw.good v zk))) (z8 (fun zk=>zH (UT zz0 zk (Vw.got v zk) (Vw.score v zk))) (z8 (fun zk=>zB (RL zz0 zk (Vw.got v zk))) [.v (.int .i8 (Tr c nq fq (ZW (ZD zz0 v)))),zU (Ws (Xw c nq fq (z8 (fun zk=>zB (Vz zz0 zk (Vw.inn v zk) (Vw.got v zk) (Vw.miss v zk) (Vw.good v zk))) []) (Tr c nq fq (ZW (ZD zz0 v)))) (Vw.mode v))]))))),[],1017,(zu (zu (zt (zt (zt ((YM c nq fq)::(pV (fun l r=>List.isEmpty r&&decide (0<=ZP (List.getD l 41 ZS))) (Y3.mk c nq fq [.agg (z8 (fun zk=>zB (Vz zz0 zk (Vw.inn v zk) (Vw.got v zk) (Vw.miss v zk) (Vw.good v zk))) (z8 (fun zk=>zU (Vf zz0 zk (Vw.got v zk) (Vw.miss v zk))) (z8 (fun zk=>zU (Ve zz0 zk (Vw.got v zk) (Vw.good v zk))) (z8 (fun zk=>zH (UT zz0 zk (Vw.got v zk) (Vw.score v zk))) (z8 (fun zk=>zB (RL zz0 zk (Vw.got v zk))) [.v (.int .i8 (Tr c nq fq (ZW (ZD zz0 v)))),zU (Vw.mode v)])))))]))::(zu (zt (y3 (true::((YM c nq fq)::(pW Ky (Y3.mk c nq fq [AV.agg (ZW (ZD zz0 v))]))::(zu (zt (y3 (true::((YM c nq fq)::(pX Ma (Y3.mk c nq fq [AV.agg (ZW v)]))::(zu (zt (y3 ((((Zg c nq==Int.ofNat 0)==false)::(YM c nq fq)::true::[]))))))))))))))))))))),[])):
 ∃p r,Mg QB (BX prog) 33 c nq fq v [] p []=some r/\Q r:=
 ⟨pD 1 2,_,by kernel_rfl,H⟩
def Hb (c:Cfg) (nq:Nat) (fq:Nat->Int) (v:Vw):Vw:={ZD ⟨c.np,c.miss,c.good⟩ v with command:=Tr c nq fq (ZW (ZD ⟨c.np,c.miss,c.good⟩ v)),mode:=Ws (Xw c nq fq (Wa (ZD ⟨c.np,c.miss,c.good⟩ v)) (Tr c nq fq (ZW (ZD ⟨c.np,c.miss,c.good⟩ v)))) v.mode}
def bdR (c:Cfg) (nq:Nat) (fq:Nat->Int) (l:List AC) (_:List AV):AV:=.agg (ZW (Hb c nq fq (Zk l)))
def Jt (c:Cfg) (nq:Nat) (l:List AC) (r:List AV):Bool:=r.isEmpty&&(decide (c.np<=8)&&(TF c nq&&(Vy l&&(decide (0<=ZP (l.getD 41 ZS))&&!(Zg c nq==Int.ofNat 0)))))
def PL:Yq:=Z9 (Xz QB (by kernel_rfl)) (rV bdR) (pX Jt)
theorem C7 (c:Cfg) (nq:Nat) (fq:Nat->Int) (l:List AC):pX Ma ⟨c,nq,fq,[.agg l]⟩=(Yx l&&(decide (c.np<=8)&&(TF c nq&&Vy l))):=rfl
theorem C6 (c:Cfg) (nq:Nat) (fq:Nat->Int) (l:List AC):pW Ky ⟨c,nq,fq,[.agg l]⟩=(Yx l&&(true&&decide (c.np<=8))):=rfl
theorem C5 {c:Cfg} {nq:Nat} {fq:Nat->Int} {l:List AC} {z:Int} (h1:Yx l=true) (h2:ZP (l.getD 41 ZS)=z) (hz:0<=z):pV (fun l r=>r.isEmpty&&decide (0<=ZP (l.getD 41 ZS))) ⟨c,nq,fq,[.agg l]⟩=true:=by
 show (Yx l&&(true&&decide (0<=ZP (l.getD 41 ZS))))=true;rw[h1,h2,decide_eq_true hz];rfl
theorem jji4:ZC prog 33 PL:=by
 refine E4 (G:=QB) (by kernel_rfl) (E:=BX prog) hEBd ⟨_,_,Tryz.func33,rfl⟩ (fun _ _ _ _ _=>rfl) fun c nq fq v r hr=>?_
 simp only[Jt,Bool.and_eq_true,decide_eq_true_eq,Bool.not_eq_true',List.isEmpty_iff] at hr;obtain⟨rfl,h8,hg,hp,hm,hz⟩:=hr;refine(?_:(∃p q,Mg QB (BX prog) 33 c nq fq v [] p []=some q/\Zp (bdR c nq fq (ZW v) []) q)->_) (bdT c nq fq v _ ?_)
 . rintro⟨p,q,h1,h2⟩
   exact⟨p,_,q,h1,h2⟩
 . have va:Yx (ZW v)=true:=WT v
   have vb:Yx (ZW (ZD ⟨c.np,c.miss,c.good⟩ v))=true:=WT _;refine⟨?_,(by first|(unfold ZQ;omega)|(dsimp only;unfold ZQ;omega)),?_,by simp⟩
   . show _=AV.agg (ZW (Hb c nq fq (Zk (ZW v))))
     rfl
   . have n8:decide (c.np<=8)=true:=decide_eq_true h8
     simp only[ZZ,List.forall_mem_cons,List.not_mem_nil,false_implies,implies_true,and_true,true_and,C7,C6,va,vb,hp,hg,n8,hz,YU]
     repeat' apply And.intro
     all_goals first
      |rfl
      |exact C5 rfl rfl hm
      |(simp[YZ,YU,YT,YO,YE,YF];done)
end Go.Proofs.YtodpbgbpifiniaaGreatDoor
end
