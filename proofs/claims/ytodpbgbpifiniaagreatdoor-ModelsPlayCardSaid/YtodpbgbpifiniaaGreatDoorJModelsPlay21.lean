/- Parts, one behind the other. Parts of a proof. -/
import Derived.Test.YtodpbgbpifiniaaGreatDoorJModelsPlay17
import Derived.Test.YtodpbgbpifiniaaGreatDoorJModelsPlay20
import Derived.Test.YtodpbgbpifiniaaGreatDoorJModelsPlay9
import Derived.Test.YtodpbgbpifiniaaGreatDoorJModelsPlay14
import Derived.Test.YtodpbgbpifiniaaGreatDoorJModelsPlay10
import Derived.Test.YtodpbgbpifiniaaGreatDoorJModelsPlay15
set_option linter.unusedSimpArgs false
set_option linter.unusedVariables false
set_option maxRecDepth 1000000
section
namespace Go.Proofs.YtodpbgbpifiniaaGreatDoor
open Go.RowKit Tryz
def CE (c:Cfg) (v:Vw) (p:Nat):Prop:=p<c.np/\v.inn p=true
theorem jjhf {c:Cfg} (g:CfgGood c) {nq:Nat} (hq:0<nq) (fq:Nat->Int) (v:Vw) (p:Nat):YL c nq fq v p=true↔CE c v p:=by
 unfold YL YG CE;rw[Bool.and_eq_true,decide_eq_true_eq,P1 g hq];simp only[Int.ofNat_eq_natCast];constructor
 . rintro⟨⟨_,h⟩,h2⟩;exact⟨by omega,h2⟩
 . rintro⟨h,h2⟩;exact⟨⟨by omega,by omega⟩,h2⟩
def U3 (c:Cfg) (v:Vw):Prop:=0<=v.command/\v.command<c.np/\v.inn v.command.toNat=true/\v.score v.command.toNat<64
theorem Km (v:Vw) (k:Nat) (h:k<8):Zv ((ZW v).getD k ZS)=v.inn k/\ZP ((ZW v).getD (24+k) ZS)=v.score k:=by
 have a0:=Wc v k h;have a4:=(SJ v k h).1;simp only[Nat.zero_add,Nat.mul_one,Int.ofNat_eq_natCast,Int.toNat_natCast] at a0 a4;exact⟨a0,a4⟩
theorem jjh9 (z:Int):VP z≠2↔z<64:=by
 unfold VP
 (repeat' split)<;>constructor<;>intro h<;>omega
theorem DN {c:Cfg} (g:CfgGood c) {nq:Nat} (hq:0<nq) (fq:Nat->Int) (v:Vw) (hc: -128<=v.command/\v.command<=127):Uw (BM c nq fq (ZW v) (IntKind.wrap .i64 v.command)) (VP (ZP ((ZW v).getD (24+(IntKind.wrap .i64 v.command).toNat) ZS)))↔U3 c v:=by
 have p8:=g.p8
 have w:IntKind.wrap .i64 v.command=v.command:=by
  simp only[IntKind.wrap,IntKind.bits,IntKind.signed]
  first|omega|(simp;omega)
 rw[w];unfold Uw BM U3;rw[jjh9];constructor
 . rintro⟨h1,h2⟩
   obtain⟨q1,q2⟩:=LL h1;obtain⟨z0,z1⟩:=(P1 g hq fq _).1 q1;obtain⟨e1,e2⟩:=Km v v.command.toNat (by omega);rw[e1] at q2;rw[e2] at h2;exact⟨z0,z1,q2,h2⟩
 . rintro⟨z0,z1,q2,h2⟩
   obtain⟨e1,e2⟩:=Km v v.command.toNat (by omega);rw[e1,e2];refine⟨?_,h2⟩;have hh:=(P1 g hq fq v.command).2 ⟨z0,z1⟩;by_cases h:W9 (ZE c nq fq v.command) (v.inn v.command.toNat) (v.score v.command.toNat)=1
   . exact .inl h
   . by_cases h':W9 (ZE c nq fq v.command) (v.inn v.command.toNat) (v.score v.command.toNat)=2
     . exact .inr h'
     . exact absurd ⟨hh,q2⟩ (Fs h h')
theorem Am {c:Cfg} (g:CfgGood c) {nq:Nat} (hq:0<nq) (fq:Nat->Int) (v:Vw) (hc: -128<=v.command/\v.command<=127):(U3 c v->Tr c nq fq (ZW v)=v.command)/\(¬U3 c v->Tr c nq fq (ZW v)=SC v (YL c nq fq v)):=by
 have e:Tr c nq fq (ZW v)=OK c nq fq (ZW v) (IntKind.wrap .i64 v.command) v.command:=rfl;rw[e];unfold OK;refine⟨fun h=>if_pos ((DN g hq fq v hc).2 h),fun h=>?_⟩;rw[if_neg fun x=>h ((DN g hq fq v hc).1 x),JQ];unfold SC;by_cases h0:ZK (YL c nq fq v) 8=0
 . rw[if_neg (by omega),if_pos h0]
 . rw[if_pos (by omega),if_neg h0,EQ (by omega)]
def Xm (c:Cfg) (v:Vw):Int:=if 0<=v.command/\v.command<c.np/\v.inn v.command.toNat=true/\v.score v.command.toNat<64 then v.command else if ZK v.inn c.np=0 then -1 else UR v c.np 0
theorem jjlg {c:Cfg} (g:CfgGood c) {nq:Nat} (hq:0<nq) (fq:Nat->Int) (v:Vw) (hc: -128<=v.command/\v.command<=127):Tr c nq fq (ZW v)=Xm c v:=by
 obtain⟨k1,k2⟩:=Am g hq fq v hc;unfold Xm;by_cases hs:U3 c v
 . rw[k1 hs];exact(if_pos hs).symm
 . rw[k2 hs]
   obtain⟨b1,b2⟩:=jjkm (v:=v) (t:=YL c nq fq v) g.p8 fun p=>jjhf g hq fq v p
   refine Eq.trans ?_ (if_neg hs).symm;by_cases h:ZK v.inn c.np=0
   . rw[if_pos h,b1 h]
   . rw[if_neg h,b2 h]
theorem EY {c:Cfg} (h8:c.np<=8) (v:Vw): -1<=Xm c v/\Xm c v<8:=by
 unfold Xm;split
 . omega
 . split
   . omega
   . rename_i h
     have:=IM (v:=v) (np:=c.np) (j:=0) (by omega);omega
theorem jjcg {l:List AC} (hl:Yx l=true):ZW (Zk l)=l:=(UJ hl).symm
abbrev Ou (m:Nat) (f:Nat->Int):ABlk:=XD 3 1 m fun i=>[.int .i64 (f i)]
abbrev Hd (tk:Nat->Bool):ABlk:=⟨true,true,4,1,.arr 8 fun i=>[.v (.bool (tk i))]⟩
abbrev Mq:List Nat:=[YR 0,1000,1001]
abbrev KH (c:Cfg) (v:Vw):List ABlk:=[ZA,Zr c,Yv v]
abbrev UB:Nat:=1100
abbrev Vn:Nat:=1004
abbrev XY:List Nat:=[2,3,4,5,6,7,8]
abbrev XP (m:Nat) (z:Int) (k:Nat):List AV:=[.c (.ptr 1000 0 0),.c (.ptr 1001 0 0),.c (.v (.slice none 0 0)),.c (.sl UB 0 0 m none),.c (.sl Vn 0 0 8 none),i64 z,i64 (Int.ofNat k)]
abbrev fwEI:List Nat:=UB::Vn::Mq
abbrev TD (c:Cfg) (v:Vw) (tk:Nat->Bool) (m:Nat) (g:Nat->Int):List ABlk:=Ou m g::Hd tk::KH c v
def fwER (P:Program) (c:Cfg) (v:Vw) (tk:Nat->Bool) (m:Nat) (g:Nat->Int) (z:Int) (k:Nat) (path:List Dec):Option VC:=
 view (XY++[]) fwEI (fC (E1 P) 100 (ZY P 112 1) 100000000000000000000000000000000000000000000000000 nSt (WR 54 XY fwEI (XP m z k) (TD c v tk m g) path []))
abbrev TE (m:Nat) (z:Int):List (Nat × AV):=[(2,.c (.ptr 1000 0 0)),(3,.c (.ptr 1001 0 0)),(4,.c (.v (.slice none 0 0))),(5,.c (.sl UB 0 0 m none)),(6,.c (.sl Vn 0 0 8 none)),(7,i64 z)]
abbrev fwES (c:Cfg) (v:Vw) (tk:Nat->Bool) (m:Nat) (g:Nat->Int) (z:Int):Zh:=⟨XY,fwEI,ZT 54 (TE m z),fwEI.zip (TD c v tk m g),1000000000000000000000000000000000000000000000000000,.exit 2⟩
abbrev fwH:List Nat:=[2,3,4,5,6]
abbrev fwV (m:Nat):List AV:=[.c (.ptr 1000 0 0),.c (.ptr 1001 0 0),.c (.v (.slice none 0 0)),.c (.sl UB 0 0 m none),.c (.sl Vn 0 0 8 none)]
abbrev He:Nat:=1000000000000000000000000000000000000000000000000009
def fwR (P:Program) (c:Cfg) (v:Vw) (tk:Nat->Bool) (m:Nat) (g:Nat->Int) (z:Int) (path:List Dec):Option VC:=
 view fwH ([UB,He]++(Vn::Mq)) (fC (E1 P) 100 (ZY P 112 0) 1000000000000000000000000000000000000000000 nSt ⟨ZT 54 (fwH.zip (fwV m)),fwEI.zip (TD c v tk m g),0,0,false,path,[],[],[],none,[some (fwES c v tk m g z)]⟩)
abbrev fwS (m:Nat) (g:Nat->Int):Zh:=⟨fwH,Vn::Mq,ZT 54 [(4,.c (.sl UB 0 0 m none))],[(UB,Ou m g)],10000000000000000000000000000000000000000000000000000,.ret⟩
theorem fwe (c:Cfg) (v:Vw) (tk:Nat->Bool) (m:Nat) (g:Nat->Int) (z:Int) (k:Nat) (Q:VC->Prop) (H:let zN:=Int.ofNat;let zD:=Int.toNat;let zz5:=(ABlk.mk true true 4 1 (Cs.arr 8 fun i=>[zB (tk i)]));let zz0:=[yO 3 1 (Cs.arr m fun k=>List.map AC.v ((fun i=>[Value.int IntKind.i64 (g i)]) k)),some zz5,yF 159 0 (Cs.lit [zI (zN 1),zI (Int.negSucc 0)]),yR 25 0 (Cs.lit [zI (Cfg.nodes c),AC.sl 0 0 0 (Cfg.np c) none,AC.sl 1 0 0 (Cfg.ns c) none,zI (Cfg.long c),AC.sl 2 0 0 (Cfg.nb c) none,AC.sl 3 0 0 (Cfg.nt c) none,zI (Cfg.miss c),zI (Cfg.good c),zI (Cfg.fresh c)]),yR 32 0 (Cs.lit (ZW v))];let zz1:=[some (ZN (List.zip XY (XP m z k)) 2),some (ZN (List.zip XY (XP m z k)) 3),some (ZN (List.zip XY (XP m z k)) 4),some (ZN (List.zip XY (XP m z k)) 5),some (ZN (List.zip XY (XP m z k)) 6),some (ZN (List.zip XY (XP m z k)) 7),some (AV.c (zI (IntKind.wrap IntKind.i64 (zN k+zN 1))))];let zz2:=(List.getD (ZW v) (0+zD (zN k)*1) ZS);let zz3:=[some (ZN (List.zip XY (XP m z k)) 2),some (ZN (List.zip XY (XP m z k)) 3),some (ZN (List.zip XY (XP m z k)) 4),some (ZN (List.zip XY (XP m z k)) 5),some (ZN (List.zip XY (XP m z k)) 6),some (AV.c (zI (zN k))),some (AV.c (zI (IntKind.wrap IntKind.i64 (zN k+zN 1))))];let zz4:=(ZP (List.getD (ZW v) (24+zD (zN k)*1) ZS)<ZP (List.getD (ZW v) (24+zD z*1) ZS));let zq0:List Bool:=[true];let zq1:List Bool:=(ABlk.inb (ABlk.mk true false 32 0 (Cs.lit (ZW v))) 0 (0+zD (zN k)*1+1))::(Zq Kd.b zz2)::(decide (zN 0<=zN k/\zN k<zN 8))::(decide (zN k < ↑(c.np))==true)::zq0;let zq2:List Bool:=(ABlk.inb zz5 (0+zD (zN k)) 1)::true::(decide (zN 0<=zN k/\zN k<zN 8))::(Zv zz2==true)::zq1;let zq3:List Bool:=((!tk (0+zD (zN k)))==true)::zq2;let zq4:List Bool:=(ABlk.inb (ABlk.mk true false 32 0 (Cs.lit (ZW v))) 0 (24+zD z*1+1))::(Zq (Kd.i .u16) (List.getD (ZW v) (24+zD z*1) ZS))::(decide (zN 0<=z/\z<zN 8))::(ABlk.inb (ABlk.mk true false 32 0 (Cs.lit (ZW v))) 0 (24+zD (zN k)*1+1))::(Zq (Kd.i .u16) (List.getD (ZW v) (24+zD (zN k)*1) ZS))::(decide (zN 0<=zN k/\zN k<zN 8))::(decide (z<zN 0)==false)::zq3;(((decide (zN k < ↑(c.np)))=true->(((Zv zz2)=true->(((!tk (0+zD (zN k)))=true->(((decide (z<zN 0))=true->Q (Exit.normal,zz3,zz0,54,100000000260000000000000000000000000000000000000010,((decide (z<zN 0)==true)::zq3),[]))/\((decide (z<zN 0))=false->(((decide zz4)=true->Q (Exit.normal,zz3,zz0,54,100000000260000000000000000000000000000000000000010,((decide zz4==true)::zq4),[]))/\((decide zz4)=false->Q (Exit.normal,zz1,zz0,54,100000000260000000000000000000000000000000000000008,((decide zz4==false)::zq4),[]))))))/\((!tk (0+zD (zN k)))=false->Q (Exit.normal,zz1,zz0,54,100000000260000000000000000000000000000000000000008,(((!tk (0+zD (zN k)))==false)::zq2),[]))))/\((Zv zz2)=false->Q (Exit.normal,zz1,zz0,54,100000000260000000000000000000000000000000000000008,((Zv zz2==false)::zq1),[]))))/\((decide (zN k < ↑(c.np)))=false->Q (Exit.exit 2,[some (ZN (List.zip XY (XP m z k)) 2),some (ZN (List.zip XY (XP m z k)) 3),some (ZN (List.zip XY (XP m z k)) 4),some (ZN (List.zip XY (XP m z k)) 5),some (ZN (List.zip XY (XP m z k)) 6),some (ZN (List.zip XY (XP m z k)) 7),some (ZN (List.zip XY (XP m z k)) 8)],zz0,54,100000000000000000000000000000000000000000000000005,((decide (zN k < ↑(c.np))==false)::zq0),[])))):
 ∃p r,fwER prog c v tk m g z k p=some r/\Q r:=
 ZL H (fun g1=>ZL g1 (fun g2=>ZL g2 (fun g3=>ZL g3 (fun g4=>⟨pD 20 20416,_,by kernel_rfl,g4⟩) (fun g4=>ZL g4 (fun g5=>⟨pD 20 1162301566,_,by kernel_rfl,g5⟩) (fun g5=>⟨pD 20 2324563033,_,by kernel_rfl,g5⟩))) (fun g3=>⟨pD 11 1462,_,by kernel_rfl,g3⟩)) (fun g2=>⟨pD 11 7,_,by kernel_rfl,g2⟩)) (fun g1=>⟨pD 1 2,_,by kernel_rfl,g1⟩)
theorem fwo (c:Cfg) (v:Vw) (tk:Nat->Bool) (m:Nat) (g:Nat->Int) (z:Int) (Q:VC->Prop) (H:let zM:=ABlk.mk;let zz2:=(zM false false 159 0 (Cs.lit [zI (Int.ofNat 1),zI (Int.negSucc 0)]));let zz1:=(zM true false 25 0 (Cs.lit [zI (Cfg.nodes c),AC.sl 0 0 0 (Cfg.np c) none,AC.sl 1 0 0 (Cfg.ns c) none,zI (Cfg.long c),AC.sl 2 0 0 (Cfg.nb c) none,AC.sl 3 0 0 (Cfg.nt c) none,zI (Cfg.miss c),zI (Cfg.good c),zI (Cfg.fresh c)]));let zz0:=[LoopV prog (ZY prog 112 1) XY fwEI [some (AV.c (AC.ptr 1000 0 0)),some (AV.c (AC.ptr 1001 0 0)),some (AV.c (AC.v (Value.slice none 0 0))),some (AV.c (AC.sl 1100 0 0 m none)),some (AV.c (AC.sl 1004 0 0 8 none)),some (AV.c (zI (Int.negSucc 0))),some (AV.c (zI (Int.ofNat 0)))] [yO 3 1 (Cs.arr m fun k=>List.map AC.v ((fun i=>[Value.int IntKind.i64 (g i)]) k)),yO 4 1 (Cs.arr 8 fun i=>[zB (tk i)]),some zz2,some zz1,yR 32 0 (Cs.lit (ZW v))] 54 1000000000000000000000000000000000000000002 (ZT 54 (TE m z)) (List.zip fwEI (TD c v tk m g)) 1000000000000000000000000000000000000000000000000000 (Exit.exit 2) none];(((decide (z<Int.ofNat 0))=true->Q (Exit.ret,[some (ZN (TE m z) 2),some (ZN (TE m z) 3),some (.c (.sl 1100 0 0 m none)),some (ZN (TE m z) 5),some (ZN (TE m z) 6)],[yO 3 1 (Cs.arr m fun k=>List.map AC.v ((fun i=>[Value.int .i64 (g i)]) k)),none,yO 4 1 (Cs.arr 8 fun i=>[zB (tk i)]),some zz2,some zz1,yR 32 0 (Cs.lit (ZW v))],54,1000000000000000000000000000000000000000000000000004,[decide (z<Int.ofNat 0)==true],zz0))/\((decide (z<Int.ofNat 0))=false->Q (Exit.normal,[some (ZN (TE m z) 2),some (ZN (TE m z) 3),some (ZN (TE m z) 4),some (.c (.sl 1000000000000000000000000000000000000000000000000009 0 0 (m+1) none)),some (ZN (TE m z) 6)],[none,yO 3 1 (Cs.arr (m+1) fun i=>if i<m then List.map AC.v ((fun i=>[Value.int .i64 (g i)]) i) else Z8 (zM true false 3 0 (Cs.lit [zI z])) 0 0 1 (i-m)),yO 4 1 (Cs.arr 8 fun i=>if i=0+Int.toNat z then YB ((fun i=>[zB (tk i)]) i) 0 [zB true] else[zB (tk i)]),some zz2,some zz1,yR 32 0 (Cs.lit (ZW v))],54,1000000000000000000000000000000000000000000000000011,[true,true,decide (m<=m),decide ((m+1)*8<=140737488355328),ABlk.inb (zM true true 4 1 (Cs.arr 8 fun i=>[zB (tk i)])) (0+Int.toNat z) 1,decide (Int.ofNat 0<=z/\z<Int.ofNat 8),decide (z<Int.ofNat 0)==false],zz0)))):
 ∃p r,fwR prog c v tk m g z p=some r/\Q r:=
 ZL H (fun g1=>⟨pD 1 1,_,by kernel_rfl,g1⟩) (fun g1=>⟨pD 1 2,_,by kernel_rfl,g1⟩)
theorem fwf (c:Cfg) (v:Vw) (m:Nat) (g:Nat->Int) (Q:VF->Prop) (H:Q (.c (.sl 1100 0 0 m none),[yO 3 1 (Cs.arr m fun k=>List.map AC.v ((fun i=>[Value.int .i64 (g i)]) k))],10000000000000000000000000000000000000000000000000000,[true],[LoopV prog (ZY prog 112 0) fwH (Vn::Mq) [some (.c (.ptr 1000 0 0)),some (.c (.ptr 1001 0 0)),some (.c (AC.v (Value.slice none 0 0))),some (.c (AC.v (Value.slice none 0 0))),some (.c (.sl 1004 0 0 8 none))] [yO 4 1 (Cs.arr 8 fun x=>List.map AC.v (Array.toList (Value.cells (Value.bool false)))),yF 159 0 (Cs.lit [zI (Int.ofNat 1),zI (Int.negSucc 0)]),yR 25 0 (Cs.lit [zI c.nodes,AC.sl 0 0 0 c.np none,AC.sl 1 0 0 c.ns none,zI c.long,AC.sl 2 0 0 c.nb none,AC.sl 3 0 0 c.nt none,zI c.miss,zI c.good,zI c.fresh]),yR 32 0 (Cs.lit (ZW v))] 54 1006 (ZT 54 [(4,.c (.sl UB 0 0 m none))]) [(UB,Ou m g)] 10000000000000000000000000000000000000000000000000000 Exit.ret none])):
 ∃p r,ZB [UB] (ZJ (E1 prog) (fC (E1 prog) 300) 112 [.agg (Yi c),.agg (ZW v)] 1000 nSt (Y7 (Xl c) p [some (fwS m g)]))=some r/\Q r:=
 ⟨pD 0 0,_,by kernel_rfl,H⟩
theorem Rw (k:Nat):0+Int.toNat (Int.ofNat k)=k:=by simp
theorem Cr {k:Nat} (h:k<9223372036854775807):IntKind.wrap IntKind.i64 (Int.ofNat k+Int.ofNat 1)=Int.ofNat (k+1):=by rw[XG _ (by simp;omega) (by simp;omega)];rfl
theorem jjkk {m:Nat} {f g:Nat->Int} {z:Int} {y:ABlk} (hy:y=ABlk.mk true true 3 1 (Cs.arr (m+1) fun i=>if i<m then List.map AC.v ((fun i=>[Value.int IntKind.i64 (f i)]) i) else Z8 (ABlk.mk true false 3 0 (Cs.lit [AC.v (Value.int IntKind.i64 z)])) 0 0 1 (i-m))) (h1:∀i,i<m->f i=g i) (h2:z=g m):BEq y (Ou (m+1) g):=by
 subst hy;refine⟨rfl,rfl,rfl,rfl,.inr (.inl ⟨_,_,_,rfl,rfl,fun i hi=>?_⟩)⟩;dsimp only;by_cases h:i<m
 . rw[if_pos h,h1 i h]
 . obtain rfl:i=m:=by omega
   rw[if_neg h,h2];simp[Z8]
theorem IL {N:Nat} (hN:1002<=N) {c:Cfg} {v:Vw}:∀b∈KH c v,Zc N b:=by
 intro b hb;simp only[List.mem_cons,List.not_mem_nil,or_false] at hb;rcases hb with rfl|rfl|rfl
 . exact XW rfl
 . exact VN (by omega)
 . exact WA
theorem IK {N:Nat} {tk:Nat->Bool}:Zc N (Hd tk):=jjk4 fun k j=>by
 match j with
 |0=>rfl
 |j+1=>rfl
theorem DX {N:Nat} (hN:1002<=N) {c:Cfg} {v:Vw} {tk:Nat->Bool} {m:Nat} {g:Nat->Int}:∀b∈TD c v tk m g,Zc N b:=by
 intro b hb;rcases List.mem_cons.1 hb with rfl|hb
 . exact XT
 rcases List.mem_cons.1 hb with rfl|hb
 . exact IK
 . exact IL hN b hb
abbrev HH:Nat:=1000000000000000000000000000000000000000002
theorem Ao (v:Vw) (tk:Nat->Bool) (k:Nat):SY v tk k<k/\ -1<=SY v tk k:=by
 rcases Pf v tk k with⟨e,_⟩|⟨b,e,h,_⟩<;>omega
theorem fw_e (c:Cfg) (v:Vw) (tk:Nat->Bool) (m:Nat) (g:Nat->Int) (h8:c.np<=8):
 LoopV prog (ZY prog 112 1) XY fwEI ((XP m (Int.negSucc 0) 0).map some) ((TD c v tk m g).map some) 54 HH (ZT 54 (TE m (SY v tk c.np))) (fwEI.zip (TD c v tk m g)) 1000000000000000000000000000000000000000000000000000 (.exit 2) none:=by
 refine UH Xk (fuel:=100) (str:=nSt) (nh:=100000000000000000000000000000000000000000000000000) (n':=1000000000000000000000000000000000000000000000000000) XY [] fwEI (fun k=>XP m (SY v tk k) k) (TD c v tk m g) c.np (by decide) (by decide) (by unfold ZQ;omega) (by simp) (fun _=>⟨rfl,rfl⟩) (by kernel_rfl) (fun _ _=>rfl) (DX (show 1002<=HH by decide)) ?_ ?_
 . intro k hk
   have w:=Cr (show k<9223372036854775807 by omega);have hk8:k<8:=by omega
   have a0:=Wc v k hk8;have b0:=TJ v k hk8;obtain⟨a4,b4⟩:=SJ v k hk8;obtain⟨z1,z2⟩:=Ao v tk k;have hs:=E9 v tk k;obtain⟨z,hz⟩:∃z,SY v tk k=z:=⟨_,rfl⟩
   have hzs:0<=z->ZP (List.getD (ZW v) (24+Int.toNat z*1) ZS)=v.score z.toNat/\Zq (.i .u16) (List.getD (ZW v) (24+Int.toNat z*1) ZS)=true:=fun h0=>by
    obtain⟨q,rfl⟩:=Int.eq_ofNat_of_zero_le h0;have:=SJ v q (by omega);simpa using this
   rw[hz] at z1 z2 hs
   have nx:∀{n1:Nat} {ob:List Bool} {z':Int},n1<=1000000000000000000000000000000000000000000000000000->ZZ ob->z'=SY v tk (k+1)->ML 1000000000000000000000000000000000000000000000000000 54 7 (XP m (SY v tk (k+1)) (k+1)) (TD c v tk m g) (.normal,[some (ZN (List.zip XY (XP m z k)) 2),some (ZN (List.zip XY (XP m z k)) 3),some (ZN (List.zip XY (XP m z k)) 4),some (ZN (List.zip XY (XP m z k)) 5),some (ZN (List.zip XY (XP m z k)) 6),some (.c (.v (.int .i64 z'))),some (.c (.v (.int .i64 (Int.ofNat (k+1)))))],(TD c v tk m g).map some,54,n1,ob,[]):=by
    rintro n1 ob _ h1 h2 rfl;exact⟨⟨h2,rfl,h1,rfl⟩,rfl,rfl,BL.refl (TD c v tk m g)⟩
   simp only[hz];refine(fwe c v tk m g z k _ ?_);simp only[w,a0,a4];refine⟨fun c1=>⟨fun c2=>⟨fun c3=>⟨fun c4=>?_,fun c4=>⟨fun c5=>?_,fun c5=>?_⟩⟩,fun c3=>?_⟩,fun c2=>?_⟩,fun c1=>?_⟩
   . simp only[Rw] at c3
     have t0:tk k=false:=by simpa using c3
     have z0:z<0:=by simpa using c4
     refine nx (by omega) ?_ (by rw[hs,if_pos ⟨c2,t0,.inl z0⟩];rfl);simp only[Rw,b0];simp[ZZ,Yk,Z6,Vw.len,c2,t0,z0];omega
   . simp only[Rw] at c3
     have t0:tk k=false:=by simpa using c3
     have z0:¬z<0:=by simpa using c4
     obtain⟨y1,y2⟩:=hzs (by omega);rw[y1] at c5;have z3:v.score k<v.score z.toNat:=of_decide_eq_true c5;refine nx (by omega) ?_ (by rw[hs,if_pos ⟨c2,t0,.inr z3⟩];rfl);simp only[Rw,b0,b4,y1,y2];simp[ZZ,Yk,Z6,Vw.len,c2,t0,z0,z3];omega
   . simp only[Rw] at c3
     have t0:tk k=false:=by simpa using c3
     have z0:¬z<0:=by simpa using c4
     obtain⟨y1,y2⟩:=hzs (by omega);rw[y1] at c5;have z3:¬v.score k<v.score z.toNat:=of_decide_eq_false c5;refine nx (by omega) ?_ (by rw[hs,if_neg (fun x=>x.2.2.elim z0 z3)]);simp only[Rw,b0,b4,y1,y2];simp[ZZ,Yk,Z6,Vw.len,c2,t0,z0,z3];omega
   . simp only[Rw] at c3
     have t0:tk k=true:=by simpa using c3
     refine nx (by omega) ?_ (by rw[hs,if_neg (fun x=>by rw[t0] at x;cases x.2.1)]);simp only[Rw,b0];simp[ZZ,Yk,Z6,Vw.len,c2,t0];omega
   . refine nx (by omega) ?_ (by rw[hs,if_neg (fun x=>by rw[c2] at x;cases x.1)])
     simp only[b0];simp[ZZ,Yk,Z6,Vw.len,c2];omega
   . simp at c1;omega
 . refine fwe c v tk m g (SY v tk c.np) c.np _ ⟨fun c1=>?_,fun c1=>?_⟩
   . simp at c1
   . refine⟨⟨by simp only[ZZ,List.forall_mem_cons,c1];simp,rfl,by dsimp only;omega,rfl⟩,rfl,fun p hp=>?_,Ru (by kernel_rfl) (DX (show 1002<=HH by decide)) rfl⟩
     simp only[List.mem_cons,List.not_mem_nil,or_false] at hp;rcases hp with rfl|rfl|rfl|rfl|rfl|rfl
     . exact⟨rfl,.head _⟩
     . exact⟨rfl,.tail _ (.head _)⟩
     . exact⟨rfl,.tail _ (.tail _ (.head _))⟩
     . exact⟨rfl,.tail _ (.tail _ (.tail _ (.head _)))⟩
     . exact⟨rfl,.tail _ (.tail _ (.tail _ (.tail _ (.head _))))⟩
     . exact⟨rfl,.tail _ (.tail _ (.tail _ (.tail _ (.tail _ (.head _)))))⟩
theorem Ft {f:Nat->List AC} {tk:Nat->Bool} (h:∀i,i<8->f i=[.v (.bool (tk i))]):BEq (ABlk.mk true true 4 1 (.arr 8 f)) (Hd tk):=⟨rfl,rfl,rfl,rfl,.inr (.inl ⟨8,_,_,rfl,rfl,fun i hi=>h i hi⟩)⟩
theorem fw_o (c:Cfg) (v:Vw) (h8:c.np<=8) {y:ABlk} (hy:BEq y (Hd fun _=>false)):
 LoopV prog (ZY prog 112 0) fwH (Vn::Mq) [some (.c (.ptr 1000 0 0)),some (.c (.ptr 1001 0 0)),some (.c (.v (.slice none 0 0))),some (.c (.v (.slice none 0 0))),some (.c (.sl Vn 0 0 8 none))] (some y::(KH c v).map some) 54 1006 (ZT 54 [(4,.c (.sl UB 0 0 (ZK v.inn c.np) none))]) [(UB,Ou (ZK v.inn c.np) (UR v c.np))] 10000000000000000000000000000000000000000000000000000 .ret none:=by
 have hT:=Rt v.inn c.np;refine KV Xk (fuel:=100) (str:=nSt) (nh:=1000000000000000000000000000000000000000000) (S:=Nat) (fun j=>j<=ZK v.inn c.np) (fun j=>ZK v.inn c.np-j) fwH ([UB,He]++(Vn::Mq)) [UB] (Vn::Mq) (Vn::Mq) (fun j=>fwV j) (fun j=>[Ou j (UR v c.np)]) (fun j=>Hd (Ul v c.np j)::KH c v) (by decide) (by decide) (by unfold ZQ;omega) (s0:=0) (Nat.zero_le _) ⟨fun _=>.inr 1,?_⟩ ?_
 . refine Wn (A:=[]) (kb:=some y::(KH c v).map some) rfl (by kernel_rfl) ?_ ?_ (by kernel_rfl) ?_ ?_
   . exact X0 (.head _) (fun h=>(by cases h)) (Xb rfl) (X0 (.tail _ (.head _)) (fun h=>(by cases h)) (Xb rfl) (X0 (.tail _ (.tail _ (.head _))) (fun h=>(by cases h)) (Xb rfl) (X0 (.tail _ (.tail _ (.tail _ (.head _)))) (fun h=>(by cases h)) (Qx (by decide) (by decide) (by decide) rfl) (X0 (.tail _ (.tail _ (.tail _ (.tail _ (.head _))))) (fun h=>(by cases h)) (Xb rfl) (Wp)))))
   . exact WB (LG rfl rfl rfl rfl ⟨_,rfl⟩) Wo
   . intro b hb
     rcases List.mem_cons.1 hb with rfl|hb
     . exact IK
     . exact IL (by omega) b hb
   . exact⟨hy,BL.refl (KH c v)⟩
 . intro j hj
   refine(?_:(∃p r,fwR prog c v (Ul v c.np j) j (UR v c.np) (UR v c.np j) p=some r/\_)->_) (fwo c v (Ul v c.np j) j (UR v c.np) (UR v c.np j) (R1 1006 1000000000000000000000000000000000000000000 10000000000000000000000000000000000000000000000000000 54 fwH ([UB,He]++(Vn::Mq)) [UB] (Vn::Mq) (fun j:Nat=>j<=ZK v.inn c.np) (fun j=>ZK v.inn c.np-j) (fun j=>fwV j) (fun j=>[Ou j (UR v c.np)]) (fun j=>Hd (Ul v c.np j)::KH c v) .ret [(4,.c (.sl UB 0 0 (ZK v.inn c.np) none))] [(UB,Ou (ZK v.inn c.np) (UR v c.np))] j) ?_)
   . rintro⟨p,r,h1,h2⟩
     exact⟨p,_,r,h1,h2⟩
   . have he:=fw_e c v (Ul v c.np j) j (UR v c.np) h8
     refine⟨fun c1=>?_,fun c1=>?_⟩
     . have z0:UR v c.np j<0:=by simpa using c1
       obtain rfl:j=ZK v.inn c.np:=by
        by_cases h:j<ZK v.inn c.np
        . have:=IM h;omega
        . omega
       refine⟨by simp only[ZZ,List.forall_mem_cons,c1];simp,fun q hq=>?_,by dsimp only;omega,rfl,.inr ⟨by simp,rfl,fun g=>.inl g,?_⟩⟩
       . rw[List.mem_singleton.1 hq];exact he
       . refine Wn (hs:=[4]) (vals:=[.c (.sl UB 0 0 (ZK v.inn c.np) none)]) (gs:=[UB]) (gb:=[Ou (ZK v.inn c.np) (UR v c.np)]) (ids:=[]) (blks:=[]) (A:=[(UB,_),(He,none),(Vn,_),(YR 0,_),(1000,_),(1001,_)]) (kb:=[]) rfl (by kernel_rfl) ?_ ?_ (by kernel_rfl) (fun b hb=>by cases hb) trivial
         . exact X0 (.tail _ (.tail _ (.head _))) (fun h=>(by cases h)) (WN (by decide) (by decide) (by decide) rfl) Wp
         . exact WB (Uf rfl rfl rfl (.head _) (BEq.refl _) XT) Wo
     . have z0:¬UR v c.np j<0:=by simpa using c1
       have hlt:j<ZK v.inn c.np:=by
        by_cases h:j<ZK v.inn c.np
        . exact h
        . have e:=jjnu v c.np
          have:j=ZK v.inn c.np:=by omega
          rw[<- this] at e;exact absurd e z0
       have hm:=IM hlt;obtain⟨b,hb⟩:=Int.eq_ofNat_of_zero_le hm.1;have hb':SY v (Ul v c.np j) c.np=(b:Int):=hb
       have ht:∀i,Ul v c.np (j+1) i=if i=b then true else Ul v c.np j i:=fun i=>by
        show Me (Ul v c.np j) (SY v (Ul v c.np j) c.np).toNat i=_;rw[hb',Int.toNat_natCast];rfl
       refine⟨?_,fun q hq=>?_,by dsimp only;omega,rfl,.inl ⟨rfl,j+1,hlt,by show ZK v.inn c.np-(j+1)<ZK v.inn c.np-j;omega,fun _=>.inl He,?_⟩⟩
       . rw[hb];simp[ZZ,Z6];omega
       . rw[List.mem_singleton.1 hq];exact he
       . refine Wn (A:=[(UB,none),(He,_)]) (kb:=some _::(KH c v).map some) rfl (by kernel_rfl) ?_ ?_ (by kernel_rfl) ?_ ?_
         . exact X0 (.head _) (fun h=>(by cases h)) (Xb rfl) (X0 (.tail _ (.head _)) (fun h=>(by cases h)) (Xb rfl) (X0 (.tail _ (.tail _ (.head _))) (fun h=>(by cases h)) (Xb rfl) (X0 (.tail _ (.tail _ (.tail _ (.head _)))) (fun h=>(by cases h)) (WN (by decide) (by decide) (by decide) rfl) (X0 (.tail _ (.tail _ (.tail _ (.tail _ (.head _))))) (fun h=>(by cases h)) (Xb rfl) (Wp)))))
         . exact WB (Uf rfl rfl rfl (.tail _ (.head _)) (jjkk rfl (fun _ _=>rfl) rfl) XT) Wo
         . intro b hb
           rcases List.mem_cons.1 hb with rfl|hb
           . exact IK
           . exact IL (by omega) b hb
         . refine⟨Ft fun i hi=>?_,BL.refl (KH c v)⟩
           rw[ht,hb,Int.toNat_natCast,Nat.zero_add];by_cases e:i=b
           . rw[if_pos e,if_pos e];rfl
           . rw[if_neg e,if_neg e]
def VH:Zf->Nat
 |⟨c,[.agg l]⟩=>ZK (Zk l).inn c.np
 |_=>0
def Cq:Zf->Nat->Int
 |⟨c,[.agg l]⟩=>UR (Zk l) c.np
 |_=>fun _=>0
def TC:Zf->Bool
 |⟨c,[.agg l]⟩=>Yx l&&decide (c.np<=8)
 |_=>false
def PO:Yq:=N2 Z7 VH (fun s=>Ou (VH s) (Cq s)) TC
theorem jji2:ZC prog 112 PO:=by
 refine jji5 (E:=E1 prog) Xk Z7 UB (fuel:=300) (str:=nSt) ⟨_,_,Tryz.func112,rfl⟩ (fun _=>rfl) (fun _=>⟨_,_,rfl⟩) (fun s k j h=>jjik (ty:=3) (sz:=1) (n:=VH s) (f:=fun i=>[.int .i64 (Cq s i)]) (fun _=>rfl) k j h) fun s hs=>?_
 unfold TC at hs;split at hs
 . rename_i c l
   simp only[Bool.and_eq_true,decide_eq_true_eq] at hs;obtain⟨hl,h8⟩:=hs;have e:=UJ hl;show ∃p lp r,ZB [UB] (ZJ (E1 prog) (fC (E1 prog) 300) 112 [.agg (Yi c),.agg l] 1000 nSt (Y7 (Xl c) p lp))=some r/\MK UB (ZK (Zk l).inn c.np) (Ou (ZK (Zk l).inn c.np) (UR (Zk l) c.np)) r
   generalize Zk l=v at e ⊢;subst e;refine(?_:(∃p r,ZB [UB] (ZJ (E1 prog) (fC (E1 prog) 300) 112 [.agg (Yi c),.agg (ZW v)] 1000 nSt (Y7 (Xl c) p [some (fwS (ZK v.inn c.np) (UR v c.np))]))=some r/\MK UB (ZK v.inn c.np) (Ou (ZK v.inn c.np) (UR v c.np)) r)->_) (fwf c v (ZK v.inn c.np) (UR v c.np) _ ?_)
   . rintro⟨p,r,h1,h2⟩
     exact⟨p,_,r,h1,h2⟩
   . refine⟨rfl,⟨_,rfl,BEq.refl _⟩,(by first|(unfold ZQ;omega)|(dsimp only;unfold ZQ;omega)),by simp[ZZ],fun q hq=>?_⟩
     rw[List.mem_singleton.1 hq];exact fw_o c v h8 (Ft fun i hi=>rfl)
 . cases hs
def Q8 (P:Program):Env:=⟨P,[(112,PO)]⟩
theorem Cv:Zz (Q8 prog):=by
 refine Xp (fun f g h=>?_) (by kernel_rfl) (by kernel_rfl);simp only[Q8,List.mem_cons,Prod.mk.injEq,List.not_mem_nil,or_false] at h;obtain⟨rfl,rfl⟩:=h;exact jji2
theorem cwT (c:Cfg) (v:Vw) (Q:VF->Prop) (H:let zN:=Int.ofNat;let zz0:=(List.getD (ZW v) (24+Int.toNat (IntKind.wrap IntKind.i64 (Vw.command v))*1) ZS);let zz1:=(List.getD (ZW v) (0+Int.toNat (IntKind.wrap IntKind.i64 (Vw.command v))*1) ZS);let zz2:=(↑(VH (Zf.mk c [AV.agg (ZW v)]))==zN 0);let zz3:=(IntKind.wrap IntKind.i64 (Vw.command v)≥zN 0);let zz4:=(ABlk.mk true true 3 1 (Cs.arr (VH (Zf.mk c [AV.agg (ZW v)])) fun k=>List.map AC.v ((fun i=>[Value.int IntKind.i64 (Cq (Zf.mk c [AV.agg (ZW v)]) i)]) k)));let zz5:=(IntKind.wrap IntKind.i64 (Vw.command v) < ↑(Cfg.np c));let zz6:=(0+Int.toNat (IntKind.wrap IntKind.i64 (Vw.command v))*1+1);let zz7:=(zI (Cq (Zf.mk c [AV.agg (ZW v)]) 0));let zz8:=(24+Int.toNat (IntKind.wrap IntKind.i64 (Vw.command v))*1+1);let zq0:List Bool:=[true,true];let zq1:List Bool:=true::(decide zz3==true)::zq0;let zq2:List Bool:=(ABlk.inb (ABlk.mk true false 32 0 (Cs.lit (ZW v))) 0 zz6)::(Zq Kd.b zz1)::(decide (zN 0<=IntKind.wrap .i64 (Vw.command v)/\IntKind.wrap .i64 (Vw.command v)<zN 8))::(decide zz5==true)::zq1;let zq3:List Bool:=(ABlk.inb (ABlk.mk true false 32 0 (Cs.lit (ZW v))) 0 zz8)::(Zq (Kd.i .u16) zz0)::(decide (zN 0<=IntKind.wrap .i64 (Vw.command v)/\IntKind.wrap .i64 (Vw.command v)<zN 8))::(Zv zz1==true)::zq2;let zq4:List Bool:=(Z2 c)::(TC (Zf.mk c [AV.agg (ZW v)]))::(zu (zt (zt (true::((decide (ZP zz0≥zN 64)==true)::zq3)))));let zq5:List Bool:=(decide (ZP zz0≥zN 64)==false)::zq3;let zq6:List Bool:=(Z2 c)::(TC (Zf.mk c [AV.agg (ZW v)]))::(zu (zt (zt (true::((Zv zz1==false)::zq2)))));let zq7:List Bool:=(Z2 c)::(TC (Zf.mk c [AV.agg (ZW v)]))::(zu (zt (zt (true::((decide zz5==false)::zq1)))));let zq8:List Bool:=(Z2 c)::(TC (Zf.mk c [AV.agg (ZW v)]))::(zu (zt (zt (true::((decide zz3==false)::zq0)))));(((decide zz3)=true->(((decide zz5)=true->(((Zv zz1)=true->(((decide (ZP zz0≥zN 64))=true->((zz2=true->Q (.c (zI (Int.negSucc 0)),[],1041,((zz2==true)::zq4),[]))/\(zz2=false->Q (AV.c zz7,[],1044,((ABlk.inb zz4 0 1)::true::(decide (zN 0<=zN 0/\zN 0 < ↑(VH (Zf.mk c [AV.agg (ZW v)]))))::(zz2==false)::zq4),[]))))/\((decide (ZP zz0≥zN 64))=false->(((decide (ZP zz0≥zN 16))=true->Q (.c (zI (IntKind.wrap .i64 (Vw.command v))),[],1037,((decide (ZP zz0≥zN 16)==true)::zq5),[]))/\((decide (ZP zz0≥zN 16))=false->Q (.c (zI (IntKind.wrap .i64 (Vw.command v))),[],1037,((decide (ZP zz0≥zN 16)==false)::zq5),[]))))))/\((Zv zz1)=false->((zz2=true->Q (.c (zI (Int.negSucc 0)),[],1032,((zz2==true)::zq6),[]))/\(zz2=false->Q (AV.c zz7,[],1035,((ABlk.inb zz4 0 1)::true::(decide (zN 0<=zN 0/\zN 0 < ↑(VH (Zf.mk c [AV.agg (ZW v)]))))::(zz2==false)::zq6),[]))))))/\((decide zz5)=false->((zz2=true->Q (.c (zI (Int.negSucc 0)),[],1028,((zz2==true)::zq7),[]))/\(zz2=false->Q (AV.c zz7,[],1031,((ABlk.inb zz4 0 1)::true::(decide (zN 0<=zN 0/\zN 0 < ↑(VH (Zf.mk c [AV.agg (ZW v)]))))::(zz2==false)::zq7),[]))))))/\((decide zz3)=false->((zz2=true->Q (.c (zI (Int.negSucc 0)),[],1023,((zz2==true)::zq8),[]))/\(zz2=false->Q (AV.c zz7,[],1026,((ABlk.inb zz4 0 1)::true::(decide (zN 0<=zN 0/\zN 0 < ↑(VH (Zf.mk c [AV.agg (ZW v)]))))::(zz2==false)::zq8),[])))))):
 ∃p r,Ot (Q8 prog) 81 c [.agg (ZW v)] p []=some r/\Q r:=
 ZL H (fun g1=>ZL g1 (fun g2=>ZL g2 (fun g3=>ZL g3 (fun g4=>ZL g4 (fun g5=>⟨pD 18 133943059,_,by kernel_rfl,g5⟩) (fun g5=>⟨pD 18 263083222,_,by kernel_rfl,g5⟩)) (fun g4=>ZL g4 (fun g5=>⟨pD 18 23934772,_,by kernel_rfl,g5⟩) (fun g5=>⟨pD 18 38283679,_,by kernel_rfl,g5⟩))) (fun g3=>ZL g3 (fun g4=>⟨pD 17 43086331,_,by kernel_rfl,g4⟩) (fun g4=>⟨pD 17 86133052,_,by kernel_rfl,g4⟩))) (fun g2=>ZL g2 (fun g3=>⟨pD 17 43047208,_,by kernel_rfl,g3⟩) (fun g3=>⟨pD 17 86093929,_,by kernel_rfl,g3⟩))) (fun g1=>ZL g1 (fun g2=>⟨pD 17 43046723,_,by kernel_rfl,g2⟩) (fun g2=>⟨pD 17 86093444,_,by kernel_rfl,g2⟩))
def cwR:Zf->AV
 |⟨c,[.agg l]⟩=>i64 (Xm c (Zk l))
 |_=>i64 0
def Hc:Zf->Bool
 |⟨c,[.agg l]⟩=>Yx l&&(decide (c.np<=8)&&(decide (-128<=ZP (l.getD 40 ZS))&&decide (ZP (l.getD 40 ZS)<=127)))
 |_=>false
theorem jjny (c:Cfg) (l:List AC):Hc ⟨c,[.agg l]⟩=(Yx l&&(decide (c.np<=8)&&(decide (-128<=ZP (l.getD 40 ZS))&&decide (ZP (l.getD 40 ZS)<=127)))):=rfl
theorem Cd:ZC prog 81 (Z9 Z7 cwR Hc):=by
 refine Te (E:=Q8 prog) Cv Z7 (fuel:=300) (str:=nSt) ⟨_,_,Tryz.func81,rfl⟩ (fun s=>by unfold cwR;split<;>rfl) fun s hs=>?_
 unfold Hc at hs;split at hs
 . rename_i c l
   simp only[Bool.and_eq_true,decide_eq_true_eq] at hs;obtain⟨hl,h8,hc1,hc2⟩:=hs;have e:=UJ hl;show ∃p lp r,ZB [] (ZJ (Q8 prog) (fC (Q8 prog) 300) 81 [.agg (Yi c),.agg l] 1000 nSt (Y7 (Xl c) p lp))=some r/\Zp (i64 (Xm c (Zk l))) r
   obtain⟨u,hu⟩:∃u,Zk l=u:=⟨_,rfl⟩
   rw[hu] at e ⊢;have ku:Zk (ZW u)=u:=by rw[ZW,<- e,hu]
   subst e;have hc1: -128<=u.command:=hc1;have hc2:u.command<=127:=hc2
   have f1:VH (Zf.mk c [.agg (ZW u)])=ZK u.inn c.np:=by
    show ZK (Zk (ZW u)).inn c.np=_;rw[ku]
   have f2:Cq (Zf.mk c [.agg (ZW u)])=UR u c.np:=by
    show UR (Zk (ZW u)) c.np=_;rw[ku]
   have f3:TC (Zf.mk c [.agg (ZW u)])=true:=by
    show (Yx (ZW u)&&decide (c.np<=8))=true;rw[show Yx (ZW u)=true from WT u,decide_eq_true h8];rfl
   refine(?_:(∃p r,Ot (Q8 prog) 81 c [.agg (ZW u)] p []=some r/\Zp (i64 (Xm c u)) r)->_) (cwT c u _ ?_)
   . rintro⟨p,r,h1,h2⟩
     exact⟨p,[],r,h1,h2⟩
   . simp only[f1,f2,f3]
     obtain⟨n,hn⟩:∃n,ZK u.inn c.np=n:=⟨_,rfl⟩
     obtain⟨b,hb⟩:∃b,UR u c.np 0=b:=⟨_,rfl⟩
     have hR:Xm c u=if 0<=u.command/\u.command<c.np/\u.inn u.command.toNat=true/\u.score u.command.toNat<64 then u.command else if n=0 then -1 else b:=by rw[<- hn,<- hb];rfl
     have hm1:(Int.negSucc 0)=(-1:Int):=rfl;simp only[hn,hb,hR,hm1];by_cases hs:0<=u.command/\u.command<c.np
     . obtain⟨q,hq⟩:=Int.eq_ofNat_of_zero_le hs.1
       have hq8:q<8:=by omega
       have w:IntKind.wrap .i64 u.command=Int.ofNat q:=by rw[hq,XG _ (by omega) (by omega)];rfl
       have a0:=Wc u q hq8;have b0:=TJ u q hq8;obtain⟨a4,b4⟩:=SJ u q hq8;have hqn:q<c.np:=by omega
       simp only[w,a0,b0,a4,b4,hq,Int.toNat_natCast]
       (repeat' (first|refine⟨fun h=>?_,fun h=>?_⟩|fail))
       all_goals (refine⟨?_,(by first|(unfold ZQ;omega)|(dsimp only;unfold ZQ;omega)),?_,by simp⟩)
       all_goals (simp only[decide_eq_true_eq,decide_eq_false_iff_not,beq_iff_eq,beq_eq_false_iff_ne,Int.ofNat_eq_natCast,Int.cast_ofNat_Int,ge_iff_le] at *)
       all_goals (first|(exfalso;omega)|skip)
       all_goals (first|(simp_all[i64];done)|(simp_all[i64];omega)|(simp_all[ZZ,YZ,YU,YT,YO,YE,YF,Yk,Z6,Vw.len];done)|(simp_all[ZZ,YZ,YU,YT,YO,YE,YF,Yk,Z6,Vw.len];omega))
     . have w:IntKind.wrap .i64 u.command=u.command:=XG _ (by omega) (by omega)
       have hs':¬(0<=u.command/\u.command<c.np/\u.inn u.command.toNat=true/\u.score u.command.toNat<64):=fun x=>hs ⟨x.1,x.2.1⟩
       simp only[w,if_neg hs']
       (repeat' (first|refine⟨fun h=>?_,fun h=>?_⟩|fail))
       all_goals (simp only[decide_eq_true_eq,decide_eq_false_iff_not,Int.ofNat_eq_natCast,Int.cast_ofNat_Int,ge_iff_le] at *)
       all_goals (first|(exfalso;omega)|skip)
       all_goals (refine⟨?_,(by first|(unfold ZQ;omega)|(dsimp only;unfold ZQ;omega)),?_,by simp⟩)
       all_goals (first|(simp_all[i64];done)|(simp_all[i64];omega)|(simp_all[ZZ,YZ,YU,YT,YO,YE,YF,Yk,Z6,Vw.len];done)|(simp_all[ZZ,YZ,YU,YT,YO,YE,YF,Yk,Z6,Vw.len];omega))
 . cases hs
def JF:List (FuncId × Yq):=[(80,Z9 Z7 Bp Hk),(81,Z9 Z7 cwR Hc),(113,Z9 Z7 Ji Oe),(114,Z9 (Yf [] rfl) Jk Oh)]
def Hq (P:Program):Env:=⟨P,JF⟩
theorem hEBo:Zz (Hq prog):=by
 refine Xp (fun f g h=>?_) (by kernel_rfl) (by kernel_rfl);simp only[Hq,JF,List.mem_cons,Prod.mk.injEq,List.not_mem_nil,or_false] at h;rcases h with⟨rfl,rfl⟩|⟨rfl,rfl⟩|⟨rfl,rfl⟩|⟨rfl,rfl⟩
 . exact Cg
 . exact Cd
 . exact Ac
 . exact Ab
theorem boT (c:Cfg) (v:Vw) (Q:VF->Prop) (H:let zz0:=(SX.mk (Cfg.np c) (Cfg.miss c) (Cfg.good c));let zz3:=(Value.bool (Vz zz0 0 (Vw.inn v 0) (Vw.got v 0) (Vw.miss v 0) (Vw.good v 0)));let zz4:=(Value.bool (Vz zz0 1 (Vw.inn v 1) (Vw.got v 1) (Vw.miss v 1) (Vw.good v 1)));let zz5:=(Value.bool (Vz zz0 2 (Vw.inn v 2) (Vw.got v 2) (Vw.miss v 2) (Vw.good v 2)));let zz6:=(Value.bool (Vz zz0 3 (Vw.inn v 3) (Vw.got v 3) (Vw.miss v 3) (Vw.good v 3)));let zz7:=(Value.bool (Vz zz0 4 (Vw.inn v 4) (Vw.got v 4) (Vw.miss v 4) (Vw.good v 4)));let zz8:=(Value.bool (Vz zz0 5 (Vw.inn v 5) (Vw.got v 5) (Vw.miss v 5) (Vw.good v 5)));let zz9:=(Value.bool (Vz zz0 6 (Vw.inn v 6) (Vw.got v 6) (Vw.miss v 6) (Vw.good v 6)));let zz10:=(Value.bool (Vz zz0 7 (Vw.inn v 7) (Vw.got v 7) (Vw.miss v 7) (Vw.good v 7)));let zz1:=(IntKind.wrap IntKind.u8 (Xg (Cfg.np c) [AC.v zz3,AC.v zz4,AC.v zz5,AC.v zz6,AC.v zz7,AC.v zz8,AC.v zz9,AC.v zz10] (IntKind.wrap IntKind.i8 (Xm c (Zk (ZW (ZD zz0 v)))))));let zz2:=(Zf.mk c [AV.agg (AC.v zz3::AC.v zz4::AC.v zz5::AC.v zz6::AC.v zz7::AC.v zz8::AC.v zz9::AC.v zz10::z8 (fun zk=>zU (Vf zz0 zk (Vw.got v zk) (Vw.miss v zk))) (z8 (fun zk=>zU (Ve zz0 zk (Vw.got v zk) (Vw.good v zk))) (z8 (fun zk=>zH (UT zz0 zk (Vw.got v zk) (Vw.score v zk))) (z8 (fun zk=>zB (RL zz0 zk (Vw.got v zk))) [AC.v (Value.int IntKind.i8 (IntKind.wrap IntKind.i8 (Xm c (Zk (ZW (ZD zz0 v)))))),zU (Vw.mode v)]))))]);let zq0:List Bool:=true::(Oh [.c (zU (Vw.mode v)),.c (zU zz1)])::true::true::(Z2 c)::(Oe zz2)::(zu (zu (zu (y3 (((Z2 c)::(Hc (Zf.mk c [AV.agg (ZW (ZD zz0 v))]))::(zu (zt (zt (true::true::((Z2 c)::(Hk (Zf.mk c [AV.agg (ZW v)]))::(zu (zt (zt (true::[])))))))))))))));(((Yn (Vw.mode v) zz1)=true->Q (.agg (AC.v zz3::AC.v zz4::AC.v zz5::AC.v zz6::AC.v zz7::AC.v zz8::AC.v zz9::AC.v zz10::z8 (fun zk=>zU (Vf zz0 zk (Vw.got v zk) (Vw.miss v zk))) (z8 (fun zk=>zU (Ve zz0 zk (Vw.got v zk) (Vw.good v zk))) (z8 (fun zk=>zH (UT zz0 zk (Vw.got v zk) (Vw.score v zk))) (z8 (fun zk=>zB (RL zz0 zk (Vw.got v zk))) [.v (.int .i8 (IntKind.wrap .i8 (Xm c (Zk (ZW (ZD zz0 v)))))),zU zz1])))),[],1031,(zu (zu (zt (zt (zt ((Yn (Vw.mode v) zz1==true)::zq0)))))),[]))/\((Yn (Vw.mode v) zz1)=false->Q (.agg (AC.v zz3::AC.v zz4::AC.v zz5::AC.v zz6::AC.v zz7::AC.v zz8::AC.v zz9::AC.v zz10::z8 (fun zk=>zU (Vf zz0 zk (Vw.got v zk) (Vw.miss v zk))) (z8 (fun zk=>zU (Ve zz0 zk (Vw.got v zk) (Vw.good v zk))) (z8 (fun zk=>zH (UT zz0 zk (Vw.got v zk) (Vw.score v zk))) (z8 (fun zk=>zB (RL zz0 zk (Vw.got v zk))) [.v (.int .i8 (IntKind.wrap .i8 (Xm c (Zk (ZW (ZD zz0 v)))))),zU (IntKind.wrap .u8 (IntKind.wrap .i64 (IntKind.wrap .i64 (Vw.mode v)-Int.ofNat 1)))])))),[],1034,(zu (zu (zt (zt (zt (true::true::((Yn (Vw.mode v) zz1==false)::zq0))))))),[])))):
 ∃p r,Ot (Hq prog) 38 c [.agg (ZW v)] p []=some r/\Q r:=
 ZL H (fun g1=>⟨pD 1 1,_,by kernel_rfl,g1⟩) (fun g1=>⟨pD 1 2,_,by kernel_rfl,g1⟩)
def Mp (c:Cfg) (v:Vw):Vw:={ZD ⟨c.np,c.miss,c.good⟩ v with command:=Xm c (Zk (ZW (ZD ⟨c.np,c.miss,c.good⟩ v))),mode:=Ws (Xg c.np (Wa (ZD ⟨c.np,c.miss,c.good⟩ v)) (Xm c (Zk (ZW (ZD ⟨c.np,c.miss,c.good⟩ v))))) v.mode}
def GN:Zf->AV
 |⟨c,[.agg l]⟩=>.agg (ZW (Mp c (Zk l)))
 |_=>i64 0
def RM:Zf->Bool
 |⟨c,[.agg l]⟩=>Yx l&&(S0 l&&(decide (c.np<=8)&&(decide (-128<=ZP (l.getD 40 ZS)/\ZP (l.getD 40 ZS)<=127)&&decide (0<=ZP (l.getD 41 ZS)/\ZP (l.getD 41 ZS)<=255))))
 |_=>false
theorem jjjc (c:Cfg) (l:List AC):RM ⟨c,[.agg l]⟩=(Yx l&&(S0 l&&(decide (c.np<=8)&&(decide (-128<=ZP (l.getD 40 ZS)/\ZP (l.getD 40 ZS)<=127)&&decide (0<=ZP (l.getD 41 ZS)/\ZP (l.getD 41 ZS)<=255))))):=rfl
def R9:Yq:=Z9 Z7 GN RM
theorem jje0:ZC prog 38 R9:=by
 refine Te (E:=Hq prog) hEBo Z7 (fuel:=300) (str:=nSt) ⟨_,_,Tryz.func38,rfl⟩ (fun s=>by unfold GN;split<;>rfl) fun s hs=>?_
 unfold RM at hs;split at hs
 . rename_i c l
   simp only[Bool.and_eq_true,decide_eq_true_eq] at hs;obtain⟨hl,hb,h8,hc,hm⟩:=hs;have e:=UJ hl;show ∃p lp r,ZB [] (ZJ (Hq prog) (fC (Hq prog) 300) 38 [.agg (Yi c),.agg l] 1000 nSt (Y7 (Xl c) p lp))=some r/\Zp (.agg (ZW (Mp c (Zk l)))) r
   obtain⟨v,hu⟩:∃u,Zk l=u:=⟨_,rfl⟩
   rw[hu] at e ⊢;have ku:Zk (ZW v)=v:=by rw[ZW,<- e,hu]
   subst e;have hc: -128<=v.command/\v.command<=127:=hc;have hm:0<=v.mode/\v.mode<=255:=hm;have qv:S0 (ZW v)=true:=hb;have va:Yx (ZW v)=true:=WT v;have vb:Yx (ZW (ZD ⟨c.np,c.miss,c.good⟩ v))=true:=WT _;have n8:decide (c.np<=8)=true:=decide_eq_true h8;have hK:=EY h8 (Zk (ZW (ZD ⟨c.np,c.miss,c.good⟩ v)))
   have cwp:Hc (Zf.mk c [.agg (ZW (ZD ⟨c.np,c.miss,c.good⟩ v))])=true:=by
    rw[jjny,vb,n8];show (true&&(true&&(decide (-128<=v.command)&&decide (v.command<=127))))=true;rw[decide_eq_true hc.1,decide_eq_true hc.2];rfl
   have rxp:Hk (Zf.mk c [.agg (ZW v)])=true:=by rw[jjm8,va,qv,n8];rfl
   have hR:Mp c v= {ZD ⟨c.np,c.miss,c.good⟩ v with command:=Xm c (Zk (ZW (ZD ⟨c.np,c.miss,c.good⟩ v))),mode:=Ws (Xg c.np (Wa (ZD ⟨c.np,c.miss,c.good⟩ v)) (Xm c (Zk (ZW (ZD ⟨c.np,c.miss,c.good⟩ v))))) v.mode}:=rfl;refine(?_:(∃p r,Ot (Hq prog) 38 c [.agg (ZW v)] p []=some r/\Zp (.agg (ZW (Mp c v))) r)->_) (boT c v _ ?_)
   . rintro⟨p,r,h1,h2⟩
     exact⟨p,[],r,h1,h2⟩
   obtain⟨K,hKK⟩:∃K,Xm c (Zk (ZW (ZD ⟨c.np,c.miss,c.good⟩ v)))=K:=⟨_,rfl⟩
   rw[hKK] at hK hR
   have w8:IntKind.wrap .i8 K=K:=by
    simp only[IntKind.wrap,IntKind.bits,IntKind.signed]
    first|omega|(simp;omega)
   have w1:∀l,IntKind.wrap .u8 (Xg c.np l K)=Xg c.np l K:=fun l=>F9 (by have:=L5 c.np l K;omega) (by have:=L5 c.np l K;omega)
   have wm:IntKind.wrap .i64 (IntKind.wrap .i64 v.mode-Int.ofNat 1)=v.mode-1:=by
    rw[XG v.mode (by omega) (by omega)];exact XG _ (by simp;omega) (by simp;omega)
   simp only[hKK,w8,w1,wm];rw[hR];refine⟨fun c1=>?_,fun c1=>?_⟩
   all_goals
    refine⟨?_,(by first|(unfold ZQ;omega)|(dsimp only;unfold ZQ;omega)),?_,by simp⟩
    . simp only[Ws]
      first
       |(rw[if_pos (show Yn v.mode (Xg c.np (Wa (ZD ⟨c.np,c.miss,c.good⟩ v)) K)=true from c1)];rfl)
       |(rw[if_neg (show ¬Yn v.mode (Xg c.np (Wa (ZD ⟨c.np,c.miss,c.good⟩ v)) K)=true from fun h=>(by cases h.symm.trans c1))];rfl)
    . simp only[ZZ,List.forall_mem_cons,List.not_mem_nil,false_implies,implies_true,and_true,true_and,va,vb,n8,cwp,rxp]
      repeat' apply And.intro
      all_goals first
       |rfl
       |exact c1
       |(rw[jjjd,n8];rfl)
       |(rw[jjj4,decide_eq_true hm.1,decide_eq_true hm.2,decide_eq_true (Int.le_trans (by decide) (L5 _ _ _).1)];rfl)
       |(simp[YZ,YU,YT,YO,YE,YF,c1];done)
 . cases hs
def As (P:Program):Option VF:=ZB [] (ZJ (E1 P) (fC (E1 P) 300) 5 [] 10 nSt (stC QB))
theorem jjh8:As prog=
 some (.c (.v (.bool true)),[],410000000000000000000000000000000000000027,[],[]):=by kernel_rfl
def VE:List (FuncId × Yq):=[(25,Jz),(30,Jw),(33,PL),(24,Tu),(29,Hx WE),(32,N4),(34,R8),(61,VZ),(26,Qf),(27,Z9 Z7 B8 Ox),(36,Z9 Z7 B7 M5),(35,Z9 Z7 MO Hu),(37,PP),(39,SE),(38,R9),(5,HB QB)]
theorem Lk:∀f g,(f,g)∈VE->ZC prog f g:=by
 intro f g h;simp only[VE,List.mem_cons,Prod.mk.injEq,List.not_mem_nil,or_false] at h;rcases h with⟨rfl,rfl⟩|⟨rfl,rfl⟩|⟨rfl,rfl⟩|⟨rfl,rfl⟩|⟨rfl,rfl⟩|⟨rfl,rfl⟩|⟨rfl,rfl⟩|⟨rfl,rfl⟩|⟨rfl,rfl⟩|⟨rfl,rfl⟩|⟨rfl,rfl⟩|⟨rfl,rfl⟩|⟨rfl,rfl⟩|⟨rfl,rfl⟩|⟨rfl,rfl⟩|⟨rfl,rfl⟩
 . exact Ag
 . exact Aj
 . exact jji4
 . exact Io
 . exact jji0
 . exact jjky
 . exact jje2
 . exact Ll
 . exact jjlb
 . exact Cf
 . exact Ce
 . exact jjld
 . exact jjhx
 . exact jjca
 . exact jje0
 . exact jjle (E:=E1 prog) Xk ⟨_,_,Tryz.func5,rfl⟩ (by kernel_rfl) (by unfold ZQ;omega) jjh8
theorem Xn {ty sz n k j:Nat} {f:Nat->List Value}:(XD ty sz n f).inb k j=(decide (k<n)&&decide (j<=sz)):=rfl
theorem Xo {ty sz n k j:Nat} {f:Nat->List Value}:(XH ty sz n f).inb k j=(decide (k<n)&&decide (j<=sz)):=rfl
abbrev FU (z:Int) (v:Vw) (m:Nat):AV:=.agg (.v (.int .i64 z)::(ZW v++[.sl 4 0 0 m none]))
abbrev Yl (m:Nat) (S:Nat->ZO):ABlk:=Ux m S
abbrev QI (k:Nat) (F:Nat->Said):ABlk:=XH 62 6 k fun i=>(F i).cells
abbrev Ze:Nat:=90000000000000000000000000000000000000229
abbrev RE:Nat:=70000000000000000000000000000000000000229
abbrev VQ (c:Cfg) (u:Vw) (x:Int):ABlk:=⟨true,false,90,0,.lit ([.ptr 51 0 0,.v (.int .i64 (c.ns:Int)),.v (.int .i64 x)]++(ZW u++[.sl RE 0 0 c.nt none]))⟩
abbrev plI:List Nat:=[YR 0,YR 1,51,52,53,54,55,56,Ze,RE]
abbrev V9 (c:Cfg) (u:Vw) (x:Int) (S:Nat->ZO):List ABlk:=[ZA,Zw,WC 51 c,ZM c.nodes.toNat (ZI c (2*c.np)),ZM c.np c.fp,ZM c.ns c.fs,ZM c.nb c.fb,YC c.nt c.ft,VQ c u x,WH c.nt S]
def Uo (P:Program):Env:=⟨P,VE⟩
theorem VL:Zz (Uo prog):=Xp Lk (by kernel_rfl) (by kernel_rfl)
abbrev Yj:Nat:=1070000000000000000000000000000000000000009
def TV (P:Program) (ids:List Nat) (c:Cfg) (u:Vw) (x:Int) (S:Nat->ZO) (p:Said) (path:List Dec) (lp:List (Option Zh)):Option VF:=
 ZB ids (ZJ (Uo P) (fC (Uo P) 300) 12 [.c (.ptr Ze 0 0),.agg (p.cells.map .v)] Yj nSt (Y7 (plI.zip (V9 c u x S)) path lp))
def QH (P:Program) (err:Cfg->Int) (c:Cfg) (z:Int) (v:Vw) (m:Nat) (S:Nat->ZO) (k:Nat) (F:Nat->Said) (path:List Dec) (lp:List (Option Zh)):Option VF:=
 ZB [] (ZJ (MF P err VE) (fC (MF P err VE) 300) 3 [.agg (Yi c),FU z v m,.c (.sl 5 0 0 k none)] 10 nSt (Y7 (QB++MQ c++[(4,Yl m S),(5,QI k F)]) path lp))
abbrev VR:Nat:=200000000600000000000000000000000000000259
abbrev Q3:Nat:=200000000400000000000000000000000000000259
abbrev Vx (c:Cfg) (u:Vw) (x:Int):ABlk:=⟨true,false,57,0,.lit (Yi c++([.v (.int .i64 x)]++(ZW u++[.sl Q3 0 0 c.nt none])))⟩
abbrev Y1 (n:Nat) (f:Nat->ZO):ABlk:=XD 92 4 n fun i=>[.bool (f i).any,.int .u32 (f i).seq,.int .u32 (f i).val,.int .i64 (f i).rnd]
abbrev pmI:List Nat:=[YR 0,YR 1,0,1,2,3,5,51,52,53,54,55,56,Ze,RE,VR,Q3]
abbrev SM (c:Cfg) (u:Vw) (x:Int) (S:Nat->ZO) (k:Nat) (F:Nat->Said):List ABlk:=[ZA,Zw,ZG 3 c.np c.fp,ZG 3 c.ns c.fs,ZG 3 c.nb c.fb,Xj c.nt c.ft,QI k F,WC 51 c,ZM c.nodes.toNat (ZI c (2*c.np)),ZM c.np c.fp,ZM c.ns c.fs,ZM c.nb c.fb,YC c.nt c.ft,VQ c u x,WH c.nt S,Vx c u x,Y1 c.nt S]
abbrev pmH:List Nat:=[2,10,12,15]
abbrev Ua (k i:Nat):List AV:=[.c (.sl 5 0 0 k none),.c (.ptr Ze 0 0),.c (.ptr VR 0 0),i64 (Int.ofNat i)]
def Hi (P:Program) (err:Cfg->Int) (c:Cfg) (u:Vw) (x:Int) (S:Nat->ZO) (k:Nat) (F:Nat->Said) (i:Nat) (path:List Dec) (lp:List (Option Zh)):Option VC:=
 view pmH pmI (fC (MF P err VE) 100 (ZY P 3 1) 1000000000000000000000000000000000000000000 nSt ⟨ZT 174 (pmH.zip (Ua k i)),pmI.zip (SM c u x S k F),0,0,false,path,[],[],[],none,lp⟩)
abbrev Sx:Nat:=70000000000000000000000000000000000001000
abbrev Xt:Nat:=72500000000000000000000000000000000000000
abbrev Jf:Nat:=75000000000000000000000000000000000000000
abbrev Ps:Nat:=76000000000000000000000000000000000000000
abbrev QP:Nat:=79000000000000000000000000000000000000000
abbrev Pt:Nat:=75000000000000000000000000000000023000004
abbrev GD:Nat:=70000000000000000000000000000000000001003
abbrev pxXH:List Nat:=[0,3,4]
abbrev QO (m k:Nat):List AV:=[.c (.sl 4 0 0 m none),.c (.sl Xt 0 0 k none),i64 (Int.ofNat k)]
def GB (P:Program) (m:Nat) (S:Nat->ZO) (k:Nat) (path:List Dec):Option VC:=
 view pxXH [Xt,Pt,4] (fC (Uo P) 100 (ZY P 10 0) Jf 1000000 ⟨ZT 36 (pxXH.zip (QO m k)),[(Xt,Y1 k S),(4,Yl m S)],0,0,false,path,[],[],[],none,[]⟩)
abbrev GC (m:Nat) (S:Nat->ZO):Zh:=⟨pxXH,[4],ZT 36 [(3,.c (.sl Xt 0 0 m none))],[(Xt,Y1 m S),(4,Yl m S)],Ps,.exit 0⟩
def GA (P:Program) (m:Nat) (S:Nat->ZO) (path:List Dec) (lp:List (Option Zh)):Option VF:=
 ZB [Xt,4] (ZJ (Uo P) (fC (Uo P) 300) 10 [.c (.sl 4 0 0 m none)] Sx nSt (Y7 [(4,Yl m S)] path lp))
abbrev Pu:Nat:=190000000000000000000000000000000000001000
abbrev Xu:Nat:=192500000000000000000000000000000000000000
abbrev Jg:Nat:=195000000000000000000000000000000000000000
abbrev Pv:Nat:=196000000000000000000000000000000000000000
abbrev QR:Nat:=199000000000000000000000000000000000000000
abbrev Pw:Nat:=195000000000000000000000000000000023000004
abbrev GH:Nat:=190000000000000000000000000000000000001003
abbrev pyXH:List Nat:=[0,3,4]
abbrev QQ (m k:Nat):List AV:=[.c (.sl 4 0 0 m none),.c (.sl Xu 0 0 k none),i64 (Int.ofNat k)]
def GF (P:Program) (m:Nat) (S:Nat->ZO) (k:Nat) (path:List Dec):Option VC:=
 view pyXH [Xu,Pw,4] (fC (Uo P) 100 (ZY P 10 0) Jg 1000000 ⟨ZT 36 (pyXH.zip (QQ m k)),[(Xu,Y1 k S),(4,Yl m S)],0,0,false,path,[],[],[],none,[]⟩)
abbrev GG (m:Nat) (S:Nat->ZO):Zh:=⟨pyXH,[4],ZT 36 [(3,.c (.sl Xu 0 0 m none))],[(Xu,Y1 m S),(4,Yl m S)],Pv,.exit 0⟩
def GE (P:Program) (m:Nat) (S:Nat->ZO) (path:List Dec) (lp:List (Option Zh)):Option VF:=
 ZB [Xu,4] (ZJ (Uo P) (fC (Uo P) 300) 10 [.c (.sl 4 0 0 m none)] Pu nSt (Y7 [(4,Yl m S)] path lp))
def X3 (S:Nat->ZO) (j i:Nat):ZO:=if i<j then⟨true,99,0,0⟩ else S i
abbrev ptB (z:Int) (v:Vw) (m:Nat):ABlk:=⟨true,false,35,0,.lit (.v (.int .i64 z)::(ZW v++[.sl 4 0 0 m none]))⟩
abbrev WF:List Nat:=[4,9,10,11,14]
abbrev U0:List Nat:=[11,4,67,YR 0,YR 1]
abbrev UO (z:Int) (v:Vw) (m:Nat) (S:Nat->ZO) (j:Nat):List AV:=[.c (.ptr 11 0 0),.c (.sl 67 0 0 m none),.c (.v (.pointer none)),.c (.v (.int .i64 (Int.ofNat 1))),i64 (Int.ofNat j)]
abbrev O9 (z:Int) (v:Vw) (m:Nat) (S:Nat->ZO) (j:Nat):List ABlk:=[ptB z v m,Yl m S,WH m (X3 S j)]++[ZA,Zw]
abbrev QL (z:Int) (v:Vw) (m:Nat) (S:Nat->ZO):List (Nat × AV):=[(10,.c (.v (.pointer none))),(11,.c (.v (.int .i64 (Int.ofNat 1))))]
abbrev QK (z:Int) (v:Vw) (m:Nat) (S:Nat->ZO):AMem:=List.zip ([YR 0,YR 1]) ([ZA,Zw])
abbrev LW:Nat:=140000000000000000000000000000000000000300
abbrev Gv:Nat:=150000000000000000000000000000000000000000
abbrev QM:Nat:=160000000000000000000000000000000000000000
def Gw (P:Program) (z:Int) (v:Vw) (m:Nat) (S:Nat->ZO) (j:Nat) (path:List Dec):Option VC:=
 view (WF++[]) U0 (fC (Uo P) 100 (ZY P 3 0) Gv 1000000 (WR 174 WF U0 (UO z v m S j) (O9 z v m S j) path []))
abbrev RI (z:Int) (v:Vw) (m:Nat) (S:Nat->ZO):Zh:=⟨WF,U0,ZT 174 (QL z v m S),QK z v m S,QM,.exit 0⟩
abbrev WP:List Nat:=[2,4,9,10,11,12,14]
abbrev RJ:List Nat:=[11,4,67]++pmI
abbrev Wg (c:Cfg) (z:Int) (v:Vw) (m:Nat) (S:Nat->ZO) (k:Nat) (F:Nat->Said) (j:Nat):List AV:=[.c (.sl 5 0 0 k none),.c (.ptr 11 0 0),.c (.sl 67 0 0 m none),.c (.ptr Ze 0 0),.c (.v (.int .i64 (Int.ofNat 0))),.c (.ptr VR 0 0),i64 (Int.ofNat j)]
abbrev Oa (c:Cfg) (z:Int) (v:Vw) (m:Nat) (S:Nat->ZO) (k:Nat) (F:Nat->Said) (j:Nat):List ABlk:=[ptB z v m,Yl m S,WH m (X3 S j)]++SM c v z S k F
abbrev LZ (c:Cfg) (z:Int) (v:Vw) (m:Nat) (S:Nat->ZO) (k:Nat) (F:Nat->Said):List (Nat × AV):=[(2,.c (.sl 5 0 0 k none)),(10,.c (.ptr Ze 0 0)),(11,.c (.v (.int .i64 (Int.ofNat 0)))),(12,.c (.ptr VR 0 0))]
abbrev LX (c:Cfg) (z:Int) (v:Vw) (m:Nat) (S:Nat->ZO) (k:Nat) (F:Nat->Said):AMem:=List.zip (pmI) (SM c v z S k F)
abbrev LY:Nat:=260000000000000000000000000000000000000300
abbrev Gx:Nat:=270000000000000000000000000000000000000000
abbrev QN:Nat:=280000000000000000000000000000000000000000
def Gy (P:Program) (c:Cfg) (z:Int) (v:Vw) (m:Nat) (S:Nat->ZO) (k:Nat) (F:Nat->Said) (j:Nat) (path:List Dec):Option VC:=
 view (WP++[]) RJ (fC (Uo P) 100 (ZY P 3 0) Gx 1000000 (WR 174 WP RJ (Wg c z v m S k F j) (Oa c z v m S k F j) path []))
abbrev Gz (c:Cfg) (z:Int) (v:Vw) (m:Nat) (S:Nat->ZO) (k:Nat) (F:Nat->Said):Zh:=⟨WP,RJ,ZT 174 (LZ c z v m S k F),LX c z v m S k F,QN,.exit 0⟩
abbrev Xs:Nat:=100000000000000000000000000000000000000000000000011
abbrev plWI:List Nat:=[YR 0,YR 1,0,1,2,3,VR,Q3]
abbrev XA (c:Cfg) (u:Vw) (x:Int) (S:Nat->ZO):List ABlk:=[ZA,Zw,ZG 3 c.np c.fp,ZG 3 c.ns c.fs,ZG 3 c.nb c.fb,Xj c.nt c.ft,Vx c u x,Y1 c.nt S]
def TU (P:Program) (ids:List Nat) (c:Cfg) (u:Vw) (x:Int) (S:Nat->ZO) (p:Said) (path:List Dec) (lp:List (Option Zh)):Option VF:=
 ZB ids (ZJ (Uo P) (fC (Uo P) 300) 13 [.c (.ptr VR 0 0),.agg (p.cells.map .v)] Xs nSt (Y7 (plWI.zip (XA c u x S)) path lp))
abbrev O0 (l:List AC):ABlk:=⟨true,false,62,0,.lit l⟩
abbrev Ui (x:Int) (q:Payload):List AC:=[.v (.bool true),.v (.int .i64 x),.v (.int .u8 q.kind),.v (.int .u8 q.st),.v (.int .u32 q.seq),.v (.int .u32 q.val)]
abbrev UL:List AC:=[.v (.bool false),.v (.int .i64 (Int.ofNat 0)),.v (.int .u8 (Int.ofNat 0)),.v (.int .u8 (Int.ofNat 0)),.v (.int .u32 (Int.ofNat 0)),.v (.int .u32 (Int.ofNat 0))]
abbrev T7 (ty p:Nat):ABlk:=⟨true,false,ty,0,.lit [.ptr p 0 0]⟩
abbrev FX (ty:Nat) (z:Int):ABlk:=⟨true,false,ty,0,.lit [.v (.int .i64 z)]⟩
abbrev LV:List AC:=List.replicate 8 (.v (.bool false))++(List.replicate 16 (.v (.int .u8 (Int.ofNat 0)))++(List.replicate 8 (.v (.int .u16 (Int.ofNat 0)))++(List.replicate 8 (.v (.bool false))++[.v (.int .i8 (Int.ofNat 0)),.v (.int .u8 (Int.ofNat 0))])))
abbrev NZ:ABlk:=⟨true,false,65,0,.lit (.v (.int .i64 (Int.ofNat 0))::(UL++(LV++[.v (.slice none 0 0)])))⟩
def LU (c:Cfg) (o cm rr:Int) (q:Payload) (j:Nat) (s:ZO):ZO:=⟨Wj c (Int.ofNat j) s.any s.seq true q.kind q.st q.seq o cm rr||s.any,U4 (Wj c (Int.ofNat j) s.any s.seq true q.kind q.st q.seq o cm rr) q.seq s.seq,U4 (Wj c (Int.ofNat j) s.any s.seq true q.kind q.st q.seq o cm rr) q.val s.val,U4 (Wj c (Int.ofNat j) s.any s.seq true q.kind q.st q.seq o cm rr) rr s.rnd⟩
def WO (c:Cfg) (o cm rr:Int) (q:Payload) (S:Nat->ZO) (k j:Nat):ZO:=if j<k then LU c o cm rr q j (S j) else S j
abbrev plH:List Nat:=[0,1,8,9]
abbrev p1I:List Nat:=plI++[1070000000000000000000000000000000000000009,1070000000000000000000000000000000000000010,1070000000000000000000000000000000000000011,1240000000000000000000000000000000000000057,1250000000000000000000000000000000000000057,1410000000000000000000000000000000000000064,1410000000000000000000000000000000000000068,1410000000000000000000000000000000000000069]
abbrev p1F (x:Int):List AV:=ZT 169 [(2,.c (.ptr 1070000000000000000000000000000000000000009 0 0)),(3,.c (.ptr 1070000000000000000000000000000000000000010 0 0)),(4,.c (.ptr 1070000000000000000000000000000000000000011 0 0)),(6,.c (.v (.int .i64 x))),(7,.c (.ptr 1240000000000000000000000000000000000000057 0 0)),(8,.c (.ptr 1250000000000000000000000000000000000000057 0 0))]
abbrev Ow (P:Program) (c:Cfg) (w:Vw) (y:Int) (S:Nat->ZO) (x:Int) (q:Payload) (o rr:Int):List ABlk:=V9 c w y S++[T7 44 Ze,O0 (Ui x q),NZ,FX 3 o,FX 2 rr,T7 44 Ze,Xr (.dfr true),Xr (.loop .ready none (p1F x) #[81,82] (Oz P 12 0) (OA P 12 0) 1410000000000000000000000000000000000000068)]
abbrev Mv (n k:Nat):List AV:=[.c (.yld 1410000000000000000000000000000000000000069),.c (.ptr 1410000000000000000000000000000000000000064 0 0),i64 (n:Int),i64 (Int.ofNat k)]
def p1R (P:Program) (c:Cfg) (w:Vw) (y:Int) (S:Nat->ZO) (x:Int) (q:Payload) (o rr:Int) (k:Nat) (path:List Dec):Option VC:=
 view (plH++[]) p1I (fC (Uo P) 100 (ZY P 68 0) 10000000000000000000000000000000000000000000000 nSt (WR 23 plH p1I (Mv c.nt k) (Ow P c w y S x q o rr) path []))
abbrev BN (P:Program) (c:Cfg) (w:Vw) (y:Int) (S:Nat->ZO) (x:Int) (q:Payload) (o rr:Int):Zh:=⟨plH,p1I,ZT 23 [],p1I.zip (Ow P c w y S x q o rr),100000000000000000000000000000000000000000000000,.exit 0⟩
abbrev AE:Nat:=1410000000000000000000000000000000000000076
theorem p1T (c:Cfg) (w:Vw) (y:Int) (S:Nat->ZO) (x:Int) (q:Payload) (o rr:Int) (k:Nat) (Q:VC->Prop) (H:let zN:=Int.ofNat;let zM:=ABlk.mk;let zD:=Int.toNat;let zz0:=(zM true false 65 0 (Cs.lit (zI (zN 0)::zB false::zI (zN 0)::zU (zN 0)::zU (zN 0)::zW (zN 0)::zW (zN 0)::z8 (fun zk=>zB false) (z8 (fun zk=>zU (zN 0)) (z8 (fun zk=>zU (zN 0)) (z8 (fun zk=>zH (zN 0)) (z8 (fun zk=>zB false) [AC.v (Value.int IntKind.i8 (zN 0)),zU (zN 0),AC.v (Value.slice none 0 0)])))))));let zz1:=(zM false false 0 0 (Cs.obj (AObj.loop LoopState.ready none (zA::zA::AV.c (AC.ptr Yj 0 0)::AV.c (AC.ptr 1070000000000000000000000000000000000000010 0 0)::AV.c (AC.ptr 1070000000000000000000000000000000000000011 0 0)::zA::AV.c (zI x)::AV.c (AC.ptr 1240000000000000000000000000000000000000057 0 0)::AV.c (AC.ptr 1250000000000000000000000000000000000000057 0 0)::z9 zA (z9 zA (z9 zA (z9 zA (z9 zA (z9 zA (z9 zA (z9 zA (z9 zA (z9 zA (z9 zA (z9 zA (z9 zA (z9 zA (z9 zA (z9 zA (z9 zA (z9 zA (z9 zA (z9 zA [])))))))))))))))))))) (Array.mk [81,82]) (Oz prog 12 0) (OA prog 12 0) 1410000000000000000000000000000000000000068)));let zz2:=(Wj c (zN k) (ZO.any (S (0+zD (zN k)))) (ZO.seq (S (0+zD (zN k)))) true (Payload.kind q) (Payload.st q) (Payload.seq q) o (IntKind.wrap IntKind.i64 (Vw.command w)) rr);let zz3:=(zM true false 62 0 (Cs.lit [zB true,zI x,zU (Payload.kind q),zU (Payload.st q),zW (Payload.seq q),zW (Payload.val q)]));let zs0:=fun (l:List (Option ABlk))=>some (WC 51 c)::some (ZM (zD c.nodes) (ZI c (2*c.np)))::some (ZM c.np c.fp)::some (ZM c.ns c.fs)::some (ZM c.nb c.fb)::some (YC c.nt c.ft)::some (VQ c w y)::l;let zs1:=fun (l:List (Option AV))=>some (ZN (List.zip plH (Mv c.nt k)) 0)::some (ZN (List.zip plH (Mv c.nt k)) 1)::some (ZN (List.zip plH (Mv c.nt k)) 8)::l;let zs2:=fun (l:List (Option ABlk))=>yR 3 0 (Cs.lit [zI o])::yR 2 0 (Cs.lit [zI rr])::yR 44 0 (Cs.lit [AC.ptr Ze 0 0])::yF 0 0 (Cs.obj (AObj.dfr true))::l;(((decide (zN k < ↑(c.nt)))=true->Q (Exit.normal,(zs1 [some (.c (zI (IntKind.wrap .i64 (zN k+zN 1))))]),(some ZA::some Zw::zs0 (yO 54 4 (Cs.arr c.nt fun i=>if i=0+zD (zN k) then YB ((fun k=>List.map AC.v ((fun i=>[Value.bool (ZO.any (S i)),Value.int .u32 (ZO.seq (S i)),Value.int .u32 (ZO.val (S i)),Value.int .i64 (ZO.rnd (S i))]) k)) i) 0 [zB (Wj c (zN k) (ZO.any (S (0+zD (zN k)))) (ZO.seq (S (0+zD (zN k)))) true (Payload.kind q) (Payload.st q) (Payload.seq q) o (IntKind.wrap .i64 (Vw.command w)) rr||ZO.any (S (0+zD (zN k)))),zW (U4 zz2 (Payload.seq q) (ZO.seq (S (0+zD (zN k))))),zW (U4 zz2 (Payload.val q) (ZO.val (S (0+zD (zN k))))),zI (U4 zz2 rr (ZO.rnd (S (0+zD (zN k)))))] else List.map AC.v ((fun i=>[Value.bool (ZO.any (S i)),Value.int .u32 (ZO.seq (S i)),Value.int .u32 (ZO.val (S i)),Value.int .i64 (ZO.rnd (S i))]) i))::yR 44 0 (Cs.lit [AC.ptr Ze 0 0])::some zz3::some zz0::zs2 [some zz1])),23,10000250000000000000000000000000000000000000016,(ABlk.inb (WH c.nt S) (0+zD (zN k)) 4::YM c (zD c.nodes) (ZI c (2*c.np))::LR (Y3.mk c (zD c.nodes) (ZI c (2*c.np)) [.c (zI (zN k)),.agg [zB (ZO.any (S (0+zD (zN k)))),zW (ZO.seq (S (0+zD (zN k)))),zW (ZO.val (S (0+zD (zN k)))),zI (ZO.rnd (S (0+zD (zN k))))],.agg [zB true,zI x,zU (Payload.kind q),zU (Payload.st q),zW (Payload.seq q),zW (Payload.val q),zI o,zI (IntKind.wrap .i64 (Vw.command w)),zI rr]])::zt [true,true,true,true,true,true,ABlk.inb (WH c.nt S) (0+zD (zN k)) 4,true,true,true,true,true,true,decide (zN 0<=zN k/\zN k < ↑(c.nt)),true,true,decide (zN k < ↑(c.nt))==true]),[]))/\((decide (zN k < ↑(c.nt)))=false->Q (Exit.exit 0,(zs1 [some (ZN (List.zip plH (Mv c.nt k)) 9)]),(some ZA::some Zw::zs0 (some (WH c.nt S)::yR 44 0 (Cs.lit [AC.ptr Ze 0 0])::some zz3::some zz0::zs2 [some zz1])),23,10000000000000000000000000000000000000000000001,[decide (zN k < ↑(c.nt))==false],[])))):
 ∃p r,p1R prog c w y S x q o rr k p=some r/\Q r:=
 ZL H (fun g1=>⟨pD 2 1,_,by kernel_rfl,g1⟩) (fun g1=>⟨pD 1 2,_,by kernel_rfl,g1⟩)
theorem XE (k:Nat):0+Int.toNat (Int.ofNat k)=k:=by simp
theorem TM {k:Nat} (h:k<9223372036854775807):IntKind.wrap IntKind.i64 (Int.ofNat k+Int.ofNat 1)=Int.ofNat (k+1):=by rw[XG _ (by simp;omega) (by simp;omega)];rfl
theorem Rk {N:Nat} (hN:Yj<=N) (i:Nat) (h:Nat.blt i Yj=true):Nat.blt i N=true:=by
 rw[Nat.blt_eq] at h ⊢;exact Nat.lt_of_lt_of_le h hN
theorem Sk {N:Nat} {u:Vw}:(ZW u).all (Yu N)=true:=rfl
theorem Qr {N:Nat} (hN:Yj<=N) {c:Cfg} {u:Vw} {x:Int} {S:Nat->ZO}:∀b∈V9 c u x S,Zc N b:=by
 intro x hx;simp only[List.mem_cons,List.not_mem_nil,or_false] at hx;rcases hx with rfl|rfl|rfl|rfl|rfl|rfl|rfl|rfl|rfl|rfl
 . exact XW rfl
 . exact XW rfl
 . refine XW ?_
   simp[Jc,Yu,Rk hN 51 rfl,Rk hN 52 rfl,Rk hN 53 rfl,Rk hN 54 rfl,Rk hN 55 rfl,Rk hN 56 rfl]
 . exact XT
 . exact XT
 . exact XT
 . exact XT
 . exact XT
 . refine XW ?_
   rw[List.all_append,List.all_append,Sk];simp[Yu,Rk hN 51 rfl,Rk hN RE rfl]
 . exact XT
theorem Ew {P:Program} {c:Cfg} {w:Vw} {y:Int} {S:Nat->ZO} {x:Int} {q:Payload} {o rr:Int}:∀b∈Ow P c w y S x q o rr,Zc AE b:=by
 intro b hb;rcases List.mem_append.1 hb with hb|hb
 . exact Qr (by decide) b hb
 simp only[List.mem_cons,List.not_mem_nil,or_false] at hb;rcases hb with rfl|rfl|rfl|rfl|rfl|rfl|rfl|rfl
 . exact XW rfl
 . exact XW rfl
 . exact XW rfl
 . exact XW rfl
 . exact XW rfl
 . exact XW rfl
 . exact Ud rfl
 . exact Ud rfl
def Ar:List AV->List AV->Prop
 | [],[]=>True
 |x::xs,y::ys=>(y= .any\/x=y)/\Ar xs ys
 |_,_=>False
theorem Fm:∀{l k:List AV},Ar l k->tmLe l k
 | [],[],_=>tmLe.refl _
 | [],_::_,h=>h.elim
 |_::_,[],h=>h.elim
 | x::xs,y::ys,h=>by
  obtain⟨h1,h2⟩:=h;obtain⟨q1,q2⟩:=Fm h2;refine⟨by simp[q1],fun t av ht=>?_⟩
  cases t with
  |zero=>
   simp only[List.getElem?_cons_zero,Option.some.injEq] at ht ⊢;subst ht;rcases h1 with h|h
   . exact .inl h
   . exact .inr h
  |succ t=>
   simp only[List.getElem?_cons_succ] at ht ⊢;exact q2 t av ht
theorem Ue {st:LoopState} {pd:Option Code} {tm tm':List AV} {ps:Array Tmp} {a1 bd:Code} {dn:Nat} (h:Ar tm tm'):BEq (Xr (.loop st pd tm ps a1 bd dn)) (Xr (.loop st pd tm' ps a1 bd dn)):=⟨rfl,rfl,rfl,rfl,.inr (.inr ⟨_,_,rfl,rfl,rfl,rfl,Fm h,rfl,rfl,rfl,rfl⟩)⟩
theorem IZ {n:Nat} {f:Nat->List AC} {S:Nat->ZO} (h:∀i,i<n->f i=(S i).cells.map AC.v):BEq (ABlk.mk true true 54 4 (.arr n f)) (WH n S):=⟨rfl,rfl,rfl,rfl,.inr (.inl ⟨n,_,_,rfl,rfl,fun i hi=>h i hi⟩)⟩
theorem Fj (c:Cfg) (w:Vw) (y:Int) (S:Nat->ZO) (x:Int) (q:Payload) (o rr:Int) (hn:c.nt<=8) (hst:XM c c.nodes.toNat=true) {eb:List (Option ABlk)} (hL:BL (Ow prog c w y S x q o rr) eb):
 LoopV prog (ZY prog 68 0) plH p1I ((Mv c.nt 0).map some) eb 23 AE (ZT 23 []) (p1I.zip (Ow prog c w y (WO c o (IntKind.wrap .i64 w.command) rr q S c.nt) x q o rr)) 100000000000000000000000000000000000000000000000 (.exit 0) none:=by
 refine Rx VL (fuel:=100) (str:=nSt) (nh:=10000000000000000000000000000000000000000000000) (n':=100000000000000000000000000000000000000000000000) (S:=Nat) (fun k=>k<=c.nt) (fun k=>c.nt-k) plH [] p1I (fun k=>Mv c.nt k) (fun k=>Ow prog c w y (WO c o (IntKind.wrap .i64 w.command) rr q S k) x q o rr) (by decide) (by decide) (by unfold ZQ;omega) (s0:=0) (Nat.zero_le _) (fun _=>⟨rfl,rfl⟩) (by kernel_rfl) hL (fun k hk=>⟨rfl,Ew⟩) fun k hk=>?_
 rcases Nat.lt_or_ge k c.nt with h|h
 . obtain ⟨p,r,h1,⟨g1,g2,g3,g4⟩,h3,h4,h5⟩:∃p r,view (plH++[]) p1I (fC (Uo prog) 100 (ZY prog 68 0) 10000000000000000000000000000000000000000000000 nSt (WR 23 plH p1I (Mv c.nt k) (Ow prog c w y (WO c o (IntKind.wrap .i64 w.command) rr q S k) x q o rr) p []))=some r/\ML 100000000000000000000000000000000000000000000000 23 plH.length (Mv c.nt (k+1)) (Ow prog c w y (WO c o (IntKind.wrap .i64 w.command) rr q S (k+1)) x q o rr) r:=by
    refine p1T c w y (WO c o (IntKind.wrap .i64 w.command) rr q S k) x q o rr k _ ⟨fun c1=>?_,fun c1=>?_⟩
    . have hq:∀a b d e,LR (Y3.mk c c.nodes.toNat (ZI c (2*c.np)) [.c (.v (.int .i64 (Int.ofNat k))),.agg [.v (.bool a),.v (.int .u32 b),.v (.int .u32 d),.v (.int .i64 e)],.agg [.v (.bool true),.v (.int .i64 x),.v (.int .u8 q.kind),.v (.int .u8 q.st),.v (.int .u32 q.seq),.v (.int .u32 q.val),.v (.int .i64 o),.v (.int .i64 (IntKind.wrap .i64 (Vw.command w))),.v (.int .i64 rr)]])=true:=by
       intro a b d e;show (XM c c.nodes.toNat&&true)=true;rw[hst];rfl
      refine⟨⟨?_,rfl,by dsimp only;omega,rfl⟩,rfl,?_,?_⟩
      . simp only[ZZ,List.forall_mem_cons,XE,hq,YU]
        simp[Z6,Xn,Xo];omega
      . dsimp only;rw[TM (show k<9223372036854775807 by omega)];rfl
      . refine⟨BEq.refl _,BEq.refl _,BEq.refl _,BEq.refl _,BEq.refl _,BEq.refl _,BEq.refl _,BEq.refl _,BEq.refl _,IZ (fun j hj=>?_),BEq.refl _,BEq.refl _,BEq.refl _,BEq.refl _,BEq.refl _,BEq.refl _,BEq.refl _,BEq.refl _,trivial⟩
        by_cases e:j=0+Int.toNat (Int.ofNat k)
        . rw[if_pos e]
          rw[XE] at e;subst e;simp[U4,YB,VB,ZU,WO,LU,ZO.cells]
        . rw[if_neg e]
          rw[XE] at e;simp only[WO,show (j<k+1)=(j<k) by simp;omega];rfl
    . simp at c1;omega
   exact⟨p,[],r,h1,g1,g2,g3,g4,.inl ⟨h3,k+1,h,by show c.nt-(k+1)<c.nt-k;omega,h4,h5⟩⟩
 . obtain rfl:k=c.nt:=by omega
   obtain⟨p,r,h1,⟨g1,g2,g3,g4⟩,h3,h4,h5⟩:∃p r,view (plH++[]) p1I (fC (Uo prog) 100 (ZY prog 68 0) 10000000000000000000000000000000000000000000000 nSt (WR 23 plH p1I (Mv c.nt c.nt) (Ow prog c w y (WO c o (IntKind.wrap .i64 w.command) rr q S c.nt) x q o rr) p []))=some r/\Kr AE 100000000000000000000000000000000000000000000000 23 (plH++[]) p1I (.exit 0) [] (p1I.zip (Ow prog c w y (WO c o (IntKind.wrap .i64 w.command) rr q S c.nt) x q o rr)) r:=by
    refine p1T c w y (WO c o (IntKind.wrap .i64 w.command) rr q S c.nt) x q o rr c.nt _ ⟨fun c1=>?_,fun c1=>?_⟩
    . simp at c1
    . exact⟨⟨by simp only[ZZ,List.forall_mem_cons,c1];simp,rfl,by dsimp only;omega,rfl⟩,rfl,(fun _ h=>by cases h),Ru (by kernel_rfl) Ew rfl⟩
   exact⟨p,[],r,h1,g1,g2,g3,g4,.inr ⟨by rw[h3];exact fun z=>Exit.noConfusion z,h3,h4,h5⟩⟩
abbrev Y4:Nat:=100000000000000000000000000000000000000000000000024
abbrev TT:Nat:=100000000000000000000000000000000000000000000000012
abbrev wlN:Nat:=100000000330000000000000000000000000000000000000038
abbrev Hm (x:Int) (l v:List AC) (r:AC):ABlk:=⟨true,false,68,0,.lit (.v (.int .i64 x)::(l++(v++[r])))⟩
abbrev wlZ:ABlk:=Hm 0 UL LV (.v (.slice none 0 0))
abbrev wlI:List Nat:=plWI++[Y4,TT]
abbrev MB (c:Cfg) (w:Vw) (x:Int) (S:Nat->ZO) (q:Payload):List ABlk:=XA c w x S++[Hm x (Ui x q) LV (.v (.slice none 0 0)),wlZ]
abbrev Q6:List Nat:=[0,4,6,7,8,9]
abbrev MC (c:Cfg) (o:Int) (k:Nat):List AV:=[.c (.ptr VR 0 0),.c (.ptr TT 0 0),.c (.ptr Y4 0 0),i64 (c.ns:Int),i64 o,i64 (Int.ofNat k)]
def wlR (P:Program) (c:Cfg) (w:Vw) (x:Int) (S:Nat->ZO) (q:Payload) (o:Int) (k:Nat) (path:List Dec):Option VC:=
 view (Q6++[]) wlI (fC (Uo P) 100 (ZY P 13 0) 1000000000000000000000000000000000000000000000000000 nSt (WR 174 Q6 wlI (MC c o k) (MB c w x S q) path []))
abbrev BV (c:Cfg) (w:Vw) (x:Int) (S:Nat->ZO) (q:Payload) (o:Int):Zh:=⟨Q6,wlI,ZT 174 [(0,.c (.ptr VR 0 0)),(4,.c (.ptr TT 0 0)),(6,.c (.ptr Y4 0 0)),(7,i64 (c.ns:Int))],wlI.zip (MB c w x S q),10000000000000000000000000000000000000000000000000000,.exit 0⟩
theorem wlT (c:Cfg) (w:Vw) (x:Int) (S:Nat->ZO) (q:Payload) (o:Int) (k:Nat) (Q:VC->Prop) (H:let zN:=Int.ofNat;let zD:=Int.toNat;let zz0:=(ABlk.mk true false 68 0 (Cs.lit (zI (zN 0)::zB false::zI (zN 0)::zU (zN 0)::zU (zN 0)::zW (zN 0)::zW (zN 0)::z8 (fun zk=>zB false) (z8 (fun zk=>zU (zN 0)) (z8 (fun zk=>zU (zN 0)) (z8 (fun zk=>zH (zN 0)) (z8 (fun zk=>zB false) [AC.v (Value.int IntKind.i8 (zN 0)),zU (zN 0),AC.v (Value.slice none 0 0)])))))));let zz1:=(ABlk.mk true false 68 0 (Cs.lit (zI x::zB true::zI x::zU (Payload.kind q)::zU (Payload.st q)::zW (Payload.seq q)::zW (Payload.val q)::z8 (fun zk=>zB false) (z8 (fun zk=>zU (zN 0)) (z8 (fun zk=>zU (zN 0)) (z8 (fun zk=>zH (zN 0)) (z8 (fun zk=>zB false) [AC.v (Value.int IntKind.i8 (zN 0)),zU (zN 0),AC.v (Value.slice none 0 0)])))))));let zz2:=(Wj c (zN k) (ZO.any (S (0+zD (zN k)))) (ZO.seq (S (0+zD (zN k)))) true (Payload.kind q) (Payload.st q) (Payload.seq q) o (IntKind.wrap IntKind.i64 (Vw.command w)) (IntKind.wrap IntKind.i64 (Int.tdiv x ↑(Cfg.ns c))));let zs0:=fun (l:List (Option AV))=>some (ZN (List.zip Q6 (MC c o k)) 0)::some (ZN (List.zip Q6 (MC c o k)) 4)::some (ZN (List.zip Q6 (MC c o k)) 6)::some (ZN (List.zip Q6 (MC c o k)) 7)::some (ZN (List.zip Q6 (MC c o k)) 8)::l;let zs1:=fun (l:List (Option ABlk))=>some (ZG 3 c.np c.fp)::some (ZG 3 c.ns c.fs)::some (ZG 3 c.nb c.fb)::some (Xj c.nt c.ft)::some (Vx c w x)::l;(((decide (zN k < ↑(c.nt)))=true->Q (Exit.normal,(zs0 [some (.c (zI (IntKind.wrap .i64 (zN k+zN 1))))]),(some ZA::some Zw::zs1 [yO 92 4 (Cs.arr c.nt fun i=>if i=0+zD (zN k) then YB ((fun k=>List.map AC.v ((fun i=>[Value.bool (ZO.any (S i)),Value.int .u32 (ZO.seq (S i)),Value.int .u32 (ZO.val (S i)),Value.int .i64 (ZO.rnd (S i))]) k)) i) 0 [zB (Wj c (zN k) (ZO.any (S (0+zD (zN k)))) (ZO.seq (S (0+zD (zN k)))) true (Payload.kind q) (Payload.st q) (Payload.seq q) o (IntKind.wrap .i64 (Vw.command w)) (IntKind.wrap .i64 (Int.tdiv x ↑(c.ns)))||ZO.any (S (0+zD (zN k)))),zW (U4 zz2 (Payload.seq q) (ZO.seq (S (0+zD (zN k))))),zW (U4 zz2 (Payload.val q) (ZO.val (S (0+zD (zN k))))),zI (U4 zz2 (IntKind.wrap .i64 (Int.tdiv x ↑(c.ns))) (ZO.rnd (S (0+zD (zN k)))))] else List.map AC.v ((fun i=>[Value.bool (ZO.any (S i)),Value.int .u32 (ZO.seq (S i)),Value.int .u32 (ZO.val (S i)),Value.int .i64 (ZO.rnd (S i))]) i)),some zz1,some zz0]),174,1000000000390000000000000000000000000000000000000010,(ABlk.inb (Y1 c.nt S) (0+zD (zN k)) 4::decide (zN 0<=zN k/\zN k < ↑(c.nt))::Z2 c::true::decide (↑(c.ns)≠zN 0)::zt (true::true::true::ABlk.inb (Y1 c.nt S) (0+zD (zN k)) 4::true::true::true::true::decide (zN 0<=zN k/\zN k < ↑(c.nt))::zt [decide (zN k < ↑(c.nt))==true,true])),[]))/\((decide (zN k < ↑(c.nt)))=false->Q (Exit.exit 0,(zs0 [some (ZN (List.zip Q6 (MC c o k)) 9)]),(some ZA::some Zw::zs1 [some (Y1 c.nt S),some zz1,some zz0]),174,1000000000000000000000000000000000000000000000000007,[decide (zN k < ↑(c.nt))==false,true],[])))):
 ∃p r,wlR prog c w x S q o k p=some r/\Q r:=
 ZL H (fun g1=>⟨pD 1 1,_,by kernel_rfl,g1⟩) (fun g1=>⟨pD 1 2,_,by kernel_rfl,g1⟩)
theorem Nu {N:Nat} (hN:Xs<=N) (i:Nat) (h:Nat.blt i Xs=true):Nat.blt i N=true:=by
 rw[Nat.blt_eq] at h ⊢;exact Nat.lt_of_lt_of_le h hN
theorem Le {N:Nat} (hN:Xs<=N) {c:Cfg} {u:Vw} {x:Int} {S:Nat->ZO}:∀b∈XA c u x S,Zc N b:=by
 intro b hb;simp only[List.mem_cons,List.not_mem_nil,or_false] at hb;rcases hb with rfl|rfl|rfl|rfl|rfl|rfl|rfl|rfl
 . exact XW rfl
 . exact XW rfl
 . exact WU
 . exact WU
 . exact WU
 . exact WU
 . refine XW ?_
   rw[List.all_append,List.all_append,List.all_append,Sk];simp[Yi,Yu,Nu hN 0 rfl,Nu hN 1 rfl,Nu hN 2 rfl,Nu hN 3 rfl,Nu hN Q3 rfl]
 . exact XT
theorem Ei {N:Nat} (hN:Xs<=N) {c:Cfg} {w:Vw} {x:Int} {S:Nat->ZO} {q:Payload}:∀b∈MB c w x S q,Zc N b:=by
 intro b hb;rcases List.mem_append.1 hb with hb|hb
 . exact Le hN b hb
 . simp only[List.mem_cons,List.not_mem_nil,or_false] at hb
   rcases hb with rfl|rfl<;>exact XW rfl
theorem Ff {n:Nat} {f:Nat->List AC} {S:Nat->ZO} (h:∀i,i<n->f i=(S i).cells.map AC.v):BEq (ABlk.mk true true 92 4 (.arr n f)) (Y1 n S):=⟨rfl,rfl,rfl,rfl,.inr (.inl ⟨n,_,_,rfl,rfl,fun i hi=>h i hi⟩)⟩
theorem F7 (c : Cfg) (w : Vw) (x :Int) (S:Nat->ZO) (q:Payload) (o:Int) (hn:c.nt<=8) (hns:c.ns≠0) {eb:List (Option ABlk)} (hL:BL (MB c w x S q) eb):
 LoopV prog (ZY prog 13 0) Q6 wlI ((MC c o 0).map some) eb 174 wlN (ZT 174 [(0,.c (.ptr VR 0 0)),(4,.c (.ptr TT 0 0)),(6,.c (.ptr Y4 0 0)),(7,i64 (c.ns:Int))]) (wlI.zip (MB c w x (WO c o (IntKind.wrap .i64 w.command) (IntKind.wrap .i64 (Int.tdiv x (c.ns:Int))) q S c.nt) q)) 10000000000000000000000000000000000000000000000000000 (.exit 0) none:=by
 refine Rx VL (fuel:=100) (str:=nSt) (nh:=1000000000000000000000000000000000000000000000000000) (n':=10000000000000000000000000000000000000000000000000000) (S:=Nat) (fun k=>k<=c.nt) (fun k=>c.nt-k) Q6 [] wlI (fun k=>MC c o k) (fun k=>MB c w x (WO c o (IntKind.wrap .i64 w.command) (IntKind.wrap .i64 (Int.tdiv x (c.ns:Int))) q S k) q) (by decide) (by decide) (by unfold ZQ;omega) (s0:=0) (Nat.zero_le _) (fun _=>⟨rfl,rfl⟩) (by kernel_rfl) hL (fun k hk=>⟨rfl,Ei (by decide)⟩) fun k hk=>?_
 refine(?_:(∃p r,wlR prog c w x (WO c o (IntKind.wrap .i64 w.command) (IntKind.wrap .i64 (Int.tdiv x (c.ns:Int))) q S k) q o k p=some r/\_)->_) (wlT c w x (WO c o (IntKind.wrap .i64 w.command) (IntKind.wrap .i64 (Int.tdiv x (c.ns:Int))) q S k) q o k (XS wlN 10000000000000000000000000000000000000000000000000000 174 Q6 [] wlI (fun k=>k<=c.nt) (fun k=>c.nt-k) (fun k=>MC c o k) (fun k=>MB c w x (WO c o (IntKind.wrap .i64 w.command) (IntKind.wrap .i64 (Int.tdiv x (c.ns:Int))) q S k) q) (.exit 0) [(0,.c (.ptr VR 0 0)),(4,.c (.ptr TT 0 0)),(6,.c (.ptr Y4 0 0)),(7,i64 (c.ns:Int))] (wlI.zip (MB c w x (WO c o (IntKind.wrap .i64 w.command) (IntKind.wrap .i64 (Int.tdiv x (c.ns:Int))) q S c.nt) q)) k) ?_)
 . rintro⟨p,r,h1,h2⟩
   exact⟨p,[],r,h1,h2⟩
 . refine⟨fun c1=>?_,fun c1=>?_⟩
   . have hlt:k<c.nt:=by simpa using c1
     refine⟨?_,rfl,by dsimp only;omega,rfl,.inl ⟨rfl,k+1,hlt,by show c.nt-(k+1)<c.nt-k;omega,?_,⟨BEq.refl _,BEq.refl _,BEq.refl _,BEq.refl _,BEq.refl _,BEq.refl _,BEq.refl _,Ff fun j hj=>?_,BEq.refl _,BEq.refl _,trivial⟩⟩⟩
     . simp only[ZZ,List.forall_mem_cons,XE,YZ]
       simp[Z6,Xn,Xo,hns];omega
     . dsimp only;rw[TM (show k<9223372036854775807 by omega)];rfl
     . by_cases e:j=0+Int.toNat (Int.ofNat k)
       . rw[if_pos e]
         rw[XE] at e;subst e;simp[U4,YB,VB,ZU,WO,LU,ZO.cells]
       . rw[if_neg e]
         rw[XE] at e;simp only[WO,show (j<k+1)=(j<k) by simp;omega];rfl
   . obtain rfl : k = c.nt := by have:¬k<c.nt:=by simpa using c1
                                 omega
     exact⟨by simp only[ZZ,List.forall_mem_cons,c1];simp,rfl,by dsimp only;omega,rfl,.inr ⟨by simp,rfl,(fun z hz=>by
      simp only[List.mem_cons,List.not_mem_nil,or_false] at hz;rcases hz with rfl|rfl|rfl|rfl
      . exact⟨rfl,.head _⟩
      . exact⟨rfl,.tail _ (.head _)⟩
      . exact⟨rfl,.tail _ (.tail _ (.head _))⟩
      . exact⟨rfl,.tail _ (.tail _ (.tail _ (.head _)))⟩),Ru (by kernel_rfl) (Ei (by decide)) rfl⟩⟩
abbrev VX:Nat:=100000000000000000000000000000000000000000000000000000
abbrev Jr:Nat:=1000000000000000000000000000000000000000000000000000000
abbrev Ho:Nat:=10000000000000000000000000000000000000000000000000000000
abbrev Ml (k:Nat) (f:Nat->Int):ABlk:=XD 52 1 k fun i=>[.int .u32 (f i)]
abbrev U5 (d:Said):List AC:=[.v (.bool d.is),.v (.int .i64 d.at_),.v (.int .u8 d.p.kind),.v (.int .u8 d.p.st),.v (.int .u32 d.p.seq),.v (.int .u32 d.p.val)]
abbrev BW:Nat:=1000000000000220000000000000000000000000000000000000007
abbrev woD:List Nat:=plWI++[TT]
abbrev BE:List Nat:=[VX,BW,Y4]++woD
abbrev Mk (c:Cfg) (w:Vw) (y:Int) (T:Nat->ZO):List ABlk:=XA c w y T++[wlZ]
abbrev Hn (w:Vw) (x:Int) (d:Said) (o k:Nat):ABlk:=Hm x (U5 d) (ZW w) (.sl o 0 0 k none)
abbrev RQ (c:Cfg) (w:Vw) (y:Int) (T:Nat->ZO) (x:Int) (d:Said) (k:Nat) (f:Nat->Int):AMem:=[VX,Y4].zip [Ml k f,Hn w x d VX k]++woD.zip (Mk c w y T)
abbrev woH:List Nat:=[0,4,6,7,10]
abbrev Mm (c:Cfg) (k:Nat):List AV:=[.c (.ptr VR 0 0),.c (.ptr TT 0 0),.c (.ptr Y4 0 0),i64 (c.ns:Int),i64 (Int.ofNat k)]
abbrev Js:List (Nat × AV):=[(0,.c (.ptr VR 0 0)),(4,.c (.ptr TT 0 0)),(6,.c (.ptr Y4 0 0))]
def woR (P:Program) (c:Cfg) (w:Vw) (y:Int) (T:Nat->ZO) (x:Int) (d:Said) (k:Nat) (f:Nat->Int) (path:List Dec):Option VC:=
 view woH BE (fC (Uo P) 100 (ZY P 13 1) Jr nSt ⟨ZT 174 (woH.zip (Mm c k)),RQ c w y T x d k f,0,0,false,path,[],[],[],none,[]⟩)
theorem woT (c:Cfg) (w:Vw) (y:Int) (T:Nat->ZO) (x:Int) (d:Said) (k:Nat) (f:Nat->Int) (Q:VC->Prop) (H:let zN:=Int.ofNat;let zz0:=(ABlk.mk true false 68 0 (Cs.lit (zI (zN 0)::zB false::zI (zN 0)::zU (zN 0)::zU (zN 0)::zW (zN 0)::zW (zN 0)::z8 (fun zk=>zB false) (z8 (fun zk=>zU (zN 0)) (z8 (fun zk=>zU (zN 0)) (z8 (fun zk=>zH (zN 0)) (z8 (fun zk=>zB false) [AC.v (Value.int IntKind.i8 (zN 0)),zU (zN 0),AC.v (Value.slice none 0 0)])))))));let zs0:=fun (l:List (Option AV))=>some (ZN (List.zip woH (Mm c k)) 0)::some (ZN (List.zip woH (Mm c k)) 4)::some (ZN (List.zip woH (Mm c k)) 6)::some (ZN (List.zip woH (Mm c k)) 7)::l;let zs1:=fun (l:List AC)=>zI x::zB (Said.is d)::zI (Said.at_ d)::zU (Payload.kind (Said.p d))::zU (Payload.st (Said.p d))::zW (Payload.seq (Said.p d))::zW (Payload.val (Said.p d))::l;let zs2:=fun (l:List (Option ABlk))=>some (ZG 3 c.np c.fp)::some (ZG 3 c.ns c.fs)::some (ZG 3 c.nb c.fb)::some (Xj c.nt c.ft)::some (Vx c w y)::some (Y1 c.nt T)::l;(((decide (zN k < ↑(c.nt)))=true->Q (Exit.normal,(zs0 [some (.c (zI (IntKind.wrap .i64 (zN k+zN 1))))]),(none::yO 52 1 (Cs.arr (k+1) fun i=>if i<k then List.map AC.v ((fun i=>[Value.int .u32 (f i)]) i) else Z8 (ABlk.mk true false 52 0 (Cs.lit [zW (QG c (zN k) (ZO.any (T (0+Int.toNat (zN k)))) (ZO.val (T (0+Int.toNat (zN k)))) (ZO.rnd (T (0+Int.toNat (zN k)))) (IntKind.wrap .i64 (Int.tdiv y ↑(c.ns))))])) 0 0 1 (i-k))::yR 68 0 (Cs.lit (zs1 ((ZW w++[AC.sl 1000000000000220000000000000000000000000000000000000007 0 0 (k+1) none]))))::some ZA::some Zw::zs2 [some zz0]),174,1000000000000220000000000000000000000000000000000000013,(true::true::true::decide (k<=k)::decide ((k+1)*4<=140737488355328)::Z2 c::Kz (Zf.mk c [.c (zI (zN k)),.agg [zB (ZO.any (T (0+Int.toNat (zN k)))),zW (ZO.seq (T (0+Int.toNat (zN k)))),zW (ZO.val (T (0+Int.toNat (zN k)))),zI (ZO.rnd (T (0+Int.toNat (zN k))))],.c (zI (IntKind.wrap .i64 (Int.tdiv y ↑(c.ns))))])::decide (↑(c.ns)≠zN 0)::true::true::ABlk.inb (Y1 c.nt T) (0+Int.toNat (zN k)) 4::true::true::true::true::decide (zN 0<=zN k/\zN k < ↑(c.nt))::zt [decide (zN k < ↑(c.nt))==true,true]),[]))/\((decide (zN k < ↑(c.nt)))=false->Q (Exit.exit 2,(zs0 [some (ZN (List.zip woH (Mm c k)) 10)]),(yO 52 1 (Cs.arr k fun k=>List.map AC.v ((fun i=>[Value.int .u32 (f i)]) k))::none::yR 68 0 (Cs.lit (zs1 ((ZW w++[AC.sl 100000000000000000000000000000000000000000000000000000 0 0 k none]))))::some ZA::some Zw::zs2 [some zz0]),174,1000000000000000000000000000000000000000000000000000007,[decide (zN k < ↑(c.nt))==false,true],[])))):
 ∃p r,woR prog c w y T x d k f p=some r/\Q r:=
 ZL H (fun g1=>⟨pD 1 1,_,by kernel_rfl,g1⟩) (fun g1=>⟨pD 1 2,_,by kernel_rfl,g1⟩)
abbrev WI (n:Nat) (g:Nat->Int):ABlk:=XD 52 1 n fun j=>[.int .u32 (g j)]
abbrev BO (x:Int) (l:List AC) (w:Vw) (o n:Nat):ABlk:=⟨true,false,65,0,.lit (.v (.int .i64 x)::(l++(ZW w++[.sl o 0 0 n none])))⟩
abbrev Gp:List AV:=ZT 169 [(2,.c (.ptr 1070000000000000000000000000000000000000009 0 0)),(4,.c (.ptr 1070000000000000000000000000000000000000011 0 0)),(11,.c (.ptr 100000230000000000000000000000000000000000000000 0 0))]
abbrev SQ:Nat:=100000210000000000000000000000000000000000000000
abbrev Gq:List Nat:=plI++[1070000000000000000000000000000000000000009,1070000000000000000000000000000000000000010,1070000000000000000000000000000000000000011,100000230000000000000000000000000000000000000000,100000240000000000000000000000000000000000000002,100000240000000000000000000000000000000000000006,100000240000000000000000000000000000000000000007,1410000000000000000000000000000000000000068]
abbrev poYNI:List Nat:=SQ::Gq
abbrev TZ (P:Program) (c:Cfg) (w:Vw) (T:Nat->ZO) (x y:Int) (q:Payload):List ABlk:=V9 c w y T++[T7 44 Ze,O0 (Ui x q),NZ,BO x (Ui x q) w SQ c.nt,T7 44 Ze,Xr (.dfr true),Xr (.loop .ready none Gp #[144,145] (Oz P 12 1) (OA P 12 1) 100000240000000000000000000000000000000000000006),Xr (.dfr true)]
abbrev O8 (n k:Nat):List AV:=[.c (.yld 100000240000000000000000000000000000000000000007),.c (.ptr 100000240000000000000000000000000000000000000002 0 0),i64 (n:Int),i64 (Int.ofNat k)]
def Gr (P:Program) (c:Cfg) (w:Vw) (T:Nat->ZO) (x y:Int) (q:Payload) (g:Nat->Int) (k:Nat) (path:List Dec):Option VC:=
 view (plH++[]) poYNI (fC (Uo P) 100 (ZY P 68 0) 1000000000000000000000000000000000000000000000000 nSt (WR 23 plH poYNI (O8 c.nt k) (WI c.nt g::TZ P c w T x y q) path []))
abbrev Ka (P:Program) (c:Cfg) (w:Vw) (T:Nat->ZO) (x y:Int) (q:Payload) (g:Nat->Int):Zh:=⟨plH,poYNI,ZT 23 [],poYNI.zip (WI c.nt g::TZ P c w T x y q),10000000000000000000000000000000000000000000000000,.exit 0⟩
abbrev O7:Nat:=100000240000000000000000000000000000000000000014
abbrev Gk:List AV:=ZT 169 [(2,.c (.ptr 1070000000000000000000000000000000000000009 0 0)),(4,.c (.ptr 1070000000000000000000000000000000000000011 0 0)),(11,.c (.ptr 100000350000000000000000000000000000000000000001 0 0))]
abbrev SP:Nat:=100000330000000000000000000000000000000000000001
abbrev Gl:List Nat:=plI++[1070000000000000000000000000000000000000009,1070000000000000000000000000000000000000010,1070000000000000000000000000000000000000011,100000350000000000000000000000000000000000000001,100000360000000000000000000000000000000000000003,100000360000000000000000000000000000000000000007,100000360000000000000000000000000000000000000008,1410000000000000000000000000000000000000068]
abbrev poYBI:List Nat:=SP::Gl
abbrev TY (P:Program) (c:Cfg) (w:Vw) (T:Nat->ZO) (x y:Int) (q:Payload):List ABlk:=V9 c w y T++[T7 44 Ze,O0 (Ui x q),NZ,BO x (Ui x q) w SP c.nt,T7 44 Ze,Xr (.dfr true),Xr (.loop .ready none Gk #[144,145] (Oz P 12 1) (OA P 12 1) 100000360000000000000000000000000000000000000007),Xr (.dfr true)]
abbrev O6 (n k:Nat):List AV:=[.c (.yld 100000360000000000000000000000000000000000000008),.c (.ptr 100000360000000000000000000000000000000000000003 0 0),i64 (n:Int),i64 (Int.ofNat k)]
def Gm (P:Program) (c:Cfg) (w:Vw) (T:Nat->ZO) (x y:Int) (q:Payload) (g:Nat->Int) (k:Nat) (path:List Dec):Option VC:=
 view (plH++[]) poYBI (fC (Uo P) 100 (ZY P 68 0) 1000000000000000000000000000000000000000000000000 nSt (WR 23 plH poYBI (O6 c.nt k) (WI c.nt g::TY P c w T x y q) path []))
abbrev K9 (P:Program) (c:Cfg) (w:Vw) (T:Nat->ZO) (x y:Int) (q:Payload) (g:Nat->Int):Zh:=⟨plH,poYBI,ZT 23 [],poYBI.zip (WI c.nt g::TY P c w T x y q),10000000000000000000000000000000000000000000000000,.exit 0⟩
abbrev O5:Nat:=100000360000000000000000000000000000000000000015
abbrev Gg:List AV:=ZT 169 [(2,.c (.ptr 1070000000000000000000000000000000000000009 0 0)),(4,.c (.ptr 1070000000000000000000000000000000000000011 0 0)),(11,.c (.ptr 1510000000000000000000000000000000000000055 0 0))]
abbrev SO:Nat:=1490000000000000000000000000000000000000055
abbrev Gh:List Nat:=plI++[1070000000000000000000000000000000000000009,1070000000000000000000000000000000000000010,1070000000000000000000000000000000000000011,1510000000000000000000000000000000000000055,1520000000000000000000000000000000000000057,1520000000000000000000000000000000000000061,1520000000000000000000000000000000000000062]
abbrev poNNI:List Nat:=SO::Gh
abbrev TX (P:Program) (c:Cfg) (w:Vw) (T:Nat->ZO) (x y:Int) (q:Payload):List ABlk:=V9 c w y T++[T7 44 Ze,O0 UL,NZ,BO x UL w SO c.nt,T7 44 Ze,Xr (.dfr true),Xr (.loop .ready none Gg #[144,145] (Oz P 12 1) (OA P 12 1) 1520000000000000000000000000000000000000061)]
abbrev O4 (n k:Nat):List AV:=[.c (.yld 1520000000000000000000000000000000000000062),.c (.ptr 1520000000000000000000000000000000000000057 0 0),i64 (n:Int),i64 (Int.ofNat k)]
def Gi (P:Program) (c:Cfg) (w:Vw) (T:Nat->ZO) (x y:Int) (q:Payload) (g:Nat->Int) (k:Nat) (path:List Dec):Option VC:=
 view (plH++[]) poNNI (fC (Uo P) 100 (ZY P 68 0) 1000000000000000000000000000000000000000000000000 nSt (WR 23 plH poNNI (O4 c.nt k) (WI c.nt g::TX P c w T x y q) path []))
abbrev K8 (P:Program) (c:Cfg) (w:Vw) (T:Nat->ZO) (x y:Int) (q:Payload) (g:Nat->Int):Zh:=⟨plH,poNNI,ZT 23 [],poNNI.zip (WI c.nt g::TX P c w T x y q),10000000000000000000000000000000000000000000000000,.exit 0⟩
abbrev O3:Nat:=1520000000000000000000000000000000000000069
abbrev Gc:List AV:=ZT 169 [(2,.c (.ptr 1070000000000000000000000000000000000000009 0 0)),(4,.c (.ptr 1070000000000000000000000000000000000000011 0 0)),(11,.c (.ptr 1630000000000000000000000000000000000000056 0 0))]
abbrev SN:Nat:=1610000000000000000000000000000000000000056
abbrev Gd:List Nat:=plI++[1070000000000000000000000000000000000000009,1070000000000000000000000000000000000000010,1070000000000000000000000000000000000000011,1630000000000000000000000000000000000000056,1640000000000000000000000000000000000000058,1640000000000000000000000000000000000000062,1640000000000000000000000000000000000000063]
abbrev poNBI:List Nat:=SN::Gd
abbrev TW (P:Program) (c:Cfg) (w:Vw) (T:Nat->ZO) (x y:Int) (q:Payload):List ABlk:=V9 c w y T++[T7 44 Ze,O0 UL,NZ,BO x UL w SN c.nt,T7 44 Ze,Xr (.dfr true),Xr (.loop .ready none Gc #[144,145] (Oz P 12 1) (OA P 12 1) 1640000000000000000000000000000000000000062)]
abbrev O2 (n k:Nat):List AV:=[.c (.yld 1640000000000000000000000000000000000000063),.c (.ptr 1640000000000000000000000000000000000000058 0 0),i64 (n:Int),i64 (Int.ofNat k)]
def Ge (P:Program) (c:Cfg) (w:Vw) (T:Nat->ZO) (x y:Int) (q:Payload) (g:Nat->Int) (k:Nat) (path:List Dec):Option VC:=
 view (plH++[]) poNBI (fC (Uo P) 100 (ZY P 68 0) 1000000000000000000000000000000000000000000000000 nSt (WR 23 plH poNBI (O2 c.nt k) (WI c.nt g::TW P c w T x y q) path []))
abbrev K7 (P:Program) (c:Cfg) (w:Vw) (T:Nat->ZO) (x y:Int) (q:Payload) (g:Nat->Int):Zh:=⟨plH,poNBI,ZT 23 [],poNBI.zip (WI c.nt g::TW P c w T x y q),10000000000000000000000000000000000000000000000000,.exit 0⟩
abbrev O1:Nat:=1640000000000000000000000000000000000000070
abbrev poU (c:Cfg) (T:Nat->ZO) (y:Int) (g:Nat->Int) (k:Nat):ABlk:=ABlk.mk true true 52 1 (Cs.arr c.nt fun i=>if i=0+Int.toNat (Int.ofNat k) then YB ((fun k=>List.map AC.v ((fun j=>[Value.int .u32 (g j)]) k)) i) 0 [.v (.int .u32 (QG c (Int.ofNat k) (T (0+Int.toNat (Int.ofNat k))).any (T (0+Int.toNat (Int.ofNat k))).val (T (0+Int.toNat (Int.ofNat k))).rnd (IntKind.wrap .i64 (Int.tdiv y (c.ns:Int)))))] else List.map AC.v ((fun j=>[Value.int .u32 (g j)]) i))
abbrev poW (c:Cfg) (T:Nat->ZO) (y:Int) (g:Nat->Int) (k:Nat):List Bool:=[ABlk.inb (WI c.nt g) (0+Int.toNat (Int.ofNat k)) 1,decide (Int.ofNat 0<=Int.ofNat k/\Int.ofNat k<(c.nt:Int)),YM c (Int.toNat c.nodes) (ZI c (2*c.np)),LQ (Y3.mk c (Int.toNat c.nodes) (ZI c (2*c.np)) [.c (.v (.int .i64 (Int.ofNat k))),.agg [.v (.bool (T (0+Int.toNat (Int.ofNat k))).any),.v (.int .u32 (T (0+Int.toNat (Int.ofNat k))).seq),.v (.int .u32 (T (0+Int.toNat (Int.ofNat k))).val),.v (.int .i64 (T (0+Int.toNat (Int.ofNat k))).rnd)],.c (.v (.int .i64 (IntKind.wrap .i64 (Int.tdiv y (c.ns:Int)))))]),decide ((c.ns:Int)≠Int.ofNat 0),true,true,true,true,true,true,ABlk.inb (WH c.nt T) (0+Int.toNat (Int.ofNat k)) 4,true,true,true,true,true,true,true,decide (Int.ofNat 0<=Int.ofNat k/\Int.ofNat k<(c.nt:Int)),true,true,decide (Int.ofNat k<(c.nt:Int))==true]
abbrev Gb (c:Cfg) (T:Nat->ZO) (y:Int) (g:Nat->Int) (V:List AV) (L:List ABlk) (k:Nat) (Q:VC->Prop):Prop:=
 (decide (Int.ofNat k<(c.nt:Int))=true->Q (Exit.normal,[some (ZN (plH.zip V) 0),some (ZN (plH.zip V) 1),some (ZN (plH.zip V) 8),some (.c (.v (.int .i64 (IntKind.wrap .i64 (Int.ofNat k+Int.ofNat 1)))))],some (poU c T y g k)::L.map some,23,1000000220000000000000000000000000000000000000017,poW c T y g k,[]))/\
 (decide (Int.ofNat k<(c.nt:Int))=false->Q (Exit.exit 0,[some (ZN (plH.zip V) 0),some (ZN (plH.zip V) 1),some (ZN (plH.zip V) 8),some (ZN (plH.zip V) 9)],some (WI c.nt g)::L.map some,23,1000000000000000000000000000000000000000000000001,[decide (Int.ofNat k<(c.nt:Int))==false],[]))
theorem Gs (c:Cfg) (w:Vw) (T:Nat->ZO) (x y:Int) (q:Payload) (g:Nat->Int) (k:Nat) (Q:VC->Prop) (H:Gb c T y g (O8 c.nt k) (TZ prog c w T x y q) k Q):∃p r,Gr prog c w T x y q g k p=some r/\Q r:=
 ZL H (fun g1=>⟨pD 2 1,_,by kernel_rfl,g1⟩) (fun g1=>⟨pD 1 2,_,by kernel_rfl,g1⟩)
theorem Gn (c:Cfg) (w:Vw) (T:Nat->ZO) (x y:Int) (q:Payload) (g:Nat->Int) (k:Nat) (Q:VC->Prop) (H:Gb c T y g (O6 c.nt k) (TY prog c w T x y q) k Q):∃p r,Gm prog c w T x y q g k p=some r/\Q r:=
 ZL H (fun g1=>⟨pD 2 1,_,by kernel_rfl,g1⟩) (fun g1=>⟨pD 1 2,_,by kernel_rfl,g1⟩)
theorem Gj (c:Cfg) (w:Vw) (T:Nat->ZO) (x y:Int) (q:Payload) (g:Nat->Int) (k:Nat) (Q:VC->Prop) (H:Gb c T y g (O4 c.nt k) (TX prog c w T x y q) k Q):∃p r,Gi prog c w T x y q g k p=some r/\Q r:=
 ZL H (fun g1=>⟨pD 2 1,_,by kernel_rfl,g1⟩) (fun g1=>⟨pD 1 2,_,by kernel_rfl,g1⟩)
theorem Gf (c:Cfg) (w:Vw) (T:Nat->ZO) (x y:Int) (q:Payload) (g:Nat->Int) (k:Nat) (Q:VC->Prop) (H:Gb c T y g (O2 c.nt k) (TW prog c w T x y q) k Q):∃p r,Ge prog c w T x y q g k p=some r/\Q r:=
 ZL H (fun g1=>⟨pD 2 1,_,by kernel_rfl,g1⟩) (fun g1=>⟨pD 1 2,_,by kernel_rfl,g1⟩)
def UN (c:Cfg) (T:Nat->ZO) (rd:Int) (k j:Nat):Int:=if j<k then QG c (Int.ofNat j) (T j).any (T j).val (T j).rnd rd else 0
theorem jjn3 {c:Cfg} {T:Nat->ZO} {rd:Int} {n k:Nat} {f:Nat->List AC} (h:∀j,j<n->f j=[.v (.int .u32 (UN c T rd k j))]):BEq (ABlk.mk true true 52 1 (.arr n f)) (WI n (UN c T rd k)):=⟨rfl,rfl,rfl,rfl,.inr (.inl ⟨n,_,_,rfl,rfl,fun j hj=>h j hj⟩)⟩
theorem jjn4 {n:Nat} {f g:Nat->Int} {y:ABlk} (hy:BEq y (WI n f)) (h:∀j,j<n->f j=g j):BEq y (WI n g):=by
 obtain⟨h1,h2,h3,h4,h5⟩:=hy;refine⟨h1,h2,h3,h4,?_⟩;rcases h5 with⟨l,e1,e2⟩|⟨q,u,w,e1,e2,e3⟩|⟨o,o',e1,e2,_⟩
 . cases e2
 . cases e2
   exact .inr (.inl ⟨_,u,_,e1,rfl,fun j hj=>by rw[e3 j hj];dsimp only;rw[h j hj]⟩)
 . cases e2
theorem LE (c : Cfg) (T : Nat -> ZO) (y:Int) (a b':Nat) (L:List ABlk) (I:List Nat) (N:Nat) (hn:c.nt<=8) (hns:c.ns≠0) (hst:XM c c.nodes.toNat=true) (hh:Yr c=true) (hv:YK (IntKind.wrap .i64 (Int.tdiv y c.ns))=true) (hT:∀j,YK (T j).rnd=true)
 (tr:∀g k Q,Gb c T y g [.c (.yld a),.c (.ptr b' 0 0),i64 (c.nt:Int),i64 (Int.ofNat k)] L k Q->∃p r,view (plH++[]) I (fC (Uo prog) 100 (ZY prog 68 0) 1000000000000000000000000000000000000000000000000 nSt (WR 23 plH I [.c (.yld a),.c (.ptr b' 0 0),i64 (c.nt:Int),i64 (Int.ofNat k)] (WI c.nt g::L) p []))=some r/\Q r)
 (hN:Nat.ble N 1000000000000000000000000000000000000000000000000=true) (hl:I.length=L.length+1) (hI:I.all (Zb N 10000000000000000000000000000000000000000000000000)=true) (hL0:∀b∈L,Zc N b) (hV:∀k,[.c (.yld a),.c (.ptr b' 0 0),i64 (c.nt:Int),i64 (Int.ofNat k)].all (US N)=true) {eb:List (Option ABlk)} (hL:BL L eb) {b:ABlk} (hy:BEq b (WI c.nt fun _=>0)):
 LoopV prog (ZY prog 68 0) plH I ([.c (.yld a),.c (.ptr b' 0 0),i64 (c.nt:Int),i64 (Int.ofNat 0)].map some) (some b::eb) 23 N (ZT 23 []) (I.zip (WI c.nt (UN c T (IntKind.wrap .i64 (Int.tdiv y c.ns)) c.nt)::L)) 10000000000000000000000000000000000000000000000000 (.exit 0) none:=by
 have lo:∀k,∀b∈WI c.nt (UN c T (IntKind.wrap .i64 (Int.tdiv y c.ns)) k)::L,Zc N b:=fun k b hb=>by
  rcases List.mem_cons.1 hb with rfl|hb
  . exact XT
  . exact hL0 b hb
 refine Rx VL (fuel:=100) (str:=nSt) (nh:=1000000000000000000000000000000000000000000000000) (S:=Nat) (fun k=>k<=c.nt) (fun k=>c.nt-k) plH [] I (fun k=>[.c (.yld a),.c (.ptr b' 0 0),i64 (c.nt:Int),i64 (Int.ofNat k)]) (fun k=>WI c.nt (UN c T (IntKind.wrap .i64 (Int.tdiv y c.ns)) k)::L) (Nat.le_of_ble_eq_true hN) (by decide) (by unfold ZQ;omega) (s0:=0) (Nat.zero_le _) (fun _=>⟨rfl,hl⟩) hI ⟨jjn4 hy (fun j _=>by unfold UN;rw[if_neg (Nat.not_lt_zero _)]),hL⟩ (fun k _=>⟨hV k,lo k⟩) ?_;intro k hk;refine(?_:(∃p r,view (plH++[]) I (fC (Uo prog) 100 (ZY prog 68 0) 1000000000000000000000000000000000000000000000000 nSt (WR 23 plH I [.c (.yld a),.c (.ptr b' 0 0),i64 (c.nt:Int),i64 (Int.ofNat k)] (WI c.nt (UN c T (IntKind.wrap .i64 (Int.tdiv y c.ns)) k)::L) p []))=some r/\_)->_) (tr (UN c T (IntKind.wrap .i64 (Int.tdiv y c.ns)) k) k (XS N 10000000000000000000000000000000000000000000000000 23 plH [] I (fun k=>k<=c.nt) (fun k=>c.nt-k) (fun k=>[.c (.yld a),.c (.ptr b' 0 0),i64 (c.nt:Int),i64 (Int.ofNat k)]) (fun k=>WI c.nt (UN c T (IntKind.wrap .i64 (Int.tdiv y c.ns)) k)::L) (.exit 0) [] (I.zip (WI c.nt (UN c T (IntKind.wrap .i64 (Int.tdiv y c.ns)) c.nt)::L)) k) ?_)
 . rintro⟨p,r,h1,h2⟩
   exact⟨p,[],r,h1,h2⟩
 . refine ⟨fun c1=>?_,fun c1=>?_⟩
   . have hlt:k<c.nt:=by simpa using c1
     have hq:LQ (Y3.mk c c.nodes.toNat (ZI c (2*c.np)) [.c (.v (.int .i64 (Int.ofNat k))),.agg [.v (.bool (T k).any),.v (.int .u32 (T k).seq),.v (.int .u32 (T k).val),.v (.int .i64 (T k).rnd)],.c (.v (.int .i64 (IntKind.wrap .i64 (Int.tdiv y c.ns))))])=true:=by
      show (XM c c.nodes.toNat&&(Yr c&&(YK (T k).rnd&&YK (IntKind.wrap .i64 (Int.tdiv y c.ns)))))=true;rw[hst,hh,hv,hT];rfl
     refine⟨?_,rfl,by dsimp only;omega,rfl,.inl ⟨rfl,k+1,hlt,by show c.nt-(k+1)<c.nt-k;omega,?_,⟨jjn3 fun j hj=>?_,BL.refl (L)⟩⟩⟩
     . simp only[ZZ,List.forall_mem_cons,XE,hq,YU]
       simp[Z6,Xn,Xo,hns];omega
     . dsimp only;rw[TM (show k<9223372036854775807 by omega)];rfl
     . by_cases e:j=0+Int.toNat (Int.ofNat k)
       . have e2:j=k:=by rw[e,XE]
         rw[if_pos e];subst e2;have:UN c T (IntKind.wrap .i64 (Int.tdiv y c.ns)) (j+1) j=QG c (Int.ofNat j) (T j).any (T j).val (T j).rnd (IntKind.wrap .i64 (Int.tdiv y c.ns)):=if_pos (Nat.lt_succ_self j);rw[this];simp[YB,VB,ZU]
       . rw[if_neg e]
         rw[XE] at e
         have:UN c T (IntKind.wrap .i64 (Int.tdiv y c.ns)) (k+1) j=UN c T (IntKind.wrap .i64 (Int.tdiv y c.ns)) k j:=by
          unfold UN;by_cases h:j<k
          . rw[if_pos h,if_pos (by omega)]
          . rw[if_neg h,if_neg (by omega)]
         rw[this];rfl
   . obtain rfl : k = c.nt := by have:¬k<c.nt:=by simpa using c1
                                 omega
     exact⟨by simp only[ZZ,List.forall_mem_cons,c1];simp,rfl,by dsimp only;omega,rfl,.inr ⟨by simp,rfl,(fun _ h=>by cases h),Ru hI (lo c.nt) rfl⟩⟩
theorem jjgx {c:Cfg} {w:Vw} {T:Nat->ZO} {x y:Int} {q:Payload}:∀b∈TZ prog c w T x y q,Zc O7 b:=by
 intro b hb;rcases List.mem_append.1 hb with hb|hb
 . exact Qr (by decide) b hb
 simp only[List.mem_cons,List.not_mem_nil,or_false] at hb;rcases hb with rfl|rfl|rfl|rfl|rfl|rfl|rfl|rfl
 . exact XW rfl
 . exact XW rfl
 . exact XW rfl
 . exact XW rfl
 . exact XW rfl
 . exact Ud rfl
 . exact Ud rfl
 . exact Ud rfl
theorem jjgw (c:Cfg) (w:Vw) (T:Nat->ZO) (x y:Int) (q:Payload) (hn:c.nt<=8) (hns:c.ns≠0) (hst:XM c c.nodes.toNat=true) (hh:Yr c=true) (hv:YK (IntKind.wrap .i64 (Int.tdiv y c.ns))=true) (hT:∀j,YK (T j).rnd=true) {eb:List (Option ABlk)} (hL:BL (TZ prog c w T x y q) eb) {b:ABlk} (hy:BEq b (WI c.nt fun _=>0)):
 LoopV prog (ZY prog 68 0) plH poYNI ((O8 c.nt 0).map some) (some b::eb) 23 O7 (ZT 23 []) (poYNI.zip (WI c.nt (UN c T (IntKind.wrap .i64 (Int.tdiv y c.ns)) c.nt)::TZ prog c w T x y q)) 10000000000000000000000000000000000000000000000000 (.exit 0) none:=
 LE c T y _ _ _ poYNI O7 hn hns hst hh hv hT (fun g k Q h=>Gs c w T x y q g k Q h) rfl rfl (by kernel_rfl) jjgx (fun _=>rfl) hL hy
theorem jjgz {c:Cfg} {w:Vw} {T:Nat->ZO} {x y:Int} {q:Payload}:∀b∈TY prog c w T x y q,Zc O5 b:=by
 intro b hb;rcases List.mem_append.1 hb with hb|hb
 . exact Qr (by decide) b hb
 simp only[List.mem_cons,List.not_mem_nil,or_false] at hb;rcases hb with rfl|rfl|rfl|rfl|rfl|rfl|rfl|rfl
 . exact XW rfl
 . exact XW rfl
 . exact XW rfl
 . exact XW rfl
 . exact XW rfl
 . exact Ud rfl
 . exact Ud rfl
 . exact Ud rfl
theorem jjgy (c:Cfg) (w:Vw) (T:Nat->ZO) (x y:Int) (q:Payload) (hn:c.nt<=8) (hns:c.ns≠0) (hst:XM c c.nodes.toNat=true) (hh:Yr c=true) (hv:YK (IntKind.wrap .i64 (Int.tdiv y c.ns))=true) (hT:∀j,YK (T j).rnd=true) {eb:List (Option ABlk)} (hL:BL (TY prog c w T x y q) eb) {b:ABlk} (hy:BEq b (WI c.nt fun _=>0)):
 LoopV prog (ZY prog 68 0) plH poYBI ((O6 c.nt 0).map some) (some b::eb) 23 O5 (ZT 23 []) (poYBI.zip (WI c.nt (UN c T (IntKind.wrap .i64 (Int.tdiv y c.ns)) c.nt)::TY prog c w T x y q)) 10000000000000000000000000000000000000000000000000 (.exit 0) none:=
 LE c T y _ _ _ poYBI O5 hn hns hst hh hv hT (fun g k Q h=>Gn c w T x y q g k Q h) rfl rfl (by kernel_rfl) jjgz (fun _=>rfl) hL hy
theorem jjh1 {c:Cfg} {w:Vw} {T:Nat->ZO} {x y:Int} {q:Payload}:∀b∈TX prog c w T x y q,Zc O3 b:=by
 intro b hb;rcases List.mem_append.1 hb with hb|hb
 . exact Qr (by decide) b hb
 simp only[List.mem_cons,List.not_mem_nil,or_false] at hb;rcases hb with rfl|rfl|rfl|rfl|rfl|rfl|rfl
 . exact XW rfl
 . exact XW rfl
 . exact XW rfl
 . exact XW rfl
 . exact XW rfl
 . exact Ud rfl
 . exact Ud rfl
theorem jjh0 (c:Cfg) (w:Vw) (T:Nat->ZO) (x y:Int) (q:Payload) (hn:c.nt<=8) (hns:c.ns≠0) (hst:XM c c.nodes.toNat=true) (hh:Yr c=true) (hv:YK (IntKind.wrap .i64 (Int.tdiv y c.ns))=true) (hT:∀j,YK (T j).rnd=true) {eb:List (Option ABlk)} (hL:BL (TX prog c w T x y q) eb) {b:ABlk} (hy:BEq b (WI c.nt fun _=>0)):
 LoopV prog (ZY prog 68 0) plH poNNI ((O4 c.nt 0).map some) (some b::eb) 23 O3 (ZT 23 []) (poNNI.zip (WI c.nt (UN c T (IntKind.wrap .i64 (Int.tdiv y c.ns)) c.nt)::TX prog c w T x y q)) 10000000000000000000000000000000000000000000000000 (.exit 0) none:=
 LE c T y _ _ _ poNNI O3 hn hns hst hh hv hT (fun g k Q h=>Gj c w T x y q g k Q h) rfl rfl (by kernel_rfl) jjh1 (fun _=>rfl) hL hy
theorem jjh3 {c:Cfg} {w:Vw} {T:Nat->ZO} {x y:Int} {q:Payload}:∀b∈TW prog c w T x y q,Zc O1 b:=by
 intro b hb;rcases List.mem_append.1 hb with hb|hb
 . exact Qr (by decide) b hb
 simp only[List.mem_cons,List.not_mem_nil,or_false] at hb;rcases hb with rfl|rfl|rfl|rfl|rfl|rfl|rfl
 . exact XW rfl
 . exact XW rfl
 . exact XW rfl
 . exact XW rfl
 . exact XW rfl
 . exact Ud rfl
 . exact Ud rfl
theorem jjh2 (c:Cfg) (w:Vw) (T:Nat->ZO) (x y:Int) (q:Payload) (hn:c.nt<=8) (hns:c.ns≠0) (hst:XM c c.nodes.toNat=true) (hh:Yr c=true) (hv:YK (IntKind.wrap .i64 (Int.tdiv y c.ns))=true) (hT:∀j,YK (T j).rnd=true) {eb:List (Option ABlk)} (hL:BL (TW prog c w T x y q) eb) {b:ABlk} (hy:BEq b (WI c.nt fun _=>0)):
 LoopV prog (ZY prog 68 0) plH poNBI ((O2 c.nt 0).map some) (some b::eb) 23 O1 (ZT 23 []) (poNBI.zip (WI c.nt (UN c T (IntKind.wrap .i64 (Int.tdiv y c.ns)) c.nt)::TW prog c w T x y q)) 10000000000000000000000000000000000000000000000000 (.exit 0) none:=
 LE c T y _ _ _ poNBI O1 hn hns hst hh hv hT (fun g k Q h=>Gf c w T x y q g k Q h) rfl rfl (by kernel_rfl) jjh3 (fun _=>rfl) hL hy
theorem jjg4 {k:Nat} {f g:Nat->Int} {h:Nat->List AC} (h1:∀i,i<k->h i=[.v (.int .u32 (f i))]) (h2:h k=[.v (.int .u32 (g k))]) (h3:∀i,i<k->f i=g i):BEq (ABlk.mk true true 52 1 (.arr (k+1) h)) (Ml (k+1) g):=
 ⟨rfl,rfl,rfl,rfl,.inr (.inl ⟨k+1,_,_,rfl,rfl,fun i hi=>by
  rcases Nat.lt_or_ge i k with e|e
  . rw[h1 i e,h3 i e];rfl
  . obtain rfl:i=k:=by omega
    rw[h2];rfl⟩)⟩
theorem IA {N:Nat} (hN:Xs<=N) {c:Cfg} {w:Vw} {y:Int} {T:Nat->ZO}:∀b∈Mk c w y T,Zc N b:=by
 intro b hb;rcases List.mem_append.1 hb with hb|hb
 . exact Le hN b hb
 . rw[List.mem_singleton.1 hb]
   exact XW rfl
theorem FI {n nh n':Nat} {ρ:Rn} {mv:List (Nat × Option ABlk)} {w:Vw} {x:Int} {d:Said} {o m:Nat} (hm:(Y4,some (Hn w x d o m))∈mv) (h0:n<=VX) (h1:Y4<n) (h2:VX<nh) (h3:VX<n') (hr:ρ VX= .inl o):OF n nh n' ρ mv Y4 (Hn w x d VX m):=by
 refine .inr (.inr (.inr ⟨.inl h1,_,hm,rfl,rfl,rfl,rfl,_,_,rfl,rfl,rfl,fun j=>?_⟩))
 match j with
 |0|1|2|3|4|5|6|7|8|9|10|11|12|13|14|15|16|17|18|19|20|21|22|23|24|25|26|27|28|29|30|31|32|33|34|35|36|37|38|39|40|41|42|43|44|45|46|47|48=>exact LH rfl
 |49=>exact LM (WN h0 h2 h3 hr)
 |j+50=>exact LH rfl
theorem FJ {n nh n':Nat} {ρ:Rn} {mv:List (Nat × Option ABlk)} {w:Vw} {x:Int} {d:Said} (hm:(Y4,some (Hm x (U5 d) (ZW w) (.v (.slice none 0 0))))∈mv) (h0:n<=VX) (h1:Y4<n) (h2:VX<nh) (h3:VX<n') (hr:ρ VX= .inr 1):OF n nh n' ρ mv Y4 (Hn w x d VX 0):=by
 refine .inr (.inr (.inr ⟨.inl h1,_,hm,rfl,rfl,rfl,rfl,_,_,rfl,rfl,rfl,fun j=>?_⟩))
 match j with
 |0|1|2|3|4|5|6|7|8|9|10|11|12|13|14|15|16|17|18|19|20|21|22|23|24|25|26|27|28|29|30|31|32|33|34|35|36|37|38|39|40|41|42|43|44|45|46|47|48=>exact LH rfl
 |49=>exact LM (Qx h0 h2 h3 hr)
 |j+50=>exact LH rfl
theorem LA (c : Cfg) (w : Vw) (y : Int) (T:Nat->ZO) (x:Int) (d:Said) (hn:c.nt<=8) (hns:c.ns≠0) (hh:Yr c=true) (hv:YK (IntKind.wrap .i64 (Int.tdiv y c.ns))=true) (hT:∀j,YK (T j).rnd=true) {eb:List (Option ABlk)} (hL:BL (Mk c w y T) eb):
 LoopV prog (ZY prog 13 1) woH (Y4::woD) ((Mm c 0).map some) (some (Hm x (U5 d) (ZW w) (.v (.slice none 0 0)))::eb) 174 10000000000120000000000000000000000000000000000000023 (ZT 174 Js) (RQ c w y T x d c.nt (UN c T (IntKind.wrap .i64 (Int.tdiv y c.ns)) c.nt)) Ho (.exit 2) none:=by
 refine KV VL (fuel:=100) (str:=nSt) (nh:=Jr) (S:=Nat) (fun k=>k<=c.nt) (fun k=>c.nt-k) woH BE [VX,Y4] woD (Y4::woD) (fun k=>Mm c k) (fun k=>[Ml k (UN c T (IntKind.wrap .i64 (Int.tdiv y c.ns)) c.nt),Hn w x d VX k]) (fun _=>Mk c w y T) (by decide) (by decide) (by unfold ZQ Ho;omega) (s0:=0) (Nat.zero_le _) ⟨fun _=>.inr 1,?_⟩ ?_
 . refine Wn (A:=[(Y4,some (Hm x (U5 d) (ZW w) (.v (.slice none 0 0))))]) rfl (by kernel_rfl) ?_ ?_ (by kernel_rfl) (IA (by decide)) hL
   . exact X0 (.head _) (fun h=>(by cases h)) (Xb rfl) (X0 (.tail _ (.head _)) (fun h=>(by cases h)) (Xb rfl) (X0 (.tail _ (.tail _ (.head _))) (fun h=>(by cases h)) (Xb rfl) (X0 (.tail _ (.tail _ (.tail _ (.head _)))) (fun h=>(by cases h)) (Xb rfl) (X0 (.tail _ (.tail _ (.tail _ (.tail _ (.head _))))) (fun h=>(by cases h)) (Xb rfl) (Wp)))))
   . exact WB (LG rfl rfl rfl rfl ⟨_,rfl⟩) (WB (FJ (.head _) (by decide) (by decide) (by decide) (by decide) rfl) Wo)
 . intro k hk
   refine(?_:(∃p r,woR prog c w y T x d k (UN c T (IntKind.wrap .i64 (Int.tdiv y c.ns)) c.nt) p=some r/\_)->_) (woT c w y T x d k (UN c T (IntKind.wrap .i64 (Int.tdiv y c.ns)) c.nt) (R1 10000000000120000000000000000000000000000000000000023 Jr Ho 174 woH BE [VX,Y4] woD (fun k:Nat=>k<=c.nt) (fun k=>c.nt-k) (fun k=>Mm c k) (fun k=>[Ml k (UN c T (IntKind.wrap .i64 (Int.tdiv y c.ns)) c.nt),Hn w x d VX k]) (fun _=>Mk c w y T) (.exit 2) Js (RQ c w y T x d c.nt (UN c T (IntKind.wrap .i64 (Int.tdiv y c.ns)) c.nt)) k) ?_)
   . rintro⟨p,r,h1,h2⟩
     exact⟨p,[],r,h1,h2⟩
   . refine⟨fun c1=>?_,fun c1=>?_⟩
     . have hlt:k<c.nt:=by simpa using c1
       have w1:=TM (show k<9223372036854775807 by omega)
       have hq:Kz (Zf.mk c [.c (.v (.int .i64 (Int.ofNat k))),.agg [.v (.bool (T k).any),.v (.int .u32 (T k).seq),.v (.int .u32 (T k).val),.v (.int .i64 (T k).rnd)],.c (.v (.int .i64 (IntKind.wrap .i64 (Int.tdiv y c.ns))))])=true:=by
        show (Yr c&&(YK (T k).rnd&&YK (IntKind.wrap .i64 (Int.tdiv y c.ns))))=true;rw[hh,hv,hT];rfl
       simp only[w1];refine⟨?_,(fun q hq=>by cases hq),by unfold Ho;dsimp only;omega,rfl,.inl ⟨rfl,k+1,hlt,by show c.nt-(k+1)<c.nt-k;omega,fun _=>.inl BW,?_⟩⟩
       . simp only[ZZ,List.forall_mem_cons,XE,hq,YZ]
         simp[Z6,Xn,Xo,hns];omega
       . refine Wn (A:=[(VX,none),(BW,_),(Y4,_)]) (kb:=(Mk c w y T).map some) rfl (by kernel_rfl) ?_ ?_ (by kernel_rfl) (IA (by decide)) (BL.refl (Mk c w y T))
         . exact X0 (.head _) (fun h=>(by cases h)) (Xb rfl) (X0 (.tail _ (.head _)) (fun h=>(by cases h)) (Xb rfl) (X0 (.tail _ (.tail _ (.head _))) (fun h=>(by cases h)) (Xb rfl) (X0 (.tail _ (.tail _ (.tail _ (.head _)))) (fun h=>(by cases h)) (Xb rfl) (X0 (.tail _ (.tail _ (.tail _ (.tail _ (.head _))))) (fun h=>(by cases h)) (Xb rfl) (Wp)))))
         . refine WB (Uf rfl rfl rfl (.tail _ (.head _)) (jjg4 (f:=UN c T (IntKind.wrap .i64 (Int.tdiv y c.ns)) c.nt) (fun i hi=>if_pos hi) ?_ fun _ _=>rfl) XT) (WB (FI (.tail _ (.tail _ (.head _))) (by decide) (by decide) (by decide) (by decide) rfl) Wo)
           rw[if_neg (Nat.lt_irrefl k),Nat.sub_self,show UN c T (IntKind.wrap .i64 (Int.tdiv y c.ns)) c.nt k=QG c (Int.ofNat k) (T k).any (T k).val (T k).rnd (IntKind.wrap .i64 (Int.tdiv y c.ns)) from if_pos hlt,XE];rfl
     . obtain rfl : k = c.nt := by have:¬k<c.nt:=by simpa using c1
                                   omega
       refine⟨by simp only[ZZ,List.forall_mem_cons,c1];simp,(fun q hq=>by cases hq),by unfold Ho;dsimp only;omega,rfl,.inr ⟨by simp,rfl,fun id=>.inl id,?_⟩⟩;refine Wn (hs:=[0,4,6]) (vals:=[.c (.ptr VR 0 0),.c (.ptr TT 0 0),.c (.ptr Y4 0 0)]) (A:=[(VX,_),(BW,none),(Y4,_)]) (kb:=(Mk c w y T).map some) rfl (by kernel_rfl) ?_ ?_ (by kernel_rfl) (IA (by decide)) (BL.refl (Mk c w y T))
       . exact X0 (.head _) (fun h=>(by cases h)) (Xb rfl) (X0 (.tail _ (.head _)) (fun h=>(by cases h)) (Xb rfl) (X0 (.tail _ (.tail _ (.head _))) (fun h=>(by cases h)) (Xb rfl) (Wp)))
       . exact WB (Uf rfl rfl rfl (.head _) (BEq.refl _) XT) (WB (FI (.tail _ (.tail _ (.head _))) (by decide) (by decide) (by decide) (by decide) rfl) Wo)
abbrev Ko (c:Cfg) (w:Vw) (y:Int) (T:Nat->ZO) (x:Int) (d:Said) (f:Nat->Int):Zh:=⟨woH,Y4::woD,ZT 174 Js,RQ c w y T x d c.nt f,Ho,.exit 2⟩
theorem G3 (c:Cfg) (u w:Vw) (x:Int) (S T:Nat->ZO) (t:Int) (q:Payload) (o:Int) (f:Nat->Int) (Q:VF->Prop) (H:let zN:=Int.ofNat;let zz0:=(ABlk.mk true false 68 0 (Cs.lit (zI (zN 0)::zB false::zI (zN 0)::zU (zN 0)::zU (zN 0)::zW (zN 0)::zW (zN 0)::z8 (fun zk=>zB false) (z8 (fun zk=>zU (zN 0)) (z8 (fun zk=>zU (zN 0)) (z8 (fun zk=>zH (zN 0)) (z8 (fun zk=>zB false) [AC.v (Value.int IntKind.i8 (zN 0)),zU (zN 0),AC.v (Value.slice none 0 0)])))))));let zz1:=(ABlk.mk true false 57 0 (Cs.lit (zI (Cfg.nodes c)::AC.sl 0 0 0 (Cfg.np c) none::AC.sl 1 0 0 (Cfg.ns c) none::zI (Cfg.long c)::AC.sl 2 0 0 (Cfg.nb c) none::AC.sl 3 0 0 (Cfg.nt c) none::zI (Cfg.miss c)::zI (Cfg.good c)::zI (Cfg.fresh c)::zI (IntKind.wrap IntKind.i64 (x+zN 1))::(ZW w++[AC.sl Q3 0 0 (Cfg.nt c) none]))));let zs0:=fun (l:List (Option AV))=>some (.c (.ptr VR 0 0))::some (.c (.ptr 100000000000000000000000000000000000000000000000012 0 0))::some (.c (.ptr 100000000000000000000000000000000000000000000000024 0 0))::some (.c (.v (.int .i64 ↑(c.ns))))::l;let zs1:=fun (l:List (Option ABlk))=>some (ZG 3 c.np c.fp)::some (ZG 3 c.ns c.fs)::some (ZG 3 c.nb c.fb)::some (Xj c.nt c.ft)::l;let zs2:=fun (l:List AC)=>zU (Payload.kind q)::zU (Payload.st q)::zW (Payload.seq q)::zW (Payload.val q)::l;Q (.tup [AV.agg (zI x::zB true::zI (Said.at_ (Said.mk true x q))::zs2 ((ZW w++[AC.sl 100000000000000000000000000000000000000000000000000000 0 0 c.nt none]))),.c (zI (zN 0))],(yO 52 1 (Cs.arr c.nt fun k=>List.map AC.v ((fun i=>[Value.int .u32 (f i)]) k))::some ZA::some Zw::zs1 [some zz1,some (Y1 c.nt T)]),10000000000000000000000000000000000000000000000000000003,(zu (zu (zu (zu (zt (zt (true::(((Int.tmod (IntKind.wrap .i64 (x+zN 1)) ↑(c.ns)==zN 0)==false)::(decide (↑(c.ns)≠zN 0))::y3 (y3 ((Z2 c)::(M5 (Zf.mk c [AV.agg (ZW u),.c (zI (U7 c.fs c.ns (Int.tmod x ↑(c.ns))))]))::(zu (zt (zt (true::((Z2 c)::true::(decide (↑(c.ns)≠zN 0))::(zt (zt (y3 (y3 (((decide (x≥zN 1099511627776)==false)::true::true::[]))))))))))))))))))))),[LoopV prog (ZY prog 13 1) woH (Y4::woD) (zs0 [some (.c (zI (zN 0)))]) (yR 68 0 (Cs.lit (zI x::zB true::zI x::zs2 ((ZW w++[AC.v (Value.slice none 0 0)]))))::some ZA::some Zw::zs1 [some zz1,some (Y1 c.nt T),some zz0]) 174 10000000000000000000000000000000000000000000000000022 (ZT 174 Js) (RQ c w (IntKind.wrap .i64 (x+zN 1)) T x (Said.mk true x q) c.nt f) 10000000000000000000000000000000000000000000000000000000 (Exit.exit 2) none,LoopV prog (ZY prog 13 0) Q6 wlI (zs0 [some (.c (zI (U7 c.fs c.ns (Int.tmod x ↑(c.ns))))),some (.c (zI (zN 0)))]) (some ZA::some Zw::zs1 [yR 57 0 (Cs.lit (zI c.nodes::AC.sl 0 0 0 c.np none::AC.sl 1 0 0 c.ns none::zI c.long::AC.sl 2 0 0 c.nb none::AC.sl 3 0 0 c.nt none::zI c.miss::zI c.good::zI c.fresh::zI x::(ZW (Sb (decide (zN 0<=U7 c.fs c.ns (Int.tmod x ↑(c.ns))/\U7 c.fs c.ns (Int.tmod x ↑(c.ns)) < ↑(c.np))) (U7 c.fs c.ns (Int.tmod x ↑(c.ns))) u)++[AC.sl Q3 0 0 c.nt none]))),some (Y1 c.nt S),yR 68 0 (Cs.lit (zI x::zB true::zI x::zs2 (z8 (fun zk=>zB false) (z8 (fun zk=>zU (zN 0)) (z8 (fun zk=>zU (zN 0)) (z8 (fun zk=>zH (zN 0)) (z8 (fun zk=>zB false) [.v (.int .i8 (zN 0)),zU (zN 0),AC.v (Value.slice none 0 0)]))))))),some zz0]) 174 100000000330000000000000000000000000000000000000038 (ZT 174 [(0,.c (.ptr VR 0 0)),(4,.c (.ptr TT 0 0)),(6,.c (.ptr Y4 0 0)),(7,i64 ↑(c.ns))]) (List.zip wlI (MB c w x T q)) 10000000000000000000000000000000000000000000000000000 (Exit.exit 0) none])):
 ∃p r,TU prog (VX::plWI) c u x S ⟨true,t,q⟩ p [some (BV c w x T q o),some (Ko c w (IntKind.wrap .i64 (x+Int.ofNat 1)) T x ⟨true,x,q⟩ f)]=some r/\Q r:=
 ⟨pD 3 20,_,by kernel_rfl,H⟩
theorem G2 (c:Cfg) (u w w2:Vw) (x:Int) (S T:Nat->ZO) (t:Int) (q:Payload) (o:Int) (f:Nat->Int) (Q:VF->Prop) (H:let zN:=Int.ofNat;let zz0:=(ABlk.mk true false 68 0 (Cs.lit (zI (zN 0)::zB false::zI (zN 0)::zU (zN 0)::zU (zN 0)::zW (zN 0)::zW (zN 0)::z8 (fun zk=>zB false) (z8 (fun zk=>zU (zN 0)) (z8 (fun zk=>zU (zN 0)) (z8 (fun zk=>zH (zN 0)) (z8 (fun zk=>zB false) [AC.v (Value.int IntKind.i8 (zN 0)),zU (zN 0),AC.v (Value.slice none 0 0)])))))));let zs0:=fun (l:List AC)=>zI c.nodes::AC.sl 0 0 0 c.np none::AC.sl 1 0 0 c.ns none::zI c.long::AC.sl 2 0 0 c.nb none::AC.sl 3 0 0 c.nt none::zI c.miss::zI c.good::zI c.fresh::l;let zs1:=fun (l:List (Option AV))=>some (.c (.ptr VR 0 0))::some (.c (.ptr 100000000000000000000000000000000000000000000000012 0 0))::some (.c (.ptr 100000000000000000000000000000000000000000000000024 0 0))::some (.c (.v (.int .i64 ↑(c.ns))))::l;let zs2:=fun (l:List (Option ABlk))=>some (ZG 3 c.np c.fp)::some (ZG 3 c.ns c.fs)::some (ZG 3 c.nb c.fb)::some (Xj c.nt c.ft)::l;let zs3:=fun (l:List AC)=>zU (Payload.kind q)::zU (Payload.st q)::zW (Payload.seq q)::zW (Payload.val q)::l;Q (.tup [AV.agg (zI x::zB true::zI (Said.at_ (Said.mk true x q))::zs3 ((ZW w2++[AC.sl 100000000000000000000000000000000000000000000000000000 0 0 c.nt none]))),.c (zI (zN 0))],(yO 52 1 (Cs.arr c.nt fun k=>List.map AC.v ((fun i=>[Value.int .u32 (f i)]) k))::some ZA::some Zw::zs2 [yR 57 0 (Cs.lit (zs0 (zI (IntKind.wrap .i64 (x+zN 1))::(ZW w2++[AC.sl Q3 0 0 c.nt none])))),some (Y1 c.nt T)]),10000000000000000000000000000000000000000000000000000003,(zu (zu (zu (zu (zt (zt (true::true::((Z2 c)::(RM (Zf.mk c [AV.agg (ZW w)]))::(zu (zt (zt (true::(((Int.tmod (IntKind.wrap .i64 (x+zN 1)) ↑(c.ns)==zN 0)==true)::(decide (↑(c.ns)≠zN 0))::y3 (y3 ((Z2 c)::(M5 (Zf.mk c [AV.agg (ZW u),.c (zI (U7 c.fs c.ns (Int.tmod x ↑(c.ns))))]))::(zu (zt (zt (true::((Z2 c)::true::(decide (↑(c.ns)≠zN 0))::(zt (zt (y3 (y3 (((decide (x≥zN 1099511627776)==false)::true::true::[])))))))))))))))))))))))))),[LoopV prog (ZY prog 13 1) woH (Y4::woD) (zs1 [some (.c (zI (zN 0)))]) (yR 68 0 (Cs.lit (zI x::zB true::zI x::zs3 ((ZW (Mp c (Zk (ZW w)))++[AC.v (Value.slice none 0 0)]))))::some ZA::some Zw::zs2 [yR 57 0 (Cs.lit (zs0 (zI (IntKind.wrap .i64 (x+zN 1))::(ZW (Mp c (Zk (ZW w)))++[AC.sl Q3 0 0 c.nt none])))),some (Y1 c.nt T),some zz0]) 174 10000000000120000000000000000000000000000000000000023 (ZT 174 Js) (RQ c w2 (IntKind.wrap .i64 (x+zN 1)) T x (Said.mk true x q) c.nt f) 10000000000000000000000000000000000000000000000000000000 (Exit.exit 2) none,LoopV prog (ZY prog 13 0) Q6 wlI (zs1 [some (.c (zI (U7 c.fs c.ns (Int.tmod x ↑(c.ns))))),some (.c (zI (zN 0)))]) (some ZA::some Zw::zs2 [yR 57 0 (Cs.lit (zs0 (zI x::(ZW (Sb (decide (zN 0<=U7 c.fs c.ns (Int.tmod x ↑(c.ns))/\U7 c.fs c.ns (Int.tmod x ↑(c.ns)) < ↑(c.np))) (U7 c.fs c.ns (Int.tmod x ↑(c.ns))) u)++[AC.sl Q3 0 0 c.nt none])))),some (Y1 c.nt S),yR 68 0 (Cs.lit (zI x::zB true::zI x::zs3 (z8 (fun zk=>zB false) (z8 (fun zk=>zU (zN 0)) (z8 (fun zk=>zU (zN 0)) (z8 (fun zk=>zH (zN 0)) (z8 (fun zk=>zB false) [.v (.int .i8 (zN 0)),zU (zN 0),AC.v (Value.slice none 0 0)]))))))),some zz0]) 174 100000000330000000000000000000000000000000000000038 (ZT 174 [(0,.c (.ptr VR 0 0)),(4,.c (.ptr TT 0 0)),(6,.c (.ptr Y4 0 0)),(7,i64 ↑(c.ns))]) (List.zip wlI (MB c w x T q)) 10000000000000000000000000000000000000000000000000000 (Exit.exit 0) none])):
 ∃p r,TU prog (VX::plWI) c u x S ⟨true,t,q⟩ p [some (BV c w x T q o),some (Ko c w2 (IntKind.wrap .i64 (x+Int.ofNat 1)) T x ⟨true,x,q⟩ f)]=some r/\Q r:=
 ⟨pD 3 11,_,by kernel_rfl,H⟩
theorem G1 (c:Cfg) (u:Vw) (x:Int) (S:Nat->ZO) (t:Int) (q:Payload) (f:Nat->Int) (Q:VF->Prop) (H:let zN:=Int.ofNat;let zz0:=(ABlk.mk true false 57 0 (Cs.lit (zI (Cfg.nodes c)::AC.sl 0 0 0 (Cfg.np c) none::AC.sl 1 0 0 (Cfg.ns c) none::zI (Cfg.long c)::AC.sl 2 0 0 (Cfg.nb c) none::AC.sl 3 0 0 (Cfg.nt c) none::zI (Cfg.miss c)::zI (Cfg.good c)::zI (Cfg.fresh c)::zI (IntKind.wrap IntKind.i64 (x+zN 1))::(ZW u++[AC.sl Q3 0 0 (Cfg.nt c) none]))));let zs0:=fun (l:List AC)=>zB false::zI (zN 0)::zU (zN 0)::zU (zN 0)::zW (zN 0)::zW (zN 0)::l;Q (.tup [AV.agg (zI x::zs0 ((ZW u++[AC.sl 100000000000000000000000000000000000000000000000000000 0 0 c.nt none]))),.c (zI (zN 0))],[yO 52 1 (Cs.arr c.nt fun k=>List.map AC.v ((fun i=>[Value.int .u32 (f i)]) k)),some ZA,some Zw,some (ZG 3 c.np c.fp),some (ZG 3 c.ns c.fs),some (ZG 3 c.nb c.fb),some (Xj c.nt c.ft),some zz0,some (Y1 c.nt S)],10000000000000000000000000000000000000000000000000000003,(zu (zu (zu (zu (zt (zt (true::(((Int.tmod (IntKind.wrap .i64 (x+zN 1)) ↑(c.ns)==zN 0)==false)::(decide (↑(c.ns)≠zN 0))::(zt (y3 (((decide (x≥zN 1099511627776)==false)::true::true::[])))))))))))),[LoopV prog (ZY prog 13 1) woH (Y4::woD) [some (.c (.ptr VR 0 0)),some (.c (.ptr 100000000000000000000000000000000000000000000000012 0 0)),some (.c (.ptr 100000000000000000000000000000000000000000000000024 0 0)),some (.c (.v (.int .i64 ↑(c.ns)))),some (.c (zI (zN 0)))] [yR 68 0 (Cs.lit (zI x::zs0 ((ZW u++[AC.v (Value.slice none 0 0)])))),some ZA,some Zw,some (ZG 3 c.np c.fp),some (ZG 3 c.ns c.fs),some (ZG 3 c.nb c.fb),some (Xj c.nt c.ft),some zz0,some (Y1 c.nt S),yR 68 0 (Cs.lit (zI (zN 0)::zs0 (z8 (fun zk=>zB false) (z8 (fun zk=>zU (zN 0)) (z8 (fun zk=>zU (zN 0)) (z8 (fun zk=>zH (zN 0)) (z8 (fun zk=>zB false) [.v (.int .i8 (zN 0)),zU (zN 0),AC.v (Value.slice none 0 0)])))))))] 174 100000000000000000000000000000000000000000000000057 (ZT 174 Js) (RQ c u (IntKind.wrap .i64 (x+zN 1)) S x Said.zero c.nt f) 10000000000000000000000000000000000000000000000000000000 (Exit.exit 2) none])):
 ∃p r,TU prog (VX::plWI) c u x S ⟨false,t,q⟩ p [some (Ko c u (IntKind.wrap .i64 (x+Int.ofNat 1)) S x Said.zero f)]=some r/\Q r:=
 ⟨pD 3 20,_,by kernel_rfl,H⟩
theorem G0 (c:Cfg) (u w2:Vw) (x:Int) (S:Nat->ZO) (t:Int) (q:Payload) (f:Nat->Int) (Q:VF->Prop) (H:let zN:=Int.ofNat;let zs0:=fun (l:List AC)=>zI c.nodes::AC.sl 0 0 0 c.np none::AC.sl 1 0 0 c.ns none::zI c.long::AC.sl 2 0 0 c.nb none::AC.sl 3 0 0 c.nt none::zI c.miss::zI c.good::zI c.fresh::zI (IntKind.wrap .i64 (x+zN 1))::l;let zs1:=fun (l:List AC)=>zB false::zI (zN 0)::zU (zN 0)::zU (zN 0)::zW (zN 0)::zW (zN 0)::l;Q (.tup [AV.agg (zI x::zs1 ((ZW w2++[AC.sl 100000000000000000000000000000000000000000000000000000 0 0 c.nt none]))),.c (zI (zN 0))],[yO 52 1 (Cs.arr c.nt fun k=>List.map AC.v ((fun i=>[Value.int .u32 (f i)]) k)),some ZA,some Zw,some (ZG 3 c.np c.fp),some (ZG 3 c.ns c.fs),some (ZG 3 c.nb c.fb),some (Xj c.nt c.ft),yR 57 0 (Cs.lit (zs0 ((ZW w2++[AC.sl Q3 0 0 c.nt none])))),some (Y1 c.nt S)],10000000000000000000000000000000000000000000000000000003,(zu (zu (zu (zu (zt (zt (true::true::((Z2 c)::(RM (Zf.mk c [AV.agg (ZW u)]))::(zu (zt (zt (true::(((Int.tmod (IntKind.wrap .i64 (x+zN 1)) ↑(c.ns)==zN 0)==true)::(decide (↑(c.ns)≠zN 0))::(zt (y3 (((decide (x≥zN 1099511627776)==false)::true::true::[]))))))))))))))))),[LoopV prog (ZY prog 13 1) woH (Y4::woD) [some (.c (.ptr VR 0 0)),some (.c (.ptr 100000000000000000000000000000000000000000000000012 0 0)),some (.c (.ptr 100000000000000000000000000000000000000000000000024 0 0)),some (.c (.v (.int .i64 ↑(c.ns)))),some (.c (zI (zN 0)))] [yR 68 0 (Cs.lit (zI x::zs1 ((ZW (Mp c (Zk (ZW u)))++[AC.v (Value.slice none 0 0)])))),some ZA,some Zw,some (ZG 3 c.np c.fp),some (ZG 3 c.ns c.fs),some (ZG 3 c.nb c.fb),some (Xj c.nt c.ft),yR 57 0 (Cs.lit (zs0 ((ZW (Mp c (Zk (ZW u)))++[AC.sl Q3 0 0 c.nt none])))),some (Y1 c.nt S),yR 68 0 (Cs.lit (zI (zN 0)::zs1 (z8 (fun zk=>zB false) (z8 (fun zk=>zU (zN 0)) (z8 (fun zk=>zU (zN 0)) (z8 (fun zk=>zH (zN 0)) (z8 (fun zk=>zB false) [.v (.int .i8 (zN 0)),zU (zN 0),AC.v (Value.slice none 0 0)])))))))] 174 100000000120000000000000000000000000000000000000058 (ZT 174 Js) (RQ c w2 (IntKind.wrap .i64 (x+zN 1)) S x Said.zero c.nt f) 10000000000000000000000000000000000000000000000000000000 (Exit.exit 2) none])):
 ∃p r,TU prog (VX::plWI) c u x S ⟨false,t,q⟩ p [some (Ko c w2 (IntKind.wrap .i64 (x+Int.ofNat 1)) S x Said.zero f)]=some r/\Q r:=
 ⟨pD 3 11,_,by kernel_rfl,H⟩
theorem AK (c:Cfg) (u w:Vw) (x y:Int) (S T:Nat->ZO) (t:Int) (q:Payload) (o rr:Int) (g:Nat->Int) (Q:VF->Prop) (H:let zN:=Int.ofNat;let zM:=ABlk.mk;let zD:=Int.toNat;let zz0:=(zM true false 65 0 (Cs.lit (zI (zN 0)::zB false::zI (zN 0)::zU (zN 0)::zU (zN 0)::zW (zN 0)::zW (zN 0)::z8 (fun zk=>zB false) (z8 (fun zk=>zU (zN 0)) (z8 (fun zk=>zU (zN 0)) (z8 (fun zk=>zH (zN 0)) (z8 (fun zk=>zB false) [AC.v (Value.int IntKind.i8 (zN 0)),zU (zN 0),AC.v (Value.slice none 0 0)])))))));let zz1:=(WE c (zD (Cfg.nodes c)) (ZI c (2*Cfg.np c)) (List.headD [Int.tmod x ↑(Cfg.ns c)] (zN 0)));let zz2:=[zB true,zI (Said.at_ (Said.mk true t q)),zU (Payload.kind q),zU (Payload.st q),zW (Payload.seq q),zW (Payload.val q)];let zz3:=[zB true,zI x,zU (Payload.kind q),zU (Payload.st q),zW (Payload.seq q),zW (Payload.val q)];let zz4:=(zI x::zB true::zI x::zU (Payload.kind q)::zU (Payload.st q)::zW (Payload.seq q)::zW (Payload.val q)::(ZW w++[AC.sl 100000210000000000000000000000000000000000000000 0 0 (zD ↑(Cfg.nt c)) none]));let zz5:=[zB true,zI (zN 0),zU (Payload.kind q),zU (Payload.st q),zW (Payload.seq q),zW (Payload.val q)];let zz6:=(Sb (decide (zN 0<=ZE c (zD (Cfg.nodes c)) (ZI c (2*Cfg.np c)) zz1)) zz1 u);let ze0:AV:=.c (.ptr Ze 0 0);let zs0:=fun (l:List AV)=>zT::zT:: .c (zB false)::ze0:: .c (zB false):: .c (zB false)::ze0::ze0::ze0:: .c (.ptr 51 0 0):: .c (zB false):: .c (zB false)::zT:: .c (zB false)::ze0::ze0:: .c (.ptr Ze 0 2):: .c (zI x):: .c (zB (decide (x≥zN 1099511627776)))::zT::ze0::ze0:: .c (.ptr Ze 0 2):: .c (zI x)::ze0::ze0:: .c (.ptr Ze 0 2):: .c (zI x):: .c (zI (IntKind.wrap .i64 (x+zN 1)))::ze0:: .c (.ptr Ze 0 2)::AV.agg zz2::AV.agg zz5::ze0::ze0::ze0:: .c (.ptr 51 0 0):: .c (zI x)::ze0::ze0:: .c (.ptr Ze 0 1):: .c (.v (.int .i64 ↑(c.ns))):: .c (zI (Int.tmod x ↑(c.ns))):: .c (zI zz1):: .c (zI x)::ze0::ze0:: .c (.ptr Ze 0 1):: .c (.v (.int .i64 ↑(c.ns))):: .c (zI (IntKind.wrap .i64 (Int.tdiv x ↑(c.ns)))):: .c (.ptr 1070000000000000000000000000000000000000010 0 0):: .c (zB true):: .c (zI x):: .c (.ptr 1070000000000000000000000000000000000000010 0 1)::ze0::ze0::ze0::ze0:: .c (.ptr 51 0 0)::ze0::ze0:: .c (.ptr Ze 0 3)::AV.agg (ZW u):: .c (zI zz1)::AV.agg (ZW zz6)::ze0:: .c (.ptr Ze 0 3)::ze0:: .c (AC.fn 68 [(1410000000000000000000000000000000000000064,0,0)])::l;let zs1:=fun (l:List AV)=>ze0::AV.agg zz2:: .c (.ptr Yj 0 0):: .c (.ptr 1070000000000000000000000000000000000000010 0 0):: .c (.ptr 1070000000000000000000000000000000000000011 0 0):: .c (zI (zN 0)):: .c (zI x):: .c (.ptr 1240000000000000000000000000000000000000057 0 0):: .c (.ptr 1250000000000000000000000000000000000000057 0 0)::zT::zT::l;let zs2:=fun (l:List (Option ABlk))=>some (WC 51 c)::some (ZM (zD c.nodes) (ZI c (2*c.np)))::some (ZM c.np c.fp)::some (ZM c.ns c.fs)::some (ZM c.nb c.fb)::some (YC c.nt c.ft)::l;Q (.tup [AV.agg (zI x::zB true::zI x::zU (Payload.kind q)::zU (Payload.st q)::zW (Payload.seq q)::zW (Payload.val q)::(ZW w++[AC.sl 100000210000000000000000000000000000000000000000 0 0 c.nt none])),.c (zI (zN 0))],(yO 52 1 (Cs.arr c.nt fun k=>List.map AC.v ((fun j=>[Value.int .u32 (g j)]) k))::some ZA::some Zw::zs2 [some (VQ c w y),some (WH c.nt T)]),10000000000000000000000000000000000000000000000003,(zu (zu (zu (zt (true::((decide (zN 0 <= ↑(c.nt)/\(zN c.nt)= ↑(c.nt)/\ ↑(c.nt)*zN 4<=zN 140737488355328))::(zu (zt (zt (y3 (true::true::(((Int.tmod y ↑(c.ns)==zN 0)==false)::(decide (↑(c.ns)≠zN 0))::(zt (true::true::((YM c (zD c.nodes) (ZI c (2*c.np)))::(pW VM (Y3.mk c (zD c.nodes) (ZI c (2*c.np)) [AV.agg (ZW u),.c (zI zz1)]))::(zu (zt (zt (y3 (y3 (((decide (↑(c.ns)≠zN 0))::y3 ((YM c (zD c.nodes) (ZI c (2*c.np)))::true::(decide (↑(c.ns)≠zN 0))::(zu (y3 (((decide (x≥zN 1099511627776)==false)::y3 (y3 ([]))))))))))))))))))))))))))))),[LoopV prog (ZY prog 68 0) plH poYNI [some (.c (AC.yld 100000240000000000000000000000000000000000000007)),some (.c (.ptr 100000240000000000000000000000000000000000000002 0 0)),some (.c (.v (.int .i64 ↑(c.nt)))),some (.c (zI (zN 0)))] (yO 52 1 (Cs.arr (zD ↑(c.nt)) fun x=>List.map AC.v (Array.toList (Value.cells (Value.int .u32 0))))::some ZA::some Zw::zs2 [some (VQ c w y),some (WH c.nt T),yR 44 0 (Cs.lit [AC.ptr Ze 0 0]),yR 62 0 (Cs.lit zz3),some zz0,yR 65 0 (Cs.lit zz4),yR 44 0 (Cs.lit [AC.ptr Ze 0 0]),yF 0 0 (Cs.obj (AObj.dfr true)),yF 0 0 (Cs.obj (AObj.loop LoopState.ready none (zs1 (.c (.ptr 100000230000000000000000000000000000000000000000 0 0)::zs0 (z9 zT (z9 zT (z9 zT (zT::zT::ze0::ze0:: .c (.ptr Ze 0 2):: .c (zI y)::ze0::ze0:: .c (.ptr Ze 0 1):: .c (.v (.int .i64 ↑(c.ns))):: .c (zI (Int.tmod y ↑(c.ns))):: .c (zB false)::z9 zT (zT::zT::zT::zT:: .c (zI x)::AV.agg zz3::ze0::ze0:: .c (.ptr Ze 0 3)::AV.agg (ZW w)::ze0::ze0:: .c (.ptr Ze 0 45):: .c (.sl RE 0 0 c.nt none):: .c (.v (.int .i64 ↑(c.nt))):: .c (.sl 100000210000000000000000000000000000000000000000 0 0 (zD ↑(c.nt)) none)::AV.agg zz4::ze0:: .c (AC.fn 68 [(100000240000000000000000000000000000000000000002,0,0)])::z9 zT (z9 zT (z9 zT [zT]))))))))) (Array.mk [144,145]) (Oz prog 12 1) (OA prog 12 1) 100000240000000000000000000000000000000000000006)),yF 0 0 (Cs.obj (AObj.dfr true))]) 23 100000240000000000000000000000000000000000000014 (ZT 23 []) (List.zip poYNI (WI c.nt g::TZ prog c w T x y q)) 10000000000000000000000000000000000000000000000000 (Exit.exit 0) none,LoopV prog (ZY prog 68 0) plH p1I [some (.c (AC.yld 1410000000000000000000000000000000000000069)),some (.c (.ptr 1410000000000000000000000000000000000000064 0 0)),some (.c (.v (.int .i64 ↑(c.nt)))),some (.c (zI (zN 0)))] (some ZA::some Zw::zs2 [yR 90 0 (Cs.lit (.ptr 51 0 0:: .v (.int .i64 ↑(c.ns))::zI (IntKind.wrap .i64 (x+zN 1))::(ZW zz6++[AC.sl RE 0 0 c.nt none]))),some (WH c.nt S),yR 44 0 (Cs.lit [AC.ptr Ze 0 0]),yR 62 0 (Cs.lit zz3),some zz0,yR 3 0 (Cs.lit [zI zz1]),yR 2 0 (Cs.lit [zI (IntKind.wrap .i64 (Int.tdiv x ↑(c.ns)))]),yR 44 0 (Cs.lit [AC.ptr Ze 0 0]),yF 0 0 (Cs.obj (AObj.dfr true)),yF 0 0 (Cs.obj (AObj.loop LoopState.ready none (zs1 (zT::zs0 (z9 zT (z9 zT (z9 zT (z9 zT (z9 zT (z9 zT (z9 zT (z9 zT (z9 zT (z9 zT (z9 zT []))))))))))))) (Array.mk [81,82]) (Oz prog 12 0) (OA prog 12 0) 1410000000000000000000000000000000000000068))]) 23 1410000000000000000000000000000000000000076 (ZT 23 []) (List.zip p1I (Ow prog c w y T x q o rr)) 100000000000000000000000000000000000000000000000 (Exit.exit 0) none])):
 ∃p r,TV prog (SQ::plI) c u x S ⟨true,t,q⟩ p [some (BN prog c w y T x q o rr),some (Ka prog c w T x y q g)]=some r/\Q r:=
 ⟨pD 12 355752,_,by kernel_rfl,H⟩
theorem AJ (c:Cfg) (u w w2:Vw) (x y:Int) (S T:Nat->ZO) (t:Int) (q:Payload) (o rr:Int) (g:Nat->Int) (Q:VF->Prop) (H:let zN:=Int.ofNat;let zM:=ABlk.mk;let zD:=Int.toNat;let zz0:=(zM true false 65 0 (Cs.lit (zI (zN 0)::zB false::zI (zN 0)::zU (zN 0)::zU (zN 0)::zW (zN 0)::zW (zN 0)::z8 (fun zk=>zB false) (z8 (fun zk=>zU (zN 0)) (z8 (fun zk=>zU (zN 0)) (z8 (fun zk=>zH (zN 0)) (z8 (fun zk=>zB false) [AC.v (Value.int IntKind.i8 (zN 0)),zU (zN 0),AC.v (Value.slice none 0 0)])))))));let zz1:=(WE c (zD (Cfg.nodes c)) (ZI c (2*Cfg.np c)) (List.headD [Int.tmod x ↑(Cfg.ns c)] (zN 0)));let zz2:=[zB true,zI (Said.at_ (Said.mk true t q)),zU (Payload.kind q),zU (Payload.st q),zW (Payload.seq q),zW (Payload.val q)];let zz3:=[zB true,zI x,zU (Payload.kind q),zU (Payload.st q),zW (Payload.seq q),zW (Payload.val q)];let zz6:=(Hb c (zD (Cfg.nodes c)) (ZI c (2*Cfg.np c)) (Zk (ZW w)));let zz4:=(zI x::zB true::zI x::zU (Payload.kind q)::zU (Payload.st q)::zW (Payload.seq q)::zW (Payload.val q)::(ZW zz6++[AC.sl 100000330000000000000000000000000000000000000001 0 0 (zD ↑(Cfg.nt c)) none]));let zz5:=[zB true,zI (zN 0),zU (Payload.kind q),zU (Payload.st q),zW (Payload.seq q),zW (Payload.val q)];let zz7:=(Sb (decide (zN 0<=ZE c (zD (Cfg.nodes c)) (ZI c (2*Cfg.np c)) zz1)) zz1 u);let zs0:=fun (l:List AV)=>zT::zT:: .c (zB false):: .c (.ptr Ze 0 0):: .c (zB false):: .c (zB false):: .c (.ptr Ze 0 0):: .c (.ptr Ze 0 0):: .c (.ptr Ze 0 0):: .c (.ptr 51 0 0):: .c (zB false):: .c (zB false)::zT:: .c (zB false):: .c (.ptr Ze 0 0):: .c (.ptr Ze 0 0):: .c (.ptr Ze 0 2):: .c (zI x):: .c (zB (decide (x≥zN 1099511627776)))::zT:: .c (.ptr Ze 0 0):: .c (.ptr Ze 0 0):: .c (.ptr Ze 0 2):: .c (zI x):: .c (.ptr Ze 0 0):: .c (.ptr Ze 0 0):: .c (.ptr Ze 0 2):: .c (zI x):: .c (zI (IntKind.wrap .i64 (x+zN 1))):: .c (.ptr Ze 0 0):: .c (.ptr Ze 0 2)::AV.agg zz2::AV.agg zz5:: .c (.ptr Ze 0 0):: .c (.ptr Ze 0 0):: .c (.ptr Ze 0 0):: .c (.ptr 51 0 0):: .c (zI x):: .c (.ptr Ze 0 0):: .c (.ptr Ze 0 0):: .c (.ptr Ze 0 1):: .c (.v (.int .i64 ↑(c.ns))):: .c (zI (Int.tmod x ↑(c.ns))):: .c (zI zz1):: .c (zI x):: .c (.ptr Ze 0 0):: .c (.ptr Ze 0 0):: .c (.ptr Ze 0 1):: .c (.v (.int .i64 ↑(c.ns))):: .c (zI (IntKind.wrap .i64 (Int.tdiv x ↑(c.ns)))):: .c (.ptr 1070000000000000000000000000000000000000010 0 0):: .c (zB true):: .c (zI x):: .c (.ptr 1070000000000000000000000000000000000000010 0 1):: .c (.ptr Ze 0 0):: .c (.ptr Ze 0 0):: .c (.ptr Ze 0 0):: .c (.ptr Ze 0 0):: .c (.ptr 51 0 0):: .c (.ptr Ze 0 0):: .c (.ptr Ze 0 0):: .c (.ptr Ze 0 3)::AV.agg (ZW u):: .c (zI zz1)::AV.agg (ZW zz7):: .c (.ptr Ze 0 0):: .c (.ptr Ze 0 3):: .c (.ptr Ze 0 0):: .c (AC.fn 68 [(1410000000000000000000000000000000000000064,0,0)])::l;let zs1:=fun (l:List AV)=>.c (.ptr Ze 0 0)::AV.agg zz2:: .c (.ptr Yj 0 0):: .c (.ptr 1070000000000000000000000000000000000000010 0 0):: .c (.ptr 1070000000000000000000000000000000000000011 0 0):: .c (zI (zN 0)):: .c (zI x):: .c (.ptr 1240000000000000000000000000000000000000057 0 0):: .c (.ptr 1250000000000000000000000000000000000000057 0 0)::zT::zT::l;let zs2:=fun (l:List (Option ABlk))=>some (WC 51 c)::some (ZM (zD c.nodes) (ZI c (2*c.np)))::some (ZM c.np c.fp)::some (ZM c.ns c.fs)::some (ZM c.nb c.fb)::some (YC c.nt c.ft)::l;let zs3:=fun (l:List AV)=>.c (.ptr Ze 0 0):: .c (.ptr Ze 0 0)::l;Q (.tup [AV.agg (zI x::zB true::zI x::zU (Payload.kind q)::zU (Payload.st q)::zW (Payload.seq q)::zW (Payload.val q)::(ZW w2++[AC.sl 100000330000000000000000000000000000000000000001 0 0 c.nt none])),.c (zI (zN 0))],(yO 52 1 (Cs.arr c.nt fun k=>List.map AC.v ((fun j=>[Value.int .u32 (g j)]) k))::some ZA::some Zw::zs2 [some (VQ c w2 y),some (WH c.nt T)]),10000000000000000000000000000000000000000000000003,(zu (zu (zu (zt (true::((decide (zN 0 <= ↑(c.nt)/\(zN c.nt)= ↑(c.nt)/\ ↑(c.nt)*zN 4<=zN 140737488355328))::(zu (zt (zt (y3 (y3 (((YM c (zD c.nodes) (ZI c (2*c.np)))::(pX Jt (Y3.mk c (zD c.nodes) (ZI c (2*c.np)) [AV.agg (ZW w)]))::(zu (zt (y3 (y3 (true::(((Int.tmod y ↑(c.ns)==zN 0)==true)::(decide (↑(c.ns)≠zN 0))::(zt (true::true::((YM c (zD c.nodes) (ZI c (2*c.np)))::(pW VM (Y3.mk c (zD c.nodes) (ZI c (2*c.np)) [AV.agg (ZW u),.c (zI zz1)]))::(zu (zt (zt (y3 (y3 (((decide (↑(c.ns)≠zN 0))::y3 ((YM c (zD c.nodes) (ZI c (2*c.np)))::true::(decide (↑(c.ns)≠zN 0))::(zu (y3 (((decide (x≥zN 1099511627776)==false)::y3 (y3 ([])))))))))))))))))))))))))))))))))))),[LoopV prog (ZY prog 68 0) plH poYBI [some (.c (AC.yld 100000360000000000000000000000000000000000000008)),some (.c (.ptr 100000360000000000000000000000000000000000000003 0 0)),some (.c (.v (.int .i64 ↑(c.nt)))),some (.c (zI (zN 0)))] (yO 52 1 (Cs.arr (zD ↑(c.nt)) fun x=>List.map AC.v (Array.toList (Value.cells (Value.int .u32 0))))::some ZA::some Zw::zs2 [yR 90 0 (Cs.lit (.ptr 51 0 0:: .v (.int .i64 ↑(c.ns))::zI y::(ZW zz6++[AC.sl RE 0 0 c.nt none]))),some (WH c.nt T),yR 44 0 (Cs.lit [AC.ptr Ze 0 0]),yR 62 0 (Cs.lit zz3),some zz0,yR 65 0 (Cs.lit zz4),yR 44 0 (Cs.lit [AC.ptr Ze 0 0]),yF 0 0 (Cs.obj (AObj.dfr true)),yF 0 0 (Cs.obj (AObj.loop LoopState.ready none (zs1 (.c (.ptr 100000350000000000000000000000000000000000000001 0 0)::zs0 (z9 zT (z9 zT (z9 zT (zT::zT::zs3 (.c (.ptr Ze 0 2):: .c (zI y)::zs3 (.c (.ptr Ze 0 1):: .c (.v (.int .i64 ↑(c.ns))):: .c (zI (Int.tmod y ↑(c.ns))):: .c (zB true)::zs3 (zs3 (.c (.ptr 51 0 0)::zs3 (.c (.ptr Ze 0 3)::AV.agg (ZW w)::AV.agg (ZW zz6):: .c (.ptr Ze 0 0):: .c (.ptr Ze 0 3):: .c (zI x)::AV.agg zz3::zs3 (.c (.ptr Ze 0 3)::AV.agg (ZW zz6)::zs3 (.c (.ptr Ze 0 45):: .c (.sl RE 0 0 c.nt none):: .c (.v (.int .i64 ↑(c.nt))):: .c (.sl 100000330000000000000000000000000000000000000001 0 0 (zD ↑(c.nt)) none)::AV.agg zz4:: .c (.ptr Ze 0 0):: .c (AC.fn 68 [(100000360000000000000000000000000000000000000003,0,0)])::z9 zT (z9 zT (z9 zT [zT]))))))))))))))) (Array.mk [144,145]) (Oz prog 12 1) (OA prog 12 1) 100000360000000000000000000000000000000000000007)),yF 0 0 (Cs.obj (AObj.dfr true))]) 23 100000360000000000000000000000000000000000000015 (ZT 23 []) (List.zip poYBI (WI c.nt g::TY prog c w2 T x y q)) 10000000000000000000000000000000000000000000000000 (Exit.exit 0) none,LoopV prog (ZY prog 68 0) plH p1I [some (.c (AC.yld 1410000000000000000000000000000000000000069)),some (.c (.ptr 1410000000000000000000000000000000000000064 0 0)),some (.c (.v (.int .i64 ↑(c.nt)))),some (.c (zI (zN 0)))] (some ZA::some Zw::zs2 [yR 90 0 (Cs.lit (.ptr 51 0 0:: .v (.int .i64 ↑(c.ns))::zI (IntKind.wrap .i64 (x+zN 1))::(ZW zz7++[AC.sl RE 0 0 c.nt none]))),some (WH c.nt S),yR 44 0 (Cs.lit [AC.ptr Ze 0 0]),yR 62 0 (Cs.lit zz3),some zz0,yR 3 0 (Cs.lit [zI zz1]),yR 2 0 (Cs.lit [zI (IntKind.wrap .i64 (Int.tdiv x ↑(c.ns)))]),yR 44 0 (Cs.lit [AC.ptr Ze 0 0]),yF 0 0 (Cs.obj (AObj.dfr true)),yF 0 0 (Cs.obj (AObj.loop LoopState.ready none (zs1 (zT::zs0 (z9 zT (z9 zT (z9 zT (z9 zT (z9 zT (z9 zT (z9 zT (z9 zT (z9 zT (z9 zT (z9 zT []))))))))))))) (Array.mk [81,82]) (Oz prog 12 0) (OA prog 12 0) 1410000000000000000000000000000000000000068))]) 23 1410000000000000000000000000000000000000076 (ZT 23 []) (List.zip p1I (Ow prog c w y T x q o rr)) 100000000000000000000000000000000000000000000000 (Exit.exit 0) none])):
 ∃p r,TV prog (SP::plI) c u x S ⟨true,t,q⟩ p [some (BN prog c w y T x q o rr),some (K9 prog c w2 T x y q g)]=some r/\Q r:=
 ⟨pD 12 178605,_,by kernel_rfl,H⟩
theorem AI (c:Cfg) (u:Vw) (x:Int) (S:Nat->ZO) (t:Int) (q:Payload) (g:Nat->Int) (Q:VF->Prop) (H:let zN:=Int.ofNat;let zz0:=[zB false,zI (zN 0),zU (zN 0),zU (zN 0),zW (zN 0),zW (zN 0)];let zz1:=(zI x::zB false::zI (zN 0)::zU (zN 0)::zU (zN 0)::zW (zN 0)::zW (zN 0)::(ZW u++[AC.sl 1490000000000000000000000000000000000000055 0 0 (Int.toNat ↑(Cfg.nt c)) none]));let zz2:=[zB false,zI (Said.at_ (Said.mk false t q)),zU (Payload.kind q),zU (Payload.st q),zW (Payload.seq q),zW (Payload.val q)];let zz3:=(Value.int IntKind.i64 (IntKind.wrap IntKind.i64 (x+zN 1)));let ze4:AV:=.c (.v (.int .i64 ↑(c.ns)));let ze3:AV:=.c (.ptr 1070000000000000000000000000000000000000010 0 0);let ze2:AV:=.c (.ptr Ze 0 2);let ze1:AV:=.c (zB false);let ze0:AV:=.c (.ptr Ze 0 0);let zs0:=fun (l:List (Option ABlk))=>some (WC 51 c)::some (ZM (Int.toNat c.nodes) (ZI c (2*c.np)))::some (ZM c.np c.fp)::some (ZM c.ns c.fs)::some (ZM c.nb c.fb)::some (YC c.nt c.ft)::yR 90 0 (Cs.lit (.ptr 51 0 0:: .v (.int .i64 ↑(c.ns))::AC.v zz3::(ZW u++[AC.sl RE 0 0 c.nt none])))::some (WH c.nt S)::l;let zs1:=fun (l:List AV)=>ze0::ze0::l;let zs2:=fun (l:List AV)=>ze0::ze0::l;let zs3:=fun (l:List AV)=>ze0::ze0::l;Q (.tup [AV.agg (zI x::zB false::zI (zN 0)::zU (zN 0)::zU (zN 0)::zW (zN 0)::zW (zN 0)::(ZW u++[AC.sl 1490000000000000000000000000000000000000055 0 0 c.nt none])),.c (zI (zN 0))],(yO 52 1 (Cs.arr c.nt fun k=>List.map AC.v ((fun j=>[Value.int .u32 (g j)]) k))::some ZA::some Zw::zs0 []),10000000000000000000000000000000000000000000000003,(zu (zu (zu (zt (true::((decide (zN 0 <= ↑(c.nt)/\(zN c.nt)= ↑(c.nt)/\ ↑(c.nt)*zN 4<=zN 140737488355328))::(zu (zt (zt (y3 (true::true::(((Int.tmod (IntKind.wrap .i64 (x+zN 1)) ↑(c.ns)==zN 0)==false)::(decide (↑(c.ns)≠zN 0))::(zt (true::true::((decide (↑(c.ns)≠zN 0))::y3 ((YM c (Int.toNat c.nodes) (ZI c (2*c.np)))::true::(decide (↑(c.ns)≠zN 0))::(zt (zt (zt (y3 (y3 (((decide (x≥zN 1099511627776)==false)::y3 (y3 ([]))))))))))))))))))))))))),[LoopV prog (ZY prog 68 0) plH poNNI [some (.c (AC.yld 1520000000000000000000000000000000000000062)),some (.c (.ptr 1520000000000000000000000000000000000000057 0 0)),some (.c (.v (.int .i64 ↑(c.nt)))),some (.c (zI (zN 0)))] (yO 52 1 (Cs.arr (Int.toNat ↑(c.nt)) fun x=>List.map AC.v (Array.toList (Value.cells (Value.int .u32 0))))::some ZA::some Zw::zs0 [yR 44 0 (Cs.lit [AC.ptr Ze 0 0]),yR 62 0 (Cs.lit zz0),yR 65 0 (Cs.lit (zI (zN 0)::zB false::zI (zN 0)::zU (zN 0)::zU (zN 0)::zW (zN 0)::zW (zN 0)::z8 (fun zk=>zB false) (z8 (fun zk=>zU (zN 0)) (z8 (fun zk=>zU (zN 0)) (z8 (fun zk=>zH (zN 0)) (z8 (fun zk=>zB false) [.v (.int .i8 (zN 0)),zU (zN 0),AC.v (Value.slice none 0 0)])))))),yR 65 0 (Cs.lit zz1),yR 44 0 (Cs.lit [AC.ptr Ze 0 0]),yF 0 0 (Cs.obj (AObj.dfr true)),yF 0 0 (Cs.obj (AObj.loop LoopState.ready none (ze0::AV.agg zz2:: .c (.ptr Yj 0 0)::ze3:: .c (.ptr 1070000000000000000000000000000000000000011 0 0):: .c (zI (zN 0)):: .c (zI x):: .c (.ptr 1240000000000000000000000000000000000000053 0 0):: .c (.ptr 1250000000000000000000000000000000000000053 0 0)::zT::zT:: .c (.ptr 1510000000000000000000000000000000000000055 0 0)::zT::zT::ze1::ze0::ze1::ze1::zs3 (ze0:: .c (.ptr 51 0 0)::ze1::ze1::zT::ze1::zs3 (ze2:: .c (zI x):: .c (zB (decide (x≥zN 1099511627776)))::zT::zs3 (ze2:: .c (zI x)::zs3 (ze2:: .c (zI x):: .c (AC.v zz3)::ze0::ze2::AV.agg zz2::AV.agg zz0::zs3 (ze0:: .c (.ptr 51 0 0):: .c (zI x)::zs3 (.c (.ptr Ze 0 1)::ze4:: .c (zI (Int.tmod x ↑(c.ns))):: .c (zI (WE c (Int.toNat c.nodes) (ZI c (2*c.np)) (List.headD [Int.tmod x ↑(c.ns)] (zN 0)))):: .c (zI x)::zs3 (.c (.ptr Ze 0 1)::ze4:: .c (zI (IntKind.wrap .i64 (Int.tdiv x ↑(c.ns))))::ze3::ze1::z9 zT (z9 zT (z9 zT (z9 zT (z9 zT (zT::zT::zT::zs2 (ze2:: .c (AC.v zz3)::zs2 (.c (.ptr Ze 0 1)::ze4:: .c (zI (Int.tmod (IntKind.wrap .i64 (x+zN 1)) ↑(c.ns)))::ze1::z9 zT (zT::zT::zT::zT:: .c (zI x)::AV.agg zz0::zs1 (.c (.ptr Ze 0 3)::AV.agg (ZW u)::zs1 (.c (.ptr Ze 0 45):: .c (.sl RE 0 0 c.nt none):: .c (.v (.int .i64 ↑(c.nt))):: .c (.sl 1490000000000000000000000000000000000000055 0 0 (Int.toNat ↑(c.nt)) none)::AV.agg zz1::ze0:: .c (AC.fn 68 [(1520000000000000000000000000000000000000057,0,0)])::z9 zT (z9 zT (z9 zT [zT])))))))))))))))))))) (Array.mk [144,145]) (Oz prog 12 1) (OA prog 12 1) 1520000000000000000000000000000000000000061))]) 23 1520000000000000000000000000000000000000069 (ZT 23 []) (List.zip poNNI (WI c.nt g::TX prog c u S x (IntKind.wrap .i64 (x+zN 1)) q)) 10000000000000000000000000000000000000000000000000 (Exit.exit 0) none])):
 ∃p r,TV prog (SO::plI) c u x S ⟨false,t,q⟩ p [some (K8 prog c u S x (IntKind.wrap .i64 (x+Int.ofNat 1)) q g)]=some r/\Q r:=
 ⟨pD 12 355752,_,by kernel_rfl,H⟩
theorem AH (c:Cfg) (u w2:Vw) (x:Int) (S:Nat->ZO) (t:Int) (q:Payload) (g:Nat->Int) (Q:VF->Prop) (H:let zN:=Int.ofNat;let zD:=Int.toNat;let zz0:=[zB false,zI (zN 0),zU (zN 0),zU (zN 0),zW (zN 0),zW (zN 0)];let zz3:=(Hb c (zD (Cfg.nodes c)) (ZI c (2*Cfg.np c)) (Zk (ZW u)));let zz1:=(zI x::zB false::zI (zN 0)::zU (zN 0)::zU (zN 0)::zW (zN 0)::zW (zN 0)::(ZW zz3++[AC.sl 1610000000000000000000000000000000000000056 0 0 (zD ↑(Cfg.nt c)) none]));let zz2:=[zB false,zI (Said.at_ (Said.mk false t q)),zU (Payload.kind q),zU (Payload.st q),zW (Payload.seq q),zW (Payload.val q)];let zz4:=(Value.int IntKind.i64 (IntKind.wrap IntKind.i64 (x+zN 1)));let ze4:AV:=.c (.v (.int .i64 ↑(c.ns)));let ze3:AV:=.c (.ptr 1070000000000000000000000000000000000000010 0 0);let ze2:AV:=.c (.ptr Ze 0 2);let ze1:AV:=.c (zB false);let ze0:AV:=.c (.ptr Ze 0 0);let zs0:=fun (l:List AV)=>ze0::ze0::l;let zs1:=fun (l:List AV)=>ze0::ze0::l;let zs2:=fun (l:List (Option ABlk))=>some (WC 51 c)::some (ZM (zD c.nodes) (ZI c (2*c.np)))::some (ZM c.np c.fp)::some (ZM c.ns c.fs)::some (ZM c.nb c.fb)::some (YC c.nt c.ft)::l;Q (.tup [AV.agg (zI x::zB false::zI (zN 0)::zU (zN 0)::zU (zN 0)::zW (zN 0)::zW (zN 0)::(ZW w2++[AC.sl 1610000000000000000000000000000000000000056 0 0 c.nt none])),.c (zI (zN 0))],(yO 52 1 (Cs.arr c.nt fun k=>List.map AC.v ((fun j=>[Value.int .u32 (g j)]) k))::some ZA::some Zw::zs2 [yR 90 0 (Cs.lit (.ptr 51 0 0:: .v (.int .i64 ↑(c.ns))::AC.v zz4::(ZW w2++[AC.sl RE 0 0 c.nt none]))),some (WH c.nt S)]),10000000000000000000000000000000000000000000000003,(zu (zu (zu (zt (true::((decide (zN 0 <= ↑(c.nt)/\(zN c.nt)= ↑(c.nt)/\ ↑(c.nt)*zN 4<=zN 140737488355328))::(zu (zt (zt (y3 (y3 (((YM c (zD c.nodes) (ZI c (2*c.np)))::(pX Jt (Y3.mk c (zD c.nodes) (ZI c (2*c.np)) [AV.agg (ZW u)]))::(zu (zt (y3 (y3 (true::(((Int.tmod (IntKind.wrap .i64 (x+zN 1)) ↑(c.ns)==zN 0)==true)::(decide (↑(c.ns)≠zN 0))::(zt (true::true::((decide (↑(c.ns)≠zN 0))::y3 ((YM c (zD c.nodes) (ZI c (2*c.np)))::true::(decide (↑(c.ns)≠zN 0))::(zt (zt (zt (y3 (y3 (((decide (x≥zN 1099511627776)==false)::y3 (y3 ([])))))))))))))))))))))))))))))))),[LoopV prog (ZY prog 68 0) plH poNBI [some (.c (AC.yld 1640000000000000000000000000000000000000063)),some (.c (.ptr 1640000000000000000000000000000000000000058 0 0)),some (.c (.v (.int .i64 ↑(c.nt)))),some (.c (zI (zN 0)))] (yO 52 1 (Cs.arr (zD ↑(c.nt)) fun x=>List.map AC.v (Array.toList (Value.cells (Value.int .u32 0))))::some ZA::some Zw::zs2 [yR 90 0 (Cs.lit (.ptr 51 0 0:: .v (.int .i64 ↑(c.ns))::AC.v zz4::(ZW zz3++[AC.sl RE 0 0 c.nt none]))),some (WH c.nt S),yR 44 0 (Cs.lit [AC.ptr Ze 0 0]),yR 62 0 (Cs.lit zz0),yR 65 0 (Cs.lit (zI (zN 0)::zB false::zI (zN 0)::zU (zN 0)::zU (zN 0)::zW (zN 0)::zW (zN 0)::z8 (fun zk=>zB false) (z8 (fun zk=>zU (zN 0)) (z8 (fun zk=>zU (zN 0)) (z8 (fun zk=>zH (zN 0)) (z8 (fun zk=>zB false) [.v (.int .i8 (zN 0)),zU (zN 0),AC.v (Value.slice none 0 0)])))))),yR 65 0 (Cs.lit zz1),yR 44 0 (Cs.lit [AC.ptr Ze 0 0]),yF 0 0 (Cs.obj (AObj.dfr true)),yF 0 0 (Cs.obj (AObj.loop LoopState.ready none (ze0::AV.agg zz2:: .c (.ptr Yj 0 0)::ze3:: .c (.ptr 1070000000000000000000000000000000000000011 0 0):: .c (zI (zN 0)):: .c (zI x):: .c (.ptr 1240000000000000000000000000000000000000053 0 0):: .c (.ptr 1250000000000000000000000000000000000000053 0 0)::zT::zT:: .c (.ptr 1630000000000000000000000000000000000000056 0 0)::zT::zT::ze1::ze0::ze1::ze1::zs1 (ze0:: .c (.ptr 51 0 0)::ze1::ze1::zT::ze1::zs1 (ze2:: .c (zI x):: .c (zB (decide (x≥zN 1099511627776)))::zT::zs1 (ze2:: .c (zI x)::zs1 (ze2:: .c (zI x):: .c (AC.v zz4)::ze0::ze2::AV.agg zz2::AV.agg zz0::zs1 (ze0:: .c (.ptr 51 0 0):: .c (zI x)::zs1 (.c (.ptr Ze 0 1)::ze4:: .c (zI (Int.tmod x ↑(c.ns))):: .c (zI (WE c (zD c.nodes) (ZI c (2*c.np)) (List.headD [Int.tmod x ↑(c.ns)] (zN 0)))):: .c (zI x)::zs1 (.c (.ptr Ze 0 1)::ze4:: .c (zI (IntKind.wrap .i64 (Int.tdiv x ↑(c.ns))))::ze3::ze1::z9 zT (z9 zT (z9 zT (z9 zT (z9 zT (zT::zT::zT::zs0 (ze2:: .c (AC.v zz4)::zs0 (.c (.ptr Ze 0 1)::ze4:: .c (zI (Int.tmod (IntKind.wrap .i64 (x+zN 1)) ↑(c.ns))):: .c (zB true)::zs0 (zs0 (.c (.ptr 51 0 0)::zs0 (.c (.ptr Ze 0 3)::AV.agg (ZW u)::AV.agg (ZW zz3)::ze0:: .c (.ptr Ze 0 3):: .c (zI x)::AV.agg zz0::zs0 (.c (.ptr Ze 0 3)::AV.agg (ZW zz3)::zs0 (.c (.ptr Ze 0 45):: .c (.sl RE 0 0 c.nt none):: .c (.v (.int .i64 ↑(c.nt))):: .c (.sl 1610000000000000000000000000000000000000056 0 0 (zD ↑(c.nt)) none)::AV.agg zz1::ze0:: .c (AC.fn 68 [(1640000000000000000000000000000000000000058,0,0)])::z9 zT (z9 zT (z9 zT [zT])))))))))))))))))))))) (Array.mk [144,145]) (Oz prog 12 1) (OA prog 12 1) 1640000000000000000000000000000000000000062))]) 23 1640000000000000000000000000000000000000070 (ZT 23 []) (List.zip poNBI (WI c.nt g::TW prog c w2 S x (IntKind.wrap .i64 (x+zN 1)) q)) 10000000000000000000000000000000000000000000000000 (Exit.exit 0) none])):
 ∃p r,TV prog (SN::plI) c u x S ⟨false,t,q⟩ p [some (K7 prog c w2 S x (IntKind.wrap .i64 (x+Int.ofNat 1)) q g)]=some r/\Q r:=
 ⟨pD 12 178605,_,by kernel_rfl,H⟩
abbrev Uh (c:Cfg) (x:Int):Int:=WE c c.nodes.toNat (ZI c (2*c.np)) (Int.tmod x (c.ns:Int))
abbrev RF (c:Cfg) (x:Int):Int:=IntKind.wrap .i64 (Int.tdiv x (c.ns:Int))
abbrev YJ (x:Int):Int:=IntKind.wrap .i64 (x+Int.ofNat 1)
abbrev V8 (c:Cfg) (u:Vw) (x:Int):Vw:=Sb (decide (Int.ofNat 0<=ZE c c.nodes.toNat (ZI c (2*c.np)) (Uh c x))) (Uh c x) u
abbrev T6 (c:Cfg) (w:Vw):Vw:=Hb c c.nodes.toNat (ZI c (2*c.np)) (Zk (ZW w))
abbrev Vv (c:Cfg) (u:Vw) (x:Int) (q:Payload) (S:Nat->ZO):Nat->ZO:=WO c (Uh c x) (IntKind.wrap .i64 (V8 c u x).command) (RF c x) q S c.nt
abbrev WX (c:Cfg) (x:Int) (T:Nat->ZO):Nat->Int:=UN c T (IntKind.wrap .i64 (Int.tdiv (YJ x) c.ns)) c.nt
abbrev LT (c:Cfg) (x:Int) (l:List AC) (w:Vw):AV:=.tup [.agg ((.v (.int .i64 x)::(l++ZW w))++[.sl Yj 0 0 c.nt none]),.c (.v (.int .i64 (Int.ofNat 0)))]
abbrev RD (c:Cfg) (w:Vw) (y:Int) (T:Nat->ZO) (g:Nat->Int):AMem:=[Yj].zip [WI c.nt g]++plI.zip (V9 c w y T)
structure Mo (c:Cfg) (u:Vw) (x:Int):Prop where
 nt:c.nt<=8
 ns:c.ns≠0
 st:XM c c.nodes.toNat=true
 hh:Yr c=true
 lt:x<1099511627776
 rd:YK (IntKind.wrap .i64 (Int.tdiv (YJ x) c.ns))=true
abbrev Ol (c:Cfg) (O:Nat) (x:Int) (l:List AC) (w:Vw) (y:Int) (T:Nat->ZO) (g:Nat->Int) (z:VF):Prop:=z.2.2.1<=100000000000000000000000000000000000000000000000000/\ZZ z.2.2.2.1/\(∀e∈z.2.2.2.2,e)/\z.1= .tup [.agg ((.v (.int .i64 x)::(l++ZW w))++[.sl O 0 0 c.nt none]),.c (.v (.int .i64 (Int.ofNat 0)))]/\z.2.1=some (WI c.nt g)::(V9 c w y T).map some
theorem RG {c:Cfg} {u:Vw} {x:Int} (f:Mo c u x):decide (Int.ofNat 0<=(c.nt:Int)/\Int.ofNat c.nt=(c.nt:Int)/\(c.nt:Int)*Int.ofNat 4<=Int.ofNat 140737488355328)=true/\decide ((c.ns:Int)≠Int.ofNat 0)=true/\(decide (x≥Int.ofNat 1099511627776)==false)=true:=by
 have:=f.nt;have:=f.ns;have:=f.lt;refine⟨by simp;omega,by simp;omega,?_⟩;rw[decide_eq_false (show ¬x≥Int.ofNat 1099511627776 by simp;omega)];rfl
theorem LD (c:Cfg) (u:Vw) (x:Int) (S:Nat->ZO) (d:Said) (O:Nat) (l:List AC) (hl:l.all (Yu Yj)=true) (w:Vw) (y:Int) (T:Nat->ZO) (g:Nat->Int) (hO:VA Yj 100000000000000000000000000000000000000000000000000 100000000000000000000000000000000000000000000000000 (fun _=>.inl O) ([Yj].zip [WI c.nt g]++plI.zip (V9 c w y T))=true) {eb:List (Option ABlk)} (hE:BL (V9 c u x S) eb) (h:∃p lp z,TV prog (O::plI) c u x S d p lp=some z/\Ol c O x l w y T g z):
 CallV prog 12 [.c (.ptr Ze 0 0),.agg (d.cells.map .v)] plI eb Yj (LT c x l w) (RD c w y T g) 100000000000000000000000000000000000000000000000000:=by
 obtain⟨p,lp,z,h1,h2,h3,h4,h5,h6⟩:=h;refine Pi VL (fuel:=300) (str:=nSt) (vids:=O::plI) (blks:=V9 c u x S) (by decide) (by unfold ZQ;omega) rfl (by kernel_rfl) (by kernel_rfl) hE ⟨p,lp,z,h1,h2,h3,h4,fun _=>.inl O,?_⟩;rw[h5,h6];refine Wn (hs:=[0]) (vals:=[LT c x l w]) (gs:=[Yj]) (gb:=[WI c.nt g]) (ids:=plI) (blks:=V9 c w y T) (kb:=(V9 c w y T).map some) (A:=[(O,some (WI c.nt g))]) rfl hO ?_ ?_ (by kernel_rfl) (Qr (Nat.le_refl _)) (BL.refl _)
 . refine X0 (List.mem_singleton.2 rfl) (fun h=>AV.noConfusion h) (F3 (l:=.v (.int .i64 x)::(l++ZW w)) (by rw[List.all_cons,List.all_append,hl,Sk];rfl) ?_) Wp
   exact LM (WN (Nat.le_refl _) (by decide) (by decide) rfl)
 . exact WB (Uf (o:=O) (by kernel_rfl) (by kernel_rfl) rfl (List.mem_cons_self ..) (BEq.refl _) XT) Wo
theorem Bw (c:Cfg) (u:Vw) (x t:Int) (q:Payload) (S:Nat->ZO) (f:Mo c u x) (hT:∀j,YK (Vv c u x q S j).rnd=true) (hb:(Int.tmod (YJ x) (c.ns:Int)==Int.ofNat 0)=false) (h8:pW VM ⟨c,c.nodes.toNat,ZI c (2*c.np),[.agg (ZW u),.c (.v (.int .i64 (Uh c x)))]⟩=true) {eb:List (Option ABlk)} (hE:BL (V9 c u x S) eb):
 CallV prog 12 [.c (.ptr Ze 0 0),.agg ((Said.mk true t q).cells.map .v)] plI eb Yj (LT c x (Ui x q) (V8 c u x)) (RD c (V8 c u x) (YJ x) (Vv c u x q S) (WX c x (Vv c u x q S))) 100000000000000000000000000000000000000000000000000:=by
 obtain⟨v,hv⟩:∃v,v=V8 c u x:=⟨_,rfl⟩
 obtain⟨T,hTe⟩:∃T,T=Vv c u x q S:=⟨_,rfl⟩
 rw[<- hTe] at hT ⊢;rw[<- hv];refine LD c u x S ⟨true,t,q⟩ SQ (Ui x q) rfl v (YJ x) T (WX c x T) (by kernel_rfl) hE ?_;refine(?_:(∃p r,TV prog (SQ::plI) c u x S ⟨true,t,q⟩ p [some (BN prog c v (YJ x) T x q (Uh c x) (RF c x)),some (Ka prog c v T x (YJ x) q (WX c x T))]=some r/\_)->_) (AK c u v x (YJ x) S T t q (Uh c x) (RF c x) (WX c x T) (Ol c SQ x (Ui x q) v (YJ x) T (WX c x T)) ?_)
 . rintro⟨p,r,h1,h2⟩
   exact⟨p,_,r,h1,h2⟩
 . obtain⟨d1,d2,d5⟩:=RG f
   refine⟨by dsimp only;omega,?_,?_,rfl,rfl⟩
   . simp only[ZZ,List.forall_mem_cons,List.not_mem_nil,false_implies,implies_true,and_true,true_and]
     have d4:((Int.tmod (YJ x) (c.ns:Int)==Int.ofNat 0)==false)=true:=by rw[hb];rfl
     repeat' apply And.intro
     all_goals first|exact d1|exact d2|exact d4|exact d5|exact YU _ _ _|exact h8
   . simp only[List.forall_mem_cons,List.not_mem_nil,false_implies,implies_true,and_true]
     refine⟨jjgw c v T x (YJ x) q f.nt f.ns f.st f.hh f.rd hT ?_ (b:=⟨true,true,52,1,.arr (Int.toNat (c.nt:Int)) fun _=>List.map AC.v (Array.toList (Value.cells (Value.int IntKind.u32 0)))⟩) ⟨rfl,rfl,rfl,rfl,.inr (.inl ⟨_,_,_,rfl,rfl,fun _ _=>rfl⟩)⟩,?_⟩
     . repeat (first|exact trivial|refine⟨BEq.refl _,?_⟩|refine⟨Ue (by repeat (first|exact trivial|refine⟨.inl rfl,?_⟩|refine⟨.inr rfl,?_⟩)),?_⟩)
     . rw[hTe,hv]
       refine Fj c (V8 c u x) (YJ x) S x q (Uh c x) (RF c x) f.nt f.st ?_
       repeat (first|exact trivial|refine⟨BEq.refl _,?_⟩|refine⟨Ue (by repeat (first|exact trivial|refine⟨.inl rfl,?_⟩|refine⟨.inr rfl,?_⟩)),?_⟩)
theorem Bv (c:Cfg) (u:Vw) (x t:Int) (q:Payload) (S:Nat->ZO) (f:Mo c u x) (hT:∀j,YK (Vv c u x q S j).rnd=true) (hb:(Int.tmod (YJ x) (c.ns:Int)==Int.ofNat 0)=true) (h8:pW VM ⟨c,c.nodes.toNat,ZI c (2*c.np),[.agg (ZW u),.c (.v (.int .i64 (Uh c x)))]⟩=true) (h9:pX Jt ⟨c,c.nodes.toNat,ZI c (2*c.np),[.agg (ZW (V8 c u x))]⟩=true) {eb:List (Option ABlk)} (hE:BL (V9 c u x S) eb):
 CallV prog 12 [.c (.ptr Ze 0 0),.agg ((Said.mk true t q).cells.map .v)] plI eb Yj (LT c x (Ui x q) (T6 c (V8 c u x))) (RD c (T6 c (V8 c u x)) (YJ x) (Vv c u x q S) (WX c x (Vv c u x q S))) 100000000000000000000000000000000000000000000000000:=by
 obtain⟨v,hv⟩:∃v,v=V8 c u x:=⟨_,rfl⟩
 obtain⟨T,hTe⟩:∃T,T=Vv c u x q S:=⟨_,rfl⟩
 rw[<- hTe] at hT ⊢;rw[<- hv] at h9 ⊢;obtain⟨w,hw⟩:∃w,w=T6 c v:=⟨_,rfl⟩
 rw[<- hw];refine LD c u x S ⟨true,t,q⟩ SP (Ui x q) rfl w (YJ x) T (WX c x T) (by kernel_rfl) hE ?_;refine(?_:(∃p r,TV prog (SP::plI) c u x S ⟨true,t,q⟩ p [some (BN prog c v (YJ x) T x q (Uh c x) (RF c x)),some (K9 prog c w T x (YJ x) q (WX c x T))]=some r/\_)->_) (AJ c u v w x (YJ x) S T t q (Uh c x) (RF c x) (WX c x T) (Ol c SP x (Ui x q) w (YJ x) T (WX c x T)) ?_)
 . rintro⟨p,r,h1,h2⟩
   exact⟨p,_,r,h1,h2⟩
 . obtain⟨d1,d2,d5⟩:=RG f
   refine⟨by dsimp only;omega,?_,?_,rfl,rfl⟩
   . simp only[ZZ,List.forall_mem_cons,List.not_mem_nil,false_implies,implies_true,and_true,true_and]
     have d4:((Int.tmod (YJ x) (c.ns:Int)==Int.ofNat 0)==true)=true:=by rw[hb];rfl
     repeat' apply And.intro
     all_goals first|exact d1|exact d2|exact d4|exact d5|exact YU _ _ _|exact h8|exact h9
   . simp only[List.forall_mem_cons,List.not_mem_nil,false_implies,implies_true,and_true]
     refine⟨jjgy c w T x (YJ x) q f.nt f.ns f.st f.hh f.rd hT ?_ (b:=⟨true,true,52,1,.arr (Int.toNat (c.nt:Int)) fun _=>List.map AC.v (Array.toList (Value.cells (Value.int IntKind.u32 0)))⟩) ⟨rfl,rfl,rfl,rfl,.inr (.inl ⟨_,_,_,rfl,rfl,fun _ _=>rfl⟩)⟩,?_⟩
     . subst hw;repeat (first|exact trivial|refine⟨BEq.refl _,?_⟩|refine⟨Ue (by repeat (first|exact trivial|refine⟨.inl rfl,?_⟩|refine⟨.inr rfl,?_⟩)),?_⟩)
     . rw[hTe,hv]
       refine Fj c (V8 c u x) (YJ x) S x q (Uh c x) (RF c x) f.nt f.st ?_
       repeat (first|exact trivial|refine⟨BEq.refl _,?_⟩|refine⟨Ue (by repeat (first|exact trivial|refine⟨.inl rfl,?_⟩|refine⟨.inr rfl,?_⟩)),?_⟩)
theorem Bu (c:Cfg) (u:Vw) (x t:Int) (q:Payload) (S:Nat->ZO) (f:Mo c u x) (hT:∀j,YK (S j).rnd=true) (hb:(Int.tmod (YJ x) (c.ns:Int)==Int.ofNat 0)=false) {eb:List (Option ABlk)} (hE:BL (V9 c u x S) eb):
 CallV prog 12 [.c (.ptr Ze 0 0),.agg ((Said.mk false t q).cells.map .v)] plI eb Yj (LT c x UL (u)) (RD c (u) (YJ x) (S) (WX c x (S))) 100000000000000000000000000000000000000000000000000:=by
 refine LD c u x S ⟨false,t,q⟩ SO UL rfl u (YJ x) S (WX c x S) (by kernel_rfl) hE ?_;refine(?_:(∃p r,TV prog (SO::plI) c u x S ⟨false,t,q⟩ p [some (K8 prog c u S x (YJ x) q (WX c x S))]=some r/\_)->_) (AI c u x S t q (WX c x S) (Ol c SO x UL u (YJ x) S (WX c x S)) ?_)
 . rintro⟨p,r,h1,h2⟩
   exact⟨p,_,r,h1,h2⟩
 . obtain⟨d1,d2,d5⟩:=RG f
   refine⟨by dsimp only;omega,?_,?_,rfl,rfl⟩
   . simp only[ZZ,List.forall_mem_cons,List.not_mem_nil,false_implies,implies_true,and_true,true_and]
     have d4:((Int.tmod (YJ x) (c.ns:Int)==Int.ofNat 0)==false)=true:=by rw[hb];rfl
     repeat' apply And.intro
     all_goals first|exact d1|exact d2|exact d4|exact d5|exact YU _ _ _
   . simp only[List.forall_mem_cons,List.not_mem_nil,false_implies,implies_true,and_true]
     refine jjh0 c u S x (YJ x) q f.nt f.ns f.st f.hh f.rd hT ?_ (b:=⟨true,true,52,1,.arr (Int.toNat (c.nt:Int)) fun _=>List.map AC.v (Array.toList (Value.cells (Value.int IntKind.u32 0)))⟩) ⟨rfl,rfl,rfl,rfl,.inr (.inl ⟨_,_,_,rfl,rfl,fun _ _=>rfl⟩)⟩
     repeat (first|exact trivial|refine⟨BEq.refl _,?_⟩|refine⟨Ue (by repeat (first|exact trivial|refine⟨.inl rfl,?_⟩|refine⟨.inr rfl,?_⟩)),?_⟩)
theorem Bt (c:Cfg) (u:Vw) (x t:Int) (q:Payload) (S:Nat->ZO) (f:Mo c u x) (hT:∀j,YK (S j).rnd=true) (hb:(Int.tmod (YJ x) (c.ns:Int)==Int.ofNat 0)=true) (h9:pX Jt ⟨c,c.nodes.toNat,ZI c (2*c.np),[.agg (ZW (u))]⟩=true) {eb:List (Option ABlk)} (hE:BL (V9 c u x S) eb):
 CallV prog 12 [.c (.ptr Ze 0 0),.agg ((Said.mk false t q).cells.map .v)] plI eb Yj (LT c x UL (T6 c (u))) (RD c (T6 c (u)) (YJ x) (S) (WX c x (S))) 100000000000000000000000000000000000000000000000000:=by
 obtain⟨w,hw⟩:∃w,w=T6 c u:=⟨_,rfl⟩
 rw[<- hw];refine LD c u x S ⟨false,t,q⟩ SN UL rfl w (YJ x) S (WX c x S) (by kernel_rfl) hE ?_;refine(?_:(∃p r,TV prog (SN::plI) c u x S ⟨false,t,q⟩ p [some (K7 prog c w S x (YJ x) q (WX c x S))]=some r/\_)->_) (AH c u w x S t q (WX c x S) (Ol c SN x UL w (YJ x) S (WX c x S)) ?_)
 . rintro⟨p,r,h1,h2⟩
   exact⟨p,_,r,h1,h2⟩
 . obtain⟨d1,d2,d5⟩:=RG f
   refine⟨by dsimp only;omega,?_,?_,rfl,rfl⟩
   . simp only[ZZ,List.forall_mem_cons,List.not_mem_nil,false_implies,implies_true,and_true,true_and]
     have d4:((Int.tmod (YJ x) (c.ns:Int)==Int.ofNat 0)==true)=true:=by rw[hb];rfl
     repeat' apply And.intro
     all_goals first|exact d1|exact d2|exact d4|exact d5|exact YU _ _ _|exact h9
   . simp only[List.forall_mem_cons,List.not_mem_nil,false_implies,implies_true,and_true]
     refine jjh2 c w S x (YJ x) q f.nt f.ns f.st f.hh f.rd hT ?_ (b:=⟨true,true,52,1,.arr (Int.toNat (c.nt:Int)) fun _=>List.map AC.v (Array.toList (Value.cells (Value.int IntKind.u32 0)))⟩) ⟨rfl,rfl,rfl,rfl,.inr (.inl ⟨_,_,_,rfl,rfl,fun _ _=>rfl⟩)⟩;subst hw;repeat (first|exact trivial|refine⟨BEq.refl _,?_⟩|refine⟨Ue (by repeat (first|exact trivial|refine⟨.inl rfl,?_⟩|refine⟨.inr rfl,?_⟩)),?_⟩)
abbrev VS (c:Cfg) (x:Int):Int:=U7 c.fs c.ns (Int.tmod x (c.ns:Int))
abbrev Uj (c:Cfg) (u:Vw) (x:Int):Vw:=Sb (decide (Int.ofNat 0<=VS c x/\VS c x<(c.np:Int))) (VS c x) u
abbrev U1 (c:Cfg) (w:Vw):Vw:=Mp c (Zk (ZW w))
abbrev Uk (c:Cfg) (u:Vw) (x:Int) (q:Payload) (S:Nat->ZO):Nat->ZO:=WO c (VS c x) (IntKind.wrap .i64 (Uj c u x).command) (RF c x) q S c.nt
abbrev M3 (c:Cfg) (x:Int) (l:List AC) (w:Vw):AV:=.tup [.agg ((.v (.int .i64 x)::(l++ZW w))++[.sl Xs 0 0 c.nt none]),.c (.v (.int .i64 (Int.ofNat 0)))]
abbrev RK (c:Cfg) (w:Vw) (y:Int) (T:Nat->ZO) (g:Nat->Int):AMem:=[Xs].zip [Ml c.nt g]++plWI.zip (XA c w y T)
abbrev PC:Nat:=100000000000000000000000000000000000000000000000000000000
abbrev Oo (c:Cfg) (x:Int) (l:List AC) (w:Vw) (y:Int) (T:Nat->ZO) (g:Nat->Int) (z:VF):Prop:=z.2.2.1<=100000000000000000000000000000000000000000000000000000000/\ZZ z.2.2.2.1/\(∀e∈z.2.2.2.2,e)/\z.1= .tup [.agg ((.v (.int .i64 x)::(l++ZW w))++[.sl VX 0 0 c.nt none]),.c (.v (.int .i64 (Int.ofNat 0)))]/\z.2.1=some (Ml c.nt g)::(XA c w y T).map some
theorem LB (c:Cfg) (u:Vw) (x:Int) (S:Nat->ZO) (d:Said) (l:List AC) (hl:l.all (Yu Xs)=true) (w:Vw) (y:Int) (T:Nat->ZO) (g:Nat->Int) {eb:List (Option ABlk)} (hE:BL (XA c u x S) eb) (h:∃p lp z,TU prog (VX::plWI) c u x S d p lp=some z/\Oo c x l w y T g z):
 CallV prog 13 [.c (.ptr VR 0 0),.agg (d.cells.map .v)] plWI eb Xs (M3 c x l w) (RK c w y T g) PC:=by
 obtain⟨p,lp,z,h1,h2,h3,h4,h5,h6⟩:=h;refine Pi VL (fuel:=300) (str:=nSt) (vids:=VX::plWI) (blks:=XA c u x S) (by decide) (by unfold ZQ PC;omega) rfl (by kernel_rfl) (by kernel_rfl) hE ⟨p,lp,z,h1,h2,h3,h4,fun _=>.inl VX,?_⟩;rw[h5,h6];refine Wn (hs:=[0]) (vals:=[M3 c x l w]) (gs:=[Xs]) (gb:=[Ml c.nt g]) (ids:=plWI) (blks:=XA c w y T) (kb:=(XA c w y T).map some) (A:=[(VX,some (Ml c.nt g))]) rfl (by kernel_rfl) ?_ ?_ (by kernel_rfl) (Le (Nat.le_refl _)) (BL.refl _)
 . refine X0 (List.mem_singleton.2 rfl) (fun h=>AV.noConfusion h) (F3 (l:=.v (.int .i64 x)::(l++ZW w)) (by rw[List.all_cons,List.all_append,hl,Sk];rfl) ?_) Wp
   exact LM (WN (Nat.le_refl _) (by decide) (by decide) rfl)
 . exact WB (Uf (o:=VX) (by kernel_rfl) (by kernel_rfl) rfl (List.mem_cons_self ..) (BEq.refl _) XT) Wo
theorem BD (c:Cfg) (u:Vw) (x t:Int) (q:Payload) (S:Nat->ZO) (f:Mo c u x) (hT:∀j,YK (Uk c u x q S j).rnd=true) (hb:(Int.tmod (YJ x) (c.ns:Int)==Int.ofNat 0)=false) (h8:M5 ⟨c,[.agg (ZW u),.c (.v (.int .i64 (VS c x)))]⟩=true) {eb:List (Option ABlk)} (hE:BL (XA c u x S) eb):
 CallV prog 13 [.c (.ptr VR 0 0),.agg ((Said.mk true t q).cells.map .v)] plWI eb Xs (M3 c x (U5 ⟨true,x,q⟩) (Uj c u x)) (RK c (Uj c u x) (YJ x) (Uk c u x q S) (WX c x (Uk c u x q S))) PC:=by
 obtain⟨v,hv⟩:∃v,v=Uj c u x:=⟨_,rfl⟩
 obtain⟨T,hTe⟩:∃T,T=Uk c u x q S:=⟨_,rfl⟩
 rw[<- hTe] at hT ⊢;rw[<- hv];refine LB c u x S ⟨true,t,q⟩ (U5 ⟨true,x,q⟩) rfl v (YJ x) T (WX c x T) hE ?_;refine(?_:(∃p r,TU prog (VX::plWI) c u x S ⟨true,t,q⟩ p [some (BV c v x T q (VS c x)),some (Ko c v (YJ x) T x ⟨true,x,q⟩ (WX c x T))]=some r/\_)->_) (G3 c u v x S T t q (VS c x) (WX c x T) (Oo c x (U5 ⟨true,x,q⟩) v (YJ x) T (WX c x T)) ?_)
 . rintro⟨p,r,h1,h2⟩
   exact⟨p,_,r,h1,h2⟩
 . obtain⟨_,d2,d5⟩:=RG f
   refine⟨by dsimp only;omega,?_,?_,rfl,rfl⟩
   . simp only[ZZ,List.forall_mem_cons,List.not_mem_nil,false_implies,implies_true,and_true,true_and]
     have d4:((Int.tmod (YJ x) (c.ns:Int)==Int.ofNat 0)==false)=true:=by rw[hb];rfl
     repeat' apply And.intro
     all_goals first|exact d2|exact d4|exact d5|exact YZ _|exact h8
   . simp only[List.forall_mem_cons,List.not_mem_nil,false_implies,implies_true,and_true]
     refine⟨(LA c v (YJ x) T x ⟨true,x,q⟩ f.nt f.ns f.hh f.rd hT ?_).mono (by decide),?_⟩
     . repeat (first|exact trivial|refine⟨BEq.refl _,?_⟩|refine⟨Ue (by repeat (first|exact trivial|refine⟨.inl rfl,?_⟩|refine⟨.inr rfl,?_⟩)),?_⟩)
     . rw[hTe,hv]
       refine F7 c (Uj c u x) x S q (VS c x) f.nt f.ns ?_
       repeat (first|exact trivial|refine⟨BEq.refl _,?_⟩|refine⟨Ue (by repeat (first|exact trivial|refine⟨.inl rfl,?_⟩|refine⟨.inr rfl,?_⟩)),?_⟩)
theorem BC (c:Cfg) (u:Vw) (x t:Int) (q:Payload) (S:Nat->ZO) (f:Mo c u x) (hT:∀j,YK (Uk c u x q S j).rnd=true) (hb:(Int.tmod (YJ x) (c.ns:Int)==Int.ofNat 0)=true) (h8:M5 ⟨c,[.agg (ZW u),.c (.v (.int .i64 (VS c x)))]⟩=true) (h9:RM ⟨c,[.agg (ZW (Uj c u x))]⟩=true) {eb:List (Option ABlk)} (hE:BL (XA c u x S) eb):
 CallV prog 13 [.c (.ptr VR 0 0),.agg ((Said.mk true t q).cells.map .v)] plWI eb Xs (M3 c x (U5 ⟨true,x,q⟩) (U1 c (Uj c u x))) (RK c (U1 c (Uj c u x)) (YJ x) (Uk c u x q S) (WX c x (Uk c u x q S))) PC:=by
 obtain⟨v,hv⟩:∃v,v=Uj c u x:=⟨_,rfl⟩
 obtain⟨T,hTe⟩:∃T,T=Uk c u x q S:=⟨_,rfl⟩
 rw[<- hTe] at hT ⊢;rw[<- hv] at h9 ⊢;obtain⟨w,hw⟩:∃w,w=U1 c v:=⟨_,rfl⟩
 rw[<- hw];refine LB c u x S ⟨true,t,q⟩ (U5 ⟨true,x,q⟩) rfl w (YJ x) T (WX c x T) hE ?_;refine(?_:(∃p r,TU prog (VX::plWI) c u x S ⟨true,t,q⟩ p [some (BV c v x T q (VS c x)),some (Ko c w (YJ x) T x ⟨true,x,q⟩ (WX c x T))]=some r/\_)->_) (G2 c u v w x S T t q (VS c x) (WX c x T) (Oo c x (U5 ⟨true,x,q⟩) w (YJ x) T (WX c x T)) ?_)
 . rintro⟨p,r,h1,h2⟩
   exact⟨p,_,r,h1,h2⟩
 . obtain⟨_,d2,d5⟩:=RG f
   refine⟨by dsimp only;omega,?_,?_,rfl,rfl⟩
   . simp only[ZZ,List.forall_mem_cons,List.not_mem_nil,false_implies,implies_true,and_true,true_and]
     have d4:((Int.tmod (YJ x) (c.ns:Int)==Int.ofNat 0)==true)=true:=by rw[hb];rfl
     repeat' apply And.intro
     all_goals first|exact d2|exact d4|exact d5|exact YZ _|exact h8|exact h9
   . simp only[List.forall_mem_cons,List.not_mem_nil,false_implies,implies_true,and_true]
     refine⟨by
      subst hw;refine(LA c (U1 c v) (YJ x) T x ⟨true,x,q⟩ f.nt f.ns f.hh f.rd hT ?_).mono (by decide)
      repeat (first|exact trivial|refine⟨BEq.refl _,?_⟩|refine⟨Ue (by repeat (first|exact trivial|refine⟨.inl rfl,?_⟩|refine⟨.inr rfl,?_⟩)),?_⟩),?_⟩
     . rw[hTe,hv]
       refine F7 c (Uj c u x) x S q (VS c x) f.nt f.ns ?_
       repeat (first|exact trivial|refine⟨BEq.refl _,?_⟩|refine⟨Ue (by repeat (first|exact trivial|refine⟨.inl rfl,?_⟩|refine⟨.inr rfl,?_⟩)),?_⟩)
theorem BB (c:Cfg) (u:Vw) (x t:Int) (q:Payload) (S:Nat->ZO) (f:Mo c u x) (hT:∀j,YK (S j).rnd=true) (hb:(Int.tmod (YJ x) (c.ns:Int)==Int.ofNat 0)=false) {eb:List (Option ABlk)} (hE:BL (XA c u x S) eb):
 CallV prog 13 [.c (.ptr VR 0 0),.agg ((Said.mk false t q).cells.map .v)] plWI eb Xs (M3 c x (U5 Said.zero) (u)) (RK c (u) (YJ x) (S) (WX c x (S))) PC:=by
 refine LB c u x S ⟨false,t,q⟩ (U5 Said.zero) rfl u (YJ x) S (WX c x S) hE ?_;refine(?_:(∃p r,TU prog (VX::plWI) c u x S ⟨false,t,q⟩ p [some (Ko c u (YJ x) S x Said.zero (WX c x S))]=some r/\_)->_) (G1 c u x S t q (WX c x S) (Oo c x (U5 Said.zero) u (YJ x) S (WX c x S)) ?_)
 . rintro⟨p,r,h1,h2⟩
   exact⟨p,_,r,h1,h2⟩
 . obtain⟨_,d2,d5⟩:=RG f
   refine⟨by dsimp only;omega,?_,?_,rfl,rfl⟩
   . simp only[ZZ,List.forall_mem_cons,List.not_mem_nil,false_implies,implies_true,and_true,true_and]
     have d4:((Int.tmod (YJ x) (c.ns:Int)==Int.ofNat 0)==false)=true:=by rw[hb];rfl
     repeat' apply And.intro
     all_goals first|exact d2|exact d4|exact d5|exact YZ _
   . simp only[List.forall_mem_cons,List.not_mem_nil,false_implies,implies_true,and_true]
     refine(LA c u (YJ x) S x Said.zero f.nt f.ns f.hh f.rd hT ?_).mono (by decide)
     repeat (first|exact trivial|refine⟨BEq.refl _,?_⟩|refine⟨Ue (by repeat (first|exact trivial|refine⟨.inl rfl,?_⟩|refine⟨.inr rfl,?_⟩)),?_⟩)
theorem BA (c:Cfg) (u:Vw) (x t:Int) (q:Payload) (S:Nat->ZO) (f:Mo c u x) (hT:∀j,YK (S j).rnd=true) (hb:(Int.tmod (YJ x) (c.ns:Int)==Int.ofNat 0)=true) (h9:RM ⟨c,[.agg (ZW (u))]⟩=true) {eb:List (Option ABlk)} (hE:BL (XA c u x S) eb):
 CallV prog 13 [.c (.ptr VR 0 0),.agg ((Said.mk false t q).cells.map .v)] plWI eb Xs (M3 c x (U5 Said.zero) (U1 c (u))) (RK c (U1 c (u)) (YJ x) (S) (WX c x (S))) PC:=by
 obtain⟨w,hw⟩:∃w,w=U1 c u:=⟨_,rfl⟩
 rw[<- hw];refine LB c u x S ⟨false,t,q⟩ (U5 Said.zero) rfl w (YJ x) S (WX c x S) hE ?_;refine(?_:(∃p r,TU prog (VX::plWI) c u x S ⟨false,t,q⟩ p [some (Ko c w (YJ x) S x Said.zero (WX c x S))]=some r/\_)->_) (G0 c u w x S t q (WX c x S) (Oo c x (U5 Said.zero) w (YJ x) S (WX c x S)) ?_)
 . rintro⟨p,r,h1,h2⟩
   exact⟨p,_,r,h1,h2⟩
 . obtain⟨_,d2,d5⟩:=RG f
   refine⟨by dsimp only;omega,?_,?_,rfl,rfl⟩
   . simp only[ZZ,List.forall_mem_cons,List.not_mem_nil,false_implies,implies_true,and_true,true_and]
     have d4:((Int.tmod (YJ x) (c.ns:Int)==Int.ofNat 0)==true)=true:=by rw[hb];rfl
     repeat' apply And.intro
     all_goals first|exact d2|exact d4|exact d5|exact YZ _|exact h9
   . simp only[List.forall_mem_cons,List.not_mem_nil,false_implies,implies_true,and_true]
     subst hw;refine(LA c (U1 c u) (YJ x) S x Said.zero f.nt f.ns f.hh f.rd hT ?_).mono (by decide)
     repeat (first|exact trivial|refine⟨BEq.refl _,?_⟩|refine⟨Ue (by repeat (first|exact trivial|refine⟨.inl rfl,?_⟩|refine⟨.inr rfl,?_⟩)),?_⟩)
theorem FY (c:Cfg) (u:Vw) (x:Int) (S:Nat->ZO) (d:Said) (Q:VF->Prop) (H:let zN:=Int.ofNat;Q (.tup [.agg (zI (zN 0)::zB false::zI (zN 0)::zU (zN 0)::zU (zN 0)::zW (zN 0)::zW (zN 0)::z8 (fun zk=>zB false) (z8 (fun zk=>zU (zN 0)) (z8 (fun zk=>zU (zN 0)) (z8 (fun zk=>zH (zN 0)) (z8 (fun zk=>zB false) [.v (.int .i8 (zN 0)),zU (zN 0),AC.v (Value.slice none 0 0)]))))),.c (zI (zN 1))],[some ZA,some Zw,some (WC 51 c),some (ZM (Int.toNat c.nodes) (ZI c (2*c.np))),some (ZM c.np c.fp),some (ZM c.ns c.fs),some (ZM c.nb c.fb),some (YC c.nt c.ft),some (VQ c u x),some (WH c.nt S)],1070000000000000000000000000000000000000032,(zu (zt (zt (y3 (((decide (x≥zN 1099511627776)==true)::y3 (y3 ([])))))))),[])):
 ∃p r,TV prog plI c u x S d p []=some r/\Q r:=
 ⟨pD 7 729,_,by kernel_rfl,H⟩
theorem FZ (c:Cfg) (u:Vw) (x:Int) (S:Nat->ZO) (d:Said) (Q:VF->Prop) (H:let zN:=Int.ofNat;Q (.tup [.agg (zI (zN 0)::zB false::zI (zN 0)::zU (zN 0)::zU (zN 0)::zW (zN 0)::zW (zN 0)::z8 (fun zk=>zB false) (z8 (fun zk=>zU (zN 0)) (z8 (fun zk=>zU (zN 0)) (z8 (fun zk=>zH (zN 0)) (z8 (fun zk=>zB false) [.v (.int .i8 (zN 0)),zU (zN 0),AC.v (Value.slice none 0 0)]))))),.c (zI (zN 1))],[some ZA,some Zw,some (ZG 3 c.np c.fp),some (ZG 3 c.ns c.fs),some (ZG 3 c.nb c.fb),some (Xj c.nt c.ft),some (Vx c u x),some (Y1 c.nt S)],100000000000000000000000000000000000000000000000022,(zu (zt (zt (y3 (((decide (x≥zN 1099511627776)==true)::true::true::[])))))),[])):
 ∃p r,TU prog plWI c u x S d p []=some r/\Q r:=
 ⟨pD 1 1,_,by kernel_rfl,H⟩
abbrev T8:AV:=.tup [.agg (.v (.int .i64 (Int.ofNat 0))::(UL++(LV++[.v (.slice none 0 0)]))),.c (.v (.int .i64 (Int.ofNat 1)))]
theorem slE (c:Cfg) (u:Vw) (x:Int) (S:Nat->ZO) (d:Said) (hx:1099511627776<=x) {eb:List (Option ABlk)} (hE:BL (V9 c u x S) eb):
 CallV prog 12 [.c (.ptr Ze 0 0),.agg (d.cells.map .v)] plI eb Yj T8 (plI.zip (V9 c u x S)) 100000000000000000000000000000000000000000000000000:=by
 refine Pi VL (fuel:=300) (str:=nSt) (vids:=plI) (blks:=V9 c u x S) (by decide) (by unfold ZQ;omega) rfl (by kernel_rfl) (by kernel_rfl) hE ?_;refine(?_:(∃p r,TV prog plI c u x S d p []=some r/\_)->_) (FY c u x S d (fun z=>z.2.2.1<=100000000000000000000000000000000000000000000000000/\ZZ z.2.2.2.1/\(∀e∈z.2.2.2.2,e)/\∃ρ:Rn,Mt Yj 100000000000000000000000000000000000000000000000000 100000000000000000000000000000000000000000000000000 ρ [(0,some z.1)] (plI.zip z.2.1) [(0,T8)] (plI.zip (V9 c u x S))) ?_)
 . rintro⟨p,r,h1,h2⟩
   exact⟨p,_,r,h1,h2⟩
 . refine⟨by dsimp only;omega,?_,(fun e he=>by cases he),fun id=>.inl id,?_⟩
   . have d5:(decide (x≥Int.ofNat 1099511627776)==true)=true:=by simp;omega
     simp only[ZZ,List.forall_mem_cons,List.not_mem_nil,false_implies,implies_true,and_true,true_and];exact d5
   . exact Wn (hs:=[0]) (vals:=[T8]) (gs:=[]) (gb:=[]) (ids:=plI) (blks:=V9 c u x S) (kb:=(V9 c u x S).map some) (A:=[]) rfl (by kernel_rfl) (X0 (List.mem_singleton.2 rfl) (fun h=>AV.noConfusion h) (IV rfl) Wp) Wo (by kernel_rfl) (Qr (Nat.le_refl _)) (BL.refl _)
theorem swE (c:Cfg) (u:Vw) (x:Int) (S:Nat->ZO) (d:Said) (hx:1099511627776<=x) {eb:List (Option ABlk)} (hE:BL (XA c u x S) eb):
 CallV prog 13 [.c (.ptr VR 0 0),.agg (d.cells.map .v)] plWI eb Xs T8 (plWI.zip (XA c u x S)) 100000000000000000000000000000000000000000000000000000000:=by
 refine Pi VL (fuel:=300) (str:=nSt) (vids:=plWI) (blks:=XA c u x S) (by decide) (by unfold ZQ;omega) rfl (by kernel_rfl) (by kernel_rfl) hE ?_;refine(?_:(∃p r,TU prog plWI c u x S d p []=some r/\_)->_) (FZ c u x S d (fun z=>z.2.2.1<=100000000000000000000000000000000000000000000000000000000/\ZZ z.2.2.2.1/\(∀e∈z.2.2.2.2,e)/\∃ρ:Rn,Mt Xs 100000000000000000000000000000000000000000000000000000000 100000000000000000000000000000000000000000000000000000000 ρ [(0,some z.1)] (plWI.zip z.2.1) [(0,T8)] (plWI.zip (XA c u x S))) ?_)
 . rintro⟨p,r,h1,h2⟩
   exact⟨p,_,r,h1,h2⟩
 . refine⟨by dsimp only;omega,?_,(fun e he=>by cases he),fun id=>.inl id,?_⟩
   . have d5:(decide (x≥Int.ofNat 1099511627776)==true)=true:=by simp;omega
     simp only[ZZ,List.forall_mem_cons,List.not_mem_nil,false_implies,implies_true,and_true,true_and];exact d5
   . exact Wn (hs:=[0]) (vals:=[T8]) (gs:=[]) (gb:=[]) (ids:=plWI) (blks:=XA c u x S) (kb:=(XA c u x S).map some) (A:=[]) rfl (by kernel_rfl) (X0 (List.mem_singleton.2 rfl) (fun h=>AV.noConfusion h) (IV rfl) Wp) Wo (by kernel_rfl) (Le (Nat.le_refl _)) (BL.refl _)
abbrev pmE:Nat:=100000000000000000000000000000000000000000000000000000000
abbrev pmA (c:Cfg) (x y:Int) (d:Said) (w:Vw) (T:Nat->ZO) (g:Nat->Int):Zh:=⟨[],plI,[LT c x (U5 d) w],RD c w y T g,100000000000000000000000000000000000000000000000000,.exit (Vi 12)⟩
abbrev pmW (c:Cfg) (x y:Int) (d:Said) (w:Vw) (T:Nat->ZO) (g:Nat->Int):Zh:=⟨[],plWI,[M3 c x (U5 d) w],RK c w y T g,pmE,.exit (Vi 13)⟩
abbrev G4 (c:Cfg) (x:Int) (u:Vw) (S:Nat->ZO):Zh:=⟨[],plI,[T8],plI.zip (V9 c u x S),100000000000000000000000000000000000000000000000000,.exit (Vi 12)⟩
abbrev G5 (c:Cfg) (x:Int) (u:Vw) (S:Nat->ZO):Zh:=⟨[],plWI,[T8],plWI.zip (XA c u x S),pmE,.exit (Vi 13)⟩
abbrev pjA:Nat:=100000000000000000000000000000000000000000000000000000012
abbrev pjB:Nat:=100000000000000000000000000000000000000000000000000000013
abbrev AG:Nat:=100000000000000000000000000000000000000000000000003
abbrev Hh (ty o:Nat) (x:Int) (d:Said) (w:Vw) (n:Nat):ABlk:=⟨true,false,ty,0,.lit ((.v (.int .i64 x)::(U5 d++ZW w))++[.sl o 0 0 n none])⟩
abbrev NX:List Nat:=[2,3,5]
abbrev pjI:List Nat:=[pjA,pjB,Yj,Xs,AG]++pmI
abbrev NY (c:Cfg) (w:Vw) (x y:Int) (d:Said) (T:Nat->ZO) (g:Nat->Int) (k:Nat) (F:Nat->Said):List ABlk:=[Hh 65 Yj x d w c.nt,Hh 68 Xs x d w c.nt,WI c.nt g,Ml c.nt g,Hh 65 Yj x d w c.nt]++SM c w y T k F
abbrev K0 (j:Nat):List AV:=[.c (.ptr pjA 0 0),.c (.ptr pjB 0 0),i64 (Int.ofNat j)]
abbrev AF:Nat:=100000000000000000000000000000000000000000000000000000044
abbrev FT:Nat:=1000000000000000000000000000000000000000000000000000000000
abbrev Pq:Nat:=10000000000000000000000000000000000000000000000000000000000
def pjR (P:Program) (c:Cfg) (w:Vw) (x y:Int) (d:Said) (T:Nat->ZO) (g:Nat->Int) (k:Nat) (F:Nat->Said) (j:Nat) (path:List Dec):Option VC:=
 view (NX++[]) pjI (fC (Uo P) 100 (ZY P 14 0) FT nSt (WR 52 NX pjI (K0 j) (NY c w x y d T g k F) path []))
abbrev pjS (c:Cfg) (w:Vw) (x y:Int) (d:Said) (T:Nat->ZO) (g:Nat->Int) (k:Nat) (F:Nat->Said):Zh:=⟨NX,pjI,ZT 52 [],pjI.zip (NY c w x y d T g k F),Pq,.exit 0⟩
abbrev Px:List Nat:=[2,10,12,15,16,20]
abbrev pzI:List Nat:=[Yj,AG]++pmI
abbrev Hj (c:Cfg) (w:Vw) (x y:Int) (d:Said) (T:Nat->ZO) (g:Nat->Int) (k:Nat) (F:Nat->Said):List ABlk:=[WI c.nt g,Hh 65 Yj x d w c.nt]++SM c w y T k F
abbrev Mx (k i j:Nat):List AV:=Ua k i++[.c (.ptr AG 0 0),i64 (Int.ofNat j)]
abbrev GI:Nat:=100000000000000000000000000000000000000000000000000000000000
abbrev Py:Nat:=1000000000000000000000000000000000000000000000000000000000000
def pzR (P:Program) (c:Cfg) (w:Vw) (x y:Int) (d:Said) (T:Nat->ZO) (g:Nat->Int) (k:Nat) (F:Nat->Said) (i j:Nat) (path:List Dec):Option VC:=
 view (Px++[]) pzI (fC (Uo P) 100 (ZY P 3 2) GI nSt (WR 174 Px pzI (Mx k i j) (Hj c w x y d T g k F) path []))
abbrev pzS (c:Cfg) (w:Vw) (y:Int) (T:Nat->ZO) (k:Nat) (F:Nat->Said) (i:Nat):Zh:=⟨Px,pzI,ZT 174 (pmH.zip (Ua k i)),pmI.zip (SM c w y T k F),Py,.exit 4⟩
abbrev Ke (m:Nat) (S:Nat->ZO):Zh:=⟨[],[4],[.c (.sl Sx 0 0 m none)],[Sx].zip [Y1 m S]++[4].zip [Yl m S],QP,.exit (Vi 10)⟩
abbrev pyS (m:Nat) (S:Nat->ZO):Zh:=⟨[],[4],[.c (.sl Pu 0 0 m none)],[Pu].zip [Y1 m S]++[4].zip [Yl m S],QR,.exit (Vi 10)⟩
abbrev pqO:List (Nat × AV):=[(10,.c (.ptr Ze 0 0)),(12,.c (.ptr VR 0 0))]
abbrev pqZ:Nat:=10000000000000000000000000000000000000000000000000000000000000
abbrev pqS (c:Cfg) (k:Nat) (F:Nat->Said) (w:Vw) (y:Int) (T:Nat->ZO):Zh:=⟨pmH,pmI,ZT 174 pqO,pmI.zip (SM c w y T k F),pqZ,.exit 2⟩
def FV (P:Program) (err:Cfg->Int) (c:Cfg) (z:Int) (v:Vw) (m:Nat) (S:Nat->ZO) (k:Nat) (F:Nat->Said) (path:List Dec) (lp:List (Option Zh)):Option VF:=
 ZB [] (ZJ (Kq P err VE) (fC (Kq P err VE) 300) 3 [.agg (Yi c),FU z v m,.c (.sl 5 0 0 k none)] 10 nSt (Y7 (QB++MQ c++[(4,Yl m S),(5,QI k F)]) path lp))
theorem pqN (err:Cfg->Int) (c:Cfg) (z:Int) (v:Vw) (m:Nat) (S:Nat->ZO) (k:Nat) (F:Nat->Said) (Q:VF->Prop) (H:let zN:=Int.ofNat;let zq0:List Bool:=[true,true,true,true,true,true,true];let zq1:List Bool:=true::(decide (↑(c.np)>zN 60)==false)::zq0;let zq2:List Bool:=true::(decide (↑(c.ns)>zN 60)==false)::zq1;let zq3:List Bool:=true::(decide (↑(c.nb)>zN 60)==false)::zq2;let zq4:List Bool:=true::(decide (↑(c.nt)>zN 60)==false)::zq3;let zq5:List Bool:=(decide (↑m>zN 40)==false)::zq4;(((decide (↑(c.np)>zN 60))=true->Q (.c (zB true),[],32,((decide (↑(c.np)>zN 60)==true)::zq0),[]))/\((decide (↑(c.np)>zN 60))=false->(((decide (↑(c.ns)>zN 60))=true->Q (.c (zB true),[],36,((decide (↑(c.ns)>zN 60)==true)::zq1),[]))/\((decide (↑(c.ns)>zN 60))=false->(((decide (↑(c.nb)>zN 60))=true->Q (.c (zB true),[],40,((decide (↑(c.nb)>zN 60)==true)::zq2),[]))/\((decide (↑(c.nb)>zN 60))=false->(((decide (↑(c.nt)>zN 60))=true->Q (.c (zB true),[],44,((decide (↑(c.nt)>zN 60)==true)::zq3),[]))/\((decide (↑(c.nt)>zN 60))=false->(((decide (↑m>zN 40))=true->Q (.c (zB true),[],48,((decide (↑m>zN 40)==true)::zq4),[]))/\((decide (↑m>zN 40))=false->(((decide (↑k>zN 100))=true->Q (.c (zB true),[],51,((decide (↑k>zN 100)==true)::zq5),[]))/\((decide (↑k>zN 100))=false->Q (.c (zB true),[],117,(((err c !=zN 0)==true)::(zu (zt (zt (y3 (true::true::((decide (0+m<=m))::(decide (m*24<=140737488355328))::true::((err c !=err c)==false)::(Z2 c)::y3 (y3 (true::(Z2 c)::(decide (c.nb<=9223372036854775807))::(decide (err c≠zN 0))::y3 (y3 ((decide (↑k>zN 100)==false)::zq5))))))))))),[])))))))))))))):
 ∃p r,FV prog err c z v m S k F p []=some r/\Q r:=
 ZL H (fun g1=>⟨pD 20 1,_,by kernel_rfl,g1⟩) (fun g1=>ZL g1 (fun g2=>⟨pD 20 83,_,by kernel_rfl,g2⟩) (fun g2=>ZL g2 (fun g3=>⟨pD 20 6725,_,by kernel_rfl,g3⟩) (fun g3=>ZL g3 (fun g4=>⟨pD 20 544727,_,by kernel_rfl,g4⟩) (fun g4=>ZL g4 (fun g5=>⟨pD 20 44122889,_,by kernel_rfl,g5⟩) (fun g5=>ZL g5 (fun g6=>⟨pD 20 1249431077,_,by kernel_rfl,g6⟩) (fun g6=>⟨pD 40 150094644682260467,_,by kernel_rfl,g6⟩))))))
theorem pqA (err:Cfg->Int) (c:Cfg) (z:Int) (v:Vw) (m:Nat) (S:Nat->ZO) (k:Nat) (F:Nat->Said) (Q:VF->Prop) (H:Q (.c (zB true),[],48,[decide (↑m>Int.ofNat 40)==true,true,decide (↑(c.nt)>Int.ofNat 60)==false,true,decide (↑(c.nb)>Int.ofNat 60)==false,true,decide (↑(c.ns)>Int.ofNat 60)==false,true,decide (↑(c.np)>Int.ofNat 60)==false,true,true,true,true,true,true,true],[])):
 ∃p r,QH prog err c z v m S k F p []=some r/\Q r:=
 ⟨pD 20 44122889,_,by kernel_rfl,H⟩
theorem pqB (err:Cfg->Int) (c:Cfg) (z:Int) (v:Vw) (m:Nat) (S:Nat->ZO) (k:Nat) (F:Nat->Said) (Q:VF->Prop) (H:Q (.c (zB true),[],51,[decide (↑k>Int.ofNat 100)==true,decide (↑m>Int.ofNat 40)==false,true,decide (↑(c.nt)>Int.ofNat 60)==false,true,decide (↑(c.nb)>Int.ofNat 60)==false,true,decide (↑(c.ns)>Int.ofNat 60)==false,true,decide (↑(c.np)>Int.ofNat 60)==false,true,true,true,true,true,true,true],[])):
 ∃p r,QH prog err c z v m S k F p []=some r/\Q r:=
 ⟨pD 20 1249431077,_,by kernel_rfl,H⟩
theorem pqC (err:Cfg->Int) (c:Cfg) (z:Int) (v:Vw) (m:Nat) (S:Nat->ZO) (k:Nat) (F:Nat->Said) (Q:VF->Prop) (H:let zN:=Int.ofNat;Q (.c (zB true),[],160000000000000000000000000000000000000007,((decide (z<zN 0)==true)::zt (zt (zt (zt (zt (zt (true::true::true::true::(decide (z<zN 0)==true)::((Zg c (Int.toNat c.nodes)==zN 0)==false)::YM c (Int.toNat c.nodes) (ZI c (2*c.np))::zt (zt (true::true::true::true::true::true::true::decide (zN 0<=zN 0/\zN 0<=Option.getD (some ↑(c.nt)) ↑(c.nt)/\Option.getD (some ↑(c.nt)) ↑(c.nt)<=YW none c.nt (some ↑(c.nt)))::true::decide (YW none c.nt (some ↑(c.nt)) <= ↑(Option.getD none c.nt))::true::Zu none (ABlk.mk true true 85 3 (Cs.arr c.nt fun k=>List.map AC.v ((fun i=>[Value.int .i64 (Station.node (Z4 (Zt (YC c.nt c.ft) 0 0 3) i)),Value.int .u32 (Station.safe (Z4 (Zt (YC c.nt c.ft) 0 0 3) i)),Value.int .i64 (Station.hold (Z4 (Zt (YC c.nt c.ft) 0 0 3) i))]) k))) 0 c.nt::decide (0+c.nt<=c.nt)::decide (c.nt<=1000000)::(Yc c.nt fun k=>List.map AC.v ((fun i=>[Value.int .i64 (Station.node (c.ft i)),Value.int .u32 (Station.safe (c.ft i)),Value.int .i64 (Station.hold (c.ft i))]) k))::true::true::decide (zN 0<=zN 0/\zN 0<=Option.getD (some ↑(0+c.nb)) ↑(0+c.nb)/\Option.getD (some ↑(0+c.nb)) ↑(0+c.nb)<=YW none (0+c.nb) (some ↑(0+c.nb)))::true::decide (YW none (0+c.nb) (some ↑(0+c.nb)) <= ↑(Option.getD none (0+c.nb)))::true::Zu none (ABlk.mk true true 3 1 (Cs.arr (0+c.nb) fun i=>if i<0 then[] else Z8 (ZM c.nb c.fb) 0 0 1 (i-0))) 0 (0+c.nb)::decide (0+c.nb<=c.nb)::true::true::decide ((0+c.nb)*8<=140737488355328)::ABlk.inb (ZM c.nb c.fb) 0 1::true::true::true::true::decide (zN 0<=zN 0/\zN 0<=Option.getD (some ↑(0+c.ns)) ↑(0+c.ns)/\Option.getD (some ↑(0+c.ns)) ↑(0+c.ns)<=YW none (0+c.ns) (some ↑(0+c.ns)))::true::decide (YW none (0+c.ns) (some ↑(0+c.ns)) <= ↑(Option.getD none (0+c.ns)))::true::Zu none (ABlk.mk true true 3 1 (Cs.arr (0+c.ns) fun i=>if i<0 then[] else Z8 (ZM c.ns c.fs) 0 0 1 (i-0))) 0 (0+c.ns)::decide (0+c.ns<=c.ns)::true::true::decide ((0+c.ns)*8<=140737488355328)::ABlk.inb (ZM c.ns c.fs) 0 1::true::true::true::true::decide (zN 0<=zN 0/\zN 0<=Option.getD (some ↑(0+c.np)) ↑(0+c.np)/\Option.getD (some ↑(0+c.np)) ↑(0+c.np)<=YW none (0+c.np) (some ↑(0+c.np)))::true::decide (YW none (0+c.np) (some ↑(0+c.np)) <= ↑(Option.getD none (0+c.np)))::true::Zu none (ABlk.mk true true 3 1 (Cs.arr (0+c.np) fun i=>if i<0 then[] else Z8 (ZM c.np c.fp) 0 0 1 (i-0))) 0 (0+c.np)::decide (0+c.np<=c.np)::true::true::decide ((0+c.np)*8<=140737488355328)::ABlk.inb (ZM c.np c.fp) 0 1::zt (true::((!decide (↑(Int.toNat c.nodes)>zN 0))==false)::zt (zt (zt (zt (zt [true,true,true,true,true,true,decide (0+m<=m),decide (m*24<=140737488355328),true,(zN 0 !=err c)==false,Z2 c,true,true,true,true,true,true,true,Z2 c,decide (c.nb<=9223372036854775807),decide (err c=zN 0),true,true,true,true,true,true,decide (↑k>zN 100)==false,decide (↑m>zN 40)==false,true,decide (↑(c.nt)>zN 60)==false,true,decide (↑(c.nb)>zN 60)==false,true,decide (↑(c.ns)>zN 60)==false,true,decide (↑(c.np)>zN 60)==false,true,true,true,true,true,true,true])))))))))))))),[LoopV prog (ZY prog 3 0) WF U0 [some (.c (.ptr 11 0 0)),some (.c (.sl 67 0 0 (0+m) none)),some (.c (AC.v (Value.pointer none))),some (.c (zI (zN 1))),some (.c (zI (zN 0)))] [yR 35 0 (Cs.lit (zI z::(ZW v++[AC.sl 4 0 0 m none]))),some (Ux m S),yO 54 4 (Cs.arr (0+m) fun i=>if i<0 then[] else Z8 (Ux m S) 0 0 4 (i-0)),some ZA,some Zw] 174 140000000000000000000000000000000000000231 (ZT 174 (QL z v m S)) (QK z v m S) 160000000000000000000000000000000000000000 (Exit.exit 0) none,CallV prog 10 [.c (.sl 4 0 0 m none)] [4] [some (Ux m S)] 70000000000000000000000000000000000000227 (.c (.sl Sx 0 0 m none)) (List.zip [Sx] [Y1 m S]++List.zip [4] [Yl m S]) 79000000000000000000000000000000000000000])):
 ∃p r,QH prog err c z v m S k F p [none,some (Ke m S),some (RI z v m S)]=some r/\Q r:=
 ⟨pD 66 717898237864838664000104,_,by kernel_rfl,H⟩
theorem pqD (err:Cfg->Int) (c:Cfg) (z:Int) (v:Vw) (m:Nat) (S:Nat->ZO) (k:Nat) (F:Nat->Said) (Q:VF->Prop) (H:let zN:=Int.ofNat;Q (.c (zB true),[],160000000000000000000000000000000000000007,((decide (z>zN 1099511627775)==true)::(decide (z<zN 0)==false)::zt (zt (zt (zt (zt (zt (true::true::true::true::(decide (z≥zN 1099511627776)==true)::(decide (z<zN 0)==false)::((Zg c (Int.toNat c.nodes)==zN 0)==false)::YM c (Int.toNat c.nodes) (ZI c (2*c.np))::zt (zt (true::true::true::true::true::true::true::decide (zN 0<=zN 0/\zN 0<=Option.getD (some ↑(c.nt)) ↑(c.nt)/\Option.getD (some ↑(c.nt)) ↑(c.nt)<=YW none c.nt (some ↑(c.nt)))::true::decide (YW none c.nt (some ↑(c.nt)) <= ↑(Option.getD none c.nt))::true::Zu none (ABlk.mk true true 85 3 (Cs.arr c.nt fun k=>List.map AC.v ((fun i=>[Value.int .i64 (Station.node (Z4 (Zt (YC c.nt c.ft) 0 0 3) i)),Value.int .u32 (Station.safe (Z4 (Zt (YC c.nt c.ft) 0 0 3) i)),Value.int .i64 (Station.hold (Z4 (Zt (YC c.nt c.ft) 0 0 3) i))]) k))) 0 c.nt::decide (0+c.nt<=c.nt)::decide (c.nt<=1000000)::(Yc c.nt fun k=>List.map AC.v ((fun i=>[Value.int .i64 (Station.node (c.ft i)),Value.int .u32 (Station.safe (c.ft i)),Value.int .i64 (Station.hold (c.ft i))]) k))::true::true::decide (zN 0<=zN 0/\zN 0<=Option.getD (some ↑(0+c.nb)) ↑(0+c.nb)/\Option.getD (some ↑(0+c.nb)) ↑(0+c.nb)<=YW none (0+c.nb) (some ↑(0+c.nb)))::true::decide (YW none (0+c.nb) (some ↑(0+c.nb)) <= ↑(Option.getD none (0+c.nb)))::true::Zu none (ABlk.mk true true 3 1 (Cs.arr (0+c.nb) fun i=>if i<0 then[] else Z8 (ZM c.nb c.fb) 0 0 1 (i-0))) 0 (0+c.nb)::decide (0+c.nb<=c.nb)::true::true::decide ((0+c.nb)*8<=140737488355328)::ABlk.inb (ZM c.nb c.fb) 0 1::true::true::true::true::decide (zN 0<=zN 0/\zN 0<=Option.getD (some ↑(0+c.ns)) ↑(0+c.ns)/\Option.getD (some ↑(0+c.ns)) ↑(0+c.ns)<=YW none (0+c.ns) (some ↑(0+c.ns)))::true::decide (YW none (0+c.ns) (some ↑(0+c.ns)) <= ↑(Option.getD none (0+c.ns)))::true::Zu none (ABlk.mk true true 3 1 (Cs.arr (0+c.ns) fun i=>if i<0 then[] else Z8 (ZM c.ns c.fs) 0 0 1 (i-0))) 0 (0+c.ns)::decide (0+c.ns<=c.ns)::true::true::decide ((0+c.ns)*8<=140737488355328)::ABlk.inb (ZM c.ns c.fs) 0 1::true::true::true::true::decide (zN 0<=zN 0/\zN 0<=Option.getD (some ↑(0+c.np)) ↑(0+c.np)/\Option.getD (some ↑(0+c.np)) ↑(0+c.np)<=YW none (0+c.np) (some ↑(0+c.np)))::true::decide (YW none (0+c.np) (some ↑(0+c.np)) <= ↑(Option.getD none (0+c.np)))::true::Zu none (ABlk.mk true true 3 1 (Cs.arr (0+c.np) fun i=>if i<0 then[] else Z8 (ZM c.np c.fp) 0 0 1 (i-0))) 0 (0+c.np)::decide (0+c.np<=c.np)::true::true::decide ((0+c.np)*8<=140737488355328)::ABlk.inb (ZM c.np c.fp) 0 1::zt (true::((!decide (↑(Int.toNat c.nodes)>zN 0))==false)::zt (zt (zt (zt (zt [true,true,true,true,true,true,decide (0+m<=m),decide (m*24<=140737488355328),true,(zN 0 !=err c)==false,Z2 c,true,true,true,true,true,true,true,Z2 c,decide (c.nb<=9223372036854775807),decide (err c=zN 0),true,true,true,true,true,true,decide (↑k>zN 100)==false,decide (↑m>zN 40)==false,true,decide (↑(c.nt)>zN 60)==false,true,decide (↑(c.nb)>zN 60)==false,true,decide (↑(c.ns)>zN 60)==false,true,decide (↑(c.np)>zN 60)==false,true,true,true,true,true,true,true])))))))))))))),[LoopV prog (ZY prog 3 0) WF U0 [some (.c (.ptr 11 0 0)),some (.c (.sl 67 0 0 (0+m) none)),some (.c (AC.v (Value.pointer none))),some (.c (zI (zN 1))),some (.c (zI (zN 0)))] [yR 35 0 (Cs.lit (zI z::(ZW v++[AC.sl 4 0 0 m none]))),some (Ux m S),yO 54 4 (Cs.arr (0+m) fun i=>if i<0 then[] else Z8 (Ux m S) 0 0 4 (i-0)),some ZA,some Zw] 174 140000000000000000000000000000000000000233 (ZT 174 (QL z v m S)) (QK z v m S) 160000000000000000000000000000000000000000 (Exit.exit 0) none,CallV prog 10 [.c (.sl 4 0 0 m none)] [4] [some (Ux m S)] RE (.c (.sl Sx 0 0 m none)) (List.zip [Sx] [Y1 m S]++List.zip [4] [Yl m S]) 79000000000000000000000000000000000000000])):
 ∃p r,QH prog err c z v m S k F p [none,some (Ke m S),some (RI z v m S)]=some r/\Q r:=
 ⟨pD 66 7896879615729717521693804,_,by kernel_rfl,H⟩
theorem pqE (err:Cfg->Int) (c:Cfg) (z:Int) (v:Vw) (m:Nat) (S:Nat->ZO) (k:Nat) (F:Nat->Said) (Q:VF->Prop) (H:let zN:=Int.ofNat;Q (.c (zB true),[],160000000000000000000000000000000000000007,(((!X4 c.np (ZW v))==true)::(Z2 c)::(Ox (Zf.mk c [AV.agg (ZW v)]))::(zu (zt (zt (true::((decide (z>zN 1099511627775)==false)::(decide (z<zN 0)==false)::(zu (zt (zt (y3 (true::(((!UK c (Int.toNat c.nodes) (ZI c (2*c.np)) (ZW v))==true)::(YM c (Int.toNat c.nodes) (ZI c (2*c.np)))::(zu (zt (y3 (true::((decide (z≥zN 1099511627776)==false)::(decide (z<zN 0)==false)::((Zg c (Int.toNat c.nodes)==zN 0)==false)::(YM c (Int.toNat c.nodes) (ZI c (2*c.np)))::(zt (zt (y3 (y3 (true::((decide (zN 0<=zN 0/\zN 0<=Option.getD (some ↑(c.nt)) ↑(c.nt)/\Option.getD (some ↑(c.nt)) ↑(c.nt)<=YW none c.nt (some ↑(c.nt))))::true::(decide (YW none c.nt (some ↑(c.nt)) <= ↑(Option.getD none c.nt)))::true::(Zu none (ABlk.mk true true 85 3 (Cs.arr c.nt fun k=>List.map AC.v ((fun i=>[Value.int .i64 (Station.node (Z4 (Zt (YC c.nt c.ft) 0 0 3) i)),Value.int .u32 (Station.safe (Z4 (Zt (YC c.nt c.ft) 0 0 3) i)),Value.int .i64 (Station.hold (Z4 (Zt (YC c.nt c.ft) 0 0 3) i))]) k))) 0 c.nt)::(decide (0+c.nt<=c.nt))::(decide (c.nt<=1000000))::(Yc c.nt fun k=>List.map AC.v ((fun i=>[Value.int .i64 (Station.node (c.ft i)),Value.int .u32 (Station.safe (c.ft i)),Value.int .i64 (Station.hold (c.ft i))]) k))::true::true::(decide (zN 0<=zN 0/\zN 0<=Option.getD (some ↑(0+c.nb)) ↑(0+c.nb)/\Option.getD (some ↑(0+c.nb)) ↑(0+c.nb)<=YW none (0+c.nb) (some ↑(0+c.nb))))::true::(decide (YW none (0+c.nb) (some ↑(0+c.nb)) <= ↑(Option.getD none (0+c.nb))))::true::(Zu none (ABlk.mk true true 3 1 (Cs.arr (0+c.nb) fun i=>if i<0 then[] else Z8 (ZM c.nb c.fb) 0 0 1 (i-0))) 0 (0+c.nb))::(decide (0+c.nb<=c.nb))::true::true::(decide ((0+c.nb)*8<=140737488355328))::(ABlk.inb (ZM c.nb c.fb) 0 1)::y3 (true::(decide (zN 0<=zN 0/\zN 0<=Option.getD (some ↑(0+c.ns)) ↑(0+c.ns)/\Option.getD (some ↑(0+c.ns)) ↑(0+c.ns)<=YW none (0+c.ns) (some ↑(0+c.ns))))::true::(decide (YW none (0+c.ns) (some ↑(0+c.ns)) <= ↑(Option.getD none (0+c.ns))))::true::(Zu none (ABlk.mk true true 3 1 (Cs.arr (0+c.ns) fun i=>if i<0 then[] else Z8 (ZM c.ns c.fs) 0 0 1 (i-0))) 0 (0+c.ns))::(decide (0+c.ns<=c.ns))::true::true::(decide ((0+c.ns)*8<=140737488355328))::(ABlk.inb (ZM c.ns c.fs) 0 1)::y3 (true::(decide (zN 0<=zN 0/\zN 0<=Option.getD (some ↑(0+c.np)) ↑(0+c.np)/\Option.getD (some ↑(0+c.np)) ↑(0+c.np)<=YW none (0+c.np) (some ↑(0+c.np))))::true::(decide (YW none (0+c.np) (some ↑(0+c.np)) <= ↑(Option.getD none (0+c.np))))::true::(Zu none (ABlk.mk true true 3 1 (Cs.arr (0+c.np) fun i=>if i<0 then[] else Z8 (ZM c.np c.fp) 0 0 1 (i-0))) 0 (0+c.np))::(decide (0+c.np<=c.np))::true::true::(decide ((0+c.np)*8<=140737488355328))::(ABlk.inb (ZM c.np c.fp) 0 1)::(zt (true::(((!decide (↑(Int.toNat c.nodes)>zN 0))==false)::(zu (zt (y3 (y3 (((decide (0+m<=m))::(decide (m*24<=140737488355328))::true::((zN 0 !=err c)==false)::(Z2 c)::y3 (y3 (true::(Z2 c)::(decide (c.nb<=9223372036854775807))::(decide (err c=zN 0))::y3 (y3 ((decide (↑k>zN 100)==false)::(decide (↑m>zN 40)==false)::true::(decide (↑(c.nt)>zN 60)==false)::true::(decide (↑(c.nb)>zN 60)==false)::true::(decide (↑(c.ns)>zN 60)==false)::true::(decide (↑(c.np)>zN 60)==false)::y3 (y3 (true::[])))))))))))))))))))))))))))))))))))))))),[LoopV prog (ZY prog 3 0) WF U0 [some (.c (.ptr 11 0 0)),some (.c (.sl 67 0 0 (0+m) none)),some (.c (AC.v (Value.pointer none))),some (.c (zI (zN 1))),some (.c (zI (zN 0)))] [yR 35 0 (Cs.lit (zI z::(ZW v++[AC.sl 4 0 0 m none]))),some (Ux m S),yO 54 4 (Cs.arr (0+m) fun i=>if i<0 then[] else Z8 (Ux m S) 0 0 4 (i-0)),some ZA,some Zw] 174 140000000000000000000000000000000000000236 (ZT 174 (QL z v m S)) (QK z v m S) 160000000000000000000000000000000000000000 (Exit.exit 0) none,CallV prog 10 [.c (.sl 4 0 0 m none)] [4] [some (Ux m S)] 70000000000000000000000000000000000000232 (.c (.sl Sx 0 0 m none)) (List.zip [Sx] [Y1 m S]++List.zip [4] [Yl m S]) 79000000000000000000000000000000000000000])):
 ∃p r,QH prog err c z v m S k F p [none,some (Ke m S),some (RI z v m S)]=some r/\Q r:=
 ⟨pD 66 537705705302157777219488864,_,by kernel_rfl,H⟩
theorem pqF (err:Cfg->Int) (c:Cfg) (z:Int) (v:Vw) (m:Nat) (S:Nat->ZO) (k:Nat) (F:Nat->Said) (Q:VF->Prop) (H:let zN:=Int.ofNat;Q (.c (zB true),[],160000000000000000000000000000000000000007,((((zN m) != ↑(c.nt))==true)::true::((!X4 c.np (ZW v))==false)::(Z2 c)::(Ox (Zf.mk c [AV.agg (ZW v)]))::(zu (zt (zt (true::((decide (z>zN 1099511627775)==false)::(decide (z<zN 0)==false)::(zu (zt (zt (y3 (true::((((zN (0+m)) != ↑(Int.toNat (Option.getD (some ↑(c.nt)) ↑(c.nt)-zN 0)))==true)::true::((!UK c (Int.toNat c.nodes) (ZI c (2*c.np)) (ZW v))==false)::(YM c (Int.toNat c.nodes) (ZI c (2*c.np)))::(zu (zt (y3 (true::((decide (z≥zN 1099511627776)==false)::(decide (z<zN 0)==false)::((Zg c (Int.toNat c.nodes)==zN 0)==false)::(YM c (Int.toNat c.nodes) (ZI c (2*c.np)))::(zt (zt (y3 (y3 (true::((decide (zN 0<=zN 0/\zN 0<=Option.getD (some ↑(c.nt)) ↑(c.nt)/\Option.getD (some ↑(c.nt)) ↑(c.nt)<=YW none c.nt (some ↑(c.nt))))::true::(decide (YW none c.nt (some ↑(c.nt)) <= ↑(Option.getD none c.nt)))::true::(Zu none (ABlk.mk true true 85 3 (Cs.arr c.nt fun k=>List.map AC.v ((fun i=>[Value.int .i64 (Station.node (Z4 (Zt (YC c.nt c.ft) 0 0 3) i)),Value.int .u32 (Station.safe (Z4 (Zt (YC c.nt c.ft) 0 0 3) i)),Value.int .i64 (Station.hold (Z4 (Zt (YC c.nt c.ft) 0 0 3) i))]) k))) 0 c.nt)::(decide (0+c.nt<=c.nt))::(decide (c.nt<=1000000))::(Yc c.nt fun k=>List.map AC.v ((fun i=>[Value.int .i64 (Station.node (c.ft i)),Value.int .u32 (Station.safe (c.ft i)),Value.int .i64 (Station.hold (c.ft i))]) k))::true::true::(decide (zN 0<=zN 0/\zN 0<=Option.getD (some ↑(0+c.nb)) ↑(0+c.nb)/\Option.getD (some ↑(0+c.nb)) ↑(0+c.nb)<=YW none (0+c.nb) (some ↑(0+c.nb))))::true::(decide (YW none (0+c.nb) (some ↑(0+c.nb)) <= ↑(Option.getD none (0+c.nb))))::true::(Zu none (ABlk.mk true true 3 1 (Cs.arr (0+c.nb) fun i=>if i<0 then[] else Z8 (ZM c.nb c.fb) 0 0 1 (i-0))) 0 (0+c.nb))::(decide (0+c.nb<=c.nb))::true::true::(decide ((0+c.nb)*8<=140737488355328))::(ABlk.inb (ZM c.nb c.fb) 0 1)::y3 (true::(decide (zN 0<=zN 0/\zN 0<=Option.getD (some ↑(0+c.ns)) ↑(0+c.ns)/\Option.getD (some ↑(0+c.ns)) ↑(0+c.ns)<=YW none (0+c.ns) (some ↑(0+c.ns))))::true::(decide (YW none (0+c.ns) (some ↑(0+c.ns)) <= ↑(Option.getD none (0+c.ns))))::true::(Zu none (ABlk.mk true true 3 1 (Cs.arr (0+c.ns) fun i=>if i<0 then[] else Z8 (ZM c.ns c.fs) 0 0 1 (i-0))) 0 (0+c.ns))::(decide (0+c.ns<=c.ns))::true::true::(decide ((0+c.ns)*8<=140737488355328))::(ABlk.inb (ZM c.ns c.fs) 0 1)::y3 (true::(decide (zN 0<=zN 0/\zN 0<=Option.getD (some ↑(0+c.np)) ↑(0+c.np)/\Option.getD (some ↑(0+c.np)) ↑(0+c.np)<=YW none (0+c.np) (some ↑(0+c.np))))::true::(decide (YW none (0+c.np) (some ↑(0+c.np)) <= ↑(Option.getD none (0+c.np))))::true::(Zu none (ABlk.mk true true 3 1 (Cs.arr (0+c.np) fun i=>if i<0 then[] else Z8 (ZM c.np c.fp) 0 0 1 (i-0))) 0 (0+c.np))::(decide (0+c.np<=c.np))::true::true::(decide ((0+c.np)*8<=140737488355328))::(ABlk.inb (ZM c.np c.fp) 0 1)::(zt (true::(((!decide (↑(Int.toNat c.nodes)>zN 0))==false)::(zu (zt (y3 (y3 (((decide (0+m<=m))::(decide (m*24<=140737488355328))::true::((zN 0 !=err c)==false)::(Z2 c)::y3 (y3 (true::(Z2 c)::(decide (c.nb<=9223372036854775807))::(decide (err c=zN 0))::y3 (y3 ((decide (↑k>zN 100)==false)::(decide (↑m>zN 40)==false)::true::(decide (↑(c.nt)>zN 60)==false)::true::(decide (↑(c.nb)>zN 60)==false)::true::(decide (↑(c.ns)>zN 60)==false)::true::(decide (↑(c.np)>zN 60)==false)::y3 (y3 (true::[])))))))))))))))))))))))))))))))))))))))),[LoopV prog (ZY prog 3 0) WF U0 [some (.c (.ptr 11 0 0)),some (.c (.sl 67 0 0 (0+m) none)),some (.c (AC.v (Value.pointer none))),some (.c (zI (zN 1))),some (.c (zI (zN 0)))] [yR 35 0 (Cs.lit (zI z::(ZW v++[AC.sl 4 0 0 m none]))),some (Ux m S),yO 54 4 (Cs.arr (0+m) fun i=>if i<0 then[] else Z8 (Ux m S) 0 0 4 (i-0)),some ZA,some Zw] 174 140000000000000000000000000000000000000242 (ZT 174 (QL z v m S)) (QK z v m S) 160000000000000000000000000000000000000000 (Exit.exit 0) none,CallV prog 10 [.c (.sl 4 0 0 m none)] [4] [some (Ux m S)] 70000000000000000000000000000000000000238 (.c (.sl Sx 0 0 m none)) (List.zip [Sx] [Y1 m S]++List.zip [4] [Yl m S]) 79000000000000000000000000000000000000000])):
 ∃p r,QH prog err c z v m S k F p [none,some (Ke m S),some (RI z v m S)]=some r/\Q r:=
 ⟨pD 66 382581557691137415947105121764,_,by kernel_rfl,H⟩
theorem pqG (err:Cfg->Int) (c:Cfg) (z:Int) (v:Vw) (m:Nat) (S:Nat->ZO) (k:Nat) (F:Nat->Said) (w:Vw) (y:Int) (T:Nat->ZO) (Q:VF->Prop) (H:let zN:=Int.ofNat;let zD:=Int.toNat;let zz0:=(ABlk.mk true true 54 4 (Cs.arr (0+m) fun i=>if i<0 then[] else Z8 (Ux m S) 0 0 4 (i-0)));let zs0:=fun (l:List (Option ABlk))=>some (ZG 3 c.np c.fp)::some (ZG 3 c.ns c.fs)::some (ZG 3 c.nb c.fb)::some (Xj c.nt c.ft)::some (QI k F)::some (WC 51 c)::some (ZM (zD c.nodes) (ZI c (2*c.np)))::some (ZM c.np c.fp)::some (ZM c.ns c.fs)::some (ZM c.nb c.fb)::some (YC c.nt c.ft)::l;Q (.c (zB true),[],10000000000000000000110000000000000000000000000000000000000000,(((y==y)==true)::y3 (true::true::(decide (0+m<=m))::(decide (m*24<=140737488355328))::(zu (zt (zt (true::((((zN m) != ↑(c.nt))==false)::true::((!X4 c.np (ZW v))==false)::(Z2 c)::(Ox (Zf.mk c [AV.agg (ZW v)]))::(zu (zt (zt (true::((decide (z>zN 1099511627775)==false)::(decide (z<zN 0)==false)::(zu (zt (zt (y3 (true::((decide (0+(0+m)<=0+m))::(decide (0+m<=1000000))::(RP (0+m) fun i=>if i<0 then[] else Z8 (Ux m S) 0 0 4 (i-0))::(zu (zt (y3 (true::((((zN (0+m)) != ↑(zD (Option.getD (some ↑(c.nt)) ↑(c.nt)-zN 0)))==false)::true::((!UK c (zD c.nodes) (ZI c (2*c.np)) (ZW v))==false)::(YM c (zD c.nodes) (ZI c (2*c.np)))::(zu (zt (y3 (true::((decide (z≥zN 1099511627776)==false)::(decide (z<zN 0)==false)::((Zg c (zD c.nodes)==zN 0)==false)::(YM c (zD c.nodes) (ZI c (2*c.np)))::(zt (zt (y3 (y3 (true::((decide (zN 0<=zN 0/\zN 0<=Option.getD (some ↑(c.nt)) ↑(c.nt)/\Option.getD (some ↑(c.nt)) ↑(c.nt)<=YW none c.nt (some ↑(c.nt))))::true::(decide (YW none c.nt (some ↑(c.nt)) <= ↑(Option.getD none c.nt)))::true::(Zu none (ABlk.mk true true 85 3 (Cs.arr c.nt fun k=>List.map AC.v ((fun i=>[Value.int .i64 (Station.node (Z4 (Zt (YC c.nt c.ft) 0 0 3) i)),Value.int .u32 (Station.safe (Z4 (Zt (YC c.nt c.ft) 0 0 3) i)),Value.int .i64 (Station.hold (Z4 (Zt (YC c.nt c.ft) 0 0 3) i))]) k))) 0 c.nt)::(decide (0+c.nt<=c.nt))::(decide (c.nt<=1000000))::(Yc c.nt fun k=>List.map AC.v ((fun i=>[Value.int .i64 (Station.node (c.ft i)),Value.int .u32 (Station.safe (c.ft i)),Value.int .i64 (Station.hold (c.ft i))]) k))::true::true::(decide (zN 0<=zN 0/\zN 0<=Option.getD (some ↑(0+c.nb)) ↑(0+c.nb)/\Option.getD (some ↑(0+c.nb)) ↑(0+c.nb)<=YW none (0+c.nb) (some ↑(0+c.nb))))::true::(decide (YW none (0+c.nb) (some ↑(0+c.nb)) <= ↑(Option.getD none (0+c.nb))))::true::(Zu none (ABlk.mk true true 3 1 (Cs.arr (0+c.nb) fun i=>if i<0 then[] else Z8 (ZM c.nb c.fb) 0 0 1 (i-0))) 0 (0+c.nb))::(decide (0+c.nb<=c.nb))::true::true::(decide ((0+c.nb)*8<=140737488355328))::(ABlk.inb (ZM c.nb c.fb) 0 1)::y3 (true::(decide (zN 0<=zN 0/\zN 0<=Option.getD (some ↑(0+c.ns)) ↑(0+c.ns)/\Option.getD (some ↑(0+c.ns)) ↑(0+c.ns)<=YW none (0+c.ns) (some ↑(0+c.ns))))::true::(decide (YW none (0+c.ns) (some ↑(0+c.ns)) <= ↑(Option.getD none (0+c.ns))))::true::(Zu none (ABlk.mk true true 3 1 (Cs.arr (0+c.ns) fun i=>if i<0 then[] else Z8 (ZM c.ns c.fs) 0 0 1 (i-0))) 0 (0+c.ns))::(decide (0+c.ns<=c.ns))::true::true::(decide ((0+c.ns)*8<=140737488355328))::(ABlk.inb (ZM c.ns c.fs) 0 1)::y3 (true::(decide (zN 0<=zN 0/\zN 0<=Option.getD (some ↑(0+c.np)) ↑(0+c.np)/\Option.getD (some ↑(0+c.np)) ↑(0+c.np)<=YW none (0+c.np) (some ↑(0+c.np))))::true::(decide (YW none (0+c.np) (some ↑(0+c.np)) <= ↑(Option.getD none (0+c.np))))::true::(Zu none (ABlk.mk true true 3 1 (Cs.arr (0+c.np) fun i=>if i<0 then[] else Z8 (ZM c.np c.fp) 0 0 1 (i-0))) 0 (0+c.np))::(decide (0+c.np<=c.np))::true::true::(decide ((0+c.np)*8<=140737488355328))::(ABlk.inb (ZM c.np c.fp) 0 1)::(zt (true::(((!decide (↑(zD c.nodes)>zN 0))==false)::(zu (zt (y3 (y3 (((decide (0+m<=m))::(decide (m*24<=140737488355328))::true::((zN 0 !=err c)==false)::(Z2 c)::y3 (y3 (true::(Z2 c)::(decide (c.nb<=9223372036854775807))::(decide (err c=zN 0))::y3 (y3 ((decide (↑k>zN 100)==false)::(decide (↑m>zN 40)==false)::true::(decide (↑(c.nt)>zN 60)==false)::true::(decide (↑(c.nb)>zN 60)==false)::true::(decide (↑(c.ns)>zN 60)==false)::true::(decide (↑(c.np)>zN 60)==false)::y3 (y3 (true::[]))))))))))))))))))))))))))))))))))))))))))))))))))),[LoopV prog (ZY prog 3 1) pmH pmI [some (.c (.sl 5 0 0 k none)),some (.c (.ptr Ze 0 0)),some (.c (.ptr VR 0 0)),some (.c (zI (zN 0)))] (some ZA::some Zw::zs0 [some (VQ c v z),some (WH c.nt S),some (Vx c v z),some (Y1 c.nt S)]) 174 280000000000000000000000000000000000000003 (ZT 174 pqO) (List.zip pmI (SM c w y T k F)) 10000000000000000000000000000000000000000000000000000000000000 (Exit.exit 2) none,LoopV prog (ZY prog 3 0) WP RJ [some (.c (.sl 5 0 0 k none)),some (.c (.ptr 11 0 0)),some (.c (.sl 67 0 0 (0+m) none)),some (.c (.ptr Ze 0 0)),some (.c (zI (zN 0))),some (.c (.ptr VR 0 0)),some (.c (zI (zN 0)))] (yR 35 0 (Cs.lit (zI z::(ZW v++[AC.sl 4 0 0 m none])))::some (Ux m S)::some zz0::some ZA::some Zw::zs0 [yR 90 0 (Cs.lit (.ptr 51 0 0:: .v (.int .i64 ↑(zD (Option.getD (some ↑(0+c.ns)) ↑(0+c.ns)-zN 0)))::zI z::(ZW v++[AC.sl RE 0 0 (0+m) none]))),yO 54 4 (Cs.arr (0+m) fun k=>List.map AC.v ((fun i=>[Value.bool (ZO.any (VV (Zt zz0 0 0 4) i)),Value.int .u32 (ZO.seq (VV (Zt zz0 0 0 4) i)),Value.int .u32 (ZO.val (VV (Zt zz0 0 0 4) i)),Value.int .i64 (ZO.rnd (VV (Zt zz0 0 0 4) i))]) k)),yR 57 0 (Cs.lit (zI c.nodes::AC.sl 0 0 0 c.np none::AC.sl 1 0 0 c.ns none::zI c.long::AC.sl 2 0 0 c.nb none::AC.sl 3 0 0 c.nt none::zI c.miss::zI c.good::zI c.fresh::zI z::(ZW v++[AC.sl Q3 0 0 (0+m) none]))),yO 92 4 (Cs.arr (0+m) fun i=>if i<0 then[] else Z8 (ABlk.mk false true 92 4 (Cs.arr m fun k=>List.map AC.v ((fun i=>[Value.bool (ZO.any (S i)),Value.int .u32 (ZO.seq (S i)),Value.int .u32 (ZO.val (S i)),Value.int .i64 (ZO.rnd (S i))]) k))) 0 0 4 (i-0))]) 174 260000000000000000000000000000000000000240 (ZT 174 (LZ c z v m S k F)) (LX c z v m S k F) 280000000000000000000000000000000000000000 (Exit.exit 0) none,CallV prog 10 [.c (.sl 4 0 0 m none)] [4] [some (Ux m S)] 190000000000000000000000000000000000000236 (.c (.sl Pu 0 0 m none)) (List.zip [Pu] [Y1 m S]++List.zip [4] [Yl m S]) 199000000000000000000000000000000000000000])):
 ∃p r,QH prog err c z v m S k F p [none,some (pyS m S),some (Gz c z v m S k F),some (pqS c k F w y T)]=some r/\Q r:=
 ⟨pD 72 7510230617041659330271164223141481,_,by kernel_rfl,H⟩
theorem AY (z:Int) (v:Vw) (m:Nat) (S:Nat->ZO) (j:Nat) (Q:VC->Prop) (H:let zN:=Int.ofNat;let zD:=Int.toNat;let zz0:=[zB (ZO.any (X3 S j (0+zD (zN j)))),zW (ZO.seq (X3 S j (0+zD (zN j)))),zW (ZO.val (X3 S j (0+zD (zN j)))),zI (ZO.rnd (X3 S j (0+zD (zN j))))];let zz1:=[zB (ZO.any (S (0+zD (zN j)))),zW (ZO.seq (S (0+zD (zN j)))),zW (ZO.val (S (0+zD (zN j)))),zI (ZO.rnd (S (0+zD (zN j))))];let zz2:=[some (ZN (List.zip WF (UO z v m S j)) 4),some (ZN (List.zip WF (UO z v m S j)) 9),some (ZN (List.zip WF (UO z v m S j)) 10),some (ZN (List.zip WF (UO z v m S j)) 11),some (ZN (List.zip WF (UO z v m S j)) 14)];let zz3:=(ABlk.mk true false 35 0 (Cs.lit (zI z::(ZW v++[AC.sl 4 0 0 m none]))));let zq0:List Bool:=zt ((ABlk.inb (Ux m S) (0+zD (zN j)) 4)::y3 (true::(decide (zN 0<=zN j/\zN j < ↑m))::true::(ABlk.inb (WH m (X3 S j)) (0+zD (zN j)) 4)::y3 (true::(decide (zN 0<=zN j/\zN j < ↑m))::(decide (zN j < ↑m)==true)::[])));(((decide (zN j < ↑m))=true->(((!TB [none,some .u32,some .u32,some .i64] zz0 zz1)=true->Q (Exit.ret,zz2,[some zz3,some (Ux m S),some (WH m (X3 S j)),some ZA,some Zw],174,150000000000000000000000000000000010000005,(((!TB [none,some .u32,some .u32,some .i64] zz0 zz1)==true)::zq0),[]))/\((!TB [none,some .u32,some .u32,some .i64] zz0 zz1)=false->Q (Exit.normal,[some (ZN (List.zip WF (UO z v m S j)) 4),some (ZN (List.zip WF (UO z v m S j)) 9),some (ZN (List.zip WF (UO z v m S j)) 10),some (ZN (List.zip WF (UO z v m S j)) 11),some (.c (zI (IntKind.wrap .i64 (zN j+zN 1))))],[some zz3,some (Ux m S),yO 54 4 (Cs.arr m fun i=>if i=0+zD (zN j) then YB ((fun k=>List.map AC.v ((fun i=>[Value.bool (ZO.any (X3 S j i)),Value.int .u32 (ZO.seq (X3 S j i)),Value.int .u32 (ZO.val (X3 S j i)),Value.int .i64 (ZO.rnd (X3 S j i))]) k)) i) 0 [zB true,zW (zN 99),zW (zN 0),zI (zN 0)] else List.map AC.v ((fun i=>[Value.bool (ZO.any (X3 S j i)),Value.int .u32 (ZO.seq (X3 S j i)),Value.int .u32 (ZO.val (X3 S j i)),Value.int .i64 (ZO.rnd (X3 S j i))]) i)),some ZA,some Zw],174,150000000000000000000000000000000010000012,((ABlk.inb (WH m (X3 S j)) (0+zD (zN j)) 4)::(decide (zN 0<=zN j/\zN j < ↑m))::((!TB [none,some .u32,some .u32,some .i64] zz0 zz1)==false)::zq0),[]))))/\((decide (zN j < ↑m))=false->Q (Exit.exit 0,zz2,[some zz3,some (Ux m S),some (WH m (X3 S j)),some ZA,some Zw],174,150000000000000000000000000000000000000004,[decide (zN j < ↑m)==false],[])))):
 ∃p r,Gw prog z v m S j p=some r/\Q r:=
 ZL H (fun g1=>ZL g1 (fun g2=>⟨pD 2 4,_,by kernel_rfl,g2⟩) (fun g2=>⟨pD 2 7,_,by kernel_rfl,g2⟩)) (fun g1=>⟨pD 1 2,_,by kernel_rfl,g1⟩)
theorem AZ (c:Cfg) (z:Int) (v:Vw) (m:Nat) (S:Nat->ZO) (k:Nat) (F:Nat->Said) (j:Nat) (Q:VC->Prop) (H:let zN:=Int.ofNat;let zD:=Int.toNat;let zz0:=[zB (ZO.any (X3 S j (0+zD (zN j)))),zW (ZO.seq (X3 S j (0+zD (zN j)))),zW (ZO.val (X3 S j (0+zD (zN j)))),zI (ZO.rnd (X3 S j (0+zD (zN j))))];let zz1:=[zB (ZO.any (S (0+zD (zN j)))),zW (ZO.seq (S (0+zD (zN j)))),zW (ZO.val (S (0+zD (zN j)))),zI (ZO.rnd (S (0+zD (zN j))))];let zz2:=[yR 35 0 (Cs.lit (zI z::(ZW v++[AC.sl 4 0 0 m none]))),some (Ux m S),some (WH m (X3 S j)),some ZA,some Zw,some (ZG 3 (Cfg.np c) (Cfg.fp c)),some (ZG 3 (Cfg.ns c) (Cfg.fs c)),some (ZG 3 (Cfg.nb c) (Cfg.fb c)),some (Xj (Cfg.nt c) (Cfg.ft c)),some (QI k F),some (WC 51 c),some (ZM (zD (Cfg.nodes c)) (ZI c (2*Cfg.np c))),some (ZM (Cfg.np c) (Cfg.fp c)),some (ZM (Cfg.ns c) (Cfg.fs c)),some (ZM (Cfg.nb c) (Cfg.fb c)),some (YC (Cfg.nt c) (Cfg.ft c)),some (VQ c v z),some (WH (Cfg.nt c) S),some (Vx c v z),some (Y1 (Cfg.nt c) S)];let zz3:=[some (ZN (List.zip WP (Wg c z v m S k F j)) 2),some (ZN (List.zip WP (Wg c z v m S k F j)) 4),some (ZN (List.zip WP (Wg c z v m S k F j)) 9),some (ZN (List.zip WP (Wg c z v m S k F j)) 10),some (ZN (List.zip WP (Wg c z v m S k F j)) 11),some (ZN (List.zip WP (Wg c z v m S k F j)) 12),some (ZN (List.zip WP (Wg c z v m S k F j)) 14)];let zq0:List Bool:=zt ((ABlk.inb (Ux m S) (0+zD (zN j)) 4)::y3 (true::(decide (zN 0<=zN j/\zN j < ↑m))::true::(ABlk.inb (WH m (X3 S j)) (0+zD (zN j)) 4)::y3 (true::(decide (zN 0<=zN j/\zN j < ↑m))::(decide (zN j < ↑m)==true)::[])));(((decide (zN j < ↑m))=true->(((!TB [none,some .u32,some .u32,some .i64] zz0 zz1)=true->Q (Exit.ret,zz3,zz2,174,270000000000000000000000000000000010000005,(((!TB [none,some .u32,some .u32,some .i64] zz0 zz1)==true)::zq0),[]))/\((!TB [none,some .u32,some .u32,some .i64] zz0 zz1)=false->Q (Exit.normal,[some (ZN (List.zip WP (Wg c z v m S k F j)) 2),some (ZN (List.zip WP (Wg c z v m S k F j)) 4),some (ZN (List.zip WP (Wg c z v m S k F j)) 9),some (ZN (List.zip WP (Wg c z v m S k F j)) 10),some (ZN (List.zip WP (Wg c z v m S k F j)) 11),some (ZN (List.zip WP (Wg c z v m S k F j)) 12),some (.c (zI (IntKind.wrap .i64 (zN j+zN 1))))],[yR 35 0 (Cs.lit (zI z::(ZW v++[AC.sl 4 0 0 m none]))),some (Ux m S),yO 54 4 (Cs.arr m fun i=>if i=0+zD (zN j) then YB ((fun k=>List.map AC.v ((fun i=>[Value.bool (ZO.any (X3 S j i)),Value.int .u32 (ZO.seq (X3 S j i)),Value.int .u32 (ZO.val (X3 S j i)),Value.int .i64 (ZO.rnd (X3 S j i))]) k)) i) 0 [zB true,zW (zN 99),zW (zN 0),zI (zN 0)] else List.map AC.v ((fun i=>[Value.bool (ZO.any (X3 S j i)),Value.int .u32 (ZO.seq (X3 S j i)),Value.int .u32 (ZO.val (X3 S j i)),Value.int .i64 (ZO.rnd (X3 S j i))]) i)),some ZA,some Zw,some (ZG 3 c.np c.fp),some (ZG 3 c.ns c.fs),some (ZG 3 c.nb c.fb),some (Xj c.nt c.ft),some (QI k F),some (WC 51 c),some (ZM (zD c.nodes) (ZI c (2*c.np))),some (ZM c.np c.fp),some (ZM c.ns c.fs),some (ZM c.nb c.fb),some (YC c.nt c.ft),some (VQ c v z),some (WH c.nt S),some (Vx c v z),some (Y1 c.nt S)],174,270000000000000000000000000000000010000012,((ABlk.inb (WH m (X3 S j)) (0+zD (zN j)) 4)::(decide (zN 0<=zN j/\zN j < ↑m))::((!TB [none,some .u32,some .u32,some .i64] zz0 zz1)==false)::zq0),[]))))/\((decide (zN j < ↑m))=false->Q (Exit.exit 0,zz3,zz2,174,270000000000000000000000000000000000000004,[decide (zN j < ↑m)==false],[])))):
 ∃p r,Gy prog c z v m S k F j p=some r/\Q r:=
 ZL H (fun g1=>ZL g1 (fun g2=>⟨pD 2 4,_,by kernel_rfl,g2⟩) (fun g2=>⟨pD 2 7,_,by kernel_rfl,g2⟩)) (fun g1=>⟨pD 1 2,_,by kernel_rfl,g1⟩)
end Go.Proofs.YtodpbgbpifiniaaGreatDoor
end
