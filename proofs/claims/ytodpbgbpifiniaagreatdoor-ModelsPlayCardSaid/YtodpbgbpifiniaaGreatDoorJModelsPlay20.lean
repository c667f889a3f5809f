/- Parts, one behind the other. Parts of a proof. -/
import Derived.Test.YtodpbgbpifiniaaGreatDoorJModelsPlay19
import Derived.Test.YtodpbgbpifiniaaGreatDoorJModelsPlay14
import Derived.Test.YtodpbgbpifiniaaGreatDoorJModelsPlay9
import Derived.Test.YtodpbgbpifiniaaGreatDoorJModelsPlay15
set_option linter.unusedSimpArgs false
set_option linter.unusedVariables false
set_option maxRecDepth 1000000
section
namespace Go.Proofs.YtodpbgbpifiniaaGreatDoor
open Go.RowKit Tryz
theorem Ni {c:Cfg} (h:ZH c=0):Ya c=0/\XJ c=0/\Yz c=0/\XK c=0/\Yb c=0/\Xi c=0/\YA c=0/\XL c=0/\Ys c=0/\Y0 c=0:=by
 unfold ZH at h;generalize Ya c=x1 at *;generalize XJ c=x2 at *;generalize Yz c=x3 at *;generalize XK c=x4 at *;generalize Yb c=x5 at *;generalize Xi c=x6 at *;generalize YA c=x7 at *;generalize XL c=x8 at *;generalize Ys c=x9 at *;generalize Y0 c=x10 at *;by_cases h1:x1=0<;>by_cases h2:x2=0<;>by_cases h3:x3=0<;>by_cases h4:x4=0<;>by_cases h5:x5=0<;>by_cases h6:x6=0<;>by_cases h7:x7=0<;>by_cases h8:x8=0<;>by_cases h9:x9=0<;>simp_all
theorem jje4 {c:Cfg} (h:ZH c=0):4<=c.nodes/\c.nodes<=16:=T5 (Ni h).1
theorem An {c:Cfg} (h:ZH c=0):2<=c.np/\c.np<=8:=by
 have:=T5 (Ni h).2.1;omega
def N3 (err:Cfg->Int):Yq:=YP (fun c=>i64 (err c)) fun _=>true
def MF (P:Program) (err:Cfg->Int) (l:List (FuncId × Yq)):Env:=⟨P,(6,MW err)::(7,N3 err)::l⟩
def Kq (P:Program) (err:Cfg->Int) (l:List (FuncId × Yq)):Env:=⟨P,(6,MX err)::(7,N3 err)::l⟩
theorem JL {l:List (FuncId × Yq)} (hl:∀f g,(f,g)∈l->ZC prog f g):Zz (MF prog ZH l):=by
 refine Xp (fun f g h=>?_) (by kernel_rfl) (by kernel_rfl);rcases List.mem_cons.1 h with h|h
 . cases h;exact jjl8
 rcases List.mem_cons.1 h with h|h
 . cases h;exact EW
 . exact hl f g h
theorem Cx {l:List (FuncId × Yq)} (hl:∀f g,(f,g)∈l->ZC prog f g):Zz (Kq prog ZH l):=by
 refine Xp (fun f g h=>?_) (by kernel_rfl) (by kernel_rfl);rcases List.mem_cons.1 h with h|h
 . cases h;exact jjl7
 rcases List.mem_cons.1 h with h|h
 . cases h;exact EW
 . exact hl f g h
structure CfgGood (c:Cfg):Prop where
 n4:4<=c.nodes
 n16:c.nodes<=16
 p2:2<=c.np
 p8:c.np<=8
 s1:1<=c.ns
 s16:c.ns<=16
 l1:c.nodes+116<=c.long
 l2:3*c.nodes+1<=c.long
 l4:c.long<=4096
 nb:(c.nb:Int)=c.nodes
 nt:c.nt<=8
 miss:1<=c.miss/\c.miss<=100
 good:1<=c.good/\c.good<=100
 fresh:1<=c.fresh/\c.fresh<=100
 fp:∀p,p<c.np->0<=c.fp p/\c.fp p<c.nodes
 fs:∀i,i<c.ns->0<=c.fs i/\c.fs i<c.np
 has:∀p,p<c.np->∃i,i<c.ns/\c.fs i=p
theorem E8 {c:Cfg} (h:ZH c=0):CfgGood c:=by
 obtain⟨h1,h2,h3,h4,h5,h6,h7,h8,h9,h10⟩:=Ni h;have a1:=T5 h1;have a2:=T5 h2;have a4:=T5 h4;have a6:=T5 h6;have a8:=T5 h8;unfold Yz at h3;unfold Yb X6 at h5;unfold YA at h7;unfold Y0 at h10
 have b3:Za c.fp c.np c.nodes=true:=by
  split at h3
  . rename_i hh;simp only[Bool.and_eq_true] at hh;exact hh.1
  . cases h3
 split at h5
 . rename_i g5
   simp only[Bool.and_eq_true] at g5
   have b7:(c.nb:Int)=c.nodes:=by
    split at h7
    . assumption
    . cases h7
   have b10:(1<=c.miss/\c.miss<=100)/\(1<=c.good/\c.good<=100)/\(1<=c.fresh/\c.fresh<=100):=by
    split at h10
    . rename_i g;exact absurd h10 g
    . rename_i g
      split at h10
      . rename_i g';exact absurd h10 g'
      . rename_i g'
        exact⟨T5 (by omega),T5 (by omega),T5 h10⟩
   refine⟨a1.1,a1.2,by omega,by omega,by omega,by omega,by omega,by omega,a6.2,b7,by omega,b10.1,b10.2.1,b10.2.2,fun p hp=>?_,fun i hi=>?_,fun p hp=>?_⟩
   . have:=List.all_eq_true.1 b3 p (by simpa using hp)
     simpa using this
   . have:=List.all_eq_true.1 g5.1 i (by simpa using hi)
     simpa using this
   . have:=List.all_eq_true.1 g5.2 p (by simpa using hp)
     obtain⟨i,hi,he⟩:=List.any_eq_true.1 this;exact⟨i,by simpa using hi,by simpa using he⟩
 . cases h5
theorem P1 {c:Cfg} (g:CfgGood c) {nq:Nat} (hq:0<nq) (fq:Nat->Int) (z:Int):0<=ZE c nq fq z↔0<=z/\z<c.np:=by
 constructor
 . exact Nz
 . intro h
   unfold ZE U7;rw[if_neg (by omega),if_pos h];exact(g.fp z.toNat (by omega)).1
theorem Cp {c:Cfg} (h:ZH c=0) {p:Nat} (hp:p<c.np):0<=c.fp p/\c.fp p<c.nodes:=by
 have h3:=(Ni h).2.2.1;unfold Yz at h3;split at h3
 . rename_i hh
   simp only[Bool.and_eq_true] at hh;have:=List.all_eq_true.1 hh.1 p (by simpa using hp);simpa using this
 . cases h3
theorem jjhg {c:Cfg} (h:ZH c=0) {fq:Nat->Int} (p:Nat):ZE c c.nodes.toNat fq (Int.ofNat p)=if p<c.np then c.fp p else -1:=by
 have hn:=jje4 h;unfold ZE U7;rw[if_neg (by omega)];by_cases hp:p<c.np
 . rw[if_pos hp,if_pos (by simp;omega)];rfl
 . rw[if_neg hp,if_neg (by simp;omega)]
theorem EO {c:Cfg} (h:ZH c=0) {fq:Nat->Int} (p:Nat):YG c c.nodes.toNat fq p=decide (p<c.np):=by
 unfold YG;rw[jjhg h];by_cases hp:p<c.np
 . rw[if_pos hp];have:=Cp h hp;simp[hp,this.1]
 . rw[if_neg hp];simp[hp]
theorem IR (f:Nat->Bool) (n:Nat):∀m,n<=m->ZK (fun p=>decide (p<n)&&f p) m=ZK f n
 |0,h=>by
  obtain rfl:n=0:=by omega
  rfl
 |m+1,h=>by
  by_cases e:n=m+1
  . subst e
    exact Sf fun i hi=>by simp[hi]
  . rw[ZK,IR f n m (by omega)]
    have:¬m<n:=by omega
    simp[this]
theorem jji6 (n:Nat):ZK (fun _=>true) n=n:=by
 induction n with
 |zero=>rfl
 |succ n ih=>rw[ZK,ih];rfl
theorem jjlk {c:Cfg} (h:ZH c=0) (l:List AC) (cmd:Int):Xw c (Int.toNat c.nodes) (ZI c (2*c.np)) l cmd=Xg c.np l cmd:=by
 have hp:=An h;unfold Xw Xg
 have e1:Wz c (Int.toNat c.nodes) (ZI c (2*c.np)) l=Of c.np l:=by
  unfold Wz Of;rw[<- IR (fun p=>Zv (l.getD p ZS)) c.np 8 (by omega)];exact Sf fun i _=>by rw[EO h]
 have e2:Tm c (Int.toNat c.nodes) (ZI c (2*c.np))=c.np:=by
  unfold Tm;have h1:=IR (fun _=>true) c.np 8 (by omega);rw[jji6] at h1;refine Eq.trans (Sf fun i _=>?_) h1;rw[EO h];simp
 rw[e1,e2]
theorem L5 (n:Nat) (l:List AC) (cmd:Int):1<=Xg n l cmd/\Xg n l cmd<=4:=DH _ _ _
def VK (c:Cfg) (z:Int):Bool:=decide (0<=z)&&decide (z<c.nt)
def H6 (c:Cfg) (z:Int):Int:=if VK c z=true then (c.ft z.toNat).node else 0
def Om (c:Cfg) (z:Int):Int:=if VK c z=true then (c.ft z.toNat).safe else 0
def Y5 (c:Cfg) (z:Int):Int:=if VK c z=true then (c.ft z.toNat).hold else 0
def XM (c:Cfg) (nq:Nat):Bool:=decide (0<nq)&&(decide (1<=c.np/\1<=c.ns/\1<=c.nb)&&(decide (c.np<=1000)&&(decide (c.ns<=1000)&&(decide (c.nb<=1000)&&decide (c.nt<=1000)))))
def H7:Y3->AV
 |⟨c,_,_,[.c (.v (.int .i64 z))]⟩=>.tup [.agg [.v (.int .i64 (H6 c z)),.v (.int .u32 (Om c z)),.v (.int .i64 (Y5 c z))],bo (VK c z)]
 |_=>i64 0
def On:Y3->Bool
 |⟨c,nq,_,[.c (.v (.int .i64 _))]⟩=>XM c nq
 |_=>false
theorem P9 (c:Cfg) (nq:Nat) (fq:Nat->Int) (z:Int):On ⟨c,nq,fq,[.c (.v (.int .i64 z))]⟩=XM c nq:=rfl
def SF:Yq:=Z9 netRd H7 On
theorem jjc9:ZC prog 69 SF:=by
 refine Te (E:=MJ prog) CB netRd (fuel:=300) (str:=nSt) ⟨_,_,Tryz.func69,rfl⟩ (fun s=>by unfold H7;split<;>rfl) fun s hs=>?_
 unfold On at hs;split at hs
 . rename_i c nq fq z
   simp only[XM,Bool.and_eq_true,decide_eq_true_eq] at hs;refine(?_:(∃p q,Hf (MJ prog) 69 c nq fq [i64 z] p []=some q/\Zp (.tup [.agg [.v (.int .i64 (H6 c z)),.v (.int .u32 (Om c z)),.v (.int .i64 (Y5 c z))],bo (VK c z)]) q)->_) (anSt c nq fq z _ ?_)
   . rintro⟨p,q,h1,h2⟩
     exact⟨p,[],q,h1,h2⟩
   . have hno:¬(0<=z/\z<c.nt)->VK c z=false:=fun h=>by simp[VK];omega
     have hye:(0<=z/\z<c.nt)->VK c z=true:=fun h=>by simp[VK];omega
     (repeat' (first|refine⟨fun h=>?_,fun h=>?_⟩|fail))
     all_goals (refine⟨?_,(by first|(unfold ZQ;omega)|(dsimp only;unfold ZQ;omega)),?_,by simp⟩)
     . have:=hno (by simp at h;omega)
       simp[H6,Om,Y5,this,bo]
     . simp[ZZ,YZ,YU,YT,YO,YE,YF,YW,Zu,Z6]
       simp at h;omega
     . have:=hno (by simp at h;omega)
       simp[H6,Om,Y5,this,bo]
     . simp[ZZ,YZ,YU,YT,YO,YE,YF,YW,Zu,Z6]
       simp at *;omega
     . have:=hye (by simp at *;omega)
       simp[H6,Om,Y5,this,bo,Z4,ZP]
     . simp[ZZ,YZ,YU,YT,YO,YE,YF,YW,Zu,Z6,Yk]
       simp at *;omega
 . cases hs
def Tv:Yq
 | [.c (.v (.int .i64 a)),.c (.v (.int .i64 h))],_,ib=>some (.c (.sl ib 0 0 (YH a h.toNat) none),[(ib,Us a (YH a h.toNat))],1,[decide (0<=h),decide (h<=1000000),decide (-9223372036854775808<=a),decide (a<=9223372036854775807)])
 |_,_,_=>none
theorem jjcb:ZC prog 79 Tv:=by
 refine⟨⟨_,_,Tryz.func79,rfl⟩,fun C β m m2 w args ib r news k' ob vs hct ho hs hr hfree hlim hv=>?_⟩;unfold Tv at hct;split at hct
 . rename_i a h
   simp only[Option.some.injEq,Prod.mk.injEq] at hct;obtain⟨rfl,rfl,rfl,rfl⟩:=hct;simp only[ZZ,List.forall_mem_cons,decide_eq_true_eq] at ho;obtain⟨o1,o2,o3,o4,_⟩:=ho;cases hv;obtain⟨s',r1,r2,r3,r4⟩:=Td (jjgr a h)
   refine(X8 Xk r1 ⟨by rw[r3];simp[ZZ],by
    rw[r4];intro q hq;rw[List.mem_singleton.1 hq]
    exact jjd9 a h _ (by omega) (by omega) o1 o2 o3 o4⟩ (C:=Zx w) (β:=fun _=>none) (w:=w) (vs:=[.int .i64 a,.int .i64 h]) rfl (Sn w) (fun _ _ _=>rfl)).mono ?_
   rintro e w' ⟨β',u,rfl,_,_,hu,hr'⟩;simp only[List.map_cons,List.map_nil,List.cons.injEq,and_true] at r2;obtain⟨L,hL,hb⟩:=hr'.blk 2000 _ r2;have hid:β ib=none:=hfree ib (Nat.le_refl _) (by omega);refine⟨ZR β ib L,u,rfl,Wq hid,fun id h=>?_,?_,?_⟩
   . unfold ZR
     rw[if_neg (by omega)]
   . simp only[γ,γ1,γc,hL] at hu
     simp only[γ,γ1,γc,Wd];exact hu
   . refine Sh hr ⟨hr'.os,hr'.tape,hr'.output,hr'.size,fun b hb=>hr'.out b hb fun h=>h⟩ hid (Wb (by omega)) hr' r2 rfl rfl (fun k j _=>?_) hL
     match j with
     |0=>exact⟨_,rfl⟩
     |j+1=>exact⟨_,rfl⟩
 . cases hct
def N5:List (FuncId × Yq):=[(69,SF),(79,Tv),(78,W6)]
theorem jjhv:∀f g,(f,g)∈N5->ZC prog f g:=by
 intro f g h;simp only[N5,List.mem_cons,Prod.mk.injEq,List.not_mem_nil,or_false] at h;rcases h with⟨rfl,rfl⟩|⟨rfl,rfl⟩|⟨rfl,rfl⟩
 . exact jjc9
 . exact jjcb
 . exact jj8j
def Q7 (P:Program):Env:=⟨P,N5⟩
theorem JK:Zz (Q7 prog):=Xp jjhv (by kernel_rfl) (by kernel_rfl)
abbrev VU (y:Bool) (q u t:Int):AV:=.agg [.v (.bool y),.v (.int .u32 q),.v (.int .u32 u),.v (.int .i64 t)]
abbrev SZ (b:Bool) (t k st q u pr cm rd:Int):AV:=.agg [.v (.bool b),.v (.int .i64 t),.v (.int .u8 k),.v (.int .u8 st),.v (.int .u32 q),.v (.int .u32 u),.v (.int .i64 pr),.v (.int .i64 cm),.v (.int .i64 rd)]
theorem anTk (c:Cfg) (nq:Nat) (fq:Nat->Int) (z:Int) (y:Bool) (q u t:Int) (b:Bool) (dt k st dq du pr cm rd:Int) (Q:VF->Prop) (H:let zN:=Int.ofNat;let zq0:List Bool:=zt (y3 (y3 (((YM c nq fq)::(On (Y3.mk c nq fq [.c (zI z)]))::true::true::[]))));let zq1:List Bool:=true::true::(VK c z==true)::zq0;let zq2:List Bool:=y3 (y3 (((!b)==false)::zq1));let zq3:List Bool:=y3 (true::((k==zN 2)==true)::zq2);let zq4:List Bool:=y3 (y3 (((!IntKind.wrap .i64 st==z)==false)::zq3));let zq5:List Bool:=y3 (true::(decide (cm≥zN 0)==true)::zq4);let zq6:List Bool:=y3 (y3 (((!pr==cm)==false)::zq5));let zq7:List Bool:=true::true::(decide (rd≥zN 0)==true)::zq6;let zq8:List Bool:=y3 (y3 (((!decide (rd<=zN 1099511627776))==false)::zq7));let zq9:List Bool:=y3 (true::((!y)==false)::zq8);let zs0:=fun (l:List AV)=>.agg [zB y,zW q,zW u,zI t]:: .c (zB false)::l;(((VK c z)=true->(((!b)=true->Q (.tup (zs0 []),[],1051,(zt (y3 ((((!b)==true)::zq1)))),[]))/\((!b)=false->(((k==zN 2)=true->(((!IntKind.wrap .i64 st==z)=true->Q (.tup (zs0 []),[],1073,(zt (y3 ((((!IntKind.wrap .i64 st==z)==true)::zq3)))),[]))/\((!IntKind.wrap .i64 st==z)=false->(((decide (cm≥zN 0))=true->(((!pr==cm)=true->Q (.tup (zs0 []),[],1095,(zt (y3 ((((!pr==cm)==true)::zq5)))),[]))/\((!pr==cm)=false->(((decide (rd≥zN 0))=true->(((!decide (rd<=zN 1099511627776))=true->Q (.tup (zs0 []),[],1115,(zt (y3 ((((!decide (rd<=zN 1099511627776))==true)::zq7)))),[]))/\((!decide (rd<=zN 1099511627776))=false->(((!y)=true->Q (.tup [.agg [zB true,zW dq,zW du,zI rd],.c (zB true)],[],1141,(zt (y3 (true::(((!y)==true)::zq8)))),[]))/\((!y)=false->(((!decide (dq>q))=true->Q (.tup (zs0 []),[],1137,(zt (y3 ((((!decide (dq>q))==true)::zq9)))),[]))/\((!decide (dq>q))=false->Q (.tup [.agg [zB true,zW dq,zW du,zI rd],.c (zB true)],[],1146,(zt (y3 (true::(((!decide (dq>q))==false)::zq9)))),[]))))))))/\((decide (rd≥zN 0))=false->Q (.tup (zs0 []),[],1112,(zt (y3 (((decide (rd≥zN 0)==false)::zq6)))),[]))))))/\((decide (cm≥zN 0))=false->Q (.tup (zs0 []),[],1090,(zt (y3 (((decide (cm≥zN 0)==false)::zq4)))),[]))))))/\((k==zN 2)=false->Q (.tup (zs0 []),[],1068,(zt (y3 ((((k==zN 2)==false)::zq2)))),[]))))))/\((VK c z)=false->Q (.tup (zs0 []),[],1048,(zt (y3 (((VK c z==false)::zq0)))),[])))):
 ∃p r,Hf (Q7 prog) 32 c nq fq [i64 z,VU y q u t,SZ b dt k st dq du pr cm rd] p []=some r/\Q r:=
 ZL H (fun g1=>ZL g1 (fun g2=>⟨pD 5 84,_,by kernel_rfl,g2⟩) (fun g2=>ZL g2 (fun g3=>ZL g3 (fun g4=>⟨pD 12 178041,_,by kernel_rfl,g4⟩) (fun g4=>ZL g4 (fun g5=>ZL g5 (fun g6=>⟨pD 19 389370000,_,by kernel_rfl,g6⟩) (fun g6=>ZL g6 (fun g7=>ZL g7 (fun g8=>⟨pD 24 98406753717,_,by kernel_rfl,g8⟩) (fun g8=>ZL g8 (fun g9=>⟨pD 32 1039838541987,_,by kernel_rfl,g9⟩) (fun g9=>ZL g9 (fun g10=>⟨pD 31 207778259246079,_,by kernel_rfl,g10⟩) (fun g10=>⟨pD 32 413669391340728,_,by kernel_rfl,g10⟩)))) (fun g7=>⟨pD 24 7750359291,_,by kernel_rfl,g7⟩))) (fun g5=>⟨pD 19 3543834,_,by kernel_rfl,g5⟩))) (fun g3=>⟨pD 12 1623,_,by kernel_rfl,g3⟩))) (fun g1=>⟨pD 5 6,_,by kernel_rfl,g1⟩)
theorem anOu (c:Cfg) (nq:Nat) (fq:Nat->Int) (z:Int) (y:Bool) (q u t v:Int) (Q:VF->Prop) (H:let zN:=Int.ofNat;let zq0:List Bool:=[true,YM c nq fq,On (Y3.mk c nq fq [.c (zI z)])];let zq1:List Bool:=true::true::((!VK c z)==false)::zq0;let zq2:List Bool:=(decide (0+YH t (Int.toNat (Y5 c z))<=YH t (Int.toNat (Y5 c z))))::(decide (YH t (Int.toNat (Y5 c z))<=1000000))::(Zy (YH t (Int.toNat (Y5 c z))) fun k=>List.map AC.v ((fun i=>[Value.int .i64 (t+zN i)]) k))::(decide (zN 0<=Y5 c z))::(decide (Y5 c z<=zN 1000000))::(decide (Int.negSucc 9223372036854775807<=t))::(decide (t<=zN 9223372036854775807))::y3 (true::(y==true)::zq1);(((!VK c z)=true->Q (.c (zW (zN 0)),[],1014,(((!VK c z)==true)::zq0),[]))/\((!VK c z)=false->((y=true->(((Wm (fun i=>t+zN i) (YH t (Int.toNat (Y5 c z))) v)=true->Q (.c (zW u),[],1027,(true::true::(Wm (fun i=>t+zN i) (YH t (Int.toNat (Y5 c z))) v==true)::zq2),[]))/\((Wm (fun i=>t+zN i) (YH t (Int.toNat (Y5 c z))) v)=false->Q (.c (zW (Om c z)),[],1027,(true::true::(Wm (fun i=>t+zN i) (YH t (Int.toNat (Y5 c z))) v==false)::zq2),[]))))/\(y=false->Q (.c (zW (Om c z)),[],1021,(true::true::(y==false)::zq1),[])))))):
 ∃p r,Hf (Q7 prog) 34 c nq fq [i64 z,VU y q u t,i64 v] p []=some r/\Q r:=
 ZL H (fun g1=>⟨pD 1 1,_,by kernel_rfl,g1⟩) (fun g1=>ZL g1 (fun g2=>ZL g2 (fun g3=>⟨pD 9 6566,_,by kernel_rfl,g3⟩) (fun g3=>⟨pD 9 13127,_,by kernel_rfl,g3⟩)) (fun g2=>⟨pD 9 8,_,by kernel_rfl,g2⟩))
theorem Be (c:Cfg) (z:Int) (y:Bool) (q u t:Int) (b:Bool) (dt k st dq du pr cm rd:Int) (Q:VF->Prop) (H:let zN:=Int.ofNat;let zq0:List Bool:=[true,decide (z<zN 0)==false];let zq1:List Bool:=true::true::(decide (z≥ ↑(c.nt))==false)::zq0;let zq2:List Bool:=true::true::((!b)==false)::zq1;let zq3:List Bool:=true::true::((k !=zN 2)==false)::zq2;let zq4:List Bool:=true::true::((IntKind.wrap .i64 st !=z)==false)::zq3;let zq5:List Bool:=y3 (true::(decide (cm<zN 0)==false)::zq4);let zq6:List Bool:=true::true::((pr !=cm)==false)::zq5;let zq7:List Bool:=true::true::(decide (rd<zN 0)==false)::zq6;let zq8:List Bool:=true::true::(decide (rd>zN 1099511627776)==false)::zq7;let zq9:List Bool:=y3 (true::(y==true)::zq8);let zs0:=fun (l:List AV)=>.agg [zB y,zW q,zW u,zI t]:: .c (zB false)::l;(((decide (z<zN 0))=true->Q (.tup (zs0 []),[],1018,(zt (y3 (((decide (z<zN 0)==true)::[])))),[]))/\((decide (z<zN 0))=false->(((decide (z≥ ↑(c.nt)))=true->Q (.tup (zs0 []),[],1023,(zt (y3 (((decide (z≥ ↑(c.nt))==true)::zq0)))),[]))/\((decide (z≥ ↑(c.nt)))=false->(((!b)=true->Q (.tup (zs0 []),[],1027,(zt (y3 ((((!b)==true)::zq1)))),[]))/\((!b)=false->(((k !=zN 2)=true->Q (.tup (zs0 []),[],1032,(zt (y3 ((((k !=zN 2)==true)::zq2)))),[]))/\((k !=zN 2)=false->(((IntKind.wrap .i64 st !=z)=true->Q (.tup (zs0 []),[],1039,(zt (y3 ((((IntKind.wrap .i64 st !=z)==true)::zq3)))),[]))/\((IntKind.wrap .i64 st !=z)=false->(((decide (cm<zN 0))=true->Q (.tup (zs0 []),[],1048,(zt (y3 (((decide (cm<zN 0)==true)::zq4)))),[]))/\((decide (cm<zN 0))=false->(((pr !=cm)=true->Q (.tup (zs0 []),[],1053,(zt (y3 ((((pr !=cm)==true)::zq5)))),[]))/\((pr !=cm)=false->(((decide (rd<zN 0))=true->Q (.tup (zs0 []),[],1056,(zt (y3 (((decide (rd<zN 0)==true)::zq6)))),[]))/\((decide (rd<zN 0))=false->(((decide (rd>zN 1099511627776))=true->Q (.tup (zs0 []),[],1059,(zt (y3 (((decide (rd>zN 1099511627776)==true)::zq7)))),[]))/\((decide (rd>zN 1099511627776))=false->((y=true->(((decide (dq<=q))=true->Q (.tup (zs0 []),[],1070,(zt (y3 (((decide (dq<=q)==true)::zq9)))),[]))/\((decide (dq<=q))=false->Q (.tup [.agg [zB true,zW dq,zW du,zI rd],.c (zB true)],[],1080,(zt (y3 (true::((decide (dq<=q)==false)::zq9)))),[]))))/\(y=false->Q (.tup [.agg [zB true,zW dq,zW du,zI rd],.c (zB true)],[],1073,(zt (y3 (true::((y==false)::zq8)))),[])))))))))))))))))))))):
 ∃p r,BI (E1 prog) 37 c [i64 z,VU y q u t,SZ b dt k st dq du pr cm rd] p []=some r/\Q r:=
 ZL H (fun g1=>⟨pD 22 1,_,by kernel_rfl,g1⟩) (fun g1=>ZL g1 (fun g2=>⟨pD 22 245,_,by kernel_rfl,g2⟩) (fun g2=>ZL g2 (fun g3=>⟨pD 22 20171,_,by kernel_rfl,g3⟩) (fun g3=>ZL g3 (fun g4=>⟨pD 22 4822823,_,by kernel_rfl,g4⟩) (fun g4=>ZL g4 (fun g5=>⟨pD 22 10469958995,_,by kernel_rfl,g5⟩) (fun g5=>ZL g5 (fun g6=>⟨pD 34 52311371807,_,by kernel_rfl,g6⟩) (fun g6=>ZL g6 (fun g7=>⟨pD 34 7709289916403,_,by kernel_rfl,g7⟩) (fun g7=>ZL g7 (fun g8=>⟨pD 34 221226019496039,_,by kernel_rfl,g8⟩) (fun g8=>ZL g8 (fun g9=>⟨pD 34 5986177718146211,_,by kernel_rfl,g9⟩) (fun g9=>ZL g9 (fun g10=>ZL g10 (fun g11=>⟨pD 42 36501218797155154706,_,by kernel_rfl,g11⟩) (fun g11=>⟨pD 42 72974215174325941109,_,by kernel_rfl,g11⟩)) (fun g10=>⟨pD 42 44899601684034872,_,by kernel_rfl,g10⟩))))))))))
theorem Bd (c:Cfg) (z:Int) (y:Bool) (q u t v:Int) (Q:VF->Prop) (H:let zq0:List Bool:=[true,decide (z<Int.ofNat 0)==false];let zq1:List Bool:=y3 ((ABlk.inb (ABlk.mk false false 85 3 (yT c)) (0+Int.toNat z) 3)::y3 ((decide (Int.ofNat 0<=z/\z < ↑(c.nt)))::true::(decide (z≥ ↑(c.nt))==false)::zq0));let zq2:List Bool:=true::true::(y==true)::zq1;let zq3:List Bool:=y3 (true::(decide (v≥t)==true)::zq2);let ze0:AV:=.c (zW (Station.safe (c.10 (0+Int.toNat z))));(((decide (z<Int.ofNat 0))=true->Q (.c (zW (Int.ofNat 0)),[],1008,[decide (z<Int.ofNat 0)==true],[]))/\((decide (z<Int.ofNat 0))=false->(((decide (z≥ ↑(c.nt)))=true->Q (.c (zW (Int.ofNat 0)),[],1013,((decide (z≥ ↑(c.nt))==true)::zq0),[]))/\((decide (z≥ ↑(c.nt)))=false->((y=true->(((decide (v≥t))=true->(((decide (IntKind.wrap .u64 (IntKind.wrap .u64 v-IntKind.wrap .u64 t)<IntKind.wrap .u64 (Station.hold (c.10 (0+Int.toNat z)))))=true->Q (.c (zW u),[],1042,(true::true::(decide (IntKind.wrap .u64 (IntKind.wrap .u64 v-IntKind.wrap .u64 t)<IntKind.wrap .u64 (Station.hold (c.10 (0+Int.toNat z))))==true)::zq3),[]))/\((decide (IntKind.wrap .u64 (IntKind.wrap .u64 v-IntKind.wrap .u64 t)<IntKind.wrap .u64 (Station.hold (c.10 (0+Int.toNat z)))))=false->Q (ze0,[],1042,(true::true::(decide (IntKind.wrap .u64 (IntKind.wrap .u64 v-IntKind.wrap .u64 t)<IntKind.wrap .u64 (Station.hold (c.10 (0+Int.toNat z))))==false)::zq3),[]))))/\((decide (v≥t))=false->Q (ze0,[],1032,(true::true::(decide (v≥t)==false)::zq2),[]))))/\(y=false->Q (ze0,[],1028,(true::true::(y==false)::zq1),[])))))))):
 ∃p r,BI (E1 prog) 39 c [i64 z,VU y q u t,i64 v] p []=some r/\Q r:=
 ZL H (fun g1=>⟨pD 6 1,_,by kernel_rfl,g1⟩) (fun g1=>ZL g1 (fun g2=>⟨pD 6 245,_,by kernel_rfl,g2⟩) (fun g2=>ZL g2 (fun g3=>ZL g3 (fun g4=>ZL g4 (fun g5=>⟨pD 21 3486844667,_,by kernel_rfl,g5⟩) (fun g5=>⟨pD 21 6973629068,_,by kernel_rfl,g5⟩)) (fun g4=>⟨pD 21 119315,_,by kernel_rfl,g4⟩)) (fun g3=>⟨pD 21 1946,_,by kernel_rfl,g3⟩)))
def Wj (c:Cfg) (z:Int) (y:Bool) (q:Int) (b:Bool) (k st dq pr cm rd:Int):Bool:=VK c z&&(b&&(decide (k=2)&&(decide (IntKind.wrap .i64 st=z)&&(decide (0<=cm)&&(decide (pr=cm)&&(decide (0<=rd)&&(decide (rd<=1099511627776)&&(!y||decide (q<dq)))))))))
def U4 (b:Bool) (x y:Int):Int:=if b=true then x else y
def FR (c:Cfg) (z:Int) (y:Bool) (t v:Int):Bool:=y&&(decide (t<=v)&&decide (v-t<Y5 c z))
def QG (c:Cfg) (z:Int) (y:Bool) (u t v:Int):Int:=if VK c z=true then U4 (FR c z y t v) u (Om c z) else 0
def Yr (c:Cfg):Bool:=(List.range c.nt).all fun i=>decide (1<=(c.ft i).hold/\(c.ft i).hold<=100)
def YK (z:Int):Bool:=decide (-9223372036854775808<=z)&&decide (z<=9223372036854775807)
theorem EN {c:Cfg} (h:Yr c=true) (z:Int):0<=Y5 c z/\Y5 c z<=100:=by
 unfold Y5;split
 . rename_i hz
   simp[VK] at hz;have:=List.all_eq_true.1 h z.toNat (by simp;omega);simp at this;omega
 . omega
theorem I8 {t v:Int} {h:Nat} (h1:v<=9223372036854775807):Wm (fun i=>t+Int.ofNat i) (YH t h) v=(decide (t<=v)&&decide (v-t<h)):=by
 rw[Bool.eq_iff_iff];unfold Wm;rw[List.any_eq_true];constructor
 . rintro⟨i,hi,he⟩
   simp at hi he;unfold YH at hi;simp;omega
 . intro hh
   simp at hh;refine⟨(v-t).toNat,?_,?_⟩
   . simp[YH];omega
   . simp;omega
def Md (c:Cfg) (z:Int):List AV->AV
 | [.agg [.v (.bool y),.v (.int .u32 q),.v (.int .u32 u),.v (.int .i64 t)],.agg [.v (.bool b),.v (.int .i64 _),.v (.int .u8 k),.v (.int .u8 st),.v (.int .u32 dq),.v (.int .u32 du),.v (.int .i64 pr),.v (.int .i64 cm),.v (.int .i64 rd)]]=>
  .tup [.agg [.v (.bool (Wj c z y q b k st dq pr cm rd||y)),.v (.int .u32 (U4 (Wj c z y q b k st dq pr cm rd) dq q)),.v (.int .u32 (U4 (Wj c z y q b k st dq pr cm rd) du u)),.v (.int .i64 (U4 (Wj c z y q b k st dq pr cm rd) rd t))],bo (Wj c z y q b k st dq pr cm rd)]
 |_=>i64 0
def BT:List AV->Bool
 | [.agg [.v (.bool _),.v (.int .u32 _),.v (.int .u32 _),.v (.int .i64 _)],.agg [.v (.bool _),.v (.int .i64 _),.v (.int .u8 _),.v (.int .u8 _),.v (.int .u32 _),.v (.int .u32 _),.v (.int .i64 _),.v (.int .i64 _),.v (.int .i64 _)]]=>true
 |_=>false
def FL:Y3->AV
 |⟨c,_,_,.c (.v (.int .i64 z))::r⟩=>Md c z r
 |_=>i64 0
def LR:Y3->Bool
 |⟨c,nq,_,.c (.v (.int .i64 _))::r⟩=>XM c nq&&BT r
 |_=>false
def Ck:Zf->AV
 |⟨c,.c (.v (.int .i64 z))::r⟩=>Md c z r
 |_=>i64 0
def Cj:Zf->Bool
 |⟨_,.c (.v (.int .i64 _))::r⟩=>BT r
 |_=>false
theorem Do (c:Cfg) (z:Int) (r:List AV):WY (Md c z r)=true:=by unfold Md;split<;>rfl
theorem El {r:List AV} (h:BT r=true):∃y q u t b dt k st dq du pr cm rd,r=[VU y q u t,SZ b dt k st dq du pr cm rd]:=by
 unfold BT at h;split at h
 . exact⟨_,_,_,_,_,_,_,_,_,_,_,_,_,rfl⟩
 . cases h
theorem Fa (c:Cfg) (z:Int) (y:Bool) (q u t:Int) (b:Bool) (dt k st dq du pr cm rd:Int):Md c z [VU y q u t,SZ b dt k st dq du pr cm rd]= .tup [.agg [.v (.bool (Wj c z y q b k st dq pr cm rd||y)),.v (.int .u32 (U4 (Wj c z y q b k st dq pr cm rd) dq q)),.v (.int .u32 (U4 (Wj c z y q b k st dq pr cm rd) du u)),.v (.int .i64 (U4 (Wj c z y q b k st dq pr cm rd) rd t))],bo (Wj c z y q b k st dq pr cm rd)]:=rfl
theorem LJ {c:Cfg} {z:Int} {y:Bool} {q u t:Int} {b:Bool} {dt k st dq du pr cm rd:Int} (h:Wj c z y q b k st dq pr cm rd=false):Md c z [VU y q u t,SZ b dt k st dq du pr cm rd]= .tup [VU y q u t,bo false]:=by
 rw[Fa,h];simp[U4]
theorem LI {c:Cfg} {z:Int} {y:Bool} {q u t:Int} {b:Bool} {dt k st dq du pr cm rd:Int} (h:Wj c z y q b k st dq pr cm rd=true):Md c z [VU y q u t,SZ b dt k st dq du pr cm rd]= .tup [VU true dq du rd,bo true]:=by
 rw[Fa,h];simp[U4]
def N4:Yq:=Z9 netRd FL LR
def PP:Yq:=Z9 Z7 Ck Cj
theorem jjky:ZC prog 32 N4:=by
 refine Te (E:=Q7 prog) JK netRd (fuel:=300) (str:=nSt) ⟨_,_,Tryz.func32,rfl⟩ (fun s=>by unfold FL;split<;>first|exact Do _ _ _|rfl) fun s hs=>?_
 unfold LR at hs;split at hs
 . rename_i c nq fq z r
   rw[Bool.and_eq_true] at hs;obtain⟨y,q,u,t,b,dt,k,st,dq,du,pr,cm,rd,rfl⟩:=El hs.2;refine(?_:(∃p x,Hf (Q7 prog) 32 c nq fq [i64 z,VU y q u t,SZ b dt k st dq du pr cm rd] p []=some x/\Zp (Md c z [VU y q u t,SZ b dt k st dq du pr cm rd]) x)->_) (anTk c nq fq z y q u t b dt k st dq du pr cm rd _ ?_)
   . rintro⟨p,x,h1,h2⟩
     exact⟨p,[],x,h1,h2⟩
   . have h1:=hs.1
     (repeat' (first|refine⟨fun h=>?_,fun h=>?_⟩|fail))
     all_goals (refine⟨?_,(by first|(unfold ZQ;omega)|(dsimp only;unfold ZQ;omega)),?_,by simp⟩)
     all_goals first
      | (have hn:Wj c z y q b k st dq pr cm rd=true:=(by first|(simp_all[Wj];done)|fail)
         rw[LI hn];rfl)
      | (have hn:Wj c z y q b k st dq pr cm rd=true:=(by first|(simp_all[Wj];omega)|fail)
         rw[LI hn];rfl)
      | (have hn:Wj c z y q b k st dq pr cm rd=false:=(by first|(simp_all[Wj];done)|fail)
         rw[LJ hn];rfl)
      | (have hn:Wj c z y q b k st dq pr cm rd=false:=(by first|(simp_all[Wj];intros;exfalso;omega)|fail)
         rw[LJ hn];rfl)
      |(simp_all[ZZ,YZ,YU,YT,YO,YE,YF,P9];done)
      |(simp_all[ZZ,YZ,YU,YT,YO,YE,YF,P9];omega)
 . cases hs
theorem jjhx:ZC prog 37 PP:=by
 refine Te (E:=E1 prog) Xk Z7 (fuel:=300) (str:=nSt) ⟨_,_,Tryz.func37,rfl⟩ (fun s=>by unfold Ck;split<;>first|exact Do _ _ _|rfl) fun s hs=>?_
 unfold Cj at hs;split at hs
 . rename_i c z r
   obtain⟨y,q,u,t,b,dt,k,st,dq,du,pr,cm,rd,rfl⟩:=El hs;refine(?_:(∃p x,BI (E1 prog) 37 c [i64 z,VU y q u t,SZ b dt k st dq du pr cm rd] p []=some x/\Zp (Md c z [VU y q u t,SZ b dt k st dq du pr cm rd]) x)->_) (Be c z y q u t b dt k st dq du pr cm rd _ ?_)
   . rintro⟨p,x,h1,h2⟩
     exact⟨p,[],x,h1,h2⟩
   . (repeat' (first|refine⟨fun h=>?_,fun h=>?_⟩|fail))
     all_goals (refine⟨?_,(by first|(unfold ZQ;omega)|(dsimp only;unfold ZQ;omega)),?_,by simp⟩)
     all_goals first
      | (have hn:Wj c z y q b k st dq pr cm rd=true:=(by first|(simp_all[Wj,VK];done)|fail)
         rw[LI hn];rfl)
      | (have hn:Wj c z y q b k st dq pr cm rd=true:=(by first|(simp_all[Wj,VK];omega)|fail)
         rw[LI hn];rfl)
      | (have hn:Wj c z y q b k st dq pr cm rd=false:=(by first|(simp_all[Wj,VK];done)|fail)
         rw[LJ hn];rfl)
      | (have hn:Wj c z y q b k st dq pr cm rd=false:=(by first|(simp_all[Wj,VK];intros;exfalso;omega)|fail)
         rw[LJ hn];rfl)
      |(simp_all[ZZ,YZ,YU,YT,YO,YE,YF];done)
      |(simp_all[ZZ,YZ,YU,YT,YO,YE,YF];omega)
 . cases hs
def FK:Y3->AV
 |⟨c,_,_,[.c (.v (.int .i64 z)),.agg [.v (.bool y),.v (.int .u32 _),.v (.int .u32 u),.v (.int .i64 t)],.c (.v (.int .i64 v))]⟩=>.c (.v (.int .u32 (QG c z y u t v)))
 |_=>i64 0
def LQ:Y3->Bool
 |⟨c,nq,_,[.c (.v (.int .i64 _)),.agg [.v (.bool _),.v (.int .u32 _),.v (.int .u32 _),.v (.int .i64 t)],.c (.v (.int .i64 v))]⟩=>XM c nq&&(Yr c&&(YK t&&YK v))
 |_=>false
def Cb:Zf->AV
 |⟨c,[.c (.v (.int .i64 z)),.agg [.v (.bool y),.v (.int .u32 _),.v (.int .u32 u),.v (.int .i64 t)],.c (.v (.int .i64 v))]⟩=>.c (.v (.int .u32 (QG c z y u t v)))
 |_=>i64 0
def Kz:Zf->Bool
 |⟨c,[.c (.v (.int .i64 _)),.agg [.v (.bool _),.v (.int .u32 _),.v (.int .u32 _),.v (.int .i64 t)],.c (.v (.int .i64 v))]⟩=>Yr c&&(YK t&&YK v)
 |_=>false
def R8:Yq:=Z9 netRd FK LQ
def SE:Yq:=Z9 Z7 Cb Kz
theorem Ie (x:Int) (h0: -9223372036854775808<=x) (h1:x<=9223372036854775807):IntKind.wrap .u64 x=if 0<=x then x else x+18446744073709551616:=by
 simp only[IntKind.wrap,IntKind.bits,IntKind.signed]
 first|omega|(simp;split<;>omega)
theorem jjd2 (x:Int) (h0: -18446744073709551616<=x) (h1:x<18446744073709551616):IntKind.wrap .u64 x=if 0<=x then x else x+18446744073709551616:=by
 simp only[IntKind.wrap,IntKind.bits,IntKind.signed]
 first|omega|(simp;split<;>omega)
theorem Ex {c:Cfg} {z:Int} {y:Bool} {u t v:Int} (h:VK c z=false):QG c z y u t v=0:=by simp[QG,h]
theorem LK {c:Cfg} {z:Int} {y:Bool} {u t v:Int} (h:VK c z=true) (h2:¬(y=true/\t<=v/\v-t<Y5 c z)):QG c z y u t v=Om c z:=by
 have:FR c z y t v=false:=by
  cases y
  . rfl
  . simp only[true_and] at h2
    simp[FR];omega
 simp[QG,h,this,U4]
theorem JZ {c:Cfg} {z:Int} {y:Bool} {u t v:Int} (h:VK c z=true) (h2:y=true/\t<=v/\v-t<Y5 c z):QG c z y u t v=u:=by
 have:FR c z y t v=true:=by
  obtain⟨rfl,g⟩:=h2;simp[FR];omega
 simp[QG,h,this,U4]
theorem jje2:ZC prog 34 R8:=by
 refine Te (E:=Q7 prog) JK netRd (fuel:=300) (str:=nSt) ⟨_,_,Tryz.func34,rfl⟩ (fun s=>by unfold FK;split<;>rfl) fun s hs=>?_
 unfold LQ at hs;split at hs
 . rename_i c nq fq z y q u t v
   simp only[YK,Bool.and_eq_true,decide_eq_true_eq] at hs;obtain⟨h1,h2,⟨t0,t1⟩,v0,v1⟩:=hs;obtain⟨g0,g1⟩:=EN h2 z;refine(?_:(∃p x,Hf (Q7 prog) 34 c nq fq [i64 z,VU y q u t,i64 v] p []=some x/\Zp (.c (.v (.int .u32 (QG c z y u t v)))) x)->_) (anOu c nq fq z y q u t v _ ?_)
   . rintro⟨p,x,h1,h2⟩
     exact⟨p,[],x,h1,h2⟩
   . simp only[I8 v1]
     have hl:YH t (Y5 c z).toNat<=1000000:=by unfold YH;omega
     have eh:(((Y5 c z).toNat:Nat):Int)=Y5 c z:=Int.toNat_of_nonneg g0;simp only[eh];have hb:∀x,(decide (t<=v)&&decide (v-t<x))=true↔t<=v/\v-t<x:=fun x=>by simp
     have hb2:∀x,(decide (t<=v)&&decide (v-t<x))=false↔¬(t<=v/\v-t<x):=fun x=>by rw[<- hb];simp
     simp only[hb,hb2]
     (repeat' (first|refine⟨fun h=>?_,fun h=>?_⟩|fail))
     all_goals (refine⟨?_,(by first|(unfold ZQ;omega)|(dsimp only;unfold ZQ;omega)),?_,by simp⟩)
     . simp at h
       rw[Ex h];rfl
     . simp_all[ZZ,YZ,YU,YT,YO,YE,YF,P9]
     . rename_i g1 g2
       simp at g1;rw[JZ g1 ⟨g2,h⟩]
     . rename_i g1 g2
       simp only[ZZ,List.forall_mem_cons];simp_all[YZ,YU,YT,YO,YE,YF,P9,Z6,I8 v1]
       try omega
     . rename_i g1 g2
       simp at g1;rw[LK g1 (fun e=>h e.2)]
     . rename_i g1 g2
       simp only[ZZ,List.forall_mem_cons];simp_all[YZ,YU,YT,YO,YE,YF,P9,Z6,I8 v1]
       try omega
     . rename_i g1
       simp at g1;rw[LK g1 (fun e=>by rw[h] at e;exact absurd e.1 (by simp))]
     . rename_i g1
       simp only[ZZ,List.forall_mem_cons];simp_all[YZ,YU,YT,YO,YE,YF,P9]
 . cases hs
theorem jjca:ZC prog 39 SE:=by
 refine Te (E:=E1 prog) Xk Z7 (fuel:=300) (str:=nSt) ⟨_,_,Tryz.func39,rfl⟩ (fun s=>by unfold Cb;split<;>rfl) fun s hs=>?_
 unfold Kz at hs;split at hs
 . rename_i c z y q u t v
   simp only[YK,Bool.and_eq_true,decide_eq_true_eq] at hs;obtain⟨h2,⟨t0,t1⟩,v0,v1⟩:=hs;obtain⟨g0,g1⟩:=EN h2 z;refine(?_:(∃p x,BI (E1 prog) 39 c [i64 z,VU y q u t,i64 v] p []=some x/\Zp (.c (.v (.int .u32 (QG c z y u t v)))) x)->_) (Bd c z y q u t v _ ?_)
   . rintro⟨p,x,h1,h2⟩
     exact⟨p,[],x,h1,h2⟩
   . have hd:t<=v->IntKind.wrap .u64 (IntKind.wrap .u64 v-IntKind.wrap .u64 t)=v-t:=fun h=>by
      rw[Ie v v0 v1,Ie t t0 t1];rw[jjd2 _ (by (repeat' split)<;>omega) (by (repeat' split)<;>omega)]
      repeat' split
      all_goals omega
     have hs1:0<=z->z<c.nt->VK c z=true/\Y5 c z=(c.ft (0+z.toNat)).hold/\Om c z=(c.ft (0+z.toNat)).safe:=fun a b=>by
      have:VK c z=true:=by simp[VK];omega
      simp[Y5,Om,this]
     have hs0:¬(0<=z/\z<c.nt)->VK c z=false:=fun h=>by simp[VK];omega
     have hh:0<=z->z<c.nt->IntKind.wrap .u64 (c.ft (0+z.toNat)).hold=Y5 c z:=fun a b=>by
      obtain⟨_,e,_⟩:=hs1 a b;rw[<- e,Ie _ (by omega) (by omega),if_pos g0]
     (repeat' (first|refine⟨fun h=>?_,fun h=>?_⟩|fail))
     all_goals (simp only[decide_eq_true_eq,decide_eq_false_iff_not,Int.ofNat_eq_natCast,Int.cast_ofNat_Int,gt_iff_lt,ge_iff_le] at *)
     all_goals (refine⟨?_,(by first|(unfold ZQ;omega)|(dsimp only;unfold ZQ;omega)),?_,by simp⟩)
     all_goals first
      | (have e:=hs0 (by omega)
         rw[Ex e];done)
      | (obtain⟨e1,e2,e3⟩:=hs1 (by omega) (by omega)
         have hv:t<=v:=(by omega)
         have e4:=hh (by omega) (by omega);have e5:=hd (by omega);have e6:v-t<Y5 c z:=(by rw[e4,e5] at *;omega)
         rw[JZ e1 ⟨by assumption,hv,e6⟩];done)
      | (obtain⟨e1,e2,e3⟩:=hs1 (by omega) (by omega)
         have e4:=hh (by omega) (by omega)
         have e7:¬(y=true/\t<=v/\v-t<Y5 c z):=(by
          rintro⟨k1,k2,k3⟩;have e5:=hd k2;rw[e4,e5] at *
          first|omega|(simp_all;done))
         rw[LK e1 e7,e3];done)
      | (obtain⟨e1,e2,e3⟩:=hs1 (by omega) (by omega)
         have e7:¬(y=true/\t<=v/\v-t<Y5 c z):=(by
          rintro⟨k1,k2,k3⟩
          first|omega|(simp_all;done))
         rw[LK e1 e7,e3];done)
      |(simp only[ZZ,List.forall_mem_cons];simp_all[YZ,YU,YT,YO,YE,YF,Z6];done)
      |(simp only[ZZ,List.forall_mem_cons];simp_all[YZ,YU,YT,YO,YE,YF,Z6];omega)
 . cases hs
def B8:Zf->AV
 |⟨c,[.agg l]⟩=>bo (X4 c.np l)
 |_=>bo false
def Ox:Zf->Bool
 |⟨c,[.agg l]⟩=>Yx l&&(Vy l&&decide (c.np<=8))
 |_=>false
theorem NI (c:Cfg) (l:List AC):Ox ⟨c,[.agg l]⟩=(Yx l&&(Vy l&&decide (c.np<=8))):=rfl
theorem EV {P:Program} {f:FuncId} {R R':Zf->AV} {p p':Zf->Bool} (h:ZC P f (Z9 Z7 R p)) (hR:∀s,R' s=R s) (hp:∀s,p' s=p s):ZC P f (Z9 Z7 R' p'):=by
 obtain rfl:R'=R:=funext hR;obtain rfl:p'=p:=funext hp;exact h
theorem Cf:ZC prog 27 (Z9 Z7 B8 Ox):=EV jjl4 (fun s=>by unfold B8;rfl) (fun s=>by unfold Ox;rfl)
theorem jjns {c:Cfg} (g:CfgGood c) {nq:Nat} (hq:0<nq) (fq:Nat->Int):YG c nq fq=QE c.np:=by
 funext p;unfold YG QE;have:=P1 g hq fq (Int.ofNat p);simp only[Int.ofNat_eq_natCast] at this ⊢;by_cases h:p<c.np
 . rw[decide_eq_true h,decide_eq_true (this.2 (by omega))]
 . rw[decide_eq_false h,decide_eq_false (fun x=>h (by have:=this.1 x;omega))]
theorem J3 {c:Cfg} (g:CfgGood c) {nq:Nat} (hq:0<nq) (fq:Nat->Int) {v:Vw} (hv:v.Ok):UK c nq fq (ZW v)=X4 c.np (ZW v):=by
 have e1:X4 c.np (ZW v)=(SS c.np v.command v.mode&&Vt (QE c.np) (ZW v)):=rfl;rw[jjk0,e1,jjns g hq];congr 1
 have hp:PK c nq=true:=by
  have:=g.s1;have:=g.s16;have:=g.n4;have:=g.n16;have:=g.l1;have:=g.l4;simp[PK];omega
 obtain⟨e,r1,_⟩:=jji7 hp
 have w:IntKind.wrap .i64 v.command=v.command:=by
  have:=hv.command;exact XG _ (by omega) (by omega)
 have hh:=P1 g hq fq v.command;unfold QC SS;rw[e,w,decide_eq_true (show (c.ns:Int)*c.long≠0 by omega),Bool.true_and];by_cases h: -1<=v.command
 . rw[decide_eq_true h,Bool.true_and,Bool.true_and]
   congr 1;by_cases h1:v.command<c.np
   . rw[decide_eq_true h1]
     by_cases h2:v.command<0
     . rw[decide_eq_true h2];rfl
     . rw[decide_eq_true (hh.2 ⟨by omega,h1⟩)];simp
   . have:=g.p2
     rw[decide_eq_false h1,decide_eq_false (fun x=>by omega),decide_eq_false (fun x=>h1 (hh.1 x).2)];rfl
 . rw[decide_eq_false h];rfl
def B7:Zf->AV
 |⟨c,[.agg l,.c (.v (.int .i64 z))]⟩=>.agg (Re (decide (0<=z/\z<c.np)) z l)
 |_=>i64 0
def M5:Zf->Bool
 |⟨c,[.agg l,.c (.v (.int .i64 _))]⟩=>Yx l&&decide (c.np<=8)
 |_=>false
theorem Ce:ZC prog 36 (Z9 Z7 B7 M5):=EV jjl5 (fun s=>by unfold B7;rfl) (fun s=>by unfold M5;rfl)
theorem Eg {β:Nm}:∀{xs ys:List AV} {us vs:List Value},γt β xs=some us->γt β ys=some vs->γt β (xs++ys)=some (us++vs)
 | [],ys,us,vs,h1,h2=>by cases h1;exact h2
 |x::xs,ys,us,vs,h1,h2=>by
  simp only[γt] at h1;split at h1
  . rename_i v us' e1 e2
    cases h1;simp only[List.cons_append,γt,e1,Eg e2 h2]
  . cases h1
end Go.Proofs.YtodpbgbpifiniaaGreatDoor
end
section
namespace Go.Proofs.YtodpbgbpifiniaaGreatDoor
open Go.RowKit Tryz Go.WideShapes Go.ChangeShapes
def ZO.ks:List (Option IntKind):=(none::(some .u32::(some .u32::(some .i64::[]))))
def ZO.zero:ZO:=⟨false,0,0,0⟩
def ZO.Ok (x:ZO):Prop:=(0<=x.seq/\x.seq<=4294967295)/\(0<=x.val/\x.val<=4294967295)/\OE x.rnd
theorem ZO.len (x:ZO):x.cells.length=4:=rfl
theorem ZO.of_flat {cs:List Value} (h0:Flat ZO.ks cs):∃x:ZO,x.Ok/\cs=x.cells:=by
 obtain⟨c0,r0,rfl,⟨v0,rfl⟩,h1⟩:=h0.uncons;obtain⟨c1,r1,rfl,⟨v1,rfl,w1⟩,h2⟩:=h1.uncons;obtain⟨c2,r2,rfl,⟨v2,rfl,w2⟩,h3⟩:=h2.uncons;obtain⟨c3,r3,rfl,⟨v3,rfl,w3⟩,h4⟩:=h3.uncons;obtain rfl:=h4.unnil;exact⟨⟨v0,v1,v2,v3⟩,⟨bounds_u32 w1,bounds_u32 w2,bounds_i64 w3⟩,rfl⟩
section
set_option maxRecDepth 100000
variable {H:Type} {enc:TypeId × Value->H} {w:World}
theorem jjk2 {r:Go.Reach} {b0 fuel:Nat} {v:Value} {x:DataW H × List MemPlace} (hv:Cell.okWide prog w r b0 33 v) (h:DataW.trod enc prog w 0 (fun _=>true) true fuel 33 [v]=some x):
 ∃(n:Nat) (f:Nat->ZO),n<=9223372036854775807/\(∀i,(f i).Ok)/\WJ w 4 n (fun i=>[.bool (f i).any,.int .u32 (f i).seq,.int .u32 (f i).val,.int .i64 (f i).rnd]) v:=by
 have hv':Value.okWide prog w r b0 33 v:=by simp only[Value.okWide,Tryz.underlying33];exact hv
 obtain⟨A,len,cap,rfl⟩:=okWide_slice Tryz.underlying33 hv';obtain⟨A',n,c,l,he,h1,h2,h3,h4,h5,h6⟩:=KS (m:=9) (C:=4) Tryz.underlying33 ZO.cells ZO.Ok ZO.len (ks:=ZO.ks) (by kernel_rfl) (by kernel_rfl) (fun _ h=>ZO.of_flat h) (by omega) hv' ⟨fuel,h⟩;cases he;refine⟨len,fun i=>l.getD i ZO.zero,?_,IJ (by simp[ZO.Ok,ZO.zero,OE]) h6,Li (cells:=ZO.cells) (C:=4) (by omega) (fun _=>rfl) (fun _=>rfl) ZO.zero h3 h4 h5⟩;unfold maxLen at h2;omega
theorem jjbj {r:Go.Reach} {b0:Nat} {v:Value} {d:DataW H} {p:List MemPlace} (hv:Value.okWide prog w r b0 35 v) (h:DataW.Trod enc prog w 0 (fun _=>true) true 35 v d p):
 ∃(z:Int) (x:View) (m:Nat) (S:Nat->ZO) (s:Value),v= .agg (.int .i64 z::(x.cells++[s])).toArray/\x.Ok/\m<=9223372036854775807/\(∀i,(S i).Ok)/\WJ w 4 m (fun i=>[.bool (S i).any,.int .u32 (S i).seq,.int .u32 (S i).val,.int .i64 (S i).rnd]) s:=by
 simp only[Value.okWide,Tryz.underlying35] at hv;obtain⟨cs,rfl,hsz,ts,hts,_,hcell⟩:=hv;have hts':(Tryz.prog.cellTypes Tryz.prog.depth 35).bind (fun l=>l[43]?)=some 33:=by kernel_rfl
 have htn:(Tryz.prog.cellTypes Tryz.prog.depth 35).map List.length=some 44:=by kernel_rfl
 rw[hts] at hts' htn;replace hts':ts[43]? =some 33:=hts';replace htn:ts.length=44:=Option.some.inj htn;obtain⟨fuel,hf⟩:=h;obtain⟨xs,n,rfl,hx,hl,hxl,hfl⟩:=DataW.trod_struct Tryz.underlying35 hf
 have hl2:cs.toList.length=44:=by
  simp only[Value.cells] at hl;rw[hl];kernel_rfl
 obtain⟨l,rfl⟩:∃l:List Value,cs=l.toArray:=⟨cs.toList,by simp⟩
 simp only[Value.cells] at hfl hl2;have hx3:xs.length=3:=hxl
 match xs,hx3 with
 | [x0,x1,x2],_=>
  have c1:Tryz.prog.cellsOf 2=1:=by kernel_rfl
  have c2:Tryz.prog.cellsOf 32=42:=by kernel_rfl
  have c3:Tryz.prog.cellsOf 33=1:=by kernel_rfl
  have e0:=hfl 0 _ rfl;have e1:=hfl 1 _ rfl;have e2:=hfl 2 _ rfl;simp only[c1,c2,c3,List.getElem?_cons_zero,List.getElem?_cons_succ] at e0 e1 e2
  match l,hl2 with
  | a0::l,hl2=>
   replace e0:DataW.trod enc prog w 0 (fun _=>true) true n 2 [a0]=some x0:=e0;obtain⟨z0,q0,_,w0⟩:=DataW.trod_int Tryz.underlying2 e0;cases q0;replace e1:DataW.trod enc prog w 0 (fun _=>true) true n 32 (l.take 42)=some x1:=e1;replace e2:DataW.trod enc prog w 0 (fun _=>true) true n 33 ((l.drop 42).take 1)=some x2:=e2;obtain⟨x,ox,hxc⟩:=View.of_flat (KZ _ _ _ _ _ View.ks (show YS prog 9 32=some View.ks by kernel_rfl) e1);have hl43:l.length=43:=by simpa using hl2
   obtain⟨s,hs⟩:=List.length_eq_one_iff.1 (show (l.drop 42).length=1 by rw[List.length_drop,hl43]);have hl':l=x.cells++[s]:=by rw[<- hxc,<- hs,List.take_append_drop]
   rw[hs] at e2
   have hget:(Value.int .i64 z0::l).toArray[43]? =some s:=by
    have:l[42]? =some s:=by
     rw[hl',List.getElem?_append_right (by rw[View.len];exact Nat.le_refl _),View.len];rfl
    simpa using this
   obtain⟨u1,t1,k1⟩:=hcell 43 s hget;rw[htn] at t1;rw[hts'] at t1;cases t1;obtain⟨m,S,g1,o1,i1⟩:=jjk2 k1 e2;exact⟨z0,x,m,S,s,by rw[hl'],ox,g1,o1,i1⟩
end
def At (E:Env) (f:FuncId) (G:AMem) (c:Cfg) (r:List AV) (ty sz n:Nat) (F:Nat->List Value) (ty' sz' n':Nat) (F':Nat->List Value) (path:List Dec) (lp:List (Option Zh)):Option VF:=ZB [] (ZJ E (fC E 300) f (.agg (Yi c)::(r++[.c (.sl 5 0 0 n' none)])) 10 nSt (Y7 (G++MQ c++[(4,XH ty sz n F),(5,XH ty' sz' n' F')]) path lp))
theorem E7 {E:Env} (hE:Zz E) {f:FuncId} {G:AMem} {w:World} (hG:∀p∈G,W2 w p) {c:Cfg} {cs:List Value} (hc:PF w c cs) {ty sz n:Nat} {F:Nat->List Value} {v:Value} (hl:WJ w sz n F v) {ty' sz' n':Nat} {F':Nat->List Value} {v':Value} (hl':WJ w sz' n' F' v') {r:List AV} {us:List Value} (hr:∀β,γc β (.sl 4 0 0 n none)=some v->γt β r=some us)
 (run:∃p lp q,At E f G c r ty sz n F ty' sz' n' F' p lp=some q/\Zp (bo true) q):Calls E.P f (.agg cs.toArray::(us++[v'])).toArray w fun e w'=>e= .returned (.bool true)/\Below w.heap.size w w':=by
 obtain⟨p,lp,⟨x,b',n1,ob,po⟩,hrun,hv,hn,hob,hpo⟩:=run;obtain⟨s',r1,r2,r3,r4⟩:=Td hrun;obtain⟨β,q1,q2,q3,q4⟩:=jjdd hG hc;have hn:n1<=ZQ:=hn;obtain⟨L,t1,t0,t2⟩:=Pa q1 q3 (id:=4) (q4 4 (by omega) (by unfold ZQ;omega)) (Wb (by unfold ZQ;omega)) hl ty;have h5:ZR β 4 L 5=none:=by unfold ZR;rw[if_neg (by omega)];exact q4 5 (by omega) (by unfold ZQ;omega)
 obtain⟨L',t1',_,t2'⟩:=Pa t1 t0 (id:=5) h5 (Wb (by unfold ZQ;omega)) hl' ty';simp only[List.append_assoc,List.cons_append,List.nil_append] at t1';rw[List.append_assoc] at r1;refine(X8 hE r1 ⟨by rw[r3];exact hob,by rw[r4];exact hpo⟩ (C:=Zx w) (β:=ZR (ZR β 4 L) 5 L') (w:=w) (vs:=.agg cs.toArray::(us++[v'])) ?_ t1' (fun id h1 h2=>?_)).mono ?_
 . have e0:=t2 (ZR (ZR β 4 L) 5 L') (by simp[ZR])
   have e1:=t2' (ZR (ZR β 4 L) 5 L') (by simp[ZR])
   have e2:γs (ZR (ZR β 4 L) 5 L') (Yi c)=some cs:=by
    refine Lm (fun id l h=>?_) q2;have a4:id≠4:=fun e=>by rw[e,q4 4 (by omega) (by unfold ZQ;omega)] at h;cases h
    have a5:id≠5:=fun e=>by rw[e,q4 5 (by omega) (by unfold ZQ;omega)] at h;cases h
    simp only[ZR,a4,a5,if_false];exact h
   have e3:γt (ZR (ZR β 4 L) 5 L') [.c (.sl 5 0 0 n' none)]=some [v']:=by simp only[γt,γ1,e1]
   simp only[γt,γ1,e2,Eg (hr _ e0) e3]
 . have a4:id≠4:=by omega
   have a5:id≠5:=by omega
   simp only[ZR,a4,a5,if_false];exact q4 id (by omega) (by omega)
 . rintro e w' ⟨β',u,rfl,_,_,hu,hr'⟩
   simp only at hv;subst hv;cases hu;exact⟨rfl,Sr hr'⟩
end Go.Proofs.YtodpbgbpifiniaaGreatDoor
end
