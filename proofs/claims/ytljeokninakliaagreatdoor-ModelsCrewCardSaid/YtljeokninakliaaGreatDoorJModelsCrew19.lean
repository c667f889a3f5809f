/- Parts, one behind the other. Parts of a proof. -/
import Derived.Test.YtljeokninakliaaGreatDoorJModelsCrew18
import Derived.Test.YtljeokninakliaaGreatDoorJModelsCrew15
import Derived.Test.YtljeokninakliaaGreatDoorJModelsCrew9
import Derived.Test.YtljeokninakliaaGreatDoorJModelsCrew16
set_option linter.unusedSimpArgs false
set_option linter.unusedVariables false
set_option maxRecDepth 1000000
section
namespace Go.Proofs.YtljeokninakliaaGreatDoor
open Go.RowKit Tryz
theorem Cx {c:Cfg} (h:Zu c=0):X7 c=0/\WS c=0/\XB c=0/\WT c=0/\Xk c=0/\Wv c=0/\Xl c=0/\WU c=0/\XC c=0/\Xj c=0:=by
 unfold Zu at h;generalize X7 c=x1 at *;generalize WS c=x2 at *;generalize XB c=x3 at *;generalize WT c=x4 at *;generalize Xk c=x5 at *;generalize Wv c=x6 at *;generalize Xl c=x7 at *;generalize WU c=x8 at *;generalize XC c=x9 at *;generalize Xj c=x10 at *;by_cases h1:x1=0<;>by_cases h2:x2=0<;>by_cases h3:x3=0<;>by_cases h4:x4=0<;>by_cases h5:x5=0<;>by_cases h6:x6=0<;>by_cases h7:x7=0<;>by_cases h8:x8=0<;>by_cases h9:x9=0<;>simp_all
def TP (c:Cfg) (z:Int):Bool:=decide (0<=z)&&decide (z<c.nt)
def Gs (c:Cfg) (z:Int):Int:=if TP c z=true then (c.ft z.toNat).node else 0
def Ml (c:Cfg) (z:Int):Int:=if TP c z=true then (c.ft z.toNat).safe else 0
def Xy (c:Cfg) (z:Int):Int:=if TP c z=true then (c.ft z.toNat).hold else 0
def YA (c:Cfg) (nq:Nat):Bool:=decide (0<nq)&&(decide (1<=c.np/\1<=c.ns/\1<=c.nb)&&(decide (c.np<=1000)&&(decide (c.ns<=1000)&&(decide (c.nb<=1000)&&decide (c.nt<=1000)))))
def Gt:YF->AV
 |⟨c,_,_,[.c (.v (.int .i64 z))]⟩=>.tup [.agg [.v (.int .i64 (Gs c z)),.v (.int .u32 (Ml c z)),.v (.int .i64 (Xy c z))],bo (TP c z)]
 |_=>i64 0
def Oq:YF->Bool
 |⟨c,nq,_,[.c (.v (.int .i64 _))]⟩=>YA c nq
 |_=>false
theorem Pb (c:Cfg) (nq:Nat) (fq:Nat->Int) (z:Int):Oq ⟨c,nq,fq,[.c (.v (.int .i64 z))]⟩=YA c nq:=rfl
def SC:Yk:=Y9 netRd Gt Oq
theorem jjeo:ZA prog 72 SC:=by
 refine U3 (E:=MI prog) BZ netRd (fuel:=300) (str:=nSt) ⟨_,_,Tryz.func72,rfl⟩ (fun s=>by unfold Gt;split<;>rfl) fun s hs=>?_
 unfold Oq at hs;split at hs
 . rename_i c nq fq z
   simp only[YA,Bool.and_eq_true,decide_eq_true_eq] at hs;refine(?_:(∃p q,JX (MI prog) 72 c nq fq [i64 z] p []=some q/\Z6 (.tup [.agg [.v (.int .i64 (Gs c z)),.v (.int .u32 (Ml c z)),.v (.int .i64 (Xy c z))],bo (TP c z)]) q)->_) (anSt c nq fq z _ ?_)
   . rintro⟨p,q,h1,h2⟩
     exact⟨p,[],q,h1,h2⟩
   . have hno:¬(0<=z/\z<c.nt)->TP c z=false:=fun h=>by simp[TP];omega
     have hye:(0<=z/\z<c.nt)->TP c z=true:=fun h=>by simp[TP];omega
     (repeat' (first|refine⟨fun h=>?_,fun h=>?_⟩|fail))
     all_goals (refine⟨?_,(by first|(unfold ZR;omega)|(dsimp only;unfold ZR;omega)),?_,by simp⟩)
     . have:=hno (by simp at h;omega)
       simp[Gs,Ml,Xy,this,bo]
     . simp[ZZ,Yb,YN,Yi,Ya,XZ,Y0,YR,Zt,YK]
       simp at h;omega
     . have:=hno (by simp at h;omega)
       simp[Gs,Ml,Xy,this,bo]
     . simp[ZZ,Yb,YN,Yi,Ya,XZ,Y0,YR,Zt,YK]
       simp at *;omega
     . have:=hye (by simp at *;omega)
       simp[Gs,Ml,Xy,this,bo,YY,ZP]
     . simp[ZZ,Yb,YN,Yi,Ya,XZ,Y0,YR,Zt,YK,WI]
       simp at *;omega
 . cases hs
def To:Yk
 | [.c (.v (.int .i64 a)),.c (.v (.int .i64 h))],_,ib=>some (.c (.sl ib 0 0 (YP a h.toNat) none),[(ib,Un a (YP a h.toNat))],1,[decide (0<=h),decide (h<=1000000),decide (-9223372036854775808<=a),decide (a<=9223372036854775807)])
 |_,_,_=>none
theorem jjep:ZA prog 79 To:=by
 refine⟨⟨_,_,Tryz.func79,rfl⟩,fun C β m m2 w args ib r news k' ob vs hct ho hs hr hfree hlim hv=>?_⟩;unfold To at hct;split at hct
 . rename_i a h
   simp only[Option.some.injEq,Prod.mk.injEq] at hct;obtain⟨rfl,rfl,rfl,rfl⟩:=hct;simp only[ZZ,List.forall_mem_cons,decide_eq_true_eq] at ho;obtain⟨o1,o2,o3,o4,_⟩:=ho;cases hv;obtain⟨s',r1,r2,r3,r4⟩:=T7 (jjjh a h)
   refine(Xa Vk r1 ⟨by rw[r3];simp[ZZ],by
    rw[r4];intro q hq;rw[List.mem_singleton.1 hq]
    exact jjfx a h _ (by omega) (by omega) o1 o2 o3 o4⟩ (C:=ZG w) (β:=fun _=>none) (w:=w) (vs:=[.int .i64 a,.int .i64 h]) rfl (Se w) (fun _ _ _=>rfl)).mono ?_
   rintro e w' ⟨β',u,rfl,_,_,hu,hr'⟩;simp only[List.map_cons,List.map_nil,List.cons.injEq,and_true] at r2;obtain⟨L,hL,hb⟩:=hr'.blk 2000 _ r2;have hid:β ib=none:=hfree ib (Nat.le_refl _) (by omega);refine⟨ZU β ib L,u,rfl,Wq hid,fun id h=>?_,?_,?_⟩
   . unfold ZU
     rw[if_neg (by omega)]
   . simp only[γ,γ1,γc,hL] at hu
     simp only[γ,γ1,γc,W9];exact hu
   . refine S8 hr ⟨hr'.os,hr'.tape,hr'.output,hr'.size,fun b hb=>hr'.out b hb fun h=>h⟩ hid (W8 (by omega)) hr' r2 rfl rfl (fun k j _=>?_) hL
     match j with
     |0=>exact⟨_,rfl⟩
     |j+1=>exact⟨_,rfl⟩
 . cases hct
def N4:List (FuncId × Yk):=[(72,SC),(79,To),(78,VV)]
theorem jjki:∀f g,(f,g)∈N4->ZA prog f g:=by
 intro f g h;simp only[N4,List.mem_cons,Prod.mk.injEq,List.not_mem_nil,or_false] at h;rcases h with⟨rfl,rfl⟩|⟨rfl,rfl⟩|⟨rfl,rfl⟩
 . exact jjeo
 . exact jjep
 . exact jjac
def Q5 (P:Program):Env:=⟨P,N4⟩
theorem JN:ZC (Q5 prog):=Xf jjki (by kernel_rfl) (by kernel_rfl)
abbrev TQ (y:Bool) (q u t:Int):AV:=.agg [.v (.bool y),.v (.int .u32 q),.v (.int .u32 u),.v (.int .i64 t)]
abbrev Qi (b:Bool) (t k st q u pr cm rd:Int):AV:=.agg [.v (.bool b),.v (.int .i64 t),.v (.int .u8 k),.v (.int .u8 st),.v (.int .u32 q),.v (.int .u32 u),.v (.int .i64 pr),.v (.int .i64 cm),.v (.int .i64 rd)]
theorem anTk (c:Cfg) (nq:Nat) (fq:Nat->Int) (z:Int) (y:Bool) (q u t:Int) (b:Bool) (dt k st dq du pr cm rd:Int) (Q:VF->Prop) (H:let zN:=Int.ofNat;let zq0:List Bool:=zt (y3 (y3 (((Zf c nq fq)::(Oq (YF.mk c nq fq [.c (zI z)]))::true::true::[]))));let zq1:List Bool:=true::true::(TP c z==true)::zq0;let zq2:List Bool:=y3 (y3 (((!b)==false)::zq1));let zq3:List Bool:=y3 (true::((k==zN 2)==true)::zq2);let zq4:List Bool:=y3 (y3 (((!IntKind.wrap .i64 st==z)==false)::zq3));let zq5:List Bool:=y3 (true::(decide (cm≥zN 0)==true)::zq4);let zq6:List Bool:=y3 (y3 (((!pr==cm)==false)::zq5));let zq7:List Bool:=true::true::(decide (rd≥zN 0)==true)::zq6;let zq8:List Bool:=y3 (y3 (((!decide (rd<=zN 1099511627776))==false)::zq7));let zq9:List Bool:=y3 (true::((!y)==false)::zq8);let zs0:=fun (l:List AV)=>.agg [zB y,zW q,zW u,zI t]:: .c (zB false)::l;(((TP c z)=true->(((!b)=true->Q (.tup (zs0 []),[],1051,(zt (y3 ((((!b)==true)::zq1)))),[]))/\((!b)=false->(((k==zN 2)=true->(((!IntKind.wrap .i64 st==z)=true->Q (.tup (zs0 []),[],1073,(zt (y3 ((((!IntKind.wrap .i64 st==z)==true)::zq3)))),[]))/\((!IntKind.wrap .i64 st==z)=false->(((decide (cm≥zN 0))=true->(((!pr==cm)=true->Q (.tup (zs0 []),[],1095,(zt (y3 ((((!pr==cm)==true)::zq5)))),[]))/\((!pr==cm)=false->(((decide (rd≥zN 0))=true->(((!decide (rd<=zN 1099511627776))=true->Q (.tup (zs0 []),[],1115,(zt (y3 ((((!decide (rd<=zN 1099511627776))==true)::zq7)))),[]))/\((!decide (rd<=zN 1099511627776))=false->(((!y)=true->Q (.tup [.agg [zB true,zW dq,zW du,zI rd],.c (zB true)],[],1141,(zt (y3 (true::(((!y)==true)::zq8)))),[]))/\((!y)=false->(((!decide (dq>q))=true->Q (.tup (zs0 []),[],1137,(zt (y3 ((((!decide (dq>q))==true)::zq9)))),[]))/\((!decide (dq>q))=false->Q (.tup [.agg [zB true,zW dq,zW du,zI rd],.c (zB true)],[],1146,(zt (y3 (true::(((!decide (dq>q))==false)::zq9)))),[]))))))))/\((decide (rd≥zN 0))=false->Q (.tup (zs0 []),[],1112,(zt (y3 (((decide (rd≥zN 0)==false)::zq6)))),[]))))))/\((decide (cm≥zN 0))=false->Q (.tup (zs0 []),[],1090,(zt (y3 (((decide (cm≥zN 0)==false)::zq4)))),[]))))))/\((k==zN 2)=false->Q (.tup (zs0 []),[],1068,(zt (y3 ((((k==zN 2)==false)::zq2)))),[]))))))/\((TP c z)=false->Q (.tup (zs0 []),[],1048,(zt (y3 (((TP c z==false)::zq0)))),[])))):
 ∃p r,JX (Q5 prog) 36 c nq fq [i64 z,TQ y q u t,Qi b dt k st dq du pr cm rd] p []=some r/\Q r:=
 ZD H (fun g1=>ZD g1 (fun g2=>⟨pD 5 84,_,by kernel_rfl,g2⟩) (fun g2=>ZD g2 (fun g3=>ZD g3 (fun g4=>⟨pD 12 178041,_,by kernel_rfl,g4⟩) (fun g4=>ZD g4 (fun g5=>ZD g5 (fun g6=>⟨pD 19 389370000,_,by kernel_rfl,g6⟩) (fun g6=>ZD g6 (fun g7=>ZD g7 (fun g8=>⟨pD 24 98406753717,_,by kernel_rfl,g8⟩) (fun g8=>ZD g8 (fun g9=>⟨pD 32 1039838541987,_,by kernel_rfl,g9⟩) (fun g9=>ZD g9 (fun g10=>⟨pD 31 207778259246079,_,by kernel_rfl,g10⟩) (fun g10=>⟨pD 32 413669391340728,_,by kernel_rfl,g10⟩)))) (fun g7=>⟨pD 24 7750359291,_,by kernel_rfl,g7⟩))) (fun g5=>⟨pD 19 3543834,_,by kernel_rfl,g5⟩))) (fun g3=>⟨pD 12 1623,_,by kernel_rfl,g3⟩))) (fun g1=>⟨pD 5 6,_,by kernel_rfl,g1⟩)
theorem anOu (c:Cfg) (nq:Nat) (fq:Nat->Int) (z:Int) (y:Bool) (q u t v:Int) (Q:VF->Prop) (H:let zN:=Int.ofNat;let zq0:List Bool:=[true,Zf c nq fq,Oq (YF.mk c nq fq [.c (zI z)])];let zq1:List Bool:=true::true::((!TP c z)==false)::zq0;let zq2:List Bool:=(decide (0+YP t (Int.toNat (Xy c z))<=YP t (Int.toNat (Xy c z))))::(decide (YP t (Int.toNat (Xy c z))<=1000000))::(ZE (YP t (Int.toNat (Xy c z))) fun k=>List.map AC.v ((fun i=>[Value.int .i64 (t+zN i)]) k))::(decide (zN 0<=Xy c z))::(decide (Xy c z<=zN 1000000))::(decide (Int.negSucc 9223372036854775807<=t))::(decide (t<=zN 9223372036854775807))::y3 (true::(y==true)::zq1);(((!TP c z)=true->Q (.c (zW (zN 0)),[],1014,(((!TP c z)==true)::zq0),[]))/\((!TP c z)=false->((y=true->(((VZ (fun i=>t+zN i) (YP t (Int.toNat (Xy c z))) v)=true->Q (.c (zW u),[],1027,(true::true::(VZ (fun i=>t+zN i) (YP t (Int.toNat (Xy c z))) v==true)::zq2),[]))/\((VZ (fun i=>t+zN i) (YP t (Int.toNat (Xy c z))) v)=false->Q (.c (zW (Ml c z)),[],1027,(true::true::(VZ (fun i=>t+zN i) (YP t (Int.toNat (Xy c z))) v==false)::zq2),[]))))/\(y=false->Q (.c (zW (Ml c z)),[],1021,(true::true::(y==false)::zq1),[])))))):
 ∃p r,JX (Q5 prog) 37 c nq fq [i64 z,TQ y q u t,i64 v] p []=some r/\Q r:=
 ZD H (fun g1=>⟨pD 1 1,_,by kernel_rfl,g1⟩) (fun g1=>ZD g1 (fun g2=>ZD g2 (fun g3=>⟨pD 9 6566,_,by kernel_rfl,g3⟩) (fun g3=>⟨pD 9 13127,_,by kernel_rfl,g3⟩)) (fun g2=>⟨pD 9 8,_,by kernel_rfl,g2⟩))
def UN (c:Cfg) (z:Int) (y:Bool) (q:Int) (b:Bool) (k st dq pr cm rd:Int):Bool:=TP c z&&(b&&(decide (k=2)&&(decide (IntKind.wrap .i64 st=z)&&(decide (0<=cm)&&(decide (pr=cm)&&(decide (0<=rd)&&(decide (rd<=1099511627776)&&(!y||decide (q<dq)))))))))
def TY (b:Bool) (x y:Int):Int:=if b=true then x else y
def FP (c:Cfg) (z:Int) (y:Bool) (t v:Int):Bool:=y&&(decide (t<=v)&&decide (v-t<Xy c z))
def Q2 (c:Cfg) (z:Int) (y:Bool) (u t v:Int):Int:=if TP c z=true then TY (FP c z y t v) u (Ml c z) else 0
def YT (c:Cfg):Bool:=(List.range c.nt).all fun i=>decide (1<=(c.ft i).hold/\(c.ft i).hold<=100)
def YO (z:Int):Bool:=decide (-9223372036854775808<=z)&&decide (z<=9223372036854775807)
theorem jjn8 {c:Cfg} (h:YT c=true) (z:Int):0<=Xy c z/\Xy c z<=100:=by
 unfold Xy;split
 . rename_i hz
   simp[TP] at hz;have:=List.all_eq_true.1 h z.toNat (by simp;omega);simp at this;omega
 . omega
theorem HN {t v:Int} {h:Nat} (h1:v<=9223372036854775807):VZ (fun i=>t+Int.ofNat i) (YP t h) v=(decide (t<=v)&&decide (v-t<h)):=by
 rw[Bool.eq_iff_iff];unfold VZ;rw[List.any_eq_true];constructor
 . rintro⟨i,hi,he⟩
   simp at hi he;unfold YP at hi;simp;omega
 . intro hh
   simp at hh;refine⟨(v-t).toNat,?_,?_⟩
   . simp[YP];omega
   . simp;omega
def Jn (c:Cfg) (z:Int):List AV->AV
 | [.agg [.v (.bool y),.v (.int .u32 q),.v (.int .u32 u),.v (.int .i64 t)],.agg [.v (.bool b),.v (.int .i64 _),.v (.int .u8 k),.v (.int .u8 st),.v (.int .u32 dq),.v (.int .u32 du),.v (.int .i64 pr),.v (.int .i64 cm),.v (.int .i64 rd)]]=>
  .tup [.agg [.v (.bool (UN c z y q b k st dq pr cm rd||y)),.v (.int .u32 (TY (UN c z y q b k st dq pr cm rd) dq q)),.v (.int .u32 (TY (UN c z y q b k st dq pr cm rd) du u)),.v (.int .i64 (TY (UN c z y q b k st dq pr cm rd) rd t))],bo (UN c z y q b k st dq pr cm rd)]
 |_=>i64 0
def AG:List AV->Bool
 | [.agg [.v (.bool _),.v (.int .u32 _),.v (.int .u32 _),.v (.int .i64 _)],.agg [.v (.bool _),.v (.int .i64 _),.v (.int .u8 _),.v (.int .u8 _),.v (.int .u32 _),.v (.int .u32 _),.v (.int .i64 _),.v (.int .i64 _),.v (.int .i64 _)]]=>true
 |_=>false
def FJ:YF->AV
 |⟨c,_,_,.c (.v (.int .i64 z))::r⟩=>Jn c z r
 |_=>i64 0
def Pt:YF->Bool
 |⟨c,nq,_,.c (.v (.int .i64 _))::r⟩=>YA c nq&&AG r
 |_=>false
theorem jjfq (c:Cfg) (z:Int) (r:List AV):XV (Jn c z r)=true:=by unfold Jn;split<;>rfl
theorem jjlp {r:List AV} (h:AG r=true):∃y q u t b dt k st dq du pr cm rd,r=[TQ y q u t,Qi b dt k st dq du pr cm rd]:=by
 unfold AG at h;split at h
 . exact⟨_,_,_,_,_,_,_,_,_,_,_,_,_,rfl⟩
 . cases h
theorem F8 (c:Cfg) (z:Int) (y:Bool) (q u t:Int) (b:Bool) (dt k st dq du pr cm rd:Int):Jn c z [TQ y q u t,Qi b dt k st dq du pr cm rd]= .tup [.agg [.v (.bool (UN c z y q b k st dq pr cm rd||y)),.v (.int .u32 (TY (UN c z y q b k st dq pr cm rd) dq q)),.v (.int .u32 (TY (UN c z y q b k st dq pr cm rd) du u)),.v (.int .i64 (TY (UN c z y q b k st dq pr cm rd) rd t))],bo (UN c z y q b k st dq pr cm rd)]:=rfl
theorem Kj {c:Cfg} {z:Int} {y:Bool} {q u t:Int} {b:Bool} {dt k st dq du pr cm rd:Int} (h:UN c z y q b k st dq pr cm rd=false):Jn c z [TQ y q u t,Qi b dt k st dq du pr cm rd]= .tup [TQ y q u t,bo false]:=by
 rw[F8,h];simp[TY]
theorem Kk {c:Cfg} {z:Int} {y:Bool} {q u t:Int} {b:Bool} {dt k st dq du pr cm rd:Int} (h:UN c z y q b k st dq pr cm rd=true):Jn c z [TQ y q u t,Qi b dt k st dq du pr cm rd]= .tup [TQ true dq du rd,bo true]:=by
 rw[F8,h];simp[TY]
def N3:Yk:=Y9 netRd FJ Pt
theorem jjns:ZA prog 36 N3:=by
 refine U3 (E:=Q5 prog) JN netRd (fuel:=300) (str:=nSt) ⟨_,_,Tryz.func36,rfl⟩ (fun s=>by unfold FJ;split<;>first|exact jjfq _ _ _|rfl) fun s hs=>?_
 unfold Pt at hs;split at hs
 . rename_i c nq fq z r
   rw[Bool.and_eq_true] at hs;obtain⟨y,q,u,t,b,dt,k,st,dq,du,pr,cm,rd,rfl⟩:=jjlp hs.2;refine(?_:(∃p x,JX (Q5 prog) 36 c nq fq [i64 z,TQ y q u t,Qi b dt k st dq du pr cm rd] p []=some x/\Z6 (Jn c z [TQ y q u t,Qi b dt k st dq du pr cm rd]) x)->_) (anTk c nq fq z y q u t b dt k st dq du pr cm rd _ ?_)
   . rintro⟨p,x,h1,h2⟩
     exact⟨p,[],x,h1,h2⟩
   . have h1:=hs.1
     (repeat' (first|refine⟨fun h=>?_,fun h=>?_⟩|fail))
     all_goals (refine⟨?_,(by first|(unfold ZR;omega)|(dsimp only;unfold ZR;omega)),?_,by simp⟩)
     all_goals first
      | (have hn:UN c z y q b k st dq pr cm rd=true:=(by first|(simp_all[UN];done)|fail)
         rw[Kk hn];rfl)
      | (have hn:UN c z y q b k st dq pr cm rd=true:=(by first|(simp_all[UN];omega)|fail)
         rw[Kk hn];rfl)
      | (have hn:UN c z y q b k st dq pr cm rd=false:=(by first|(simp_all[UN];done)|fail)
         rw[Kj hn];rfl)
      | (have hn:UN c z y q b k st dq pr cm rd=false:=(by first|(simp_all[UN];intros;exfalso;omega)|fail)
         rw[Kj hn];rfl)
      |(simp_all[ZZ,Yb,YN,Yi,Ya,XZ,Y0,Pb];done)
      |(simp_all[ZZ,Yb,YN,Yi,Ya,XZ,Y0,Pb];omega)
 . cases hs
def FI:YF->AV
 |⟨c,_,_,[.c (.v (.int .i64 z)),.agg [.v (.bool y),.v (.int .u32 _),.v (.int .u32 u),.v (.int .i64 t)],.c (.v (.int .i64 v))]⟩=>.c (.v (.int .u32 (Q2 c z y u t v)))
 |_=>i64 0
def Ps:YF->Bool
 |⟨c,nq,_,[.c (.v (.int .i64 _)),.agg [.v (.bool _),.v (.int .u32 _),.v (.int .u32 _),.v (.int .i64 t)],.c (.v (.int .i64 v))]⟩=>YA c nq&&(YT c&&(YO t&&YO v))
 |_=>false
def R8:Yk:=Y9 netRd FI Ps
theorem jjmj {c:Cfg} {z:Int} {y:Bool} {u t v:Int} (h:TP c z=false):Q2 c z y u t v=0:=by simp[Q2,h]
theorem K4 {c:Cfg} {z:Int} {y:Bool} {u t v:Int} (h:TP c z=true) (h2:¬(y=true/\t<=v/\v-t<Xy c z)):Q2 c z y u t v=Ml c z:=by
 have:FP c z y t v=false:=by
  cases y
  . rfl
  . simp only[true_and] at h2
    simp[FP];omega
 simp[Q2,h,this,TY]
theorem FQ {c:Cfg} {z:Int} {y:Bool} {u t v:Int} (h:TP c z=true) (h2:y=true/\t<=v/\v-t<Xy c z):Q2 c z y u t v=u:=by
 have:FP c z y t v=true:=by
  obtain⟨rfl,g⟩:=h2;simp[FP];omega
 simp[Q2,h,this,TY]
theorem jjgl:ZA prog 37 R8:=by
 refine U3 (E:=Q5 prog) JN netRd (fuel:=300) (str:=nSt) ⟨_,_,Tryz.func37,rfl⟩ (fun s=>by unfold FI;split<;>rfl) fun s hs=>?_
 unfold Ps at hs;split at hs
 . rename_i c nq fq z y q u t v
   simp only[YO,Bool.and_eq_true,decide_eq_true_eq] at hs;obtain⟨h1,h2,⟨t0,t1⟩,v0,v1⟩:=hs;obtain⟨g0,g1⟩:=jjn8 h2 z;refine(?_:(∃p x,JX (Q5 prog) 37 c nq fq [i64 z,TQ y q u t,i64 v] p []=some x/\Z6 (.c (.v (.int .u32 (Q2 c z y u t v)))) x)->_) (anOu c nq fq z y q u t v _ ?_)
   . rintro⟨p,x,h1,h2⟩
     exact⟨p,[],x,h1,h2⟩
   . simp only[HN v1]
     have hl:YP t (Xy c z).toNat<=1000000:=by unfold YP;omega
     have eh:(((Xy c z).toNat:Nat):Int)=Xy c z:=Int.toNat_of_nonneg g0;simp only[eh];have hb:∀x,(decide (t<=v)&&decide (v-t<x))=true↔t<=v/\v-t<x:=fun x=>by simp
     have hb2:∀x,(decide (t<=v)&&decide (v-t<x))=false↔¬(t<=v/\v-t<x):=fun x=>by rw[<- hb];simp
     simp only[hb,hb2]
     (repeat' (first|refine⟨fun h=>?_,fun h=>?_⟩|fail))
     all_goals (refine⟨?_,(by first|(unfold ZR;omega)|(dsimp only;unfold ZR;omega)),?_,by simp⟩)
     . simp at h
       rw[jjmj h];rfl
     . simp_all[ZZ,Yb,YN,Yi,Ya,XZ,Y0,Pb]
     . rename_i g1 g2
       simp at g1;rw[FQ g1 ⟨g2,h⟩]
     . rename_i g1 g2
       simp only[ZZ,List.forall_mem_cons];simp_all[Yb,YN,Yi,Ya,XZ,Y0,Pb,YK,HN v1]
       try omega
     . rename_i g1 g2
       simp at g1;rw[K4 g1 (fun e=>h e.2)]
     . rename_i g1 g2
       simp only[ZZ,List.forall_mem_cons];simp_all[Yb,YN,Yi,Ya,XZ,Y0,Pb,YK,HN v1]
       try omega
     . rename_i g1
       simp at g1;rw[K4 g1 (fun e=>by rw[h] at e;exact absurd e.1 (by simp))]
     . rename_i g1
       simp only[ZZ,List.forall_mem_cons];simp_all[Yb,YN,Yi,Ya,XZ,Y0,Pb]
 . cases hs
def GO (P:Program) (err:Cfg->Int) (l:List (FuncId × Yk)):Env:=⟨P,(5,MX err)::l⟩
def GP (P:Program) (err:Cfg->Int) (l:List (FuncId × Yk)):Env:=⟨P,(5,MY err)::l⟩
theorem BU {l:List (FuncId × Yk)} (hl:∀f g,(f,g)∈l->ZA prog f g):ZC (GO prog Zu l):=by
 refine Xf (fun f g h=>?_) (by kernel_rfl) (by kernel_rfl);rcases List.mem_cons.1 h with h|h
 . cases h;exact jjnx
 . exact hl f g h
theorem BV {l:List (FuncId × Yk)} (hl:∀f g,(f,g)∈l->ZA prog f g):ZC (GP prog Zu l):=by
 refine Xf (fun f g h=>?_) (by kernel_rfl) (by kernel_rfl);rcases List.mem_cons.1 h with h|h
 . cases h;exact jjnw
 . exact hl f g h
structure CfgGood (c:Cfg):Prop where
 n4:4<=c.nodes
 n16:c.nodes<=16
 p2:2<=c.np
 p8:c.np<=8
 s1:1<=c.ns
 s16:c.ns<=16
 l1:c.nodes+116<=c.long
 l2:3*c.nodes+1<=c.long
 l4:c.long<=4096
 nb:(c.nb:Int)=c.nodes
 nt:c.nt<=8
 miss:1<=c.miss/\c.miss<=100
 good:1<=c.good/\c.good<=100
 fresh:1<=c.fresh/\c.fresh<=100
 fp:∀p,p<c.np->0<=c.fp p/\c.fp p<c.nodes
 fs:∀i,i<c.ns->0<=c.fs i/\c.fs i<c.np
 has:∀p,p<c.np->∃i,i<c.ns/\c.fs i=p
theorem E4 {c:Cfg} (h:Zu c=0):CfgGood c:=by
 obtain⟨h1,h2,h3,h4,h5,h6,h7,h8,h9,h10⟩:=Cx h;have a1:=PV h1;have a2:=PV h2;have a4:=PV h4;have a6:=PV h6;have a8:=PV h8;unfold XB at h3;unfold Xk Wz at h5;unfold Xl at h7;unfold Xj at h10
 have b3:YU c.fp c.np c.nodes=true:=by
  split at h3
  . rename_i hh;simp only[Bool.and_eq_true] at hh;exact hh.1
  . cases h3
 split at h5
 . rename_i g5
   simp only[Bool.and_eq_true] at g5
   have b7:(c.nb:Int)=c.nodes:=by
    split at h7
    . assumption
    . cases h7
   have b10:(1<=c.miss/\c.miss<=100)/\(1<=c.good/\c.good<=100)/\(1<=c.fresh/\c.fresh<=100):=by
    split at h10
    . rename_i g;exact absurd h10 g
    . rename_i g
      split at h10
      . rename_i g';exact absurd h10 g'
      . rename_i g'
        exact⟨PV (by omega),PV (by omega),PV h10⟩
   refine⟨a1.1,a1.2,by omega,by omega,by omega,by omega,by omega,by omega,a6.2,b7,by omega,b10.1,b10.2.1,b10.2.2,fun p hp=>?_,fun i hi=>?_,fun p hp=>?_⟩
   . have:=List.all_eq_true.1 b3 p (by simpa using hp)
     simpa using this
   . have:=List.all_eq_true.1 g5.1 i (by simpa using hi)
     simpa using this
   . have:=List.all_eq_true.1 g5.2 p (by simpa using hp)
     obtain⟨i,hi,he⟩:=List.any_eq_true.1 this;exact⟨i,by simpa using hi,by simpa using he⟩
 . cases h5
theorem Qr {c:Cfg} (g:CfgGood c) {nq:Nat} (hq:0<nq) (fq:Nat->Int) (z:Int):0<=ZI c nq fq z↔0<=z/\z<c.np:=by
 constructor
 . exact Nx
 . intro h
   unfold ZI Ky;rw[if_neg (by omega),if_pos h];exact(g.fp z.toNat (by omega)).1
def Re (c:Cfg) (v:Vw) (p:Nat):Prop:=p<c.np/\v.inn p=true
theorem Lx {c:Cfg} (g:CfgGood c) {nq:Nat} (hq:0<nq) (fq:Nat->Int) (v:Vw) (p:Nat):Z3 c nq fq v p=true↔Re c v p:=by
 unfold Z3 Z8 Re;rw[Bool.and_eq_true,decide_eq_true_eq,Qr g hq];simp only[Int.ofNat_eq_natCast];constructor
 . rintro⟨⟨_,h⟩,h2⟩;exact⟨by omega,h2⟩
 . rintro⟨h,h2⟩;exact⟨⟨by omega,by omega⟩,h2⟩
def TR (c:Cfg) (v:Vw):Prop:=0<=v.command/\v.command<c.np/\v.inn v.command.toNat=true/\v.score v.command.toNat<64
theorem Ko (v:Vw) (k:Nat) (h:k<8):Zz ((ZX v).getD k ZV)=v.inn k/\ZP ((ZX v).getD (24+k) ZV)=v.score k:=by
 have a0:=Si v k h;have a4:=(U2 v k h).1;simp only[Nat.zero_add,Nat.mul_one,Int.ofNat_eq_natCast,Int.toNat_natCast] at a0 a4;exact⟨a0,a4⟩
theorem jjjy (z:Int):VL z≠2↔z<64:=by
 unfold VL
 (repeat' split)<;>constructor<;>intro h<;>omega
theorem Dy {c:Cfg} (g:CfgGood c) {nq:Nat} (hq:0<nq) (fq:Nat->Int) (v:Vw) (hc: -128<=v.command/\v.command<=127):Ur (AU c nq fq (ZX v) (IntKind.wrap .i64 v.command)) (VL (ZP ((ZX v).getD (24+(IntKind.wrap .i64 v.command).toNat) ZV)))↔TR c v:=by
 have p8:=g.p8
 have w:IntKind.wrap .i64 v.command=v.command:=by
  simp only[IntKind.wrap,IntKind.bits,IntKind.signed]
  first|omega|(simp;omega)
 rw[w];unfold Ur AU TR;rw[jjjy];constructor
 . rintro⟨h1,h2⟩
   obtain⟨q1,q2⟩:=M5 h1;obtain⟨z0,z1⟩:=(Qr g hq fq _).1 q1;obtain⟨e1,e2⟩:=Ko v v.command.toNat (by omega);rw[e1] at q2;rw[e2] at h2;exact⟨z0,z1,q2,h2⟩
 . rintro⟨z0,z1,q2,h2⟩
   obtain⟨e1,e2⟩:=Ko v v.command.toNat (by omega);rw[e1,e2];refine⟨?_,h2⟩;have hh:=(Qr g hq fq v.command).2 ⟨z0,z1⟩;by_cases h:W0 (ZI c nq fq v.command) (v.inn v.command.toNat) (v.score v.command.toNat)=1
   . exact .inl h
   . by_cases h':W0 (ZI c nq fq v.command) (v.inn v.command.toNat) (v.score v.command.toNat)=2
     . exact .inr h'
     . exact absurd ⟨hh,q2⟩ (Fk h h')
theorem jjra {c:Cfg} (g:CfgGood c) {nq:Nat} (hq:0<nq) (fq:Nat->Int) (v:Vw) (hc: -128<=v.command/\v.command<=127):(TR c v->U1 c nq fq (ZX v)=v.command)/\(¬TR c v->U1 c nq fq (ZX v)=SA v (Z3 c nq fq v)):=by
 have e:U1 c nq fq (ZX v)=OJ c nq fq (ZX v) (IntKind.wrap .i64 v.command) v.command:=rfl;rw[e];unfold OJ;refine⟨fun h=>if_pos ((Dy g hq fq v hc).2 h),fun h=>?_⟩;rw[if_neg fun x=>h ((Dy g hq fq v hc).1 x),JS];unfold SA;by_cases h0:Zy (Z3 c nq fq v) 8=0
 . rw[if_neg (by omega),if_pos h0]
 . rw[if_pos (by omega),if_neg h0,EM (by omega)]
theorem jjgt {c:Cfg} (g:CfgGood c) {nq:Nat} (hq:0<nq) (fq:Nat->Int) (v:Vw):((∀p,¬Re c v p)->SA v (Z3 c nq fq v)= -1)/\((∃p,Re c v p)->∃b:Nat,Re c v b/\SA v (Z3 c nq fq v)=b/\∀q,Re c v q->v.score b<=v.score q):=by
 have p8:=g.p8;constructor
 . intro h
   refine jjgs fun p _=>?_
   cases hx:Z3 c nq fq v p with
   |false=>rfl
   |true=>exact absurd ((Lx g hq fq v p).1 hx) (h p)
 . rintro⟨p,hp⟩
   obtain⟨b,b1,b2,b3,b4⟩:=jjgr (v:=v) (t:=Z3 c nq fq v) ⟨p,by have:=hp.1;omega,(Lx g hq fq v p).2 hp⟩;refine⟨b,(Lx g hq fq v b).1 b2,b3,fun q hq'=>?_⟩;have:=b4 q (by have:=hq'.1;omega) ((Lx g hq fq v q).2 hq');unfold WQ at this;simp only[decide_eq_false_iff_not] at this;omega
def OD (f:Nat->Bool):Nat->Bool
 |0=>false
 |k+1=>OD f k||f k
theorem E7 {f:Nat->Bool}:∀{n:Nat},OD f n=true↔∃p,p<n/\f p=true
 |0=>by simp[OD]
 |n+1=>by
  simp only[OD,Bool.or_eq_true,E7 (n:=n)];constructor
  . rintro (⟨p,h1,h2⟩|h)
    . exact⟨p,by omega,h2⟩
    . exact⟨n,by omega,h⟩
  . rintro⟨p,h1,h2⟩
    by_cases e:p=n
    . exact .inr (e ▸ h2)
    . exact .inl ⟨p,by omega,h2⟩
theorem jjof {c:Cfg} (g:CfgGood c) {nq:Nat} (hq:0<nq) (fq:Nat->Int) (u:Vw) (hc: -128<=u.command/\u.command<=127) (T:Int) (hT:U1 c nq fq (ZX u)=T):
 (-1<=T/\T<8)/\(0<=T↔OD u.inn c.np=true)/\(0<=T->T<c.np/\u.inn T.toNat=true):=by
 have p8:=g.p8;obtain⟨k1,k2⟩:=jjra g hq fq u hc;obtain⟨b1,b2⟩:=jjgt g hq fq u;rw[hT] at k1 k2;have hany:OD u.inn c.np=true↔∃p,Re c u p:=E7
 by_cases hs:TR c u
 . have e:=k1 hs
   obtain⟨s1,s2,s3,_⟩:=hs;rw[e];refine⟨by omega,⟨fun _=>hany.2 ⟨u.command.toNat,by omega,s3⟩,fun _=>s1⟩,fun _=>⟨s2,s3⟩⟩
 . have e:=k2 hs
   by_cases hx:∃p,Re c u p
   . obtain⟨b,q1,q2,_⟩:=b2 hx
     rw[e,q2];refine⟨by have:=q1.1;omega,⟨fun _=>hany.2 hx,fun _=>by omega⟩,fun _=>⟨by have:=q1.1;omega,by simpa using q1.2⟩⟩
   . have q2:=b1 fun p hp=>hx ⟨p,hp⟩
     rw[e,q2];refine⟨by omega,⟨fun h=>by omega,fun h=>absurd (hany.1 h) hx⟩,fun h=>by omega⟩
def lv28 (P:Program):Option VF:=ZB [] (ZM (E1 P) (fC (E1 P) 300) 4 [] 10 nSt (stC SH))
theorem jjjx:lv28 prog=
 some (.c (.v (.bool true)),[],410000000000000000000000000000000000000027,[],[]):=by kernel_rfl
def lwM (E:Env) (f:FuncId) (G:AMem) (c:Cfg) (r:List AV) (ty sz n:Nat) (F:Nat->List Value) (path:List Dec) (lp:List (Option Zl)):Option VF:=ZB [] (ZM E (fC E 300) f (.agg (VU c)::(r++[.c (.sl 4 0 0 n none)])) 10 nSt (XW (G++MO c++[(4,XX ty sz n F)]) path lp))
theorem Ed {β:Nm}:∀{xs ys:List AV} {us vs:List Value},γt β xs=some us->γt β ys=some vs->γt β (xs++ys)=some (us++vs)
 | [],ys,us,vs,h1,h2=>by cases h1;exact h2
 |x::xs,ys,us,vs,h1,h2=>by
  simp only[γt] at h1;split at h1
  . rename_i v us' e1 e2
    cases h1;simp only[List.cons_append,γt,e1,Ed e2 h2]
  . cases h1
theorem E3 {E:Env} (hE:ZC E) {f:FuncId} {G:AMem} {w:World} (hG:∀p∈G,VS w p) {c:Cfg} {cs:List Value} (hc:PD w c cs) {ty sz n:Nat} {F:Nat->List Value} {v:Value} (hl:UO w sz n F v) {r:List AV} {us:List Value} (hr:∀β,γt β r=some us)
 (run:∃p lp q,lwM E f G c r ty sz n F p lp=some q/\Z6 (bo true) q):Calls E.P f (.agg cs.toArray::(us++[v])).toArray w fun e w'=>e= .returned (.bool true)/\Below w.heap.size w w':=by
 obtain⟨p,lp,⟨x,b',n',ob,po⟩,hrun,hv,hn,hob,hpo⟩:=run;obtain⟨s',r1,r2,r3,r4⟩:=T7 hrun;obtain⟨β,q1,q2,q3,q4⟩:=jjg0 hG hc;have hn:n'<=ZR:=hn;obtain⟨L,t1,_,t2⟩:=NG q1 q3 (id:=4) (q4 4 (by omega) (by unfold ZR;omega)) (W8 (by unfold ZR;omega)) hl ty;refine(Xa hE r1 ⟨by rw[r3];exact hob,by rw[r4];exact hpo⟩ (C:=ZG w) (β:=ZU β 4 L) (w:=w) (vs:=.agg cs.toArray::(us++[v])) ?_ t1 (fun id h1 h2=>?_)).mono ?_
 . have e1:=t2 (ZU β 4 L) (by simp[ZU])
   have e2:γs (ZU β 4 L) (VU c)=some cs:=by
    refine LE (fun id l h=>?_) q2;unfold ZU;rw[if_neg (fun e=>by rw[e,q4 4 (by omega) (by unfold ZR;omega)] at h;cases h)];exact h
   have e3:γt (ZU β 4 L) [.c (.sl 4 0 0 n none)]=some [v]:=by simp only[γt,γ1,e1]
   simp only[γt,γ1,e2,Ed (hr _) e3]
 . unfold ZU
   rw[if_neg (by omega)];exact q4 id (by omega) (by omega)
 . rintro e w' ⟨β',u,rfl,_,_,hu,hr'⟩
   simp only at hv;subst hv;cases hu;exact⟨rfl,So hr'⟩
end Go.Proofs.YtljeokninakliaaGreatDoor
end
