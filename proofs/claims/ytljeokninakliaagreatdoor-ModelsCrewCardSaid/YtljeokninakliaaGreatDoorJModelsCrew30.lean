/- Parts, one behind the other. Parts of a proof. -/
import Derived.Test.YtljeokninakliaaGreatDoorJModelsCrew16
import Derived.Test.YtljeokninakliaaGreatDoorJModelsCrew19
import Derived.Test.YtljeokninakliaaGreatDoorJModelsCrew29
import Derived.Test.YtljeokninakliaaGreatDoorJModelsCrew9
import Derived.Test.YtljeokninakliaaGreatDoorJModelsCrew15
import Derived.Test.YtljeokninakliaaGreatDoorJModelsCrew25
set_option linter.unusedSimpArgs false
set_option linter.unusedVariables false
set_option maxRecDepth 1000000
set_option maxHeartbeats 4000000
section
namespace Go.Proofs.YtljeokninakliaaGreatDoor
open Go.RowKit Tryz
def QR (u:Vw) (d:Said) (k j:Nat):Hq:=if j<k then Kl u d else Rc Held.zero
theorem jjp1 (u:Vw) (d:Said) {k i:Nat} (h:i≠k):QR u d (k+1) i=QR u d k i:=by
 unfold QR;by_cases h1:i<k
 . rw[if_pos (by omega),if_pos h1]
 . rw[if_neg (by omega),if_neg h1]
theorem CZ {l vs:List AC} (h:vs.length=l.length):YD l 0 vs=vs:=by
 refine List.ext_getElem? fun i=>?_
 rw[Sb _ _ _ _ (by omega)];split
 . simp
 . rename_i hi
   rw[List.getElem?_eq_none (by omega),List.getElem?_eq_none (by omega)]
theorem Ei {N:Nat} (h:2010<=N) {nn:Int} {x:VcX} {u:Vw} {d:Said} {o:Hq} {g:Nat->Hq}:∀b∈Mp nn x u d o g,Zd N b:=by
 intro b hb;simp only[List.mem_cons,List.not_mem_nil,or_false] at hb;rcases hb with rfl|rfl|rfl|rfl|rfl
 . exact Yg rfl
 . exact Yg rfl
 . exact Yg rfl
 . exact Yg rfl
 . exact Y8
theorem Km (k:Nat):0+Int.toNat (Int.ofNat k)=k:=by simp
theorem Gx {k:Nat} (h:k<9223372036854775807):IntKind.wrap IntKind.i64 (Int.ofNat k+Int.ofNat 1)=Int.ofNat (k+1):=by rw[Wu _ (by simp;omega) (by simp;omega)];rfl
theorem jjlf (nn a : Int) (x : VcX) (u:Vw) (d:Said) (o:Hq) (h0:0<=nn) (h1:nn<=1000) {eb:List (Option ABlk)} (hL:BL (Mp nn x u d o (QR u d 0)) eb):
 LoopV prog (ZW prog 10 0) Q4 vcI ((Ot nn a 0).map some) eb 37 2010 (ZQ 37 (Gw nn a)) (vcI.zip (Mp nn x u d o (QR u d nn.toNat))) 100000000000000000000000000000000000000000000000000 (.exit 0) none:=by
 refine Pn Vk (fuel:=100) (str:=nSt) (nh:=100000000) (S:=Nat) (fun k=>k<=nn.toNat) (fun k=>nn.toNat-k) Q4 [] vcI (fun k=>Ot nn a k) (fun k=>Mp nn x u d o (QR u d k)) (by decide) (by decide) (by unfold ZR;omega) (s0:=0) (Nat.zero_le _) (fun _=>⟨rfl,rfl⟩) (by kernel_rfl) hL (fun k _=>⟨rfl,Ei (Nat.le_refl _)⟩) ?_;intro k hk;refine(?_:(∃p r,Gu prog nn a x u d o (QR u d k) k p=some r/\_)->_) (vc0 nn a x u d o (QR u d k) k (XA 2010 100000000000000000000000000000000000000000000000000 37 Q4 [] vcI (fun k=>k<=nn.toNat) (fun k=>nn.toNat-k) (fun k=>Ot nn a k) (fun k=>Mp nn x u d o (QR u d k)) (.exit 0) (Gw nn a) (vcI.zip (Mp nn x u d o (QR u d nn.toNat))) k) ?_)
 . rintro⟨p,r,h1,h2⟩
   exact⟨p,[],r,h1,h2⟩
 . refine⟨fun c1=>?_,fun c1=>?_⟩
   . have hlt:k<nn.toNat:=by have:=of_decide_eq_true c1;simp only[Int.ofNat_eq_natCast] at this;omega
     refine⟨?_,rfl,by dsimp only;omega,rfl,.inl ⟨rfl,k+1,hlt,by show nn.toNat-(k+1)<nn.toNat-k;omega,?_,⟨BEq.refl _,BEq.refl _,BEq.refl _,BEq.refl _,⟨rfl,rfl,rfl,rfl,.inr (.inl ⟨_,_,_,rfl,rfl,fun i _=>?_⟩)⟩,trivial⟩⟩⟩
     . simp only[ZZ,List.forall_mem_cons,Km,c1]
       simp[YK];omega
     . dsimp only;rw[Gx (by omega)];rfl
     . simp only[Km]
       by_cases hik:i=k
       . subst hik
         rw[if_pos rfl];have:QR u d (i+1) i=Kl u d:=by unfold QR;rw[if_pos (by omega)]
         rw[this];exact CZ (by simp[Ts,Vw.len])
       . rw[if_neg hik,jjp1 u d hik]
   . obtain rfl : k = nn.toNat := by have:¬k<nn.toNat:=by have:=of_decide_eq_false c1;simp only[Int.ofNat_eq_natCast] at this;omega
                                     omega
     refine⟨by simp only[ZZ,List.forall_mem_cons,c1];simp,rfl,by dsimp only;omega,rfl,.inr ⟨by simp,rfl,fun q hq=>?_,Pi (by kernel_rfl) (Ei (Nat.le_refl _)) rfl⟩⟩;simp only[Gw,List.mem_cons,List.not_mem_nil,or_false] at hq;rcases hq with rfl|rfl|rfl|rfl
     . exact⟨rfl,.head _⟩
     . exact⟨rfl,.tail _ (.head _)⟩
     . exact⟨rfl,.tail _ (.tail _ (.tail _ (.tail _ (.head _))))⟩
     . exact⟨rfl,.tail _ (.tail _ (.tail _ (.tail _ (.tail _ (.head _)))))⟩
theorem jjoz (nn a:Int) (x:VcX) (u:Vw) (d:Said) (o:Hq) (h0:1<=nn) (h1:nn<=1000) (h2:0<=a):∃p lp r,AH prog [2007] nn a x u d o p lp=some r/\r.1= .c (.sl 2007 0 0 nn.toNat none)/\(∃y,r.2.1=[some y]/\BEq y (We nn.toNat (Wj (Int.tmod a nn).toNat o u d)))/\r.2.2.1<=ZR/\ZZ r.2.2.2.1/\∀q∈r.2.2.2.2,q:=by
 refine(?_:(∃p r,AH prog [2007] nn a x u d o p [some (vcS nn a x u d o (QR u d nn.toNat))]=some r/\_)->_) (vcT nn a x u d o (QR u d nn.toNat) (fun r=>r.1= .c (.sl 2007 0 0 nn.toNat none)/\(∃y,r.2.1=[some y]/\BEq y (We nn.toNat (Wj (Int.tmod a nn).toNat o u d)))/\r.2.2.1<=ZR/\ZZ r.2.2.2.1/\∀q∈r.2.2.2.2,q) ?_)
 . rintro⟨p,r,g1,g2⟩
   exact⟨p,_,r,g1,g2⟩
 . have t0:0<=Int.tmod a nn:=Int.tmod_nonneg _ h2
   have t1:Int.tmod a nn<nn:=Int.tmod_lt_of_pos _ (by omega);refine⟨rfl,⟨_,rfl,rfl,rfl,rfl,rfl,.inr (.inl ⟨_,_,_,rfl,rfl,fun i hi=>?_⟩)⟩,by unfold ZR;dsimp only;omega,?_,?_⟩
   . dsimp only
     rw[Nat.zero_add];unfold Wj;by_cases e:i=(Int.tmod a nn).toNat
     . rw[if_pos e,if_pos e]
       exact CZ (by simp[Ts,Vw.len])
     . rw[if_neg e,if_neg e]
       have:QR u d nn.toNat i=Kl u d:=if_pos hi;rw[this]
   . simp only[ZZ,List.forall_mem_cons]
     simp[YK];omega
   . intro q hq
     rw[List.mem_singleton.1 hq];exact jjlf nn a x u d o (by omega) h1 ⟨BEq.refl _,BEq.refl _,BEq.refl _,BEq.refl _,⟨rfl,rfl,rfl,rfl,.inr (.inl ⟨_,_,_,rfl,rfl,fun i _=>rfl⟩)⟩,trivial⟩
theorem jjmt (l:List Value) (j:Nat):∃v,(l.map AC.v).getD j ZV= .v v:=by
 rw[List.getD_eq_getElem?_getD,List.getElem?_map];cases l[j]?<;>exact⟨_,rfl⟩
def PN:Yk
 | [.agg [.v (.int .i64 nn),.sl i1 j1 k1 n1 c1,.sl i2 j2 k2 n2 c2,.v (.int .i64 z0),.sl i3 j3 k3 n3 c3,.sl i4 j4 k4 n4 c4,.v (.int .i64 z1),.v (.int .i64 z2),.v (.int .i64 z3)],.agg u,.agg [.v (.bool is),.v (.int .i64 at_),.v (.int .u8 kd),.v (.int .u8 st),.v (.int .u32 sq),.v (.int .u32 vl)],.agg o,.c (.v (.int .i64 a))],_,ib=>
  some (.c (.sl ib 0 0 nn.toNat none),[(ib,We nn.toNat (Wj (Int.tmod a nn).toNat (Ul o) (Zi u) ⟨is,at_,⟨kd,st,sq,vl⟩⟩))],1,[W7 u,Zn Held.ks o,decide (1<=nn),decide (nn<=1000),decide (0<=a)])
 |_,_,_=>none
theorem LV {β:Nm} {i j k n:Nat} {c:Option Nat} {v:Value} (h:γc β (.sl i j k n c)=some v):∃A m q,v= .slice A m q:=by
 simp only[γc] at h
 cases hb:β i with
 |none=>rw[hb] at h;cases h
 | some L=>
  rw[hb] at h;simp only at h
  cases hn:L.nil with
  |true=>
   rw[hn] at h;simp only[if_true] at h;split at h
   . cases h;exact⟨_,_,_,rfl⟩
   . cases h
  |false=>
   rw[hn] at h;simp only[Bool.false_eq_true,if_false,Option.some.injEq] at h;exact⟨_,_,_,h.symm⟩
theorem Sa {β:Nm} {x:AC} {r:List AC} {vs:List Value} (h:γs β (x::r)=some vs):∃v us,vs=v::us/\γc β x=some v/\γs β r=some us:=by
 simp only[γs] at h;split at h
 . rename_i v us h1 h2
   cases h;exact⟨v,us,rfl,h1,h2⟩
 . cases h
theorem Im {β:Nm} {l:List AC} {v:Value} (h:γ1 β (.agg l)=some v):∃us,v= .agg us.toArray/\γs β l=some us:=by
 simp only[γ1] at h;split at h
 . rename_i us e;cases h;exact⟨us,rfl,e⟩
 . cases h
theorem jjp0 {β:Nm} {nn z0 z1 z2 z3:Int} {i1 j1 k1 n1 i2 j2 k2 n2 i3 j3 k3 n3 i4 j4 k4 n4:Nat} {c1 c2 c3 c4:Option Nat} {v1:Value} (e1:γ1 β (.agg [.v (.int .i64 nn),.sl i1 j1 k1 n1 c1,.sl i2 j2 k2 n2 c2,.v (.int .i64 z0),.sl i3 j3 k3 n3 c3,.sl i4 j4 k4 n4 c4,.v (.int .i64 z1),.v (.int .i64 z2),.v (.int .i64 z3)])=some v1):∃x:VcX,∀β0,γ1 β0 (.agg (Jo nn x))=some v1:=by
 obtain⟨us,rfl,f1⟩:=Im e1;obtain⟨a0,r0,rfl,g0,f1⟩:=Sa f1;obtain⟨a1,r1,rfl,g1,f1⟩:=Sa f1;obtain⟨a2,r2,rfl,g2,f1⟩:=Sa f1;obtain⟨a3,r3,rfl,g3,f1⟩:=Sa f1;obtain⟨a4,r4,rfl,g4,f1⟩:=Sa f1;obtain⟨a5,r5,rfl,g5,f1⟩:=Sa f1;obtain⟨a6,r6,rfl,g6,f1⟩:=Sa f1;obtain⟨a7,r7,rfl,g7,f1⟩:=Sa f1;obtain⟨a8,r8,rfl,g8,f1⟩:=Sa f1;cases f1;cases g0;cases g3;cases g6;cases g7;cases g8;obtain⟨A1,m1,p1,rfl⟩:=LV g1;obtain⟨A2,m2,p2,rfl⟩:=LV g2;obtain⟨A3,m3,p3,rfl⟩:=LV g4;obtain⟨A4,m4,p4,rfl⟩:=LV g5;exact⟨⟨fun i=>match i with|0=>A1|1=>A2|2=>A3|_=>A4,fun i=>match i with|0=>m1|1=>m2|2=>m3|_=>m4,fun i=>match i with|0=>p1|1=>p2|2=>p3|_=>p4,fun i=>match i with|0=>z0|1=>z1|2=>z2|_=>z3⟩,fun _=>rfl⟩
theorem Fp:ZA prog 10 PN:=by
 refine⟨⟨_,_,Tryz.func10,rfl⟩,fun C β m m2 w args ib r news k' ob vs hct ho hs hr hfree hlim hv=>?_⟩;unfold PN at hct;split at hct
 . rename_i nn i1 j1 k1 n1 c1 i2 j2 k2 n2 c2 z0 i3 j3 k3 n3 c3 i4 j4 k4 n4 c4 z1 z2 z3 u is at_ kd st sq vl o a
   simp only[Option.some.injEq,Prod.mk.injEq] at hct;obtain⟨rfl,rfl,rfl,rfl⟩:=hct;simp only[ZZ,List.forall_mem_cons,decide_eq_true_eq] at ho;obtain⟨o1,o2,o3,o4,o5,_⟩:=ho;have eu:=Pj o1;obtain⟨_,_,_,eo⟩:=NJ o2;obtain⟨v1,q1,rfl,e1,hv1⟩:=Rk hv;obtain⟨v2,q2,rfl,e2,hv2⟩:=Rk hv1;obtain⟨v3,q3,rfl,e3,hv3⟩:=Rk hv2;obtain⟨v4,q4,rfl,e4,hv4⟩:=Rk hv3;obtain⟨v5,q5,rfl,e5,hv5⟩:=Rk hv4;cases hv5;cases e5;obtain⟨x,k1⟩:=jjp0 e1;obtain⟨p,lp,⟨v,b',n',ob,po⟩,hrun,hvr,⟨y,hbl,hy⟩,hn,hob,hpo⟩:=jjoz nn a x (Zi u) ⟨is,at_,⟨kd,st,sq,vl⟩⟩ (Ul o) o3 o4 o5;obtain⟨s',r1,r2,r3,r4⟩:=T7 hrun;simp only at hvr hbl hn hob hpo;subst hvr;subst hbl
   have k2:γ1 (fun _=>none) (.agg (ZX (Zi u)))=some v2:=by
    obtain⟨us2,rfl,f2⟩:=Im e2;rw[eu] at f2;have f3:γs β (ZX (Zi u))=some us2:=f2;rw[ZX,V3] at f3;simp only[γ1,ZX,V3];rw[Option.some.inj f3]
   have k4:γ1 (fun _=>none) (.agg (YC (Ul o)))=some v4:=by
    obtain⟨us4,rfl,f4⟩:=Im e4;rw[<- eo] at f4;rw[YC,V3] at f4;simp only[γ1,YC,V3];rw[Option.some.inj f4]
   have k3:γ1 (fun _=>none) (.agg (GL ⟨is,at_,⟨kd,st,sq,vl⟩⟩))=some v3:=by rw[<- e3];rfl
   refine(Xa Vk r1 ⟨by rw[r3];exact hob,by rw[r4];exact hpo⟩ (C:=ZG w) (β:=fun _=>none) (w:=w) (vs:=[v1,v2,v3,v4,.int .i64 a]) ?_ (Se w) (fun _ _ _=>rfl)).mono ?_
   . simp only[γt,k1,k2,k3,k4];rfl
   . rintro e w' ⟨β',u',rfl,_,_,hu,hr'⟩
     simp only[List.map_cons,List.map_nil,List.cons.injEq,and_true] at r2;obtain⟨L,hL,hb⟩:=hr'.blk 2007 _ r2;have hid:β ib=none:=hfree ib (Nat.le_refl _) (by omega);refine⟨ZU β ib L,u',rfl,Wq hid,fun id h=>?_,?_,?_⟩
     . unfold ZU
       rw[if_neg (by omega)]
     . simp only[γ,γ1,γc,hL] at hu
       simp only[γ,γ1,γc,W9];exact hu
     . have hr2:Rel (ZG w) β' [(2007,We nn.toNat (Wj (Int.tmod a nn).toNat (Ul o) (Zi u) ⟨is,at_,⟨kd,st,sq,vl⟩⟩))] w':=DG hr' fun id z hz=>by
        rw[VK] at hz;split at hz
        . rename_i hq
          obtain rfl:=Nat.eq_of_beq_eq_true hq;cases hz;exact⟨rfl,y,r2,hy⟩
        . cases hz
       exact S8 hr ⟨hr'.os,hr'.tape,hr'.output,hr'.size,fun b hb=>hr'.out b hb fun h=>h⟩ hid (W8 (by omega)) hr2 rfl rfl rfl (fun k j _=>by exact jjmt _ j) hL
 . cases hct
def UV:List (FuncId × Yk):=[(10,PN),(6,JC),(34,JA),(30,PJ),(18,Tn),(33,MW X0),(36,N3),(37,R8),(59,WB),(22,Qf),(24,Jz),(27,Qe),(28,GF),(19,MW ZI),(4,GZ SH)]
theorem NA:∀f g,(f,g)∈UV->ZA prog f g:=by
 intro f g h;simp only[UV,List.mem_cons,Prod.mk.injEq,List.not_mem_nil,or_false] at h;rcases h with⟨rfl,rfl⟩|⟨rfl,rfl⟩|⟨rfl,rfl⟩|⟨rfl,rfl⟩|⟨rfl,rfl⟩|⟨rfl,rfl⟩|⟨rfl,rfl⟩|⟨rfl,rfl⟩|⟨rfl,rfl⟩|⟨rfl,rfl⟩|⟨rfl,rfl⟩|⟨rfl,rfl⟩|⟨rfl,rfl⟩|⟨rfl,rfl⟩|⟨rfl,rfl⟩
 . exact Fp
 . exact Fq
 . exact jjr5
 . exact jjkm
 . exact LC
 . exact jjkj
 . exact jjns
 . exact jjgl
 . exact NB
 . exact jjo2
 . exact Fr
 . exact EU
 . exact C8
 . exact Ib
 . exact jjo4 (E:=E1 prog) Vk ⟨_,_,Tryz.func4,rfl⟩ (by kernel_rfl) (by unfold ZR;omega) jjjx
def VG (P:Program):Env:=⟨P,UV⟩
theorem ST:ZC (VG prog):=Xf NA (by kernel_rfl) (by kernel_rfl)
structure RunV where
 s:Said
 h:Hq
abbrev RK (k:Nat) (F:Nat->RunV):ABlk:=XX 65 62 k fun i=>(F i).s.cells++Ts (F i).h
def JT (P:Program) (err:Cfg->Int) (c:Cfg) (v:Vw) (k:Nat) (F:Nat->RunV) (path:List Dec) (lp:List (Option Zl)):Option VF:=
 ZB [] (ZM (GO P err UV) (fC (GO P err UV) 300) 3 [.agg (VU c),.agg (ZX v),.c (.sl 4 0 0 k none)] 10 nSt (XW (SH++MO c++[(4,RK k F)]) path lp))
abbrev PI:Nat:=130000000000000000000000000000000000000318
abbrev Yz:Nat:=230000000000000000000000000000000000000186
abbrev Wm:Nat:=900000000000000000000000000000000000000000
abbrev Xd (c:Cfg) (u:Vw) (la:Int) (m:Nat):ABlk:=⟨true,false,97,0,.lit ([.ptr PI 0 0,.ptr 23 0 0,.v (.int .i64 c.nodes),.v (.int .i64 (c.ns:Int)),.v (.int .i64 la)]++(ZX u++[.sl Wm 0 0 m none]))⟩
abbrev WV (c:Cfg) (q:List AC):ABlk:=⟨true,false,136,0,.lit (.ptr 23 0 0:: .v (.int .i64 c.fresh)::q)⟩
abbrev WW (m:Nat) (σ:Nat->Nat) (T:Nat->ZJ):ABlk:=WH 99 5 m fun j=>[.int .i64 (Int.ofNat (σ j)),.bool (T j).any,.int .u32 (T j).seq,.int .u32 (T j).val,.int .i64 (T j).rnd]
abbrev M7:Nat:=60000000900000000000000000000000000000201
abbrev FH:Nat:=60000000700000000000000000000000000000201
abbrev O1 (c:Cfg) (u:Vw) (x:Int):ABlk:=⟨true,false,91,0,.lit ([.ptr 23 0 0,.v (.int .i64 (c.ns:Int)),.v (.int .i64 x)]++(ZX u++[.sl FH 0 0 c.nt none]))⟩
abbrev mcI:List Nat:=[Z2 0,Z2 1,3,4,10,23,24,25,26,27,28,M7,FH,PI,Yz,Wm]
abbrev TB (c:Cfg) (u:Vw) (x la:Int) (S:Nat->ZJ) (m:Nat) (σ:Nat->Nat) (T:Nat->ZJ) (q:List AC) (k:Nat) (F:Nat->RunV):List ABlk:=[Zr,Za,RL c.nt c.ft,RK k F,Vf c,Xv 23 c,ZS c.nodes.toNat (ZT c (2*c.np)),ZS c.np c.fp,ZS c.ns c.fs,ZS c.nb c.fb,Yw c.nt c.ft,O1 c u x,SO c.nt S,WV c q,Xd c u la m,WW m σ T]
abbrev mcH:List Nat:=[2,3,9,10,12,15]
abbrev TD (k:Nat) (me:Int) (i:Nat):List AV:=[.c (.sl 4 0 0 k none),.c (.ptr 10 0 0),i64 me,.c (.ptr M7 0 0),.c (.ptr Yz 0 0),i64 (Int.ofNat i)]
abbrev J8:Nat:=1000000000000000000000000000000000000000000000
def EMy (P:Program):Env:=⟨P,(10,PN)::UV⟩
theorem hEMy:ZC (EMy prog):=Xf (fun f g h=>by
 rcases List.mem_cons.1 h with h|h
 . cases h;exact Fp
 . exact NA f g h) (by kernel_rfl) (by kernel_rfl)
def Pp (P:Program) (c:Cfg) (u:Vw) (x la:Int) (S:Nat->ZJ) (m:Nat) (σ:Nat->Nat) (T:Nat->ZJ) (q:List AC) (k:Nat) (F:Nat->RunV) (me:Int) (i:Nat) (path:List Dec) (lp:List (Option Zl)):Option VC:=
 view mcH mcI (fC (EMy P) 100 (ZW P 3 0) J8 nSt ⟨ZQ 225 (mcH.zip (TD k me i)),mcI.zip (TB c u x la S m σ T q k F),0,0,false,path,[],[],[],none,lp⟩)
abbrev An:Nat:=120000000000000000000000000000000000000162
abbrev Wd:ZJ:=⟨false,0,0,0⟩
abbrev GD:List AC:=[.v (.bool false),.v (.int .i64 (Int.ofNat 0)),.v (.int .u8 (Int.ofNat 0)),.v (.int .u8 (Int.ofNat 0)),.v (.int .u32 (Int.ofNat 0)),.v (.int .u32 (Int.ofNat 0)),.v (.bool false),.v (.int .i64 (Int.ofNat 0)),.v (.int .u8 (Int.ofNat 0)),.v (.int .u8 (Int.ofNat 0)),.v (.int .u32 (Int.ofNat 0)),.v (.int .u32 (Int.ofNat 0)),.v (.bool false),.v (.int .i64 (Int.ofNat 0)),.v (.int .u8 (Int.ofNat 0)),.v (.int .u8 (Int.ofNat 0)),.v (.int .u32 (Int.ofNat 0)),.v (.int .u32 (Int.ofNat 0)),.v (.bool false),.v (.int .i64 (Int.ofNat 0)),.v (.int .u8 (Int.ofNat 0)),.v (.int .u8 (Int.ofNat 0)),.v (.int .u32 (Int.ofNat 0)),.v (.int .u32 (Int.ofNat 0)),.v (.bool false),.v (.int .i64 (Int.ofNat 0)),.v (.int .u8 (Int.ofNat 0)),.v (.int .u8 (Int.ofNat 0)),.v (.int .u32 (Int.ofNat 0)),.v (.int .u32 (Int.ofNat 0)),.v (.bool false),.v (.int .i64 (Int.ofNat 0)),.v (.int .u8 (Int.ofNat 0)),.v (.int .u8 (Int.ofNat 0)),.v (.int .u32 (Int.ofNat 0)),.v (.int .u32 (Int.ofNat 0)),.v (.bool false),.v (.int .i64 (Int.ofNat 0)),.v (.int .u8 (Int.ofNat 0)),.v (.int .u8 (Int.ofNat 0)),.v (.int .u32 (Int.ofNat 0)),.v (.int .u32 (Int.ofNat 0)),.v (.bool false),.v (.int .i64 (Int.ofNat 0)),.v (.int .u8 (Int.ofNat 0)),.v (.int .u8 (Int.ofNat 0)),.v (.int .u32 (Int.ofNat 0)),.v (.int .u32 (Int.ofNat 0))]
abbrev Oh:Nat:=250000000000000000000000000000000000000190
abbrev Je:Nat:=1000000000000000000000000000000000000000000
abbrev Jf:Nat:=10000000000000000000000000000000000000000000
abbrev qwI:List Nat:=[Z2 0,Z2 1,3,4,10,11,23,24,25,26,27,28,M7,FH,PI,An]
abbrev QM (c:Cfg) (v:Vw) (k:Nat) (F:Nat->RunV):List ABlk:=[Zr,Za,RL c.nt c.ft,RK k F,Vf c,WJ v,Xv 23 c,ZS c.nodes.toNat (ZT c (2*c.np)),ZS c.np c.fp,ZS c.ns c.fs,ZS c.nb c.fb,Yw c.nt c.ft,O1 c v 0,SO c.nt fun _=>Wd,WV c GD,Yw c.nt c.ft]
abbrev qwH:List Nat:=[1,6,32,33,34]
abbrev Px (c:Cfg) (me:Int) (i:Nat):List AV:=[i64 me,.c (.ptr Yz 0 0),.c (.sl An 0 0 c.nt (some c.nt)),i64 (c.nt:Int),i64 (Int.ofNat i)]
abbrev GI (c:Cfg) (u:Vw):List AC:=[.ptr PI 0 0,.ptr 23 0 0,.v (.int .i64 c.nodes),.v (.int .i64 (c.ns:Int)),.v (.int .i64 (Int.negSucc 0))]++ZX u
abbrev qwS (c:Cfg) (v u:Vw) (k:Nat) (F:Nat->RunV) (m:Nat) (σ:Nat->Nat):Zl:=⟨qwH,Yz::qwI,ZQ 56 [(6,.c (.ptr Yz 0 0))],[Wm,Yz].zip [WW m σ fun _=>Wd,Xd c u (Int.negSucc 0) m]++qwI.zip (QM c v k F),Jf,.exit 0⟩
abbrev cqI:List Nat:=[Z2 0,Z2 1,23,24,25,26,27,28,PI,Yz,Wm]
abbrev XP (c:Cfg) (u:Vw) (la:Int) (m:Nat) (σ:Nat->Nat) (T:Nat->ZJ) (q:List AC):List ABlk:=[Zr,Za,Xv 23 c,ZS c.nodes.toNat (ZT c (2*c.np)),ZS c.np c.fp,ZS c.ns c.fs,ZS c.nb c.fb,Yw c.nt c.ft,WV c q,Xd c u la m,WW m σ T]
abbrev Ut (p:Payload):List AC:=[.v (.int .u8 p.kind),.v (.int .u8 p.st),.v (.int .u32 p.seq),.v (.int .u32 p.val)]
abbrev XE:Nat:=100000000100000000000000000000000000000000000000006
abbrev Jv:Nat:=100000000000000000000000000000000
abbrev cpI:List Nat:=[Z2 0,23,24,25,26,27,28,PI]
abbrev OK (c:Cfg) (q:List AC):List ABlk:=[Zr,Xv 23 c,ZS c.nodes.toNat (ZT c (2*c.np)),ZS c.np c.fp,ZS c.ns c.fs,ZS c.nb c.fb,Yw c.nt c.ft,WV c q]
def cpQ (c:Cfg) (q:List AC) (o:Int) (p:Payload) (rr:Int):List AC:=YD (.ptr 23 0 0:: .v (.int .i64 c.fresh)::q) (2+o.toNat*6) (.v (.bool true):: .v (.int .i64 rr)::Ut p)
abbrev cpN:Nat:=100000000100000004100000000000000000000000000000084
abbrev AQ:Nat:=100000000100000004150000000000000000000000000000000
def cpR (P:Program) (c:Cfg) (q:List AC) (o:Int) (p:Payload) (rr:Int) (path:List Dec):Option VF:=
 ZB cpI (ZM (VG P) (fC (VG P) 300) 67 [.c (.ptr PI 0 0),i64 o,.agg (Ut p),i64 rr] cpN 1000000000000000000000000 (XW (cpI.zip (OK c q)) path []))
abbrev cpS (c:Cfg) (q:List AC) (e:Int):Zl:=⟨[],cpI,[i64 e],cpI.zip (OK c q),AQ,.exit (WA 67)⟩
abbrev GR:Nat:=100000000100000000000000000000000000000000000000080
abbrev GE:Nat:=100000000100010000000000000000000000000000000000000
abbrev cdSB (y:Int) (p:Payload):ABlk:=⟨true,false,51,0,.lit ([.v (.bool true),.v (.int .i64 y)]++Ut p)⟩
abbrev ctI:List Nat:=cqI++[GR]
abbrev Mv (c:Cfg) (u:Vw) (la:Int) (m:Nat) (σ:Nat->Nat) (T:Nat->ZJ) (q:List AC) (y:Int) (p:Payload):List ABlk:=XP c u la m σ T q++[cdSB y p]
abbrev OL:List Nat:=[0,5,6,7,56,57]
abbrev Mw (o rr:Int) (m k:Nat):List AV:=[.c (.ptr Yz 0 0),.c (.ptr GR 0 0),i64 o,i64 rr,i64 (m:Int),i64 (Int.ofNat k)]
abbrev ctN:Nat:=100000000100000004200000000000000000000000000000090
abbrev BE:Nat:=100000000100000100000000000000000000000000000000000
abbrev GY:Nat:=100000000100001000000000000000000000000000000000000
def ctR (P:Program) (c:Cfg) (u:Vw) (la:Int) (m:Nat) (σ:Nat->Nat) (T:Nat->ZJ) (q:List AC) (y:Int) (p:Payload) (o rr:Int) (k:Nat) (path:List Dec):Option VC:=
 view (OL++[]) ctI (fC (VG P) 100 (ZW P 29 0) BE Jv (Wi 96 OL ctI (Mw o rr m k) (Mv c u la m σ T q y p) path []))
abbrev ctS (c:Cfg) (u:Vw) (la:Int) (m:Nat) (σ:Nat->Nat) (T:Nat->ZJ) (q:List AC) (y:Int) (p:Payload):Zl:=⟨OL,ctI,ZQ 96 [],ctI.zip (Mv c u la m σ T q y p),GY,.exit 0⟩
def Bh (P:Program) (c:Cfg) (u:Vw) (la:Int) (m:Nat) (σ:Nat->Nat) (T:Nat->ZJ) (q:List AC) (y:Int) (d:List AC) (path:List Dec) (lp:List (Option Zl)):Option VF:=
 ZB cqI (ZM (VG P) (fC (VG P) 300) 29 [.c (.ptr Yz 0 0),i64 y,.agg d] GR Jv (XW (cqI.zip (XP c u la m σ T q)) path lp))
theorem Xt {ty sz n k j:Nat} {f:Nat->List Value}:(WH ty sz n f).inb k j=(decide (k<n)&&decide (j<=sz)):=rfl
theorem Xu {ty sz n k j:Nat} {f:Nat->List Value}:(XX ty sz n f).inb k j=(decide (k<n)&&decide (j<=sz)):=rfl
abbrev UJ (d:Said):List AC:=[.v (.bool d.is),.v (.int .i64 d.at_),.v (.int .u8 d.p.kind),.v (.int .u8 d.p.st),.v (.int .u32 d.p.seq),.v (.int .u32 d.p.val)]
abbrev Ze:Nat:=60000000900000000000000000000000000000201
abbrev M9:Nat:=60000000700000000000000000000000000000201
abbrev Sr (c:Cfg) (u:Vw) (x:Int):ABlk:=⟨true,false,91,0,.lit ([.ptr 23 0 0,.v (.int .i64 (c.ns:Int)),.v (.int .i64 x)]++(ZX u++[.sl M9 0 0 c.nt none]))⟩
abbrev plI:List Nat:=[Z2 0,Z2 1,23,24,25,26,27,28,Ze,M9]
abbrev Wc (c:Cfg) (u:Vw) (x:Int) (S:Nat->ZJ):List ABlk:=[Zr,Za,Xv 23 c,ZS c.nodes.toNat (ZT c (2*c.np)),ZS c.np c.fp,ZS c.ns c.fs,ZS c.nb c.fb,Yw c.nt c.ft,Sr c u x,SO c.nt S]
abbrev YQ:Nat:=1000000000000000000000000000000000000000000099
def Ss (P:Program) (ids:List Nat) (c:Cfg) (u:Vw) (x:Int) (S:Nat->ZJ) (p:Said) (path:List Dec) (lp:List (Option Zl)):Option VF:=
 ZB ids (ZM (VG P) (fC (VG P) 300) 12 [.c (.ptr Ze 0 0),.agg (p.cells.map .v)] YQ nSt (XW (plI.zip (Wc c u x S)) path lp))
abbrev O8 (l:List AC):ABlk:=⟨true,false,51,0,.lit l⟩
abbrev Vz (x:Int) (q:Payload):List AC:=[.v (.bool true),.v (.int .i64 x),.v (.int .u8 q.kind),.v (.int .u8 q.st),.v (.int .u32 q.seq),.v (.int .u32 q.val)]
abbrev Vy:List AC:=[.v (.bool false),.v (.int .i64 (Int.ofNat 0)),.v (.int .u8 (Int.ofNat 0)),.v (.int .u8 (Int.ofNat 0)),.v (.int .u32 (Int.ofNat 0)),.v (.int .u32 (Int.ofNat 0))]
abbrev SZ (ty p:Nat):ABlk:=⟨true,false,ty,0,.lit [.ptr p 0 0]⟩
abbrev FR (ty:Nat) (z:Int):ABlk:=⟨true,false,ty,0,.lit [.v (.int .i64 z)]⟩
abbrev Ai:List AC:=List.replicate 8 (.v (.bool false))++(List.replicate 16 (.v (.int .u8 (Int.ofNat 0)))++(List.replicate 8 (.v (.int .u16 (Int.ofNat 0)))++(List.replicate 8 (.v (.bool false))++[.v (.int .i8 (Int.ofNat 0)),.v (.int .u8 (Int.ofNat 0))])))
abbrev O7:ABlk:=⟨true,false,66,0,.lit (.v (.int .i64 (Int.ofNat 0))::(Vy++(Ai++[.v (.slice none 0 0)])))⟩
def QI (c:Cfg) (o cm rr:Int) (q:Payload) (j:Nat) (s:ZJ):ZJ:=⟨UN c (Int.ofNat j) s.any s.seq true q.kind q.st q.seq o cm rr||s.any,TY (UN c (Int.ofNat j) s.any s.seq true q.kind q.st q.seq o cm rr) q.seq s.seq,TY (UN c (Int.ofNat j) s.any s.seq true q.kind q.st q.seq o cm rr) q.val s.val,TY (UN c (Int.ofNat j) s.any s.seq true q.kind q.st q.seq o cm rr) rr s.rnd⟩
def UF (c:Cfg) (o cm rr:Int) (q:Payload) (S:Nat->ZJ) (k j:Nat):ZJ:=if j<k then QI c o cm rr q j (S j) else S j
abbrev plH:List Nat:=[0,1,8,9]
abbrev p1I:List Nat:=plI++[1000000000000000000000000000000000000000000099,1000000000000000000000000000000000000000000100,1000000000000000000000000000000000000000000101,1000170000000000000000000000000000000000000147,1000180000000000000000000000000000000000000147,1000340000000000000000000000000000000000000154,1000340000000000000000000000000000000000000158,1000340000000000000000000000000000000000000159]
abbrev p1F (x:Int):List AV:=ZQ 169 [(2,.c (.ptr 1000000000000000000000000000000000000000000099 0 0)),(3,.c (.ptr 1000000000000000000000000000000000000000000100 0 0)),(4,.c (.ptr 1000000000000000000000000000000000000000000101 0 0)),(6,.c (.v (.int .i64 x))),(7,.c (.ptr 1000170000000000000000000000000000000000000147 0 0)),(8,.c (.ptr 1000180000000000000000000000000000000000000147 0 0))]
abbrev Ow (P:Program) (c:Cfg) (w:Vw) (y:Int) (S:Nat->ZJ) (x:Int) (q:Payload) (o rr:Int):List ABlk:=Wc c w y S++[SZ 40 Ze,O8 (Vz x q),O7,FR 3 o,FR 2 rr,SZ 40 Ze,Xx (.dfr true),Xx (.loop .ready none (p1F x) #[81,82] (Oy P 12 0) (Oz P 12 0) 1000340000000000000000000000000000000000000158)]
abbrev MD (n k:Nat):List AV:=[.c (.yld 1000340000000000000000000000000000000000000159),.c (.ptr 1000340000000000000000000000000000000000000154 0 0),i64 (n:Int),i64 (Int.ofNat k)]
def p1R (P:Program) (c:Cfg) (w:Vw) (y:Int) (S:Nat->ZJ) (x:Int) (q:Payload) (o rr:Int) (k:Nat) (path:List Dec):Option VC:=
 view (plH++[]) p1I (fC (VG P) 100 (ZW P 71 0) 10000000000000000000000000000000000000000000000 nSt (Wi 23 plH p1I (MD c.nt k) (Ow P c w y S x q o rr) path []))
abbrev AZ (P:Program) (c:Cfg) (w:Vw) (y:Int) (S:Nat->ZJ) (x:Int) (q:Payload) (o rr:Int):Zl:=⟨plH,p1I,ZQ 23 [],p1I.zip (Ow P c w y S x q o rr),100000000000000000000000000000000000000000000000,.exit 0⟩
abbrev Af:Nat:=1000340000000000000000000000000000000000000166
def JH (u d:List AC):List (FuncId × Yk):=(27,KF Qe u)::(28,KF GF d)::UV
theorem jjkg (u d:List AC):∀f g,(f,g)∈JH u d->ZA prog f g:=by
 intro f g h;rcases List.mem_cons.1 h with h|h
 . cases h;exact EW u EU
 rcases List.mem_cons.1 h with h|h
 . cases h;exact EW d C8
 . exact NA f g h
def GN (P:Program) (u d:List AC):Env:=⟨P,JH u d⟩
theorem hECq (u d:List AC):ZC (GN prog u d):=Xf (jjkg u d) (by kernel_rfl) (by kernel_rfl)
abbrev SR:Nat:=100000000090000000000000000000000000000000000000006
abbrev RV (n:Nat) (f:Nat->List AC):ABlk:=⟨true,true,62,56,.arr n f⟩
def KE (P:Program) (ids:List Nat) (bu bd:List AC) (c:Cfg) (u:Vw) (la a:Int) (m:Nat) (σ:Nat->Nat) (T:Nat->ZJ) (q:List AC) (f:Nat->List AC) (path:List Dec) (lp:List (Option Zl)):Option VF:=
 ZB ids (ZM (GN P bu bd) (fC (GN P bu bd) 300) 9 [.c (.ptr Yz 0 0),i64 a,.c (.sl SR 0 0 c.nodes.toNat none)] XE Jv (XW ((SR,RV c.nodes.toNat f)::cqI.zip (XP c u la m σ T q)) path lp))
abbrev AO (c:Cfg) (u:Vw) (la:Int) (m:Nat) (σ:Nat->Nat) (T:Nat->ZJ) (q:List AC):Zl:=⟨[],cqI,[.tup []],cqI.zip (XP c u la m σ T q),GE,.exit (WA 29)⟩
abbrev My:Nat:=10000000000000000000000000000000000000000014
abbrev Mx:Nat:=10000000000000000000000000000000000000000015
abbrev AS:Nat:=100000000000000000000000000000000000000000000
def BI (P:Program) (ids:List Nat) (bu:List AC) (c:Cfg) (u:Vw) (m:Nat) (σ:Nat->Nat) (T:Nat->ZJ) (q:List AC) (f:Nat->List AC) (path:List Dec) (lp:List (Option Zl)):Option VF:=
 ZB ids (ZM (GN P bu []) (fC (GN P bu []) 300) 9 [.c (.ptr Yz 0 0),i64 (Int.ofNat 0),.c (.sl My 0 0 c.nodes.toNat none)] Mx Jv (XW ((My,RV c.nodes.toNat f)::cqI.zip (XP c u (Int.negSucc 0) m σ T q)) path lp)) -- cqZz
theorem p1T (c:Cfg) (w:Vw) (y:Int) (S:Nat->ZJ) (x:Int) (q:Payload) (o rr:Int) (k:Nat) (Q:VC->Prop) (H:let zN:=Int.ofNat;let zM:=ABlk.mk;let zD:=Int.toNat;let zz0:=(zM true false 66 0 (Cs.lit (zI (zN 0)::zB false::zI (zN 0)::zU (zN 0)::zU (zN 0)::zW (zN 0)::zW (zN 0)::z8 (fun zk=>zB false) (z8 (fun zk=>zU (zN 0)) (z8 (fun zk=>zU (zN 0)) (z8 (fun zk=>zH (zN 0)) (z8 (fun zk=>zB false) [AC.v (Value.int IntKind.i8 (zN 0)),zU (zN 0),AC.v (Value.slice none 0 0)])))))));let zz1:=(zM false false 0 0 (Cs.obj (AObj.loop LoopState.ready none (zA::zA::AV.c (AC.ptr YQ 0 0)::AV.c (AC.ptr 1000000000000000000000000000000000000000000100 0 0)::AV.c (AC.ptr 1000000000000000000000000000000000000000000101 0 0)::zA::AV.c (zI x)::AV.c (AC.ptr 1000170000000000000000000000000000000000000147 0 0)::AV.c (AC.ptr 1000180000000000000000000000000000000000000147 0 0)::z9 zA (z9 zA (z9 zA (z9 zA (z9 zA (z9 zA (z9 zA (z9 zA (z9 zA (z9 zA (z9 zA (z9 zA (z9 zA (z9 zA (z9 zA (z9 zA (z9 zA (z9 zA (z9 zA (z9 zA [])))))))))))))))))))) (Array.mk [81,82]) (Oy prog 12 0) (Oz prog 12 0) 1000340000000000000000000000000000000000000158)));let zz2:=(UN c (zN k) (ZJ.any (S (0+zD (zN k)))) (ZJ.seq (S (0+zD (zN k)))) true (Payload.kind q) (Payload.st q) (Payload.seq q) o (IntKind.wrap IntKind.i64 (Vw.command w)) rr);let zz3:=(zM true false 51 0 (Cs.lit [zB true,zI x,zU (Payload.kind q),zU (Payload.st q),zW (Payload.seq q),zW (Payload.val q)]));let zs0:=fun (l:List (Option ABlk))=>some (Xv 23 c)::some (ZS (zD c.nodes) (ZT c (2*c.np)))::some (ZS c.np c.fp)::some (ZS c.ns c.fs)::some (ZS c.nb c.fb)::some (Yw c.nt c.ft)::some (Sr c w y)::l;let zs1:=fun (l:List (Option AV))=>some (ZO (List.zip plH (MD c.nt k)) 0)::some (ZO (List.zip plH (MD c.nt k)) 1)::some (ZO (List.zip plH (MD c.nt k)) 8)::l;let zs2:=fun (l:List (Option ABlk))=>yR 3 0 (Cs.lit [zI o])::yR 2 0 (Cs.lit [zI rr])::yR 40 0 (Cs.lit [AC.ptr Ze 0 0])::yF 0 0 (Cs.obj (AObj.dfr true))::l;(((decide (zN k < ↑(c.nt)))=true->Q (Exit.normal,(zs1 [some (.c (zI (IntKind.wrap .i64 (zN k+zN 1))))]),(some Zr::some Za::zs0 (yO 89 4 (Cs.arr c.nt fun i=>if i=0+zD (zN k) then YD ((fun k=>List.map AC.v ((fun i=>[Value.bool (ZJ.any (S i)),Value.int .u32 (ZJ.seq (S i)),Value.int .u32 (ZJ.val (S i)),Value.int .i64 (ZJ.rnd (S i))]) k)) i) 0 [zB (UN c (zN k) (ZJ.any (S (0+zD (zN k)))) (ZJ.seq (S (0+zD (zN k)))) true (Payload.kind q) (Payload.st q) (Payload.seq q) o (IntKind.wrap .i64 (Vw.command w)) rr||ZJ.any (S (0+zD (zN k)))),zW (TY zz2 (Payload.seq q) (ZJ.seq (S (0+zD (zN k))))),zW (TY zz2 (Payload.val q) (ZJ.val (S (0+zD (zN k))))),zI (TY zz2 rr (ZJ.rnd (S (0+zD (zN k)))))] else List.map AC.v ((fun i=>[Value.bool (ZJ.any (S i)),Value.int .u32 (ZJ.seq (S i)),Value.int .u32 (ZJ.val (S i)),Value.int .i64 (ZJ.rnd (S i))]) i))::yR 40 0 (Cs.lit [AC.ptr Ze 0 0])::some zz3::some zz0::zs2 [some zz1])),23,10000250000000000000000000000000000000000000016,(ABlk.inb (SO c.nt S) (0+zD (zN k)) 4::Zf c (zD c.nodes) (ZT c (2*c.np))::Pt (YF.mk c (zD c.nodes) (ZT c (2*c.np)) [.c (zI (zN k)),.agg [zB (ZJ.any (S (0+zD (zN k)))),zW (ZJ.seq (S (0+zD (zN k)))),zW (ZJ.val (S (0+zD (zN k)))),zI (ZJ.rnd (S (0+zD (zN k))))],.agg [zB true,zI x,zU (Payload.kind q),zU (Payload.st q),zW (Payload.seq q),zW (Payload.val q),zI o,zI (IntKind.wrap .i64 (Vw.command w)),zI rr]])::zt [true,true,true,true,true,true,ABlk.inb (SO c.nt S) (0+zD (zN k)) 4,true,true,true,true,true,true,decide (zN 0<=zN k/\zN k < ↑(c.nt)),true,true,decide (zN k < ↑(c.nt))==true]),[]))/\((decide (zN k < ↑(c.nt)))=false->Q (Exit.exit 0,(zs1 [some (ZO (List.zip plH (MD c.nt k)) 9)]),(some Zr::some Za::zs0 (some (SO c.nt S)::yR 40 0 (Cs.lit [AC.ptr Ze 0 0])::some zz3::some zz0::zs2 [some zz1])),23,10000000000000000000000000000000000000000000001,[decide (zN k < ↑(c.nt))==false],[])))):
 ∃p r,p1R prog c w y S x q o rr k p=some r/\Q r:=
 ZD H (fun g1=>⟨pD 2 1,_,by kernel_rfl,g1⟩) (fun g1=>⟨pD 1 2,_,by kernel_rfl,g1⟩)
theorem Xs (k:Nat):0+Int.toNat (Int.ofNat k)=k:=by simp
theorem Sn {k:Nat} (h:k<9223372036854775807):IntKind.wrap IntKind.i64 (Int.ofNat k+Int.ofNat 1)=Int.ofNat (k+1):=by rw[Wu _ (by simp;omega) (by simp;omega)];rfl
theorem Ro {N:Nat} (hN:YQ<=N) (i:Nat) (h:Nat.blt i YQ=true):Nat.blt i N=true:=by
 rw[Nat.blt_eq] at h ⊢;exact Nat.lt_of_lt_of_le h hN
theorem Rm {N:Nat} {u:Vw}:(ZX u).all (YI N)=true:=rfl
theorem Pc {N:Nat} (hN:YQ<=N) {c:Cfg} {u:Vw} {x:Int} {S:Nat->ZJ}:∀b∈Wc c u x S,Zd N b:=by
 intro x hx;simp only[List.mem_cons,List.not_mem_nil,or_false] at hx;rcases hx with rfl|rfl|rfl|rfl|rfl|rfl|rfl|rfl|rfl|rfl
 . exact Yg rfl
 . exact Yg rfl
 . refine Yg ?_
   simp[Jc,YI,Ro hN 23 rfl,Ro hN 24 rfl,Ro hN 25 rfl,Ro hN 26 rfl,Ro hN 27 rfl,Ro hN 28 rfl]
 . exact Y8
 . exact Y8
 . exact Y8
 . exact Y8
 . exact Y8
 . refine Yg ?_
   rw[List.all_append,List.all_append,Rm];simp[YI,Ro hN 23 rfl,Ro hN M9 rfl]
 . exact Y8
theorem Ep {P:Program} {c:Cfg} {w:Vw} {y:Int} {S:Nat->ZJ} {x:Int} {q:Payload} {o rr:Int}:∀b∈Ow P c w y S x q o rr,Zd Af b:=by
 intro b hb;rcases List.mem_append.1 hb with hb|hb
 . exact Pc (by decide) b hb
 simp only[List.mem_cons,List.not_mem_nil,or_false] at hb;rcases hb with rfl|rfl|rfl|rfl|rfl|rfl|rfl|rfl
 . exact Yg rfl
 . exact Yg rfl
 . exact Yg rfl
 . exact Yg rfl
 . exact Yg rfl
 . exact Yg rfl
 . exact U6 rfl
 . exact U6 rfl
def leL:List AV->List AV->Prop
 | [],[]=>True
 |x::xs,y::ys=>(y= .any\/x=y)/\leL xs ys
 |_,_=>False
theorem Fg:∀{l k:List AV},leL l k->tmLe l k
 | [],[],_=>tmLe.refl _
 | [],_::_,h=>h.elim
 |_::_,[],h=>h.elim
 | x::xs,y::ys,h=>by
  obtain⟨h1,h2⟩:=h;obtain⟨q1,q2⟩:=Fg h2;refine⟨by simp[q1],fun t av ht=>?_⟩
  cases t with
  |zero=>
   simp only[List.getElem?_cons_zero,Option.some.injEq] at ht ⊢;subst ht;rcases h1 with h|h
   . exact .inl h
   . exact .inr h
  |succ t=>
   simp only[List.getElem?_cons_succ] at ht ⊢;exact q2 t av ht
theorem Pe {st:LoopState} {pd:Option Code} {tm tm':List AV} {ps:Array Tmp} {a1 bd:Code} {dn:Nat} (h:leL tm tm'):BEq (Xx (.loop st pd tm ps a1 bd dn)) (Xx (.loop st pd tm' ps a1 bd dn)):=⟨rfl,rfl,rfl,rfl,.inr (.inr ⟨_,_,rfl,rfl,rfl,rfl,Fg h,rfl,rfl,rfl,rfl⟩)⟩
theorem jjp3 {n:Nat} {f:Nat->List AC} {S:Nat->ZJ} (h:∀i,i<n->f i=(S i).cells.map AC.v):BEq (ABlk.mk true true 89 4 (.arr n f)) (SO n S):=⟨rfl,rfl,rfl,rfl,.inr (.inl ⟨n,_,_,rfl,rfl,fun i hi=>h i hi⟩)⟩
theorem Fe (c:Cfg) (w:Vw) (y:Int) (S:Nat->ZJ) (x:Int) (q:Payload) (o rr:Int) (hn:c.nt<=8) (hst:YA c c.nodes.toNat=true) {eb:List (Option ABlk)} (hL:BL (Ow prog c w y S x q o rr) eb):
 LoopV prog (ZW prog 71 0) plH p1I ((MD c.nt 0).map some) eb 23 Af (ZQ 23 []) (p1I.zip (Ow prog c w y (UF c o (IntKind.wrap .i64 w.command) rr q S c.nt) x q o rr)) 100000000000000000000000000000000000000000000000 (.exit 0) none:=by
 refine Pn ST (fuel:=100) (str:=nSt) (nh:=10000000000000000000000000000000000000000000000) (n':=100000000000000000000000000000000000000000000000) (S:=Nat) (fun k=>k<=c.nt) (fun k=>c.nt-k) plH [] p1I (fun k=>MD c.nt k) (fun k=>Ow prog c w y (UF c o (IntKind.wrap .i64 w.command) rr q S k) x q o rr) (by decide) (by decide) (by unfold ZR;omega) (s0:=0) (Nat.zero_le _) (fun _=>⟨rfl,rfl⟩) (by kernel_rfl) hL (fun k hk=>⟨rfl,Ep⟩) fun k hk=>?_
 rcases Nat.lt_or_ge k c.nt with h|h
 . obtain ⟨p,r,h1,⟨g1,g2,g3,g4⟩,h3,h4,h5⟩:∃p r,view (plH++[]) p1I (fC (VG prog) 100 (ZW prog 71 0) 10000000000000000000000000000000000000000000000 nSt (Wi 23 plH p1I (MD c.nt k) (Ow prog c w y (UF c o (IntKind.wrap .i64 w.command) rr q S k) x q o rr) p []))=some r/\Jq 100000000000000000000000000000000000000000000000 23 plH.length (MD c.nt (k+1)) (Ow prog c w y (UF c o (IntKind.wrap .i64 w.command) rr q S (k+1)) x q o rr) r:=by
    refine p1T c w y (UF c o (IntKind.wrap .i64 w.command) rr q S k) x q o rr k _ ⟨fun c1=>?_,fun c1=>?_⟩
    . have hq:∀a b d e,Pt (YF.mk c c.nodes.toNat (ZT c (2*c.np)) [.c (.v (.int .i64 (Int.ofNat k))),.agg [.v (.bool a),.v (.int .u32 b),.v (.int .u32 d),.v (.int .i64 e)],.agg [.v (.bool true),.v (.int .i64 x),.v (.int .u8 q.kind),.v (.int .u8 q.st),.v (.int .u32 q.seq),.v (.int .u32 q.val),.v (.int .i64 o),.v (.int .i64 (IntKind.wrap .i64 (Vw.command w))),.v (.int .i64 rr)]])=true:=by
       intro a b d e;show (YA c c.nodes.toNat&&true)=true;rw[hst];rfl
      refine⟨⟨?_,rfl,by dsimp only;omega,rfl⟩,rfl,?_,?_⟩
      . simp only[ZZ,List.forall_mem_cons,Xs,hq,YN]
        simp[YK,Xt,Xu];omega
      . dsimp only;rw[Sn (show k<9223372036854775807 by omega)];rfl
      . refine⟨BEq.refl _,BEq.refl _,BEq.refl _,BEq.refl _,BEq.refl _,BEq.refl _,BEq.refl _,BEq.refl _,BEq.refl _,jjp3 (fun j hj=>?_),BEq.refl _,BEq.refl _,BEq.refl _,BEq.refl _,BEq.refl _,BEq.refl _,BEq.refl _,BEq.refl _,trivial⟩
        by_cases e:j=0+Int.toNat (Int.ofNat k)
        . rw[if_pos e]
          rw[Xs] at e;subst e;simp[TY,YD,UI,ZN,UF,QI,ZJ.cells]
        . rw[if_neg e]
          rw[Xs] at e;simp only[UF,show (j<k+1)=(j<k) by simp;omega];rfl
    . simp at c1;omega
   exact⟨p,[],r,h1,g1,g2,g3,g4,.inl ⟨h3,k+1,h,by show c.nt-(k+1)<c.nt-k;omega,h4,h5⟩⟩
 . obtain rfl:k=c.nt:=by omega
   obtain⟨p,r,h1,⟨g1,g2,g3,g4⟩,h3,h4,h5⟩:∃p r,view (plH++[]) p1I (fC (VG prog) 100 (ZW prog 71 0) 10000000000000000000000000000000000000000000000 nSt (Wi 23 plH p1I (MD c.nt c.nt) (Ow prog c w y (UF c o (IntKind.wrap .i64 w.command) rr q S c.nt) x q o rr) p []))=some r/\Kr Af 100000000000000000000000000000000000000000000000 23 (plH++[]) p1I (.exit 0) [] (p1I.zip (Ow prog c w y (UF c o (IntKind.wrap .i64 w.command) rr q S c.nt) x q o rr)) r:=by
    refine p1T c w y (UF c o (IntKind.wrap .i64 w.command) rr q S c.nt) x q o rr c.nt _ ⟨fun c1=>?_,fun c1=>?_⟩
    . simp at c1
    . exact⟨⟨by simp only[ZZ,List.forall_mem_cons,c1];simp,rfl,by dsimp only;omega,rfl⟩,rfl,(fun _ h=>by cases h),Pi (by kernel_rfl) Ep rfl⟩
   exact⟨p,[],r,h1,g1,g2,g3,g4,.inr ⟨by rw[h3];exact fun z=>Exit.noConfusion z,h3,h4,h5⟩⟩
abbrev Zg (n:Nat) (g:Nat->Int):ABlk:=WH 47 1 n fun j=>[.int .u32 (g j)]
abbrev B0 (x:Int) (l:List AC) (w:Vw) (o n:Nat):ABlk:=⟨true,false,66,0,.lit (.v (.int .i64 x)::(l++(ZX w++[.sl o 0 0 n none])))⟩
abbrev G9:List AV:=ZQ 169 [(2,.c (.ptr 1000000000000000000000000000000000000000000099 0 0)),(4,.c (.ptr 1000000000000000000000000000000000000000000101 0 0)),(11,.c (.ptr 100000230000000000000000000000000000000000000000 0 0))]
abbrev SL:Nat:=100000210000000000000000000000000000000000000000
abbrev Ga:List Nat:=plI++[1000000000000000000000000000000000000000000099,1000000000000000000000000000000000000000000100,1000000000000000000000000000000000000000000101,100000230000000000000000000000000000000000000000,100000240000000000000000000000000000000000000002,100000240000000000000000000000000000000000000006,100000240000000000000000000000000000000000000007,1000340000000000000000000000000000000000000158]
abbrev poYNI:List Nat:=SL::Ga
abbrev TL (P:Program) (c:Cfg) (w:Vw) (T:Nat->ZJ) (x y:Int) (q:Payload):List ABlk:=Wc c w y T++[SZ 40 Ze,O8 (Vz x q),O7,B0 x (Vz x q) w SL c.nt,SZ 40 Ze,Xx (.dfr true),Xx (.loop .ready none G9 #[144,145] (Oy P 12 1) (Oz P 12 1) 100000240000000000000000000000000000000000000006),Xx (.dfr true)]
abbrev Og (n k:Nat):List AV:=[.c (.yld 100000240000000000000000000000000000000000000007),.c (.ptr 100000240000000000000000000000000000000000000002 0 0),i64 (n:Int),i64 (Int.ofNat k)]
def Gb (P:Program) (c:Cfg) (w:Vw) (T:Nat->ZJ) (x y:Int) (q:Payload) (g:Nat->Int) (k:Nat) (path:List Dec):Option VC:=
 view (plH++[]) poYNI (fC (VG P) 100 (ZW P 71 0) 1000000000000000000000000000000000000000000000000 nSt (Wi 23 plH poYNI (Og c.nt k) (Zg c.nt g::TL P c w T x y q) path []))
abbrev K8 (P:Program) (c:Cfg) (w:Vw) (T:Nat->ZJ) (x y:Int) (q:Payload) (g:Nat->Int):Zl:=⟨plH,poYNI,ZQ 23 [],poYNI.zip (Zg c.nt g::TL P c w T x y q),10000000000000000000000000000000000000000000000000,.exit 0⟩
abbrev Of:Nat:=100000240000000000000000000000000000000000000014
abbrev G5:List AV:=ZQ 169 [(2,.c (.ptr 1000000000000000000000000000000000000000000099 0 0)),(4,.c (.ptr 1000000000000000000000000000000000000000000101 0 0)),(11,.c (.ptr 100000350000000000000000000000000000000000000001 0 0))]
abbrev SK:Nat:=100000330000000000000000000000000000000000000001
abbrev G6:List Nat:=plI++[1000000000000000000000000000000000000000000099,1000000000000000000000000000000000000000000100,1000000000000000000000000000000000000000000101,100000350000000000000000000000000000000000000001,100000360000000000000000000000000000000000000003,100000360000000000000000000000000000000000000007,100000360000000000000000000000000000000000000008,1000340000000000000000000000000000000000000158]
abbrev poYBI:List Nat:=SK::G6
abbrev TK (P:Program) (c:Cfg) (w:Vw) (T:Nat->ZJ) (x y:Int) (q:Payload):List ABlk:=Wc c w y T++[SZ 40 Ze,O8 (Vz x q),O7,B0 x (Vz x q) w SK c.nt,SZ 40 Ze,Xx (.dfr true),Xx (.loop .ready none G5 #[144,145] (Oy P 12 1) (Oz P 12 1) 100000360000000000000000000000000000000000000007),Xx (.dfr true)]
abbrev Oe (n k:Nat):List AV:=[.c (.yld 100000360000000000000000000000000000000000000008),.c (.ptr 100000360000000000000000000000000000000000000003 0 0),i64 (n:Int),i64 (Int.ofNat k)]
def G7 (P:Program) (c:Cfg) (w:Vw) (T:Nat->ZJ) (x y:Int) (q:Payload) (g:Nat->Int) (k:Nat) (path:List Dec):Option VC:=
 view (plH++[]) poYBI (fC (VG P) 100 (ZW P 71 0) 1000000000000000000000000000000000000000000000000 nSt (Wi 23 plH poYBI (Oe c.nt k) (Zg c.nt g::TK P c w T x y q) path []))
abbrev K7 (P:Program) (c:Cfg) (w:Vw) (T:Nat->ZJ) (x y:Int) (q:Payload) (g:Nat->Int):Zl:=⟨plH,poYBI,ZQ 23 [],poYBI.zip (Zg c.nt g::TK P c w T x y q),10000000000000000000000000000000000000000000000000,.exit 0⟩
abbrev Od:Nat:=100000360000000000000000000000000000000000000015
abbrev G1:List AV:=ZQ 169 [(2,.c (.ptr 1000000000000000000000000000000000000000000099 0 0)),(4,.c (.ptr 1000000000000000000000000000000000000000000101 0 0)),(11,.c (.ptr 1000440000000000000000000000000000000000000145 0 0))]
abbrev SJ:Nat:=1000420000000000000000000000000000000000000145
abbrev G2:List Nat:=plI++[1000000000000000000000000000000000000000000099,1000000000000000000000000000000000000000000100,1000000000000000000000000000000000000000000101,1000440000000000000000000000000000000000000145,1000450000000000000000000000000000000000000147,1000450000000000000000000000000000000000000151,1000450000000000000000000000000000000000000152]
abbrev poNNI:List Nat:=SJ::G2
abbrev TJ (P:Program) (c:Cfg) (w:Vw) (T:Nat->ZJ) (x y:Int) (q:Payload):List ABlk:=Wc c w y T++[SZ 40 Ze,O8 Vy,O7,B0 x Vy w SJ c.nt,SZ 40 Ze,Xx (.dfr true),Xx (.loop .ready none G1 #[144,145] (Oy P 12 1) (Oz P 12 1) 1000450000000000000000000000000000000000000151)]
abbrev Oc (n k:Nat):List AV:=[.c (.yld 1000450000000000000000000000000000000000000152),.c (.ptr 1000450000000000000000000000000000000000000147 0 0),i64 (n:Int),i64 (Int.ofNat k)]
def G3 (P:Program) (c:Cfg) (w:Vw) (T:Nat->ZJ) (x y:Int) (q:Payload) (g:Nat->Int) (k:Nat) (path:List Dec):Option VC:=
 view (plH++[]) poNNI (fC (VG P) 100 (ZW P 71 0) 1000000000000000000000000000000000000000000000000 nSt (Wi 23 plH poNNI (Oc c.nt k) (Zg c.nt g::TJ P c w T x y q) path []))
abbrev K6 (P:Program) (c:Cfg) (w:Vw) (T:Nat->ZJ) (x y:Int) (q:Payload) (g:Nat->Int):Zl:=⟨plH,poNNI,ZQ 23 [],poNNI.zip (Zg c.nt g::TJ P c w T x y q),10000000000000000000000000000000000000000000000000,.exit 0⟩
abbrev Ob:Nat:=1000450000000000000000000000000000000000000159
abbrev FX:List AV:=ZQ 169 [(2,.c (.ptr 1000000000000000000000000000000000000000000099 0 0)),(4,.c (.ptr 1000000000000000000000000000000000000000000101 0 0)),(11,.c (.ptr 1000560000000000000000000000000000000000000146 0 0))]
abbrev SI:Nat:=1000540000000000000000000000000000000000000146
abbrev FY:List Nat:=plI++[1000000000000000000000000000000000000000000099,1000000000000000000000000000000000000000000100,1000000000000000000000000000000000000000000101,1000560000000000000000000000000000000000000146,1000570000000000000000000000000000000000000148,1000570000000000000000000000000000000000000152,1000570000000000000000000000000000000000000153]
abbrev poNBI:List Nat:=SI::FY
abbrev TI (P:Program) (c:Cfg) (w:Vw) (T:Nat->ZJ) (x y:Int) (q:Payload):List ABlk:=Wc c w y T++[SZ 40 Ze,O8 Vy,O7,B0 x Vy w SI c.nt,SZ 40 Ze,Xx (.dfr true),Xx (.loop .ready none FX #[144,145] (Oy P 12 1) (Oz P 12 1) 1000570000000000000000000000000000000000000152)]
abbrev Oa (n k:Nat):List AV:=[.c (.yld 1000570000000000000000000000000000000000000153),.c (.ptr 1000570000000000000000000000000000000000000148 0 0),i64 (n:Int),i64 (Int.ofNat k)]
def FZ (P:Program) (c:Cfg) (w:Vw) (T:Nat->ZJ) (x y:Int) (q:Payload) (g:Nat->Int) (k:Nat) (path:List Dec):Option VC:=
 view (plH++[]) poNBI (fC (VG P) 100 (ZW P 71 0) 1000000000000000000000000000000000000000000000000 nSt (Wi 23 plH poNBI (Oa c.nt k) (Zg c.nt g::TI P c w T x y q) path []))
abbrev K5 (P:Program) (c:Cfg) (w:Vw) (T:Nat->ZJ) (x y:Int) (q:Payload) (g:Nat->Int):Zl:=⟨plH,poNBI,ZQ 23 [],poNBI.zip (Zg c.nt g::TI P c w T x y q),10000000000000000000000000000000000000000000000000,.exit 0⟩
abbrev O9:Nat:=1000570000000000000000000000000000000000000160
abbrev crZ (c:Cfg) (v:Vw) (m:Nat) (σ:Nat->Nat) (g:Nat->Int):Zl:=⟨[],My::cqI,[.tup [.agg ((.v (.int .i64 (Int.negSucc 0))::(UJ Said.zero++ZX v))++[.sl Mx 0 0 m none]),.c (.v (.int .i64 (Int.ofNat 0)))]],[Mx].zip [Zg m g]++cqI.zip (XP c v (Int.ofNat 0) m σ (fun _=>Wd) GD),AS,.exit (WA 9)⟩
abbrev mcS:Zl:=⟨mcH,mcI,ZQ 225 [],SH,100000000000000000000000000000000000000000000000000000,.exit 0⟩
def NZ (P:Program) (err:Cfg->Int) (c:Cfg) (v:Vw) (k:Nat) (F:Nat->RunV) (path:List Dec) (lp:List (Option Zl)):Option VF:=
 ZB [] (ZM (GP P err UV) (fC (GP P err UV) 300) 3 [.agg (VU c),.agg (ZX v),.c (.sl 4 0 0 k none)] 10 nSt (XW (SH++MO c++[(4,RK k F)]) path lp))
theorem mgN (err:Cfg->Int) (c:Cfg) (v:Vw) (k:Nat) (F:Nat->RunV) (Q:VF->Prop) (H:let zN:=Int.ofNat;(((decide (↑k>zN 60))=true->Q (.c (zB true),[],19,[decide (↑k>zN 60)==true],[]))/\((decide (↑k>zN 60))=false->(((decide (↑(c.nt)>zN 8))=true->Q (.c (zB true),[],23,[decide (↑(c.nt)>zN 8)==true,true,decide (↑k>zN 60)==false],[]))/\((decide (↑(c.nt)>zN 8))=false->Q (.c (zB true),[],33,[(err c !=zN 0)==true,VH c,decide (c.nb<=9223372036854775807),decide (err c≠zN 0),true,true,true,true,true,true,decide (↑(c.nt)>zN 8)==false,true,decide (↑k>zN 60)==false],[])))))):
 ∃p r,NZ prog err c v k F p []=some r/\Q r:=
 ZD H (fun g1=>⟨pD 5 1,_,by kernel_rfl,g1⟩) (fun g1=>ZD g1 (fun g2=>⟨pD 5 83,_,by kernel_rfl,g2⟩) (fun g2=>⟨pD 10 407,_,by kernel_rfl,g2⟩))
theorem mgA (err:Cfg->Int) (c:Cfg) (v:Vw) (k:Nat) (F:Nat->RunV) (Q:VF->Prop) (H:Q (.c (zB true),[],19,[decide (↑k>Int.ofNat 60)==true],[])):
 ∃p r,JT prog err c v k F p []=some r/\Q r:=
 ⟨pD 5 1,_,by kernel_rfl,H⟩
theorem mgB (err:Cfg->Int) (c:Cfg) (v:Vw) (k:Nat) (F:Nat->RunV) (Q:VF->Prop) (H:Q (.c (zB true),[],42,(((!XQ c (Int.toNat c.nodes) (ZT c (2*c.np)) (ZX v))==true)::Zf c (Int.toNat c.nodes) (ZT c (2*c.np))::zt (zt (zt (zt (zt [true,true,true,true,VH c,decide (c.nb<=9223372036854775807),decide (err c=Int.ofNat 0),true,true,true,true,true,true,decide (↑(c.nt)>Int.ofNat 8)==false,true,decide (↑k>Int.ofNat 60)==false]))))),[])):
 ∃p r,JT prog err c v k F p []=some r/\Q r:=
 ⟨pD 10 19847,_,by kernel_rfl,H⟩
theorem mgM (err:Cfg->Int) (c:Cfg) (v u:Vw) (k:Nat) (F:Nat->RunV) (m:Nat) (σ:Nat->Nat) (g:Nat->Int) (Q:VF->Prop) (H:let zN:=Int.ofNat;let zM:=ABlk.mk;let zD:=Int.toNat;let zz0:=(zM true false 136 0 (Cs.lit [AC.ptr 23 0 0,zI (Cfg.fresh c),zB false,zI (zN 0),zU (zN 0),zU (zN 0),zW (zN 0),zW (zN 0),zB false,zI (zN 0),zU (zN 0),zU (zN 0),zW (zN 0),zW (zN 0),zB false,zI (zN 0),zU (zN 0),zU (zN 0),zW (zN 0),zW (zN 0),zB false,zI (zN 0),zU (zN 0),zU (zN 0),zW (zN 0),zW (zN 0),zB false,zI (zN 0),zU (zN 0),zU (zN 0),zW (zN 0),zW (zN 0),zB false,zI (zN 0),zU (zN 0),zU (zN 0),zW (zN 0),zW (zN 0),zB false,zI (zN 0),zU (zN 0),zU (zN 0),zW (zN 0),zW (zN 0),zB false,zI (zN 0),zU (zN 0),zU (zN 0),zW (zN 0),zW (zN 0)]));let zz1:=(Xr c (zD (Cfg.nodes c)) (ZT c (2*Cfg.np c)));let zz2:=(zM true true 70 3 (Cs.arr (Cfg.nt c) fun k=>List.map AC.v ((fun i=>[Value.int IntKind.i64 (Station.node (YY (Zj (Yw (Cfg.nt c) (Cfg.ft c)) 0 0 3) i)),Value.int IntKind.u32 (Station.safe (YY (Zj (Yw (Cfg.nt c) (Cfg.ft c)) 0 0 3) i)),Value.int IntKind.i64 (Station.hold (YY (Zj (Yw (Cfg.nt c) (Cfg.ft c)) 0 0 3) i))]) k)));let zz3:=(Zj (zM true true 89 4 (Cs.arr (zD ↑(Cfg.nt c)) fun x=>List.map AC.v (Array.toList (Value.cells (Value.agg #[Value.bool false,Value.int IntKind.u32 0,Value.int IntKind.u32 0,Value.int IntKind.i64 0]))))) 0 0 4);let zz4:=(Zj (zM false true 70 3 (yT c)) 0 0 3);let zz5:=(zM true true 99 5 (Cs.arr m fun k=>List.map AC.v ((fun j=>[Value.int IntKind.i64 (zN (σ j)),Value.bool (ZJ.any ((fun x=>Wd) j)),Value.int IntKind.u32 (ZJ.seq ((fun x=>Wd) j)),Value.int IntKind.u32 (ZJ.val ((fun x=>Wd) j)),Value.int IntKind.i64 (ZJ.rnd ((fun x=>Wd) j))]) k)));let zs0:=fun (l:List (Option ABlk))=>some (Xv 23 c)::some (ZS (zD c.nodes) (ZT c (2*c.np)))::some (ZS c.np c.fp)::some (ZS c.ns c.fs)::some (ZS c.nb c.fb)::some (Yw c.nt c.ft)::l;Q (.c (zB true),[],100000000000000000000000000000000000000000000000000001,(((!Vh [none,none,none,none,none,none,none,none,some .u8,some .u8,some .u8,some .u8,some .u8,some .u8,some .u8,some .u8,some .u8,some .u8,some .u8,some .u8,some .u8,some .u8,some .u8,some .u8,some .u16,some .u16,some .u16,some .u16,some .u16,some .u16,some .u16,some .u16,none,none,none,none,none,none,none,none,some .i8,some .u8] (ZX v) (ZX v))==false)::(zu (zu (zu (zu (zu (zu (zt (zt (zt (true::true::((decide (zN 1<=c.nodes))::(decide (c.nodes<=zN 1000))::(zu (zt (zt (y3 (((Zf c (zD c.nodes) (ZT c (2*c.np)))::(zt (zt (zt (true::((decide (zN 0<=zN 0/\zN 0<=Option.getD (some ↑(c.nt)) ↑(c.nt)/\Option.getD (some ↑(c.nt)) ↑(c.nt)<=YR none c.nt (some ↑(c.nt))))::true::(decide (YR none c.nt (some ↑(c.nt)) <= ↑(Option.getD none c.nt)))::true::(Zt none (zM true true 70 3 (Cs.arr c.nt fun k=>List.map AC.v ((fun i=>[Value.int .i64 (Station.node (YY zz4 i)),Value.int .u32 (Station.safe (YY zz4 i)),Value.int .i64 (Station.hold (YY zz4 i))]) k))) 0 c.nt)::(decide (0+c.nt<=c.nt))::(decide (c.nt<=1000000))::(Yv c.nt fun k=>List.map AC.v ((fun i=>[Value.int .i64 (Station.node (c.ft i)),Value.int .u32 (Station.safe (c.ft i)),Value.int .i64 (Station.hold (c.ft i))]) k))::true::true::(decide (zN 0<=zN 0/\zN 0<=Option.getD (some ↑(0+c.nb)) ↑(0+c.nb)/\Option.getD (some ↑(0+c.nb)) ↑(0+c.nb)<=YR none (0+c.nb) (some ↑(0+c.nb))))::true::(decide (YR none (0+c.nb) (some ↑(0+c.nb)) <= ↑(Option.getD none (0+c.nb))))::true::(Zt none (zM true true 3 1 (Cs.arr (0+c.nb) fun i=>if i<0 then[] else YW (zM false true 3 1 (yB c)) 0 0 1 (i-0))) 0 (0+c.nb))::(decide (0+c.nb<=c.nb))::true::true::(decide ((0+c.nb)*8<=140737488355328))::(ABlk.inb (zM false true 3 1 (yB c)) 0 1)::y3 (true::(decide (zN 0<=zN 0/\zN 0<=Option.getD (some ↑(0+c.ns)) ↑(0+c.ns)/\Option.getD (some ↑(0+c.ns)) ↑(0+c.ns)<=YR none (0+c.ns) (some ↑(0+c.ns))))::true::(decide (YR none (0+c.ns) (some ↑(0+c.ns)) <= ↑(Option.getD none (0+c.ns))))::true::(Zt none (zM true true 3 1 (Cs.arr (0+c.ns) fun i=>if i<0 then[] else YW (zM false true 3 1 (yS c)) 0 0 1 (i-0))) 0 (0+c.ns))::(decide (0+c.ns<=c.ns))::true::true::(decide ((0+c.ns)*8<=140737488355328))::(ABlk.inb (zM false true 3 1 (yS c)) 0 1)::y3 (true::(decide (zN 0<=zN 0/\zN 0<=Option.getD (some ↑(0+c.np)) ↑(0+c.np)/\Option.getD (some ↑(0+c.np)) ↑(0+c.np)<=YR none (0+c.np) (some ↑(0+c.np))))::true::(decide (YR none (0+c.np) (some ↑(0+c.np)) <= ↑(Option.getD none (0+c.np))))::true::(Zt none (zM true true 3 1 (Cs.arr (0+c.np) fun i=>if i<0 then[] else YW (zM false true 3 1 (yP c)) 0 0 1 (i-0))) 0 (0+c.np))::(decide (0+c.np<=c.np))::true::true::(decide ((0+c.np)*8<=140737488355328))::(ABlk.inb (zM false true 3 1 (yP c)) 0 1)::(zt (true::(((!decide (↑(zD c.nodes)>zN 0))==false)::true::((Zq c (zD c.nodes)==zN 0)==false)::(Zf c (zD c.nodes) (ZT c (2*c.np)))::true::(decide (Int.tmod (↑k) c.nodes≥c.nodes)==false)::true::true::(decide (Int.tmod (↑k) c.nodes<zN 0)==false)::(zt (zt (y3 (y3 (((decide (zN 0<=zN 0/\zN 0<=Option.getD (some ↑(c.nt)) ↑(c.nt)/\Option.getD (some ↑(c.nt)) ↑(c.nt)<=YR none c.nt (some ↑(c.nt))))::true::(decide (YR none c.nt (some ↑(c.nt)) <= ↑(Option.getD none c.nt)))::true::(Zt none zz2 0 c.nt)::(decide (0+c.nt<=c.nt))::(decide (c.nt<=1000000))::(Yv c.nt fun k=>List.map AC.v ((fun i=>[Value.int .i64 (Station.node (c.ft i)),Value.int .u32 (Station.safe (c.ft i)),Value.int .i64 (Station.hold (c.ft i))]) k))::true::true::(decide (zN 0<=zN 0/\zN 0<=Option.getD (some ↑(0+c.nb)) ↑(0+c.nb)/\Option.getD (some ↑(0+c.nb)) ↑(0+c.nb)<=YR none (0+c.nb) (some ↑(0+c.nb))))::true::(decide (YR none (0+c.nb) (some ↑(0+c.nb)) <= ↑(Option.getD none (0+c.nb))))::true::(Zt none (zM true true 3 1 (Cs.arr (0+c.nb) fun i=>if i<0 then[] else YW (ZS c.nb c.fb) 0 0 1 (i-0))) 0 (0+c.nb))::(decide (0+c.nb<=c.nb))::true::true::(decide ((0+c.nb)*8<=140737488355328))::(ABlk.inb (ZS c.nb c.fb) 0 1)::y3 (true::(decide (zN 0<=zN 0/\zN 0<=Option.getD (some ↑(0+c.ns)) ↑(0+c.ns)/\Option.getD (some ↑(0+c.ns)) ↑(0+c.ns)<=YR none (0+c.ns) (some ↑(0+c.ns))))::true::(decide (YR none (0+c.ns) (some ↑(0+c.ns)) <= ↑(Option.getD none (0+c.ns))))::true::(Zt none (zM true true 3 1 (Cs.arr (0+c.ns) fun i=>if i<0 then[] else YW (ZS c.ns c.fs) 0 0 1 (i-0))) 0 (0+c.ns))::(decide (0+c.ns<=c.ns))::true::true::(decide ((0+c.ns)*8<=140737488355328))::(ABlk.inb (ZS c.ns c.fs) 0 1)::y3 (true::(decide (zN 0<=zN 0/\zN 0<=Option.getD (some ↑(0+c.np)) ↑(0+c.np)/\Option.getD (some ↑(0+c.np)) ↑(0+c.np)<=YR none (0+c.np) (some ↑(0+c.np))))::true::(decide (YR none (0+c.np) (some ↑(0+c.np)) <= ↑(Option.getD none (0+c.np))))::true::(Zt none (zM true true 3 1 (Cs.arr (0+c.np) fun i=>if i<0 then[] else YW (ZS c.np c.fp) 0 0 1 (i-0))) 0 (0+c.np))::(decide (0+c.np<=c.np))::true::true::(decide ((0+c.np)*8<=140737488355328))::(ABlk.inb (ZS c.np c.fp) 0 1)::(zt (true::(((!decide (↑(zD c.nodes)>zN 0))==false)::true::(decide (0+zD ↑(c.nt)<=zD ↑(c.nt)))::(decide (zD ↑(c.nt)<=1000000))::(Mm (zD ↑(c.nt)) fun x=>List.map AC.v (Array.toList (Value.cells (Value.agg #[Value.bool false,Value.int .u32 0,Value.int .u32 0,Value.int .i64 0]))))::(zu (zt (y3 (true::((((zN (zD ↑(c.nt))) != ↑(zD (Option.getD (some ↑(c.nt)) ↑(c.nt)-zN 0)))==false)::true::((!XQ c (zD c.nodes) (ZT c (2*c.np)) (ZX v))==false)::(Zf c (zD c.nodes) (ZT c (2*c.np)))::(zu (zt (y3 (true::(((Zq c (zD c.nodes)==zN 0)==false)::(Zf c (zD c.nodes) (ZT c (2*c.np)))::(zt (zt (y3 (y3 (true::((decide (zN 0<=zN 0/\zN 0<=Option.getD (some ↑(c.nt)) ↑(c.nt)/\Option.getD (some ↑(c.nt)) ↑(c.nt)<=YR none c.nt (some ↑(c.nt))))::true::(decide (YR none c.nt (some ↑(c.nt)) <= ↑(Option.getD none c.nt)))::true::(Zt none zz2 0 c.nt)::(decide (0+c.nt<=c.nt))::(decide (c.nt<=1000000))::(Yv c.nt fun k=>List.map AC.v ((fun i=>[Value.int .i64 (Station.node (c.ft i)),Value.int .u32 (Station.safe (c.ft i)),Value.int .i64 (Station.hold (c.ft i))]) k))::true::true::(decide (zN 0<=zN 0/\zN 0<=Option.getD (some ↑(0+c.nb)) ↑(0+c.nb)/\Option.getD (some ↑(0+c.nb)) ↑(0+c.nb)<=YR none (0+c.nb) (some ↑(0+c.nb))))::true::(decide (YR none (0+c.nb) (some ↑(0+c.nb)) <= ↑(Option.getD none (0+c.nb))))::true::(Zt none (zM true true 3 1 (Cs.arr (0+c.nb) fun i=>if i<0 then[] else YW (ZS c.nb c.fb) 0 0 1 (i-0))) 0 (0+c.nb))::(decide (0+c.nb<=c.nb))::true::true::(decide ((0+c.nb)*8<=140737488355328))::(ABlk.inb (ZS c.nb c.fb) 0 1)::y3 (true::(decide (zN 0<=zN 0/\zN 0<=Option.getD (some ↑(0+c.ns)) ↑(0+c.ns)/\Option.getD (some ↑(0+c.ns)) ↑(0+c.ns)<=YR none (0+c.ns) (some ↑(0+c.ns))))::true::(decide (YR none (0+c.ns) (some ↑(0+c.ns)) <= ↑(Option.getD none (0+c.ns))))::true::(Zt none (zM true true 3 1 (Cs.arr (0+c.ns) fun i=>if i<0 then[] else YW (ZS c.ns c.fs) 0 0 1 (i-0))) 0 (0+c.ns))::(decide (0+c.ns<=c.ns))::true::true::(decide ((0+c.ns)*8<=140737488355328))::(ABlk.inb (ZS c.ns c.fs) 0 1)::y3 (true::(decide (zN 0<=zN 0/\zN 0<=Option.getD (some ↑(0+c.np)) ↑(0+c.np)/\Option.getD (some ↑(0+c.np)) ↑(0+c.np)<=YR none (0+c.np) (some ↑(0+c.np))))::true::(decide (YR none (0+c.np) (some ↑(0+c.np)) <= ↑(Option.getD none (0+c.np))))::true::(Zt none (zM true true 3 1 (Cs.arr (0+c.np) fun i=>if i<0 then[] else YW (ZS c.np c.fp) 0 0 1 (i-0))) 0 (0+c.np))::(decide (0+c.np<=c.np))::true::true::(decide ((0+c.np)*8<=140737488355328))::(ABlk.inb (ZS c.np c.fp) 0 1)::(zt (true::(((!decide (↑(zD c.nodes)>zN 0))==false)::true::(decide (zN 0 <= ↑(c.nt)/\(zN c.nt)= ↑(c.nt)/\ ↑(c.nt)*zN 24<=zN 140737488355328))::(zu (zt (y3 (true::((decide (c.nodes≠zN 0))::true::true::((!XQ c (zD c.nodes) (ZT c (2*c.np)) (ZX v))==false)::(Zf c (zD c.nodes) (ZT c (2*c.np)))::(zu (zt (y3 (true::((VH c)::(decide (c.nb<=9223372036854775807))::(decide (err c=zN 0))::y3 (y3 ((decide (↑(c.nt)>zN 8)==false)::true::(decide (↑k>zN 60)==false)::[])))))))))))))))))))))))))))))))))))))))))))))))))))))))))))))))))))))))),[LoopV prog (ZW prog 3 0) mcH mcI [some (.c (.sl 4 0 0 k none)),some (.c (.ptr 10 0 0)),some (.c (zI (Int.tmod (↑k) c.nodes))),some (.c (.ptr M7 0 0)),some (.c (.ptr Yz 0 0)),some (.c (zI (zN 0)))] (some Zr::some Za::some (RL c.nt c.ft)::some (RK k F)::some (Vf c)::zs0 [some (O1 c v (zN 0)),yO 89 4 (Cs.arr c.nt fun k=>List.map AC.v ((fun i=>[Value.bool (ZJ.any ((fun x=>Wd) i)),Value.int .u32 (ZJ.seq ((fun x=>Wd) i)),Value.int .u32 (ZJ.val ((fun x=>Wd) i)),Value.int .i64 (ZJ.rnd ((fun x=>Wd) i))]) k)),some zz0,some (Xd c v (zN 0) m),some zz5]) 225 100080000000000000000000000000000000000000007 (ZQ 225 []) SH 100000000000000000000000000000000000000000000000000000 (Exit.exit 0) none,CallV prog 9 [.c (.ptr Yz 0 0),.c (zI (zN 0)),.c (.sl My 0 0 (zD c.nodes) none)] (My::cqI) (yO 62 56 (Cs.arr (zD c.nodes) fun k=>List.map AC.v ((fun j=>Ts (Wj (zD (Int.tmod 0 c.nodes)) (Ul (zB false::zI (zN 0)::zB false::zI (zN 0)::zU (zN 0)::zU (zN 0)::zW (zN 0)::zW (zN 0)::zB false::zI (zN 0)::zU (zN 0)::zU (zN 0)::zW (zN 0)::zW (zN 0)::z8 (fun zk=>zB false) (z8 (fun zk=>zU (zN 0)) (z8 (fun zk=>zU (zN 0)) (z8 (fun zk=>zH (zN 0)) (z8 (fun zk=>zB false) [.v (.int .i8 (zN 0)),zU (zN 0)])))))) (Zi (ZX v)) (Said.mk false (zN 0) (Payload.mk (zN 0) (zN 0) (zN 0) (zN 0))) j)) k))::some Zr::some Za::zs0 [some zz0,some (Xd c u (Int.negSucc 0) m),some zz5]) Mx (.tup [AV.agg (zI (Int.negSucc 0)::(UJ Said.zero++ZX v)++[AC.sl Mx 0 0 m none]),.c (zI (zN 0))]) (List.zip [Mx] [Zg m g]++List.zip cqI (XP c v (zN 0) m σ (fun x=>Wd) GD)) 100000000000000000000000000000000000000000000,LoopV prog (ZW prog 8 0) qwH (Yz::qwI) [some (.c (zI (Int.tmod (↑k) c.nodes))),some (.c (.ptr Yz 0 0)),some (.c (.sl An 0 0 (zD (Option.getD (some ↑(c.nt)) ↑(c.nt)-zN 0)) (some (zD (↑(c.nt)-zN 0))))),some (.c (.v (.int .i64 ↑(zD (Option.getD (some ↑(c.nt)) ↑(c.nt)-zN 0))))),some (.c (zI (zN 0)))] (yR 97 0 (Cs.lit (AC.ptr PI 0 0::AC.ptr 23 0 0::zI c.nodes:: .v (.int .i64 ↑(zD (Option.getD (some ↑(0+c.ns)) ↑(0+c.ns)-zN 0)))::zI (Int.negSucc 0)::z8 (fun zk=>zB (Vw.inn zz1 zk)) (z8 (fun zk=>zU (Vw.miss zz1 zk)) (z8 (fun zk=>zU (Vw.good zz1 zk)) (z8 (fun zk=>zH (Vw.score zz1 zk)) (z8 (fun zk=>zB false) [.v (.int .i8 (Vw.command zz1)),zU (Vw.mode zz1),AC.v (Value.slice none 0 0)]))))))::some Zr::some Za::some (RL c.nt c.ft)::some (RK k F)::some (Vf c)::some (WJ v)::zs0 [yR 91 0 (Cs.lit (.ptr 23 0 0:: .v (.int .i64 ↑(zD (Option.getD (some ↑(0+c.ns)) ↑(0+c.ns)-zN 0)))::zI (zN 0)::(ZX v++[AC.sl FH 0 0 (zD ↑(c.nt)) none]))),yO 89 4 (Cs.arr (zD ↑(c.nt)) fun k=>List.map AC.v ((fun i=>[Value.bool (ZJ.any (T1 zz3 i)),Value.int .u32 (ZJ.seq (T1 zz3 i)),Value.int .u32 (ZJ.val (T1 zz3 i)),Value.int .i64 (ZJ.rnd (T1 zz3 i))]) k)),some zz0,some zz2]) 56 250000000000000000000000000000000000000190 (ZQ 56 [(6,.c (.ptr Yz 0 0))]) (List.zip [Wm,Yz] [WW m σ fun x=>Wd,Xd c u (Int.negSucc 0) m]++List.zip qwI (QM c v k F)) 10000000000000000000000000000000000000000000 (Exit.exit 0) none])):
 ∃p r,JT prog err c v k F p [none,none,none,some (qwS c v u k F m σ),some (crZ c v m σ g),some mcS]=some r/\Q r:=
 ⟨pD 86 71835091102243686077399906075353029003614,_,by kernel_rfl,H⟩
abbrev Ka:Nat:=1000000000000000000000000000000000000000019
def qwR (P:Program) (c:Cfg) (v u:Vw) (k:Nat) (F:Nat->RunV) (me:Int) (m:Nat) (σ:Nat->Nat) (i:Nat) (path:List Dec):Option VC:=
 view qwH ([Wm,Ka,Yz]++qwI) (fC (VG P) 100 (ZW P 8 0) Je nSt ⟨ZQ 56 (qwH.zip (Px c me i)),[Wm,Yz].zip [WW m σ fun _=>Wd,Xd c u (Int.negSucc 0) m]++qwI.zip (QM c v k F),0,0,false,path,[],[],[],none,[]⟩)
theorem qwZ (c:Cfg) (v u:Vw) (k:Nat) (F:Nat->RunV) (me:Int) (m:Nat) (σ:Nat->Nat) (i:Nat) (Q:VC->Prop) (H:let zN:=Int.ofNat;let zz0:=(ABlk.mk true false 136 0 (Cs.lit [AC.ptr 23 0 0,zI (Cfg.fresh c),zB false,zI (zN 0),zU (zN 0),zU (zN 0),zW (zN 0),zW (zN 0),zB false,zI (zN 0),zU (zN 0),zU (zN 0),zW (zN 0),zW (zN 0),zB false,zI (zN 0),zU (zN 0),zU (zN 0),zW (zN 0),zW (zN 0),zB false,zI (zN 0),zU (zN 0),zU (zN 0),zW (zN 0),zW (zN 0),zB false,zI (zN 0),zU (zN 0),zU (zN 0),zW (zN 0),zW (zN 0),zB false,zI (zN 0),zU (zN 0),zU (zN 0),zW (zN 0),zW (zN 0),zB false,zI (zN 0),zU (zN 0),zU (zN 0),zW (zN 0),zW (zN 0),zB false,zI (zN 0),zU (zN 0),zU (zN 0),zW (zN 0),zW (zN 0)]));let zz2:=(ABlk.mk true true 89 4 (Cs.arr (Cfg.nt c) fun k=>List.map AC.v ((fun i=>[Value.bool (ZJ.any ((fun x=>Wd) i)),Value.int IntKind.u32 (ZJ.seq ((fun x=>Wd) i)),Value.int IntKind.u32 (ZJ.val ((fun x=>Wd) i)),Value.int IntKind.i64 (ZJ.rnd ((fun x=>Wd) i))]) k)));let zz1:=[yO 99 5 (Cs.arr m fun k=>List.map AC.v ((fun j=>[Value.int IntKind.i64 (zN (σ j)),Value.bool (ZJ.any ((fun x=>Wd) j)),Value.int IntKind.u32 (ZJ.seq ((fun x=>Wd) j)),Value.int IntKind.u32 (ZJ.val ((fun x=>Wd) j)),Value.int IntKind.i64 (ZJ.rnd ((fun x=>Wd) j))]) k)),none,some (Xd c u (Int.negSucc 0) m),some Zr,some Za,some (RL (Cfg.nt c) (Cfg.ft c)),some (RK k F),some (Vf c),some (WJ v),some (Xv 23 c),some (ZS (Int.toNat (Cfg.nodes c)) (ZT c (2*Cfg.np c))),some (ZS (Cfg.np c) (Cfg.fp c)),some (ZS (Cfg.ns c) (Cfg.fs c)),some (ZS (Cfg.nb c) (Cfg.fb c)),some (Yw (Cfg.nt c) (Cfg.ft c)),some (O1 c v (zN 0)),some zz2,some zz0,some (Yw (Cfg.nt c) (Cfg.ft c))];let zz3:=[some (ZO (List.zip qwH (Px c me i)) 1),some (ZO (List.zip qwH (Px c me i)) 6),some (ZO (List.zip qwH (Px c me i)) 32),some (ZO (List.zip qwH (Px c me i)) 33),some (AV.c (zI (IntKind.wrap IntKind.i64 (zN i+zN 1))))];(((decide (zN i < ↑(c.nt)))=true->(((Station.node (c.10 (0+Int.toNat (zN i)))==me)=true->Q (Exit.normal,zz3,[none,yO 99 5 (Cs.arr (m+1) fun i_1=>if i_1<m then List.map AC.v ((fun j=>[Value.int .i64 (zN (σ j)),Value.bool (ZJ.any ((fun x=>Wd) j)),Value.int .u32 (ZJ.seq ((fun x=>Wd) j)),Value.int .u32 (ZJ.val ((fun x=>Wd) j)),Value.int .i64 (ZJ.rnd ((fun x=>Wd) j))]) i_1) else YW (ABlk.mk true false 99 0 (Cs.lit [zI (zN i),zB false,zW (zN 0),zW (zN 0),zI (zN 0)])) 0 0 5 (i_1-m)),yR 97 0 (Cs.lit (.ptr PI 0 0::AC.ptr 23 0 0::zI c.nodes:: .v (.int .i64 ↑(c.ns))::zI (Int.negSucc 0)::(ZX u++[AC.sl 1000000000000000000000000000000000000000019 0 0 (m+1) none]))),some Zr,some Za,some (RL c.nt c.ft),some (RK k F),some (Vf c),some (WJ v),some (Xv 23 c),some (ZS (Int.toNat c.nodes) (ZT c (2*c.np))),some (ZS c.np c.fp),some (ZS c.ns c.fs),some (ZS c.nb c.fb),some (Yw c.nt c.ft),some (O1 c v (zN 0)),some zz2,some zz0,some (Yw c.nt c.ft)],56,1000000000000000000000000000000000000000025,[true,true,true,decide (m<=m),decide ((m+1)*32<=140737488355328),true,(Station.node (c.10 (0+Int.toNat (zN i)))==me)==true,true,true,true,ABlk.inb (Yw c.nt c.ft) (0+Int.toNat (zN i)) 3,true,true,true,decide (zN 0<=zN i/\zN i < ↑(c.nt)),decide (zN i < ↑(c.nt))==true],[]))/\((Station.node (c.10 (0+Int.toNat (zN i)))==me)=false->Q (Exit.normal,zz3,zz1,56,1000000000000000000000000000000000000000013,[(Station.node (c.10 (0+Int.toNat (zN i)))==me)==false,true,true,true,ABlk.inb (Yw c.nt c.ft) (0+Int.toNat (zN i)) 3,true,true,true,decide (zN 0<=zN i/\zN i < ↑(c.nt)),decide (zN i < ↑(c.nt))==true],[]))))/\((decide (zN i < ↑(c.nt)))=false->Q (Exit.exit 0,[some (ZO (List.zip qwH (Px c me i)) 1),some (ZO (List.zip qwH (Px c me i)) 6),some (ZO (List.zip qwH (Px c me i)) 32),some (ZO (List.zip qwH (Px c me i)) 33),some (ZO (List.zip qwH (Px c me i)) 34)],zz1,56,1000000000000000000000000000000000000000001,[decide (zN i < ↑(c.nt))==false],[])))):
 ∃p r,qwR prog c v u k F me m σ i p=some r/\Q r:=
 ZD H (fun g1=>ZD g1 (fun g2=>⟨pD 2 4,_,by kernel_rfl,g2⟩) (fun g2=>⟨pD 2 7,_,by kernel_rfl,g2⟩)) (fun g1=>⟨pD 1 2,_,by kernel_rfl,g1⟩)
abbrev mpB:Nat:=100000000000000000000000000000000000000000000000003
abbrev A5:Nat:=100000000140000000000000000000000000000000000000006
abbrev J7 (ty o:Nat) (x:Int) (d:Said) (w:Vw) (n:Nat):ABlk:=⟨true,false,ty,0,.lit ((.v (.int .i64 x)::(UJ d++ZX w))++[.sl o 0 0 n none])⟩
abbrev MB (c:Cfg) (x y:Int) (d:Said) (w:Vw) (T:Nat->ZJ) (g:Nat->Int):Zl:=⟨[],plI,[.tup [.agg ((.v (.int .i64 x)::(UJ d++ZX w))++[.sl YQ 0 0 c.nt none]),.c (.v (.int .i64 (Int.ofNat 0)))]],[YQ].zip [Zg c.nt g]++plI.zip (Wc c w y T),100000000000000000000000000000000000000000000000000,.exit (WA 12)⟩
abbrev MC (c:Cfg) (x y:Int) (d:Said) (w:Vw) (m:Nat) (σ:Nat->Nat) (T:Nat->ZJ) (q:List AC) (g:Nat->Int):Zl:=⟨[],SR::cqI,[.tup [.agg ((.v (.int .i64 x)::(UJ d++ZX w))++[.sl XE 0 0 m none]),.c (.v (.int .i64 (Int.ofNat 0)))]],[XE].zip [Zg m g]++cqI.zip (XP c w y m σ T q),100000000105000000000000000000000000000000000000000,.exit (WA 9)⟩
abbrev WF:List Nat:=[2,3,9,10,12,15,18,20,22,23]
abbrev mjI:List Nat:=[mpB,A5,YQ,XE]++mcI
abbrev UD (c:Cfg) (w:Vw) (x y:Int) (d:Said) (S:Nat->ZJ) (g:Nat->Int) (m:Nat) (σ:Nat->Nat) (T:Nat->ZJ) (q:List AC) (g2:Nat->Int) (k:Nat) (F:Nat->RunV):List ABlk:=[J7 66 YQ x d w c.nt,J7 54 XE x d w m,Zg c.nt g,Zg m g2]++TB c w y y S m σ T q k F
abbrev Wh (k:Nat) (me:Int) (i a s:Nat):List AV:=TD k me i++[.c (.ptr mpB 0 0),.c (.ptr A5 0 0),i64 (Int.ofNat a),i64 (Int.ofNat s)]
abbrev J9:Nat:=100000000170000000000000000000000000000000000000035
abbrev Ja:Nat:=1000000000000000000000000000000000000000000000000000
abbrev QG:Nat:=10000000000000000000000000000000000000000000000000000
def AY (P:Program) (c:Cfg) (w:Vw) (x y:Int) (d:Said) (S:Nat->ZJ) (g:Nat->Int) (m:Nat) (σ:Nat->Nat) (T:Nat->ZJ) (q:List AC) (g2:Nat->Int) (k:Nat) (F:Nat->RunV) (me:Int) (i a s:Nat) (path:List Dec):Option VC:=
 view (WF++[]) mjI (fC (VG P) 100 (ZW P 3 1) Ja nSt (Wi 225 WF mjI (Wh k me i a s) (UD c w x y d S g m σ T q g2 k F) path []))
abbrev VM (k:Nat) (me:Int) (i m:Nat):List (Nat × AV):=mcH.zip (TD k me i)++[(20,.c (.ptr A5 0 0)),(22,i64 (Int.ofNat m))]
abbrev MA (c:Cfg) (w:Vw) (x y:Int) (d:Said) (S:Nat->ZJ) (g:Nat->Int) (m:Nat) (σ:Nat->Nat) (T:Nat->ZJ) (q:List AC) (g2:Nat->Int) (k:Nat) (F:Nat->RunV) (me:Int) (i:Nat):Zl:=⟨WF,mjI,ZQ 225 (VM k me i m),mjI.zip (UD c w x y d S g m σ T q g2 k F),QG,.exit 2⟩
abbrev FG (P:Program) (c:Cfg) (w:Vw) (x y:Int) (d:Said) (S:Nat->ZJ) (g:Nat->Int) (m:Nat) (σ:Nat->Nat) (T:Nat->ZJ) (q:List AC) (g2:Nat->Int) (k:Nat) (F:Nat->RunV) (me:Int) (i:Nat):Prop:=LoopV P (ZW P 3 1) WF mjI ((Wh k me i 0 0).map some) ((UD c w x y d S g m σ T q g2 k F).map some) 225 J9 (ZQ 225 (VM k me i m)) (mjI.zip (UD c w x y d S g m σ T q g2 k F)) QG (.exit 2) none
theorem mjA (c:Cfg) (w:Vw) (x y:Int) (d:Said) (S:Nat->ZJ) (g:Nat->Int) (m:Nat) (σ:Nat->Nat) (T:Nat->ZJ) (q:List AC) (g2:Nat->Int) (k:Nat) (F:Nat->RunV) (me:Int) (i a s:Nat) (Q:VC->Prop) (H:Q (Exit.normal,[some (ZO (List.zip WF (Wh k me i a s)) 2),some (ZO (List.zip WF (Wh k me i a s)) 3),some (ZO (List.zip WF (Wh k me i a s)) 9),some (ZO (List.zip WF (Wh k me i a s)) 10),some (ZO (List.zip WF (Wh k me i a s)) 12),some (ZO (List.zip WF (Wh k me i a s)) 15),some (ZO (List.zip WF (Wh k me i a s)) 18),some (ZO (List.zip WF (Wh k me i a s)) 20),some (ZO (List.zip WF (Wh k me i a s)) 22),some (.c (zI (IntKind.wrap .i64 (Int.ofNat s+Int.ofNat 1))))],((UD c w x y d S g m σ T q g2 k F).map some),225,1000000000000000000000000000000000000000000000000016,[(Station.node (c.10 (0+Int.toNat (Int.ofNat s))) !=me)==true,ABlk.inb (RL c.nt c.ft) (0+Int.toNat (Int.ofNat s)) 1,true,decide (Int.ofNat 0<=Int.ofNat s/\Int.ofNat s < ↑(c.nt)),true,decide (Int.ofNat s < ↑(c.nt))==true,true],[])):
 ∃p r,AY prog c w x y d S g m σ T q g2 k F me i a s p=some r/\Q r:=
 ⟨pD 2 4,_,by kernel_rfl,H⟩
theorem mjB (c:Cfg) (w:Vw) (x y:Int) (d:Said) (S:Nat->ZJ) (g:Nat->Int) (m:Nat) (σ:Nat->Nat) (T:Nat->ZJ) (q:List AC) (g2:Nat->Int) (k:Nat) (F:Nat->RunV) (me:Int) (i a s:Nat) (Q:VC->Prop) (H:let zN:=Int.ofNat;Q (Exit.normal,[some (ZO (List.zip WF (Wh k me i a s)) 2),some (ZO (List.zip WF (Wh k me i a s)) 3),some (ZO (List.zip WF (Wh k me i a s)) 9),some (ZO (List.zip WF (Wh k me i a s)) 10),some (ZO (List.zip WF (Wh k me i a s)) 12),some (ZO (List.zip WF (Wh k me i a s)) 15),some (ZO (List.zip WF (Wh k me i a s)) 18),some (ZO (List.zip WF (Wh k me i a s)) 20),some (.c (zI (IntKind.wrap .i64 (zN a+zN 1)))),some (.c (zI (IntKind.wrap .i64 (zN s+zN 1))))],((UD c w x y d S g m σ T q g2 k F).map some),225,1000000000250000000000000000000000000000000000000019,[(g2 (0+Int.toNat (zN a)) !=g (0+Int.toNat (zN s)))==false,ABlk.inb (Zg c.nt g) (0+Int.toNat (zN s)) 1,true,decide (zN 0<=zN s/\zN s < ↑(c.nt)),true,ABlk.inb (Zg m g2) (0+Int.toNat (zN a)) 1,true,decide (zN 0<=zN a/\zN a < ↑m),true,decide (zN s≥ ↑(c.nt))==false,true,decide (zN a≥ ↑m)==false,true,(Station.node (c.10 (0+Int.toNat (zN s))) !=me)==false,ABlk.inb (RL c.nt c.ft) (0+Int.toNat (zN s)) 1,true,decide (zN 0<=zN s/\zN s < ↑(c.nt)),true,decide (zN s < ↑(c.nt))==true,true],[])):
 ∃p r,AY prog c w x y d S g m σ T q g2 k F me i a s p=some r/\Q r:=
 ⟨pD 19 774845377,_,by kernel_rfl,H⟩
theorem mjC (c:Cfg) (w:Vw) (x y:Int) (d:Said) (S:Nat->ZJ) (g:Nat->Int) (m:Nat) (σ:Nat->Nat) (T:Nat->ZJ) (q:List AC) (g2:Nat->Int) (k:Nat) (F:Nat->RunV) (me:Int) (i a s:Nat) (Q:VC->Prop) (H:Q (Exit.exit 2,[some (ZO (List.zip WF (Wh k me i a s)) 2),some (ZO (List.zip WF (Wh k me i a s)) 3),some (ZO (List.zip WF (Wh k me i a s)) 9),some (ZO (List.zip WF (Wh k me i a s)) 10),some (ZO (List.zip WF (Wh k me i a s)) 12),some (ZO (List.zip WF (Wh k me i a s)) 15),some (ZO (List.zip WF (Wh k me i a s)) 18),some (ZO (List.zip WF (Wh k me i a s)) 20),some (ZO (List.zip WF (Wh k me i a s)) 22),some (ZO (List.zip WF (Wh k me i a s)) 23)],((UD c w x y d S g m σ T q g2 k F).map some),225,1000000000000000000000000000000000000000000000000005,[decide (Int.ofNat s < ↑(c.nt))==false,true],[])):
 ∃p r,AY prog c w x y d S g m σ T q g2 k F me i a s p=some r/\Q r:=
 ⟨pD 1 2,_,by kernel_rfl,H⟩
abbrev Zs (c:Cfg) (u:Vw) (la:Int) (m:Nat) (σ:Nat->Nat) (T:Nat->ZJ) (q:List AC):List ABlk:=(XP c u la m σ T q).map fun b=>{b with own:=false}
abbrev coH:List Nat:=[0,1,5,17,18,19]
abbrev OI (o:Nat) (rd:Int) (m k:Nat):List AV:=[.c (.ptr Yz 0 0),i64 rd,.c (.sl o 0 0 m none),.c (.sl Wm 0 0 m none),i64 (m:Int),i64 (Int.ofNat k)]
abbrev MP:Nat:=1000000000000000000000000
abbrev GT:Nat:=100000000100010001100000000000000000000000000000003
abbrev Xp:Nat:=100000000100010001100000000000000000000000000000009
abbrev coNN:Nat:=100000000100010001100000000000000000000000000000017
abbrev Bo:Nat:=100000000100010001110000000000000000000000000000000
abbrev Bp:Nat:=100000000100010001120000000000000000000000000000000
abbrev KB:Nat:=100000000100010001150000000000000000000000000000000
def coNR (P:Program) (c:Cfg) (u:Vw) (la:Int) (m:Nat) (σ:Nat->Nat) (T:Nat->ZJ) (q:List AC) (rd:Int) (g:Nat->Int) (k:Nat) (path:List Dec):Option VC:=
 view (coH++[]) (Xp::cqI) (fC (VG P) 100 (ZW P 31 0) Bo MP (Wi 39 coH (Xp::cqI) (OI Xp rd m k) (Zg m g::Zs c u la m σ T q) path []))
abbrev Bt (c:Cfg) (u:Vw) (la:Int) (m:Nat) (σ:Nat->Nat) (T:Nat->ZJ) (q:List AC) (g:Nat->Int):Zl:=⟨coH,Xp::cqI,ZQ 39 [(5,.c (.sl Xp 0 0 m none))],(Xp::cqI).zip (Zg m g::Zs c u la m σ T q),Bp,.exit 0⟩
def Br (P:Program) (c:Cfg) (u:Vw) (la:Int) (m:Nat) (σ:Nat->Nat) (T:Nat->ZJ) (q:List AC) (rd:Int) (path:List Dec) (lp:List (Option Zl)):Option VF:=
 ZB (Xp::cqI) (ZM (VG P) (fC (VG P) 300) 31 [.c (.ptr Yz 0 0),i64 rd] GT MP (XW (cqI.zip (Zs c u la m σ T q)) path lp))
abbrev Bq (c:Cfg) (u:Vw) (la:Int) (m:Nat) (σ:Nat->Nat) (T:Nat->ZJ) (q:List AC) (g:Nat->Int):Zl:=⟨[],cqI,[.c (.sl Xp 0 0 m none)],(Xp::cqI).zip (Zg m g::Zs c u la m σ T q),KB,.exit (WA 31)⟩
abbrev GS:Nat:=100000000100010002400000000000000000000000000000005
abbrev Xo:Nat:=100000000100010002400000000000000000000000000000011
abbrev coBN:Nat:=100000000100010002400000000000000000000000000000019
abbrev Bj:Nat:=100000000100010002410000000000000000000000000000000
abbrev Bk:Nat:=100000000100010002420000000000000000000000000000000
abbrev KA:Nat:=100000000100010002450000000000000000000000000000000
def coBR (P:Program) (c:Cfg) (u:Vw) (la:Int) (m:Nat) (σ:Nat->Nat) (T:Nat->ZJ) (q:List AC) (rd:Int) (g:Nat->Int) (k:Nat) (path:List Dec):Option VC:=
 view (coH++[]) (Xo::cqI) (fC (VG P) 100 (ZW P 31 0) Bj MP (Wi 39 coH (Xo::cqI) (OI Xo rd m k) (Zg m g::Zs c u la m σ T q) path []))
abbrev Bn (c:Cfg) (u:Vw) (la:Int) (m:Nat) (σ:Nat->Nat) (T:Nat->ZJ) (q:List AC) (g:Nat->Int):Zl:=⟨coH,Xo::cqI,ZQ 39 [(5,.c (.sl Xo 0 0 m none))],(Xo::cqI).zip (Zg m g::Zs c u la m σ T q),Bk,.exit 0⟩
def Bm (P:Program) (c:Cfg) (u:Vw) (la:Int) (m:Nat) (σ:Nat->Nat) (T:Nat->ZJ) (q:List AC) (rd:Int) (path:List Dec) (lp:List (Option Zl)):Option VF:=
 ZB (Xo::cqI) (ZM (VG P) (fC (VG P) 300) 31 [.c (.ptr Yz 0 0),i64 rd] GS MP (XW (cqI.zip (Zs c u la m σ T q)) path lp))
abbrev Bl (c:Cfg) (u:Vw) (la:Int) (m:Nat) (σ:Nat->Nat) (T:Nat->ZJ) (q:List AC) (g:Nat->Int):Zl:=⟨[],cqI,[.c (.sl Xo 0 0 m none)],(Xo::cqI).zip (Zg m g::Zs c u la m σ T q),KA,.exit (WA 31)⟩
abbrev GU:Nat:=10000000001100000000000000000000000000000080
abbrev Xq:Nat:=10000000001100000000000000000000000000000086
abbrev coZN:Nat:=10000000001100000000000000000000000000000094
abbrev Bu:Nat:=10000000001110000000000000000000000000000000
abbrev Bv:Nat:=10000000001120000000000000000000000000000000
abbrev KC:Nat:=10000000001150000000000000000000000000000000
def coZR (P:Program) (c:Cfg) (u:Vw) (la:Int) (m:Nat) (σ:Nat->Nat) (T:Nat->ZJ) (q:List AC) (rd:Int) (g:Nat->Int) (k:Nat) (path:List Dec):Option VC:=
 view (coH++[]) (Xq::cqI) (fC (VG P) 100 (ZW P 31 0) Bu MP (Wi 39 coH (Xq::cqI) (OI Xq rd m k) (Zg m g::Zs c u la m σ T q) path []))
abbrev By (c:Cfg) (u:Vw) (la:Int) (m:Nat) (σ:Nat->Nat) (T:Nat->ZJ) (q:List AC) (g:Nat->Int):Zl:=⟨coH,Xq::cqI,ZQ 39 [(5,.c (.sl Xq 0 0 m none))],(Xq::cqI).zip (Zg m g::Zs c u la m σ T q),Bv,.exit 0⟩
def Bx (P:Program) (c:Cfg) (u:Vw) (la:Int) (m:Nat) (σ:Nat->Nat) (T:Nat->ZJ) (q:List AC) (rd:Int) (path:List Dec) (lp:List (Option Zl)):Option VF:=
 ZB (Xq::cqI) (ZM (VG P) (fC (VG P) 300) 31 [.c (.ptr Yz 0 0),i64 rd] GU MP (XW (cqI.zip (Zs c u la m σ T q)) path lp))
abbrev Bw (c:Cfg) (u:Vw) (la:Int) (m:Nat) (σ:Nat->Nat) (T:Nat->ZJ) (q:List AC) (g:Nat->Int):Zl:=⟨[],cqI,[.c (.sl Xq 0 0 m none)],(Xq::cqI).zip (Zg m g::Zs c u la m σ T q),KC,.exit (WA 31)⟩
theorem csN (c:Cfg) (u w:Vw) (la a:Int) (d:Said) (m:Nat) (σ:Nat->Nat) (T T2:Nat->ZJ) (q q2:List AC) (f:Nat->List AC) (g:Nat->Int) (Q:VF->Prop) (H:let zN:=Int.ofNat;let zz0:=(PO (Cfg.nodes c) (XF f (Int.toNat (Cfg.nodes c))) (IntKind.wrap IntKind.i64 (a-zN 1)));let zz1:=[zB (Said.is d),zI (Said.at_ d),zU (Payload.kind (Said.p d)),zU (Payload.st (Said.p d)),zW (Payload.seq (Said.p d)),zW (Payload.val (Said.p d))];let zs0:=fun (l:List (Option ABlk))=>some (Xv 23 c)::some (ZS (Int.toNat c.nodes) (ZT c (2*c.np)))::some (ZS c.np c.fp)::some (ZS c.ns c.fs)::some (ZS c.nb c.fb)::some (Yw c.nt c.ft)::l;Q (.tup [AV.agg (zI (IntKind.wrap .i64 (a-zN 1))::zB (Said.is d)::zI (Said.at_ d)::zU (Payload.kind (Said.p d))::zU (Payload.st (Said.p d))::zW (Payload.seq (Said.p d))::zW (Payload.val (Said.p d))::(ZX w++[AC.sl 100000000100010001100000000000000000000000000000009 0 0 m none])),.c (zI (zN 0))],(some (Zg m g)::yO 62 56 (Cs.arr (Int.toNat c.nodes) f)::some Zr::some Za::zs0 [some (WV c q2),some (Xd c w a m),some (WW m σ T2)]),100000000100010001300000000000000000000000000000009,(zu (zu (zu (y3 (y3 (true::((decide (↑(c.ns)≠zN 0))::(zu (zt (y3 (true::true::(((Int.tmod a ↑(c.ns)==zN 0)==false)::(zt ((Y5 [zB (Said.is zz0),zI (Said.at_ zz0),zU (Payload.kind (Said.p zz0)),zU (Payload.st (Said.p zz0)),zW (Payload.seq (Said.p zz0)),zW (Payload.val (Said.p zz0))] zz1)::(decide (Int.toNat c.nodes<=Int.toNat c.nodes))::true::(decide (Int.toNat c.nodes<=1000000))::true::(List.all (List.range (Int.toNat c.nodes)) fun k=>Zn Held.ks (f k))::true::true::(decide (a>zN 0)==true)::true::((Int.tmod a ↑(c.ns)==zN 0)==false)::(decide (↑(c.ns)≠zN 0))::y3 ((decide (a<=la)==false)::true::true::(decide (a>zN 1099511627776)==false)::(decide (a<zN 0)==false)::true::[]))))))))))))))),[CallV prog 31 [.c (.ptr Yz 0 0),.c (zI (IntKind.wrap .i64 (Int.tdiv a ↑(c.ns))))] cqI ((Zs c w a m σ T2 q2).map some) 100000000100010001100000000000000000000000000000003 (.c (.sl Xp 0 0 m none)) (List.zip (Xp::cqI) (Zg m g::Zs c w a m σ T2 q2)) 100000000100010001150000000000000000000000000000000,CallV prog 29 [.c (.ptr Yz 0 0),.c (zI (IntKind.wrap .i64 (a-zN 1))),AV.agg zz1] cqI (some Zr::some Za::zs0 [some (WV c q),some (Xd c u a m),some (WW m σ T)]) 100000000100000000000000000000000000000000000000071 (.tup []) (List.zip cqI (XP c w a m σ T2 q2)) 100000000100010000000000000000000000000000000000000])):
 ∃p r,KE prog (Xp::SR::cqI) [] (UJ d) c u la a m σ T q f p [some (AO c w a m σ T2 q2),some (Bq c w a m σ T2 q2 g)]=some r/\Q r:=
 ⟨pD 15 1412073,_,by kernel_rfl,H⟩
theorem csB (c:Cfg) (u v w w2:Vw) (la a:Int) (d:Said) (m:Nat) (σ:Nat->Nat) (T T2:Nat->ZJ) (q q2:List AC) (f:Nat->List AC) (g:Nat->Int) (Q:VF->Prop) (H:let zN:=Int.ofNat;let zD:=Int.toNat;let zz0:=(PO (Cfg.nodes c) (XF f (zD (Cfg.nodes c))) (IntKind.wrap IntKind.i64 (a-zN 1)));let zz1:=(NetHS.mk c (zD (Cfg.nodes c)) (ZT c (2*Cfg.np c)) (zD (Cfg.nodes c)) f);let zz2:=[zB (Said.is d),zI (Said.at_ d),zU (Payload.kind (Said.p d)),zU (Payload.st (Said.p d)),zW (Payload.seq (Said.p d)),zW (Payload.val (Said.p d))];let zs0:=fun (l:List (Option ABlk))=>some (Xv 23 c)::some (ZS (zD c.nodes) (ZT c (2*c.np)))::some (ZS c.np c.fp)::some (ZS c.ns c.fs)::some (ZS c.nb c.fb)::some (Yw c.nt c.ft)::l;Q (.tup [AV.agg (zI (IntKind.wrap .i64 (a-zN 1))::zB (Said.is d)::zI (Said.at_ d)::zU (Payload.kind (Said.p d))::zU (Payload.st (Said.p d))::zW (Payload.seq (Said.p d))::zW (Payload.val (Said.p d))::(ZX (Js c (zD c.nodes) (ZT c (2*c.np)) (Zi (ZX w)))++[AC.sl 100000000100010002400000000000000000000000000000011 0 0 m none])),.c (zI (zN 0))],(some (Zg m g)::yO 62 56 (Cs.arr (zD c.nodes) f)::some Zr::some Za::zs0 [some (WV c q2),some (Xd c (Js c (zD c.nodes) (ZT c (2*c.np)) (Zi (ZX w))) a m),some (WW m σ T2)]),100000000100010002600000000000000000000000000000011,(zu (zu (zu (y3 (y3 (true::((decide (↑(c.ns)≠zN 0))::(zu (zt (y3 (y3 (((Zf c (zD c.nodes) (ZT c (2*c.np)))::(pX Kz (YF.mk c (zD c.nodes) (ZT c (2*c.np)) [AV.agg (ZX w)]))::(zu (zt (y3 (true::((decide (a>zN 0)==true)::((Int.tmod a ↑(c.ns)==zN 0)==true)::(zt ((Y5 [zB (Said.is zz0),zI (Said.at_ zz0),zU (Payload.kind (Said.p zz0)),zU (Payload.st (Said.p zz0)),zW (Payload.seq (Said.p zz0)),zW (Payload.val (Said.p zz0))] zz2)::(decide (zD c.nodes<=zD c.nodes))::true::(decide (zD c.nodes<=1000000))::true::(List.all (List.range (zD c.nodes)) fun k=>Zn Held.ks (f k))::true::true::(decide (a>zN 0)==true)::true::true::(Y5 (ZX (OG c (NetHS.nq zz1) (NetHS.fq zz1) (NetHS.n zz1) (NetHS.f zz1))) (ZX v))::(Zf c (zD c.nodes) (ZT c (2*c.np))&&(decide (zD c.nodes<=zD c.nodes)&&(true&&YS (zD c.nodes) f)))::(GC zz1)::true::((Int.tmod a ↑(c.ns)==zN 0)==true)::(decide (↑(c.ns)≠zN 0))::y3 ((decide (a<=la)==false)::true::true::(decide (a>zN 1099511627776)==false)::(decide (a<zN 0)==false)::true::[]))))))))))))))))))))),[CallV prog 31 [.c (.ptr Yz 0 0),.c (zI (IntKind.wrap .i64 (Int.tdiv a ↑(c.ns))))] cqI ((Zs c (Js c (zD c.nodes) (ZT c (2*c.np)) (Zi (ZX w))) a m σ T2 q2).map some) 100000000100010002400000000000000000000000000000005 (.c (.sl Xo 0 0 m none)) (List.zip (Xo::cqI) (Zg m g::Zs c w2 a m σ T2 q2)) 100000000100010002450000000000000000000000000000000,CallV prog 29 [.c (.ptr Yz 0 0),.c (zI (IntKind.wrap .i64 (a-zN 1))),AV.agg zz2] cqI (some Zr::some Za::zs0 [some (WV c q),some (Xd c v a m),some (WW m σ T)]) 100000000100000000000000000000000000000000000000080 (.tup []) (List.zip cqI (XP c w a m σ T2 q2)) 100000000100010000000000000000000000000000000000000])):
 ∃p r,KE prog (Xo::SR::cqI) (ZX v) (UJ d) c u la a m σ T q f p [some (AO c w a m σ T2 q2),some (Bl c w2 a m σ T2 q2 g)]=some r/\Q r:=
 ⟨pD 15 5604552,_,by kernel_rfl,H⟩
theorem csZ (c:Cfg) (u v:Vw) (m:Nat) (σ:Nat->Nat) (T:Nat->ZJ) (q:List AC) (f:Nat->List AC) (g:Nat->Int) (Q:VF->Prop) (H:let zN:=Int.ofNat;let zz0:=(NetHS.mk c (Int.toNat (Cfg.nodes c)) (ZT c (2*Cfg.np c)) (Int.toNat (Cfg.nodes c)) f);Q (.tup [AV.agg (zI (Int.negSucc 0)::zB false::zI (zN 0)::zU (zN 0)::zU (zN 0)::zW (zN 0)::zW (zN 0)::(ZX v++[AC.sl 10000000001100000000000000000000000000000086 0 0 m none])),.c (zI (zN 0))],[some (Zg m g),yO 62 56 (Cs.arr (Int.toNat c.nodes) f),some Zr,some Za,some (Xv 23 c),some (ZS (Int.toNat c.nodes) (ZT c (2*c.np))),some (ZS c.np c.fp),some (ZS c.ns c.fs),some (ZS c.nb c.fb),some (Yw c.nt c.ft),some (WV c q),some (Xd c v (zN 0) m),some (WW m σ T)],10000000001300000000000000000000000000000086,(zu (zu (zu (y3 (y3 (true::((decide (↑(c.ns)≠zN 0))::(zu (zt (y3 (y3 (true::((Y5 (ZX (OG c (NetHS.nq zz0) (NetHS.fq zz0) (NetHS.n zz0) (NetHS.f zz0))) (ZX v))::(Zf c (Int.toNat c.nodes) (ZT c (2*c.np))&&(decide (Int.toNat c.nodes<=Int.toNat c.nodes)&&(true&&YS (Int.toNat c.nodes) f)))::(GC zz0)::true::(decide (↑(c.ns)≠zN 0))::y3 (y3 ([]))))))))))))))),[CallV prog 31 [.c (.ptr Yz 0 0),.c (zI (IntKind.wrap .i64 (Int.tdiv (zN 0) ↑(c.ns))))] cqI ((Zs c v (zN 0) m σ T q).map some) 10000000001100000000000000000000000000000080 (.c (.sl Xq 0 0 m none)) (List.zip (Xq::cqI) (Zg m g::Zs c v 0 m σ T q)) 10000000001150000000000000000000000000000000])):
 ∃p r,BI prog (Xq::My::cqI) (ZX v) c u m σ T q f p [some (Bw c v 0 m σ T q g)]=some r/\Q r:=
 ⟨pD 15 0,_,by kernel_rfl,H⟩
abbrev coU (c:Cfg) (m:Nat) (σ:Nat->Nat) (T:Nat->ZJ) (rd:Int) (g:Nat->Int) (k:Nat):ABlk:=ABlk.mk true true 47 1 (Cs.arr m fun i=>if i=0+Int.toNat (Int.ofNat k) then YD ((fun k=>List.map AC.v ((fun j=>[Value.int .u32 (g j)]) k)) i) 0 [.v (.int .u32 (Q2 c (Int.ofNat (σ (0+Int.toNat (Int.ofNat k)))) (T (0+Int.toNat (Int.ofNat k))).any (T (0+Int.toNat (Int.ofNat k))).val (T (0+Int.toNat (Int.ofNat k))).rnd rd))] else List.map AC.v ((fun j=>[Value.int .u32 (g j)]) i))
abbrev coW (c:Cfg) (m:Nat) (σ:Nat->Nat) (T:Nat->ZJ) (rd:Int) (g:Nat->Int) (k:Nat):List Bool:=[ABlk.inb (Zg m g) (0+Int.toNat (Int.ofNat k)) 1,decide (Int.ofNat 0<=Int.ofNat k/\Int.ofNat k<(m:Int)),Zf c (Int.toNat c.nodes) (ZT c (2*c.np)),Ps (YF.mk c (Int.toNat c.nodes) (ZT c (2*c.np)) [.c (.v (.int .i64 (Int.ofNat (σ (0+Int.toNat (Int.ofNat k)))))),.agg [.v (.bool (T (0+Int.toNat (Int.ofNat k))).any),.v (.int .u32 (T (0+Int.toNat (Int.ofNat k))).seq),.v (.int .u32 (T (0+Int.toNat (Int.ofNat k))).val),.v (.int .i64 (T (0+Int.toNat (Int.ofNat k))).rnd)],.c (.v (.int .i64 rd))]),true,true,true,true,true,true,true,true,true,ABlk.inb (ABlk.mk false true 99 5 (Cs.arr m fun k=>List.map AC.v ((fun j=>[Value.int .i64 (Int.ofNat (σ j)),.bool (T j).any,.int .u32 (T j).seq,.int .u32 (T j).val,.int .i64 (T j).rnd]) k))) (0+Int.toNat (Int.ofNat k)) 5,true,true,true,true,true,decide (Int.ofNat 0<=Int.ofNat k/\Int.ofNat k<(m:Int)),decide (Int.ofNat k<(m:Int))==true]
abbrev AP (c:Cfg) (m:Nat) (σ:Nat->Nat) (T:Nat->ZJ) (rd:Int) (g:Nat->Int) (V:List AV) (L:List ABlk) (k n3 n4:Nat) (Q:VC->Prop):Prop:=
 (decide (Int.ofNat k<(m:Int))=true->Q (Exit.normal,[some (ZO (coH.zip V) 0),some (ZO (coH.zip V) 1),some (ZO (coH.zip V) 5),some (ZO (coH.zip V) 17),some (ZO (coH.zip V) 18),some (.c (.v (.int .i64 (IntKind.wrap .i64 (Int.ofNat k+Int.ofNat 1)))))],some (coU c m σ T rd g k)::L.map some,39,n3,coW c m σ T rd g k,[]))/\
 (decide (Int.ofNat k<(m:Int))=false->Q (Exit.exit 0,[some (ZO (coH.zip V) 0),some (ZO (coH.zip V) 1),some (ZO (coH.zip V) 5),some (ZO (coH.zip V) 17),some (ZO (coH.zip V) 18),some (ZO (coH.zip V) 19)],some (Zg m g)::L.map some,39,n4,[decide (Int.ofNat k<(m:Int))==false],[]))
theorem coNT (c:Cfg) (u:Vw) (la:Int) (m:Nat) (σ:Nat->Nat) (T:Nat->ZJ) (q:List AC) (rd:Int) (g:Nat->Int) (k:Nat) (Q:VC->Prop) (H:AP c m σ T rd g (OI Xp rd m k) (Zs c u la m σ T q) k 100000000100010001110000014000000000000000000000009 100000000100010001110000000000000000000000000000001 Q):∃p r,coNR prog c u la m σ T q rd g k p=some r/\Q r:=
 ZD H (fun g1=>⟨pD 1 1,_,by kernel_rfl,g1⟩) (fun g1=>⟨pD 1 2,_,by kernel_rfl,g1⟩)
theorem coBT (c:Cfg) (u:Vw) (la:Int) (m:Nat) (σ:Nat->Nat) (T:Nat->ZJ) (q:List AC) (rd:Int) (g:Nat->Int) (k:Nat) (Q:VC->Prop) (H:AP c m σ T rd g (OI Xo rd m k) (Zs c u la m σ T q) k 100000000100010002410000014000000000000000000000009 100000000100010002410000000000000000000000000000001 Q):∃p r,coBR prog c u la m σ T q rd g k p=some r/\Q r:=
 ZD H (fun g1=>⟨pD 1 1,_,by kernel_rfl,g1⟩) (fun g1=>⟨pD 1 2,_,by kernel_rfl,g1⟩)
theorem coZT (c:Cfg) (u:Vw) (la:Int) (m:Nat) (σ:Nat->Nat) (T:Nat->ZJ) (q:List AC) (rd:Int) (g:Nat->Int) (k:Nat) (Q:VC->Prop) (H:AP c m σ T rd g (OI Xq rd m k) (Zs c u la m σ T q) k 10000000001110000014000000000000000000000009 10000000001110000000000000000000000000000001 Q):∃p r,coZR prog c u la m σ T q rd g k p=some r/\Q r:=
 ZD H (fun g1=>⟨pD 1 1,_,by kernel_rfl,g1⟩) (fun g1=>⟨pD 1 2,_,by kernel_rfl,g1⟩)
theorem coNX (c:Cfg) (u:Vw) (la:Int) (m:Nat) (σ:Nat->Nat) (T:Nat->ZJ) (q:List AC) (rd:Int) (g:Nat->Int) (Q:VF->Prop) (H:Q (.c (.sl 100000000100010001100000000000000000000000000000009 0 0 m none),(some (Zg m g)::(Zs c u la m σ T q).map some),100000000100010001120000000000000000000000000000002,[true,decide (Int.ofNat 0 <= ↑m/\(Int.ofNat m)= ↑m/\ ↑m*Int.ofNat 4<=Int.ofNat 140737488355328),true],[LoopV prog (ZW prog 31 0) coH (Xp::cqI) [some (.c (.ptr Yz 0 0)),some (.c (zI rd)),some (.c (.sl 100000000100010001100000000000000000000000000000009 0 0 (Int.toNat ↑m) none)),some (.c (.sl Wm 0 0 m none)),some (.c (zI ↑m)),some (.c (zI (Int.ofNat 0)))] (yO 47 1 (Cs.arr (Int.toNat ↑m) fun x=>List.map AC.v (Array.toList (Value.cells (Value.int .u32 0))))::(Zs c u la m σ T q).map some) 39 100000000100010001100000000000000000000000000000017 (ZQ 39 [(5,.c (.sl Xp 0 0 m none))]) (List.zip (Xp::cqI) (Zg m g::Zs c u la m σ T q)) 100000000100010001120000000000000000000000000000000 (Exit.exit 0) none])):
 ∃p r,Br prog c u la m σ T q rd p [some (Bt c u la m σ T q g)]=some r/\Q r:=
 ⟨pD 0 0,_,by kernel_rfl,H⟩
theorem coBX (c:Cfg) (u:Vw) (la:Int) (m:Nat) (σ:Nat->Nat) (T:Nat->ZJ) (q:List AC) (rd:Int) (g:Nat->Int) (Q:VF->Prop) (H:Q (.c (.sl 100000000100010002400000000000000000000000000000011 0 0 m none),(some (Zg m g)::(Zs c u la m σ T q).map some),100000000100010002420000000000000000000000000000002,[true,decide (Int.ofNat 0 <= ↑m/\(Int.ofNat m)= ↑m/\ ↑m*Int.ofNat 4<=Int.ofNat 140737488355328),true],[LoopV prog (ZW prog 31 0) coH (Xo::cqI) [some (.c (.ptr Yz 0 0)),some (.c (zI rd)),some (.c (.sl 100000000100010002400000000000000000000000000000011 0 0 (Int.toNat ↑m) none)),some (.c (.sl Wm 0 0 m none)),some (.c (zI ↑m)),some (.c (zI (Int.ofNat 0)))] (yO 47 1 (Cs.arr (Int.toNat ↑m) fun x=>List.map AC.v (Array.toList (Value.cells (Value.int .u32 0))))::(Zs c u la m σ T q).map some) 39 100000000100010002400000000000000000000000000000019 (ZQ 39 [(5,.c (.sl Xo 0 0 m none))]) (List.zip (Xo::cqI) (Zg m g::Zs c u la m σ T q)) 100000000100010002420000000000000000000000000000000 (Exit.exit 0) none])):
 ∃p r,Bm prog c u la m σ T q rd p [some (Bn c u la m σ T q g)]=some r/\Q r:=
 ⟨pD 0 0,_,by kernel_rfl,H⟩
theorem coZX (c:Cfg) (u:Vw) (la:Int) (m:Nat) (σ:Nat->Nat) (T:Nat->ZJ) (q:List AC) (rd:Int) (g:Nat->Int) (Q:VF->Prop) (H:Q (.c (.sl 10000000001100000000000000000000000000000086 0 0 m none),(some (Zg m g)::(Zs c u la m σ T q).map some),10000000001120000000000000000000000000000002,[true,decide (Int.ofNat 0 <= ↑m/\(Int.ofNat m)= ↑m/\ ↑m*Int.ofNat 4<=Int.ofNat 140737488355328),true],[LoopV prog (ZW prog 31 0) coH (Xq::cqI) [some (.c (.ptr Yz 0 0)),some (.c (zI rd)),some (.c (.sl 10000000001100000000000000000000000000000086 0 0 (Int.toNat ↑m) none)),some (.c (.sl Wm 0 0 m none)),some (.c (zI ↑m)),some (.c (zI (Int.ofNat 0)))] (yO 47 1 (Cs.arr (Int.toNat ↑m) fun x=>List.map AC.v (Array.toList (Value.cells (Value.int .u32 0))))::(Zs c u la m σ T q).map some) 39 10000000001100000000000000000000000000000094 (ZQ 39 [(5,.c (.sl Xq 0 0 m none))]) (List.zip (Xq::cqI) (Zg m g::Zs c u la m σ T q)) 10000000001120000000000000000000000000000000 (Exit.exit 0) none])):
 ∃p r,Bx prog c u la m σ T q rd p [some (By c u la m σ T q g)]=some r/\Q r:=
 ⟨pD 0 0,_,by kernel_rfl,H⟩
theorem cpT (c:Cfg) (q:List AC) (o:Int) (pl:Payload) (rr:Int) (Q:VF->Prop) (H:let zN:=Int.ofNat;let zD:=Int.toNat;let zz0:=(AC.ptr 23 0 0::zI (Cfg.fresh c)::q);let zz1:=(ZI c (zD (Cfg.nodes c)) (ZT c (2*Cfg.np c)) (List.headD [o] (zN 0))<zN 0);let zz2:=[some Zr,some (Xv 23 c),some (ZS (zD (Cfg.nodes c)) (ZT c (2*Cfg.np c))),some (ZS (Cfg.np c) (Cfg.fp c)),some (ZS (Cfg.ns c) (Cfg.fs c)),some (ZS (Cfg.nb c) (Cfg.fb c)),some (Yw (Cfg.nt c) (Cfg.ft c)),some (WV c q)];let zq0:List Bool:=[Zf c (zD c.nodes) (ZT c (2*c.np)),true,true,true];let zq1:List Bool:=(decide (rr≥zN 0)==true)::(decide zz1==false)::zq0;let zq2:List Bool:=(ABlk.inb (WV c q) 0 (2+zD o*6+0+1))::(Z5 Kd.b (List.getD zz0 (2+zD o*6+0) ZV))::(decide (zN 0<=o/\o<zN 8))::((!decide (rr<=zN 1099511627776))==false)::zq1;let zq3:List Bool:=(ABlk.inb (WV c q) 0 (2+zD o*6+1+1))::(Z5 (Kd.i .i64) (List.getD zz0 (2+zD o*6+1) ZV))::(decide (zN 0<=o/\o<zN 8))::(Zz (List.getD zz0 (2+zD o*6+0) ZV)==true)::zq2;let zs0:=fun (l:List (Option ABlk))=>some (Xv 23 c)::some (ZS (zD c.nodes) (ZT c (2*c.np)))::some (ZS c.np c.fp)::some (ZS c.ns c.fs)::some (ZS c.nb c.fb)::some (Yw c.nt c.ft)::yR 136 0 (Cs.lit (cpQ c q o pl rr))::l;(((decide zz1)=true->Q (.c (zI (zN 1)),zz2,100000000100000004100000000000000000000000000000112,((decide zz1==true)::zq0),[]))/\((decide zz1)=false->(((!decide (rr<=zN 1099511627776))=true->Q (.c (zI (zN 1)),zz2,100000000100000004100000000000000000000000000000122,(((!decide (rr<=zN 1099511627776))==true)::zq1),[]))/\((!decide (rr<=zN 1099511627776))=false->(((Zz (List.getD zz0 (2+zD o*6+0) ZV))=true->(((decide (rr<ZP (List.getD zz0 (2+zD o*6+1) ZV)))=true->Q (.c (zI (zN 1)),zz2,100000000100000004100000000000000000000000000000140,((decide (rr<ZP (List.getD zz0 (2+zD o*6+1) ZV))==true)::zq3),[]))/\((decide (rr<ZP (List.getD zz0 (2+zD o*6+1) ZV)))=false->Q (.c (zI (zN 0)),(some Zr::zs0 []),100000000100000004100000008000000000000000000000141,((ABlk.inb (WV c q) 0 (2+zD o*6+6))::(decide (zN 0<=o/\o<zN 8))::y3 (true::true::(decide (rr<ZP (List.getD zz0 (2+zD o*6+1) ZV))==false)::zq3)),[]))))/\((Zz (List.getD zz0 (2+zD o*6+0) ZV))=false->Q (.c (zI (zN 0)),(some Zr::zs0 []),100000000100000004100000008000000000000000000000132,((ABlk.inb (WV c q) 0 (2+zD o*6+6))::(decide (zN 0<=o/\o<zN 8))::y3 (true::true::(Zz (List.getD zz0 (2+zD o*6+0) ZV)==false)::zq2)),[])))))))):
 ∃p r,cpR prog c q o pl rr p=some r/\Q r:=
 ZD H (fun g1=>⟨pD 19 729,_,by kernel_rfl,g1⟩) (fun g1=>ZD g1 (fun g2=>⟨pD 21 185166,_,by kernel_rfl,g2⟩) (fun g2=>ZD g2 (fun g3=>ZD g3 (fun g4=>⟨pD 30 68631539988663,_,by kernel_rfl,g4⟩) (fun g4=>⟨pD 30 137261917353546,_,by kernel_rfl,g4⟩)) (fun g3=>⟨pD 30 2324885247,_,by kernel_rfl,g3⟩)))
theorem ckT (c:Cfg) (u:Vw) (la:Int) (m:Nat) (σ:Nat->Nat) (T:Nat->ZJ) (q:List AC) (y:Int) (pl:Payload) (o rr:Int) (k:Nat) (Q:VC->Prop) (H:let zN:=Int.ofNat;let zD:=Int.toNat;let zz0:=(UN c (zN (σ (0+zD (zN k)))) (ZJ.any (T (0+zD (zN k)))) (ZJ.seq (T (0+zD (zN k)))) true (Payload.kind pl) (Payload.st pl) (Payload.seq pl) o (IntKind.wrap IntKind.i64 (Vw.command u)) rr);let zz1:=(ABlk.mk true false 51 0 (Cs.lit [zB true,zI y,zU (Payload.kind pl),zU (Payload.st pl),zW (Payload.seq pl),zW (Payload.val pl)]));let zs0:=fun (l:List (Option AV))=>some (ZO (List.zip OL (Mw o rr m k)) 0)::some (ZO (List.zip OL (Mw o rr m k)) 5)::some (ZO (List.zip OL (Mw o rr m k)) 6)::some (ZO (List.zip OL (Mw o rr m k)) 7)::some (ZO (List.zip OL (Mw o rr m k)) 56)::l;let zs1:=fun (l:List (Option ABlk))=>some (Xv 23 c)::some (ZS (zD c.nodes) (ZT c (2*c.np)))::some (ZS c.np c.fp)::some (ZS c.ns c.fs)::some (ZS c.nb c.fb)::some (Yw c.nt c.ft)::l;(((decide (zN k < ↑m))=true->Q (Exit.normal,(zs0 [some (.c (zI (IntKind.wrap .i64 (zN k+zN 1))))]),(some Zr::some Za::zs1 [some (WV c q),some (Xd c u la m),yO 99 5 (Cs.arr m fun i=>if i=0+zD (zN k) then YD ((fun k=>List.map AC.v ((fun j=>[Value.int .i64 (zN (σ j)),Value.bool (ZJ.any (T j)),Value.int .u32 (ZJ.seq (T j)),Value.int .u32 (ZJ.val (T j)),Value.int .i64 (ZJ.rnd (T j))]) k)) i) 1 [zB (UN c (zN (σ (0+zD (zN k)))) (ZJ.any (T (0+zD (zN k)))) (ZJ.seq (T (0+zD (zN k)))) true (Payload.kind pl) (Payload.st pl) (Payload.seq pl) o (IntKind.wrap .i64 (Vw.command u)) rr||ZJ.any (T (0+zD (zN k)))),zW (TY zz0 (Payload.seq pl) (ZJ.seq (T (0+zD (zN k))))),zW (TY zz0 (Payload.val pl) (ZJ.val (T (0+zD (zN k))))),zI (TY zz0 rr (ZJ.rnd (T (0+zD (zN k)))))] else List.map AC.v ((fun j=>[Value.int .i64 (zN (σ j)),Value.bool (ZJ.any (T j)),Value.int .u32 (ZJ.seq (T j)),Value.int .u32 (ZJ.val (T j)),Value.int .i64 (ZJ.rnd (T j))]) i)),some zz1]),96,100000000100000103000000000000000000000000000000012,(ABlk.inb (WW m σ T) (0+zD (zN k)) 5::Zf c (zD c.nodes) (ZT c (2*c.np))::Pt (YF.mk c (zD c.nodes) (ZT c (2*c.np)) [.c (zI (zN (σ (0+zD (zN k))))),.agg [zB (ZJ.any (T (0+zD (zN k)))),zW (ZJ.seq (T (0+zD (zN k)))),zW (ZJ.val (T (0+zD (zN k)))),zI (ZJ.rnd (T (0+zD (zN k))))],.agg [zB true,zI y,zU (Payload.kind pl),zU (Payload.st pl),zW (Payload.seq pl),zW (Payload.val pl),zI o,zI (IntKind.wrap .i64 (Vw.command u)),zI rr]])::zt [true,ABlk.inb (WW m σ T) (0+zD (zN k)) 5,true,true,true,true,ABlk.inb (WW m σ T) (0+zD (zN k)) 1,true,true,decide (zN 0<=zN k/\zN k < ↑m),true,decide (zN k < ↑m)==true]),[]))/\((decide (zN k < ↑m))=false->Q (Exit.exit 0,(zs0 [some (ZO (List.zip OL (Mw o rr m k)) 57)]),(some Zr::some Za::zs1 [some (WV c q),some (Xd c u la m),some (WW m σ T),some zz1]),96,100000000100000100000000000000000000000000000000001,[decide (zN k < ↑m)==false],[])))):
 ∃p r,ctR prog c u la m σ T q y pl o rr k p=some r/\Q r:=
 ZD H (fun g1=>⟨pD 1 1,_,by kernel_rfl,g1⟩) (fun g1=>⟨pD 1 2,_,by kernel_rfl,g1⟩)
theorem cdT (c:Cfg) (u w:Vw) (la:Int) (m:Nat) (σ:Nat->Nat) (T T2:Nat->ZJ) (q q2:List AC) (y:Int) (pl:Payload) (e:Int) (Q:VF->Prop) (H:let zz0:=(X0 c (Int.toNat (Cfg.nodes c)) (ZT c (2*Cfg.np c)) (List.headD [Int.tmod y ↑(Cfg.ns c)] (Int.ofNat 0)));let zs0:=fun (l:List (Option ABlk))=>some (Xv 23 c)::some (ZS (Int.toNat c.nodes) (ZT c (2*c.np)))::some (ZS c.np c.fp)::some (ZS c.ns c.fs)::some (ZS c.nb c.fb)::some (Yw c.nt c.ft)::l;Q (.tup [],(some Zr::some Za::zs0 [some (WV c q2),some (Xd c w la m),some (WW m σ T2)]),100000000100001000000000000000000000000000000000000,(zt (Zf c (Int.toNat c.nodes) (ZT c (2*c.np))::pW W5 (YF.mk c (Int.toNat c.nodes) (ZT c (2*c.np)) [AV.agg (ZX u),.c (zI zz0)])::zt (zt (zt (zt (zt [true,true,true,true,decide (↑(c.ns)≠Int.ofNat 0),true,true,Zf c (Int.toNat c.nodes) (ZT c (2*c.np)),true,decide (↑(c.ns)≠Int.ofNat 0),true,true,true,true,true])))))),[LoopV prog (ZW prog 29 0) OL ctI [some (.c (.ptr Yz 0 0)),some (.c (.ptr 100000000100000000000000000000000000000000000000080 0 0)),some (.c (zI zz0)),some (.c (zI (IntKind.wrap .i64 (Int.tdiv y ↑(c.ns))))),some (.c (zI ↑m)),some (.c (zI (Int.ofNat 0)))] (some Zr::some Za::zs0 [some (WV c q2),yR 97 0 (Cs.lit (.ptr PI 0 0::AC.ptr 23 0 0::zI c.nodes:: .v (.int .i64 ↑(c.ns))::zI la::(ZX (Qk (decide (Int.ofNat 0<=ZI c (Int.toNat c.nodes) (ZT c (2*c.np)) zz0)) zz0 u)++[AC.sl Wm 0 0 m none]))),some (WW m σ T),yR 51 0 (Cs.lit [zB true,zI y,zU (Payload.kind pl),zU (Payload.st pl),zW (Payload.seq pl),zW (Payload.val pl)])]) 96 100000000100000004200000000000000000000000000000090 (ZQ 96 []) (List.zip ctI (Mv c w la m σ T2 q2 y pl)) 100000000100001000000000000000000000000000000000000 (Exit.exit 0) none,CallV prog 67 [.c (.ptr PI 0 0),.c (zI zz0),.agg [zU (Payload.kind pl),zU (Payload.st pl),zW (Payload.seq pl),zW (Payload.val pl)],.c (zI (IntKind.wrap .i64 (Int.tdiv y ↑(c.ns))))] cpI (some Zr::zs0 [some (WV c q)]) 100000000100000004100000000000000000000000000000084 (i64 e) (List.zip cpI (OK c q2)) 100000000100000004150000000000000000000000000000000])):
 ∃p r,Bh prog c u la m σ T q y (Vz y pl) p [some (cpS c q2 e),some (ctS c w la m σ T2 q2 y pl)]=some r/\Q r:=
 ⟨pD 1 0,_,by kernel_rfl,H⟩
theorem cdT0 (c:Cfg) (u:Vw) (la:Int) (m:Nat) (σ:Nat->Nat) (T:Nat->ZJ) (q:List AC) (y:Int) (Q:VF->Prop) (H:Q (.tup [],[some (Zr),some (Za),some (Xv 23 c),some (ZS (Int.toNat (c.nodes)) (ZT c (2*c.np))),some (ZS (c.np) (c.fp)),some (ZS (c.ns) (c.fs)),some (ZS (c.nb) (c.fb)),some (Yw (c.nt) (c.ft)),some (WV c q),some (Xd c u la m),some (WW m σ T)],100000000100000000000000000000000000000000000000084,[true,true],[])):
 ∃p r,Bh prog c u la m σ T q y Vy p []=some r/\Q r:=
 ⟨pD 1 0,_,by kernel_rfl,H⟩
abbrev poU (c:Cfg) (T:Nat->ZJ) (y:Int) (g:Nat->Int) (k:Nat):ABlk:=ABlk.mk true true 47 1 (Cs.arr c.nt fun i=>if i=0+Int.toNat (Int.ofNat k) then YD ((fun k=>List.map AC.v ((fun j=>[Value.int .u32 (g j)]) k)) i) 0 [.v (.int .u32 (Q2 c (Int.ofNat k) (T (0+Int.toNat (Int.ofNat k))).any (T (0+Int.toNat (Int.ofNat k))).val (T (0+Int.toNat (Int.ofNat k))).rnd (IntKind.wrap .i64 (Int.tdiv y (c.ns:Int)))))] else List.map AC.v ((fun j=>[Value.int .u32 (g j)]) i))
abbrev poW (c:Cfg) (T:Nat->ZJ) (y:Int) (g:Nat->Int) (k:Nat):List Bool:=[ABlk.inb (Zg c.nt g) (0+Int.toNat (Int.ofNat k)) 1,decide (Int.ofNat 0<=Int.ofNat k/\Int.ofNat k<(c.nt:Int)),Zf c (Int.toNat c.nodes) (ZT c (2*c.np)),Ps (YF.mk c (Int.toNat c.nodes) (ZT c (2*c.np)) [.c (.v (.int .i64 (Int.ofNat k))),.agg [.v (.bool (T (0+Int.toNat (Int.ofNat k))).any),.v (.int .u32 (T (0+Int.toNat (Int.ofNat k))).seq),.v (.int .u32 (T (0+Int.toNat (Int.ofNat k))).val),.v (.int .i64 (T (0+Int.toNat (Int.ofNat k))).rnd)],.c (.v (.int .i64 (IntKind.wrap .i64 (Int.tdiv y (c.ns:Int)))))]),decide ((c.ns:Int)≠Int.ofNat 0),true,true,true,true,true,true,ABlk.inb (SO c.nt T) (0+Int.toNat (Int.ofNat k)) 4,true,true,true,true,true,true,true,decide (Int.ofNat 0<=Int.ofNat k/\Int.ofNat k<(c.nt:Int)),true,true,decide (Int.ofNat k<(c.nt:Int))==true]
abbrev FV (c:Cfg) (T:Nat->ZJ) (y:Int) (g:Nat->Int) (V:List AV) (L:List ABlk) (k:Nat) (Q:VC->Prop):Prop:=
 (decide (Int.ofNat k<(c.nt:Int))=true->Q (Exit.normal,[some (ZO (plH.zip V) 0),some (ZO (plH.zip V) 1),some (ZO (plH.zip V) 8),some (.c (.v (.int .i64 (IntKind.wrap .i64 (Int.ofNat k+Int.ofNat 1)))))],some (poU c T y g k)::L.map some,23,1000000220000000000000000000000000000000000000017,poW c T y g k,[]))/\
 (decide (Int.ofNat k<(c.nt:Int))=false->Q (Exit.exit 0,[some (ZO (plH.zip V) 0),some (ZO (plH.zip V) 1),some (ZO (plH.zip V) 8),some (ZO (plH.zip V) 9)],some (Zg c.nt g)::L.map some,23,1000000000000000000000000000000000000000000000001,[decide (Int.ofNat k<(c.nt:Int))==false],[]))
theorem Gc (c:Cfg) (w:Vw) (T:Nat->ZJ) (x y:Int) (q:Payload) (g:Nat->Int) (k:Nat) (Q:VC->Prop) (H:FV c T y g (Og c.nt k) (TL prog c w T x y q) k Q):∃p r,Gb prog c w T x y q g k p=some r/\Q r:=
 ZD H (fun g1=>⟨pD 2 1,_,by kernel_rfl,g1⟩) (fun g1=>⟨pD 1 2,_,by kernel_rfl,g1⟩)
theorem G8 (c:Cfg) (w:Vw) (T:Nat->ZJ) (x y:Int) (q:Payload) (g:Nat->Int) (k:Nat) (Q:VC->Prop) (H:FV c T y g (Oe c.nt k) (TK prog c w T x y q) k Q):∃p r,G7 prog c w T x y q g k p=some r/\Q r:=
 ZD H (fun g1=>⟨pD 2 1,_,by kernel_rfl,g1⟩) (fun g1=>⟨pD 1 2,_,by kernel_rfl,g1⟩)
theorem G4 (c:Cfg) (w:Vw) (T:Nat->ZJ) (x y:Int) (q:Payload) (g:Nat->Int) (k:Nat) (Q:VC->Prop) (H:FV c T y g (Oc c.nt k) (TJ prog c w T x y q) k Q):∃p r,G3 prog c w T x y q g k p=some r/\Q r:=
 ZD H (fun g1=>⟨pD 2 1,_,by kernel_rfl,g1⟩) (fun g1=>⟨pD 1 2,_,by kernel_rfl,g1⟩)
theorem G0 (c:Cfg) (w:Vw) (T:Nat->ZJ) (x y:Int) (q:Payload) (g:Nat->Int) (k:Nat) (Q:VC->Prop) (H:FV c T y g (Oa c.nt k) (TI prog c w T x y q) k Q):∃p r,FZ prog c w T x y q g k p=some r/\Q r:=
 ZD H (fun g1=>⟨pD 2 1,_,by kernel_rfl,g1⟩) (fun g1=>⟨pD 1 2,_,by kernel_rfl,g1⟩)
def T0 (c:Cfg) (T:Nat->ZJ) (rd:Int) (k j:Nat):Int:=if j<k then Q2 c (Int.ofNat j) (T j).any (T j).val (T j).rnd rd else 0
theorem jjpn {c:Cfg} {T:Nat->ZJ} {rd:Int} {n k:Nat} {f:Nat->List AC} (h:∀j,j<n->f j=[.v (.int .u32 (T0 c T rd k j))]):BEq (ABlk.mk true true 47 1 (.arr n f)) (Zg n (T0 c T rd k)):=⟨rfl,rfl,rfl,rfl,.inr (.inl ⟨n,_,_,rfl,rfl,fun j hj=>h j hj⟩)⟩
theorem IR {n:Nat} {f g:Nat->Int} {y:ABlk} (hy:BEq y (Zg n f)) (h:∀j,j<n->f j=g j):BEq y (Zg n g):=by
 obtain⟨h1,h2,h3,h4,h5⟩:=hy;refine⟨h1,h2,h3,h4,?_⟩;rcases h5 with⟨l,e1,e2⟩|⟨q,u,w,e1,e2,e3⟩|⟨o,o',e1,e2,_⟩
 . cases e2
 . cases e2
   exact .inr (.inl ⟨_,u,_,e1,rfl,fun j hj=>by rw[e3 j hj];dsimp only;rw[h j hj]⟩)
 . cases e2
theorem LZ (c : Cfg) (T : Nat -> ZJ) (y:Int) (a b':Nat) (L:List ABlk) (I:List Nat) (N:Nat) (hn:c.nt<=8) (hns:c.ns≠0) (hst:YA c c.nodes.toNat=true) (hh:YT c=true) (hv:YO (IntKind.wrap .i64 (Int.tdiv y c.ns))=true) (hT:∀j,YO (T j).rnd=true)
 (tr:∀g k Q,FV c T y g [.c (.yld a),.c (.ptr b' 0 0),i64 (c.nt:Int),i64 (Int.ofNat k)] L k Q->∃p r,view (plH++[]) I (fC (VG prog) 100 (ZW prog 71 0) 1000000000000000000000000000000000000000000000000 nSt (Wi 23 plH I [.c (.yld a),.c (.ptr b' 0 0),i64 (c.nt:Int),i64 (Int.ofNat k)] (Zg c.nt g::L) p []))=some r/\Q r)
 (hN:Nat.ble N 1000000000000000000000000000000000000000000000000=true) (hl:I.length=L.length+1) (hI:I.all (Zc N 10000000000000000000000000000000000000000000000000)=true) (hL0:∀b∈L,Zd N b) (hV:∀k,[.c (.yld a),.c (.ptr b' 0 0),i64 (c.nt:Int),i64 (Int.ofNat k)].all (Wb N)=true) {eb:List (Option ABlk)} (hL:BL L eb) {b:ABlk} (hy:BEq b (Zg c.nt fun _=>0)):
 LoopV prog (ZW prog 71 0) plH I ([.c (.yld a),.c (.ptr b' 0 0),i64 (c.nt:Int),i64 (Int.ofNat 0)].map some) (some b::eb) 23 N (ZQ 23 []) (I.zip (Zg c.nt (T0 c T (IntKind.wrap .i64 (Int.tdiv y c.ns)) c.nt)::L)) 10000000000000000000000000000000000000000000000000 (.exit 0) none:=by
 have lo:∀k,∀b∈Zg c.nt (T0 c T (IntKind.wrap .i64 (Int.tdiv y c.ns)) k)::L,Zd N b:=fun k b hb=>by
  rcases List.mem_cons.1 hb with rfl|hb
  . exact Y8
  . exact hL0 b hb
 refine Pn ST (fuel:=100) (str:=nSt) (nh:=1000000000000000000000000000000000000000000000000) (S:=Nat) (fun k=>k<=c.nt) (fun k=>c.nt-k) plH [] I (fun k=>[.c (.yld a),.c (.ptr b' 0 0),i64 (c.nt:Int),i64 (Int.ofNat k)]) (fun k=>Zg c.nt (T0 c T (IntKind.wrap .i64 (Int.tdiv y c.ns)) k)::L) (Nat.le_of_ble_eq_true hN) (by decide) (by unfold ZR;omega) (s0:=0) (Nat.zero_le _) (fun _=>⟨rfl,hl⟩) hI ⟨IR hy (fun j _=>by unfold T0;rw[if_neg (Nat.not_lt_zero _)]),hL⟩ (fun k _=>⟨hV k,lo k⟩) ?_;intro k hk;refine(?_:(∃p r,view (plH++[]) I (fC (VG prog) 100 (ZW prog 71 0) 1000000000000000000000000000000000000000000000000 nSt (Wi 23 plH I [.c (.yld a),.c (.ptr b' 0 0),i64 (c.nt:Int),i64 (Int.ofNat k)] (Zg c.nt (T0 c T (IntKind.wrap .i64 (Int.tdiv y c.ns)) k)::L) p []))=some r/\_)->_) (tr (T0 c T (IntKind.wrap .i64 (Int.tdiv y c.ns)) k) k (XA N 10000000000000000000000000000000000000000000000000 23 plH [] I (fun k=>k<=c.nt) (fun k=>c.nt-k) (fun k=>[.c (.yld a),.c (.ptr b' 0 0),i64 (c.nt:Int),i64 (Int.ofNat k)]) (fun k=>Zg c.nt (T0 c T (IntKind.wrap .i64 (Int.tdiv y c.ns)) k)::L) (.exit 0) [] (I.zip (Zg c.nt (T0 c T (IntKind.wrap .i64 (Int.tdiv y c.ns)) c.nt)::L)) k) ?_)
 . rintro⟨p,r,h1,h2⟩
   exact⟨p,[],r,h1,h2⟩
 . refine ⟨fun c1=>?_,fun c1=>?_⟩
   . have hlt:k<c.nt:=by simpa using c1
     have hq:Ps (YF.mk c c.nodes.toNat (ZT c (2*c.np)) [.c (.v (.int .i64 (Int.ofNat k))),.agg [.v (.bool (T k).any),.v (.int .u32 (T k).seq),.v (.int .u32 (T k).val),.v (.int .i64 (T k).rnd)],.c (.v (.int .i64 (IntKind.wrap .i64 (Int.tdiv y c.ns))))])=true:=by
      show (YA c c.nodes.toNat&&(YT c&&(YO (T k).rnd&&YO (IntKind.wrap .i64 (Int.tdiv y c.ns)))))=true;rw[hst,hh,hv,hT];rfl
     refine⟨?_,rfl,by dsimp only;omega,rfl,.inl ⟨rfl,k+1,hlt,by show c.nt-(k+1)<c.nt-k;omega,?_,⟨jjpn fun j hj=>?_,BL.refl (L)⟩⟩⟩
     . simp only[ZZ,List.forall_mem_cons,Xs,hq,YN]
       simp[YK,Xt,Xu,hns];omega
     . dsimp only;rw[Sn (show k<9223372036854775807 by omega)];rfl
     . by_cases e:j=0+Int.toNat (Int.ofNat k)
       . have e2:j=k:=by rw[e,Xs]
         rw[if_pos e];subst e2;have:T0 c T (IntKind.wrap .i64 (Int.tdiv y c.ns)) (j+1) j=Q2 c (Int.ofNat j) (T j).any (T j).val (T j).rnd (IntKind.wrap .i64 (Int.tdiv y c.ns)):=if_pos (Nat.lt_succ_self j);rw[this];simp[YD,UI,ZN]
       . rw[if_neg e]
         rw[Xs] at e
         have:T0 c T (IntKind.wrap .i64 (Int.tdiv y c.ns)) (k+1) j=T0 c T (IntKind.wrap .i64 (Int.tdiv y c.ns)) k j:=by
          unfold T0;by_cases h:j<k
          . rw[if_pos h,if_pos (by omega)]
          . rw[if_neg h,if_neg (by omega)]
         rw[this];rfl
   . obtain rfl : k = c.nt := by have:¬k<c.nt:=by simpa using c1
                                 omega
     exact⟨by simp only[ZZ,List.forall_mem_cons,c1];simp,rfl,by dsimp only;omega,rfl,.inr ⟨by simp,rfl,(fun _ h=>by cases h),Pi hI (lo c.nt) rfl⟩⟩
theorem jjjm {c:Cfg} {w:Vw} {T:Nat->ZJ} {x y:Int} {q:Payload}:∀b∈TL prog c w T x y q,Zd Of b:=by
 intro b hb;rcases List.mem_append.1 hb with hb|hb
 . exact Pc (by decide) b hb
 simp only[List.mem_cons,List.not_mem_nil,or_false] at hb;rcases hb with rfl|rfl|rfl|rfl|rfl|rfl|rfl|rfl
 . exact Yg rfl
 . exact Yg rfl
 . exact Yg rfl
 . exact Yg rfl
 . exact Yg rfl
 . exact U6 rfl
 . exact U6 rfl
 . exact U6 rfl
theorem jjjl (c:Cfg) (w:Vw) (T:Nat->ZJ) (x y:Int) (q:Payload) (hn:c.nt<=8) (hns:c.ns≠0) (hst:YA c c.nodes.toNat=true) (hh:YT c=true) (hv:YO (IntKind.wrap .i64 (Int.tdiv y c.ns))=true) (hT:∀j,YO (T j).rnd=true) {eb:List (Option ABlk)} (hL:BL (TL prog c w T x y q) eb) {b:ABlk} (hy:BEq b (Zg c.nt fun _=>0)):
 LoopV prog (ZW prog 71 0) plH poYNI ((Og c.nt 0).map some) (some b::eb) 23 Of (ZQ 23 []) (poYNI.zip (Zg c.nt (T0 c T (IntKind.wrap .i64 (Int.tdiv y c.ns)) c.nt)::TL prog c w T x y q)) 10000000000000000000000000000000000000000000000000 (.exit 0) none:=
 LZ c T y _ _ _ poYNI Of hn hns hst hh hv hT (fun g k Q h=>Gc c w T x y q g k Q h) rfl rfl (by kernel_rfl) jjjm (fun _=>rfl) hL hy
theorem jjjo {c:Cfg} {w:Vw} {T:Nat->ZJ} {x y:Int} {q:Payload}:∀b∈TK prog c w T x y q,Zd Od b:=by
 intro b hb;rcases List.mem_append.1 hb with hb|hb
 . exact Pc (by decide) b hb
 simp only[List.mem_cons,List.not_mem_nil,or_false] at hb;rcases hb with rfl|rfl|rfl|rfl|rfl|rfl|rfl|rfl
 . exact Yg rfl
 . exact Yg rfl
 . exact Yg rfl
 . exact Yg rfl
 . exact Yg rfl
 . exact U6 rfl
 . exact U6 rfl
 . exact U6 rfl
theorem jjjn (c:Cfg) (w:Vw) (T:Nat->ZJ) (x y:Int) (q:Payload) (hn:c.nt<=8) (hns:c.ns≠0) (hst:YA c c.nodes.toNat=true) (hh:YT c=true) (hv:YO (IntKind.wrap .i64 (Int.tdiv y c.ns))=true) (hT:∀j,YO (T j).rnd=true) {eb:List (Option ABlk)} (hL:BL (TK prog c w T x y q) eb) {b:ABlk} (hy:BEq b (Zg c.nt fun _=>0)):
 LoopV prog (ZW prog 71 0) plH poYBI ((Oe c.nt 0).map some) (some b::eb) 23 Od (ZQ 23 []) (poYBI.zip (Zg c.nt (T0 c T (IntKind.wrap .i64 (Int.tdiv y c.ns)) c.nt)::TK prog c w T x y q)) 10000000000000000000000000000000000000000000000000 (.exit 0) none:=
 LZ c T y _ _ _ poYBI Od hn hns hst hh hv hT (fun g k Q h=>G8 c w T x y q g k Q h) rfl rfl (by kernel_rfl) jjjo (fun _=>rfl) hL hy
theorem jjjr {c:Cfg} {w:Vw} {T:Nat->ZJ} {x y:Int} {q:Payload}:∀b∈TJ prog c w T x y q,Zd Ob b:=by
 intro b hb;rcases List.mem_append.1 hb with hb|hb
 . exact Pc (by decide) b hb
 simp only[List.mem_cons,List.not_mem_nil,or_false] at hb;rcases hb with rfl|rfl|rfl|rfl|rfl|rfl|rfl
 . exact Yg rfl
 . exact Yg rfl
 . exact Yg rfl
 . exact Yg rfl
 . exact Yg rfl
 . exact U6 rfl
 . exact U6 rfl
theorem jjjq (c:Cfg) (w:Vw) (T:Nat->ZJ) (x y:Int) (q:Payload) (hn:c.nt<=8) (hns:c.ns≠0) (hst:YA c c.nodes.toNat=true) (hh:YT c=true) (hv:YO (IntKind.wrap .i64 (Int.tdiv y c.ns))=true) (hT:∀j,YO (T j).rnd=true) {eb:List (Option ABlk)} (hL:BL (TJ prog c w T x y q) eb) {b:ABlk} (hy:BEq b (Zg c.nt fun _=>0)):
 LoopV prog (ZW prog 71 0) plH poNNI ((Oc c.nt 0).map some) (some b::eb) 23 Ob (ZQ 23 []) (poNNI.zip (Zg c.nt (T0 c T (IntKind.wrap .i64 (Int.tdiv y c.ns)) c.nt)::TJ prog c w T x y q)) 10000000000000000000000000000000000000000000000000 (.exit 0) none:=
 LZ c T y _ _ _ poNNI Ob hn hns hst hh hv hT (fun g k Q h=>G4 c w T x y q g k Q h) rfl rfl (by kernel_rfl) jjjr (fun _=>rfl) hL hy
theorem jjjt {c:Cfg} {w:Vw} {T:Nat->ZJ} {x y:Int} {q:Payload}:∀b∈TI prog c w T x y q,Zd O9 b:=by
 intro b hb;rcases List.mem_append.1 hb with hb|hb
 . exact Pc (by decide) b hb
 simp only[List.mem_cons,List.not_mem_nil,or_false] at hb;rcases hb with rfl|rfl|rfl|rfl|rfl|rfl|rfl
 . exact Yg rfl
 . exact Yg rfl
 . exact Yg rfl
 . exact Yg rfl
 . exact Yg rfl
 . exact U6 rfl
 . exact U6 rfl
theorem jjjs (c:Cfg) (w:Vw) (T:Nat->ZJ) (x y:Int) (q:Payload) (hn:c.nt<=8) (hns:c.ns≠0) (hst:YA c c.nodes.toNat=true) (hh:YT c=true) (hv:YO (IntKind.wrap .i64 (Int.tdiv y c.ns))=true) (hT:∀j,YO (T j).rnd=true) {eb:List (Option ABlk)} (hL:BL (TI prog c w T x y q) eb) {b:ABlk} (hy:BEq b (Zg c.nt fun _=>0)):
 LoopV prog (ZW prog 71 0) plH poNBI ((Oa c.nt 0).map some) (some b::eb) 23 O9 (ZQ 23 []) (poNBI.zip (Zg c.nt (T0 c T (IntKind.wrap .i64 (Int.tdiv y c.ns)) c.nt)::TI prog c w T x y q)) 10000000000000000000000000000000000000000000000000 (.exit 0) none:=
 LZ c T y _ _ _ poNBI O9 hn hns hst hh hv hT (fun g k Q h=>G0 c w T x y q g k Q h) rfl rfl (by kernel_rfl) jjjt (fun _=>rfl) hL hy
theorem Ak (c:Cfg) (u w:Vw) (x y:Int) (S T:Nat->ZJ) (t:Int) (q:Payload) (o rr:Int) (g:Nat->Int) (Q:VF->Prop) (H:let zN:=Int.ofNat;let zM:=ABlk.mk;let zD:=Int.toNat;let zz0:=(zM true false 66 0 (Cs.lit (zI (zN 0)::zB false::zI (zN 0)::zU (zN 0)::zU (zN 0)::zW (zN 0)::zW (zN 0)::z8 (fun zk=>zB false) (z8 (fun zk=>zU (zN 0)) (z8 (fun zk=>zU (zN 0)) (z8 (fun zk=>zH (zN 0)) (z8 (fun zk=>zB false) [AC.v (Value.int IntKind.i8 (zN 0)),zU (zN 0),AC.v (Value.slice none 0 0)])))))));let zz1:=(X0 c (zD (Cfg.nodes c)) (ZT c (2*Cfg.np c)) (List.headD [Int.tmod x ↑(Cfg.ns c)] (zN 0)));let zz2:=[zB true,zI (Said.at_ (Said.mk true t q)),zU (Payload.kind q),zU (Payload.st q),zW (Payload.seq q),zW (Payload.val q)];let zz3:=[zB true,zI x,zU (Payload.kind q),zU (Payload.st q),zW (Payload.seq q),zW (Payload.val q)];let zz4:=(zI x::zB true::zI x::zU (Payload.kind q)::zU (Payload.st q)::zW (Payload.seq q)::zW (Payload.val q)::(ZX w++[AC.sl 100000210000000000000000000000000000000000000000 0 0 (zD ↑(Cfg.nt c)) none]));let zz5:=[zB true,zI (zN 0),zU (Payload.kind q),zU (Payload.st q),zW (Payload.seq q),zW (Payload.val q)];let zz6:=(Qk (decide (zN 0<=ZI c (zD (Cfg.nodes c)) (ZT c (2*Cfg.np c)) zz1)) zz1 u);let ze0:AV:=.c (.ptr Ze 0 0);let zs0:=fun (l:List AV)=>zT::zT:: .c (zB false)::ze0:: .c (zB false):: .c (zB false)::ze0::ze0::ze0:: .c (.ptr 23 0 0):: .c (zB false):: .c (zB false)::zT:: .c (zB false)::ze0::ze0:: .c (.ptr Ze 0 2):: .c (zI x):: .c (zB (decide (x≥zN 1099511627776)))::zT::ze0::ze0:: .c (.ptr Ze 0 2):: .c (zI x)::ze0::ze0:: .c (.ptr Ze 0 2):: .c (zI x):: .c (zI (IntKind.wrap .i64 (x+zN 1)))::ze0:: .c (.ptr Ze 0 2)::AV.agg zz2::AV.agg zz5::ze0::ze0::ze0:: .c (.ptr 23 0 0):: .c (zI x)::ze0::ze0:: .c (.ptr Ze 0 1):: .c (.v (.int .i64 ↑(c.ns))):: .c (zI (Int.tmod x ↑(c.ns))):: .c (zI zz1):: .c (zI x)::ze0::ze0:: .c (.ptr Ze 0 1):: .c (.v (.int .i64 ↑(c.ns))):: .c (zI (IntKind.wrap .i64 (Int.tdiv x ↑(c.ns)))):: .c (.ptr 1000000000000000000000000000000000000000000100 0 0):: .c (zB true):: .c (zI x):: .c (.ptr 1000000000000000000000000000000000000000000100 0 1)::ze0::ze0::ze0::ze0:: .c (.ptr 23 0 0)::ze0::ze0:: .c (.ptr Ze 0 3)::AV.agg (ZX u):: .c (zI zz1)::AV.agg (ZX zz6)::ze0:: .c (.ptr Ze 0 3)::ze0:: .c (AC.fn 71 [(1000340000000000000000000000000000000000000154,0,0)])::l;let zs1:=fun (l:List AV)=>ze0::AV.agg zz2:: .c (.ptr YQ 0 0):: .c (.ptr 1000000000000000000000000000000000000000000100 0 0):: .c (.ptr 1000000000000000000000000000000000000000000101 0 0):: .c (zI (zN 0)):: .c (zI x):: .c (.ptr 1000170000000000000000000000000000000000000147 0 0):: .c (.ptr 1000180000000000000000000000000000000000000147 0 0)::zT::zT::l;let zs2:=fun (l:List (Option ABlk))=>some (Xv 23 c)::some (ZS (zD c.nodes) (ZT c (2*c.np)))::some (ZS c.np c.fp)::some (ZS c.ns c.fs)::some (ZS c.nb c.fb)::some (Yw c.nt c.ft)::l;Q (.tup [AV.agg (zI x::zB true::zI x::zU (Payload.kind q)::zU (Payload.st q)::zW (Payload.seq q)::zW (Payload.val q)::(ZX w++[AC.sl 100000210000000000000000000000000000000000000000 0 0 c.nt none])),.c (zI (zN 0))],(some (Zg c.nt g)::some Zr::some Za::zs2 [some (Sr c w y),some (SO c.nt T)]),10000000000000000000000000000000000000000000000003,(zu (zu (zu (zt (true::((decide (zN 0 <= ↑(c.nt)/\(zN c.nt)= ↑(c.nt)/\ ↑(c.nt)*zN 4<=zN 140737488355328))::(zu (zt (zt (y3 (true::true::(((Int.tmod y ↑(c.ns)==zN 0)==false)::(decide (↑(c.ns)≠zN 0))::(zt (true::true::((Zf c (zD c.nodes) (ZT c (2*c.np)))::(pW W5 (YF.mk c (zD c.nodes) (ZT c (2*c.np)) [AV.agg (ZX u),.c (zI zz1)]))::(zu (zt (zt (y3 (y3 (((decide (↑(c.ns)≠zN 0))::y3 ((Zf c (zD c.nodes) (ZT c (2*c.np)))::true::(decide (↑(c.ns)≠zN 0))::(zu (y3 (((decide (x≥zN 1099511627776)==false)::y3 (y3 ([]))))))))))))))))))))))))))))),[LoopV prog (ZW prog 71 0) plH poYNI [some (.c (AC.yld 100000240000000000000000000000000000000000000007)),some (.c (.ptr 100000240000000000000000000000000000000000000002 0 0)),some (.c (.v (.int .i64 ↑(c.nt)))),some (.c (zI (zN 0)))] (yO 47 1 (Cs.arr (zD ↑(c.nt)) fun x=>List.map AC.v (Array.toList (Value.cells (Value.int .u32 0))))::some Zr::some Za::zs2 [some (Sr c w y),some (SO c.nt T),yR 40 0 (Cs.lit [AC.ptr Ze 0 0]),yR 51 0 (Cs.lit zz3),some zz0,yR 66 0 (Cs.lit zz4),yR 40 0 (Cs.lit [AC.ptr Ze 0 0]),yF 0 0 (Cs.obj (AObj.dfr true)),yF 0 0 (Cs.obj (AObj.loop LoopState.ready none (zs1 (.c (.ptr 100000230000000000000000000000000000000000000000 0 0)::zs0 (z9 zT (z9 zT (z9 zT (zT::zT::ze0::ze0:: .c (.ptr Ze 0 2):: .c (zI y)::ze0::ze0:: .c (.ptr Ze 0 1):: .c (.v (.int .i64 ↑(c.ns))):: .c (zI (Int.tmod y ↑(c.ns))):: .c (zB false)::z9 zT (zT::zT::zT::zT:: .c (zI x)::AV.agg zz3::ze0::ze0:: .c (.ptr Ze 0 3)::AV.agg (ZX w)::ze0::ze0:: .c (.ptr Ze 0 45):: .c (.sl M9 0 0 c.nt none):: .c (.v (.int .i64 ↑(c.nt))):: .c (.sl 100000210000000000000000000000000000000000000000 0 0 (zD ↑(c.nt)) none)::AV.agg zz4::ze0:: .c (AC.fn 71 [(100000240000000000000000000000000000000000000002,0,0)])::z9 zT (z9 zT (z9 zT [zT]))))))))) (Array.mk [144,145]) (Oy prog 12 1) (Oz prog 12 1) 100000240000000000000000000000000000000000000006)),yF 0 0 (Cs.obj (AObj.dfr true))]) 23 100000240000000000000000000000000000000000000014 (ZQ 23 []) (List.zip poYNI (Zg c.nt g::TL prog c w T x y q)) 10000000000000000000000000000000000000000000000000 (Exit.exit 0) none,LoopV prog (ZW prog 71 0) plH p1I [some (.c (AC.yld 1000340000000000000000000000000000000000000159)),some (.c (.ptr 1000340000000000000000000000000000000000000154 0 0)),some (.c (.v (.int .i64 ↑(c.nt)))),some (.c (zI (zN 0)))] (some Zr::some Za::zs2 [yR 91 0 (Cs.lit (.ptr 23 0 0:: .v (.int .i64 ↑(c.ns))::zI (IntKind.wrap .i64 (x+zN 1))::(ZX zz6++[AC.sl M9 0 0 c.nt none]))),some (SO c.nt S),yR 40 0 (Cs.lit [AC.ptr Ze 0 0]),yR 51 0 (Cs.lit zz3),some zz0,yR 3 0 (Cs.lit [zI zz1]),yR 2 0 (Cs.lit [zI (IntKind.wrap .i64 (Int.tdiv x ↑(c.ns)))]),yR 40 0 (Cs.lit [AC.ptr Ze 0 0]),yF 0 0 (Cs.obj (AObj.dfr true)),yF 0 0 (Cs.obj (AObj.loop LoopState.ready none (zs1 (zT::zs0 (z9 zT (z9 zT (z9 zT (z9 zT (z9 zT (z9 zT (z9 zT (z9 zT (z9 zT (z9 zT (z9 zT []))))))))))))) (Array.mk [81,82]) (Oy prog 12 0) (Oz prog 12 0) 1000340000000000000000000000000000000000000158))]) 23 1000340000000000000000000000000000000000000166 (ZQ 23 []) (List.zip p1I (Ow prog c w y T x q o rr)) 100000000000000000000000000000000000000000000000 (Exit.exit 0) none])):
 ∃p r,Ss prog (SL::plI) c u x S ⟨true,t,q⟩ p [some (AZ prog c w y T x q o rr),some (K8 prog c w T x y q g)]=some r/\Q r:=
 ⟨pD 12 355752,_,by kernel_rfl,H⟩
theorem Aj (c:Cfg) (u w w2:Vw) (x y:Int) (S T:Nat->ZJ) (t:Int) (q:Payload) (o rr:Int) (g:Nat->Int) (Q:VF->Prop) (H:let zN:=Int.ofNat;let zM:=ABlk.mk;let zD:=Int.toNat;let zz0:=(zM true false 66 0 (Cs.lit (zI (zN 0)::zB false::zI (zN 0)::zU (zN 0)::zU (zN 0)::zW (zN 0)::zW (zN 0)::z8 (fun zk=>zB false) (z8 (fun zk=>zU (zN 0)) (z8 (fun zk=>zU (zN 0)) (z8 (fun zk=>zH (zN 0)) (z8 (fun zk=>zB false) [AC.v (Value.int IntKind.i8 (zN 0)),zU (zN 0),AC.v (Value.slice none 0 0)])))))));let zz1:=(X0 c (zD (Cfg.nodes c)) (ZT c (2*Cfg.np c)) (List.headD [Int.tmod x ↑(Cfg.ns c)] (zN 0)));let zz2:=[zB true,zI (Said.at_ (Said.mk true t q)),zU (Payload.kind q),zU (Payload.st q),zW (Payload.seq q),zW (Payload.val q)];let zz3:=[zB true,zI x,zU (Payload.kind q),zU (Payload.st q),zW (Payload.seq q),zW (Payload.val q)];let zz6:=(Js c (zD (Cfg.nodes c)) (ZT c (2*Cfg.np c)) (Zi (ZX w)));let zz4:=(zI x::zB true::zI x::zU (Payload.kind q)::zU (Payload.st q)::zW (Payload.seq q)::zW (Payload.val q)::(ZX zz6++[AC.sl 100000330000000000000000000000000000000000000001 0 0 (zD ↑(Cfg.nt c)) none]));let zz5:=[zB true,zI (zN 0),zU (Payload.kind q),zU (Payload.st q),zW (Payload.seq q),zW (Payload.val q)];let zz7:=(Qk (decide (zN 0<=ZI c (zD (Cfg.nodes c)) (ZT c (2*Cfg.np c)) zz1)) zz1 u);let zs0:=fun (l:List AV)=>zT::zT:: .c (zB false):: .c (.ptr Ze 0 0):: .c (zB false):: .c (zB false):: .c (.ptr Ze 0 0):: .c (.ptr Ze 0 0):: .c (.ptr Ze 0 0):: .c (.ptr 23 0 0):: .c (zB false):: .c (zB false)::zT:: .c (zB false):: .c (.ptr Ze 0 0):: .c (.ptr Ze 0 0):: .c (.ptr Ze 0 2):: .c (zI x):: .c (zB (decide (x≥zN 1099511627776)))::zT:: .c (.ptr Ze 0 0):: .c (.ptr Ze 0 0):: .c (.ptr Ze 0 2):: .c (zI x):: .c (.ptr Ze 0 0):: .c (.ptr Ze 0 0):: .c (.ptr Ze 0 2):: .c (zI x):: .c (zI (IntKind.wrap .i64 (x+zN 1))):: .c (.ptr Ze 0 0):: .c (.ptr Ze 0 2)::AV.agg zz2::AV.agg zz5:: .c (.ptr Ze 0 0):: .c (.ptr Ze 0 0):: .c (.ptr Ze 0 0):: .c (.ptr 23 0 0):: .c (zI x):: .c (.ptr Ze 0 0):: .c (.ptr Ze 0 0):: .c (.ptr Ze 0 1):: .c (.v (.int .i64 ↑(c.ns))):: .c (zI (Int.tmod x ↑(c.ns))):: .c (zI zz1):: .c (zI x):: .c (.ptr Ze 0 0):: .c (.ptr Ze 0 0):: .c (.ptr Ze 0 1):: .c (.v (.int .i64 ↑(c.ns))):: .c (zI (IntKind.wrap .i64 (Int.tdiv x ↑(c.ns)))):: .c (.ptr 1000000000000000000000000000000000000000000100 0 0):: .c (zB true):: .c (zI x):: .c (.ptr 1000000000000000000000000000000000000000000100 0 1):: .c (.ptr Ze 0 0):: .c (.ptr Ze 0 0):: .c (.ptr Ze 0 0):: .c (.ptr Ze 0 0):: .c (.ptr 23 0 0):: .c (.ptr Ze 0 0):: .c (.ptr Ze 0 0):: .c (.ptr Ze 0 3)::AV.agg (ZX u):: .c (zI zz1)::AV.agg (ZX zz7):: .c (.ptr Ze 0 0):: .c (.ptr Ze 0 3):: .c (.ptr Ze 0 0):: .c (AC.fn 71 [(1000340000000000000000000000000000000000000154,0,0)])::l;let zs1:=fun (l:List AV)=>.c (.ptr Ze 0 0)::AV.agg zz2:: .c (.ptr YQ 0 0):: .c (.ptr 1000000000000000000000000000000000000000000100 0 0):: .c (.ptr 1000000000000000000000000000000000000000000101 0 0):: .c (zI (zN 0)):: .c (zI x):: .c (.ptr 1000170000000000000000000000000000000000000147 0 0):: .c (.ptr 1000180000000000000000000000000000000000000147 0 0)::zT::zT::l;let zs2:=fun (l:List (Option ABlk))=>some (Xv 23 c)::some (ZS (zD c.nodes) (ZT c (2*c.np)))::some (ZS c.np c.fp)::some (ZS c.ns c.fs)::some (ZS c.nb c.fb)::some (Yw c.nt c.ft)::l;let zs3:=fun (l:List AV)=>.c (.ptr Ze 0 0):: .c (.ptr Ze 0 0)::l;Q (.tup [AV.agg (zI x::zB true::zI x::zU (Payload.kind q)::zU (Payload.st q)::zW (Payload.seq q)::zW (Payload.val q)::(ZX w2++[AC.sl 100000330000000000000000000000000000000000000001 0 0 c.nt none])),.c (zI (zN 0))],(some (Zg c.nt g)::some Zr::some Za::zs2 [some (Sr c w2 y),some (SO c.nt T)]),10000000000000000000000000000000000000000000000003,(zu (zu (zu (zt (true::((decide (zN 0 <= ↑(c.nt)/\(zN c.nt)= ↑(c.nt)/\ ↑(c.nt)*zN 4<=zN 140737488355328))::(zu (zt (zt (y3 (y3 (((Zf c (zD c.nodes) (ZT c (2*c.np)))::(pX Kz (YF.mk c (zD c.nodes) (ZT c (2*c.np)) [AV.agg (ZX w)]))::(zu (zt (y3 (y3 (true::(((Int.tmod y ↑(c.ns)==zN 0)==true)::(decide (↑(c.ns)≠zN 0))::(zt (true::true::((Zf c (zD c.nodes) (ZT c (2*c.np)))::(pW W5 (YF.mk c (zD c.nodes) (ZT c (2*c.np)) [AV.agg (ZX u),.c (zI zz1)]))::(zu (zt (zt (y3 (y3 (((decide (↑(c.ns)≠zN 0))::y3 ((Zf c (zD c.nodes) (ZT c (2*c.np)))::true::(decide (↑(c.ns)≠zN 0))::(zu (y3 (((decide (x≥zN 1099511627776)==false)::y3 (y3 ([])))))))))))))))))))))))))))))))))))),[LoopV prog (ZW prog 71 0) plH poYBI [some (.c (AC.yld 100000360000000000000000000000000000000000000008)),some (.c (.ptr 100000360000000000000000000000000000000000000003 0 0)),some (.c (.v (.int .i64 ↑(c.nt)))),some (.c (zI (zN 0)))] (yO 47 1 (Cs.arr (zD ↑(c.nt)) fun x=>List.map AC.v (Array.toList (Value.cells (Value.int .u32 0))))::some Zr::some Za::zs2 [some (Sr c zz6 y),some (SO c.nt T),yR 40 0 (Cs.lit [AC.ptr Ze 0 0]),yR 51 0 (Cs.lit zz3),some zz0,yR 66 0 (Cs.lit zz4),yR 40 0 (Cs.lit [AC.ptr Ze 0 0]),yF 0 0 (Cs.obj (AObj.dfr true)),yF 0 0 (Cs.obj (AObj.loop LoopState.ready none (zs1 (.c (.ptr 100000350000000000000000000000000000000000000001 0 0)::zs0 (z9 zT (z9 zT (z9 zT (zT::zT::zs3 (.c (.ptr Ze 0 2):: .c (zI y)::zs3 (.c (.ptr Ze 0 1):: .c (.v (.int .i64 ↑(c.ns))):: .c (zI (Int.tmod y ↑(c.ns))):: .c (zB true)::zs3 (zs3 (.c (.ptr 23 0 0)::zs3 (.c (.ptr Ze 0 3)::AV.agg (ZX w)::AV.agg (ZX zz6):: .c (.ptr Ze 0 0):: .c (.ptr Ze 0 3):: .c (zI x)::AV.agg zz3::zs3 (.c (.ptr Ze 0 3)::AV.agg (ZX zz6)::zs3 (.c (.ptr Ze 0 45):: .c (.sl M9 0 0 c.nt none):: .c (.v (.int .i64 ↑(c.nt))):: .c (.sl 100000330000000000000000000000000000000000000001 0 0 (zD ↑(c.nt)) none)::AV.agg zz4:: .c (.ptr Ze 0 0):: .c (AC.fn 71 [(100000360000000000000000000000000000000000000003,0,0)])::z9 zT (z9 zT (z9 zT [zT]))))))))))))))) (Array.mk [144,145]) (Oy prog 12 1) (Oz prog 12 1) 100000360000000000000000000000000000000000000007)),yF 0 0 (Cs.obj (AObj.dfr true))]) 23 100000360000000000000000000000000000000000000015 (ZQ 23 []) (List.zip poYBI (Zg c.nt g::TK prog c w2 T x y q)) 10000000000000000000000000000000000000000000000000 (Exit.exit 0) none,LoopV prog (ZW prog 71 0) plH p1I [some (.c (AC.yld 1000340000000000000000000000000000000000000159)),some (.c (.ptr 1000340000000000000000000000000000000000000154 0 0)),some (.c (.v (.int .i64 ↑(c.nt)))),some (.c (zI (zN 0)))] (some Zr::some Za::zs2 [yR 91 0 (Cs.lit (.ptr 23 0 0:: .v (.int .i64 ↑(c.ns))::zI (IntKind.wrap .i64 (x+zN 1))::(ZX zz7++[AC.sl M9 0 0 c.nt none]))),some (SO c.nt S),yR 40 0 (Cs.lit [AC.ptr Ze 0 0]),yR 51 0 (Cs.lit zz3),some zz0,yR 3 0 (Cs.lit [zI zz1]),yR 2 0 (Cs.lit [zI (IntKind.wrap .i64 (Int.tdiv x ↑(c.ns)))]),yR 40 0 (Cs.lit [AC.ptr Ze 0 0]),yF 0 0 (Cs.obj (AObj.dfr true)),yF 0 0 (Cs.obj (AObj.loop LoopState.ready none (zs1 (zT::zs0 (z9 zT (z9 zT (z9 zT (z9 zT (z9 zT (z9 zT (z9 zT (z9 zT (z9 zT (z9 zT (z9 zT []))))))))))))) (Array.mk [81,82]) (Oy prog 12 0) (Oz prog 12 0) 1000340000000000000000000000000000000000000158))]) 23 1000340000000000000000000000000000000000000166 (ZQ 23 []) (List.zip p1I (Ow prog c w y T x q o rr)) 100000000000000000000000000000000000000000000000 (Exit.exit 0) none])):
 ∃p r,Ss prog (SK::plI) c u x S ⟨true,t,q⟩ p [some (AZ prog c w y T x q o rr),some (K7 prog c w2 T x y q g)]=some r/\Q r:=
 ⟨pD 12 178605,_,by kernel_rfl,H⟩
theorem Ah (c:Cfg) (u:Vw) (x:Int) (S:Nat->ZJ) (t:Int) (q:Payload) (g:Nat->Int) (Q:VF->Prop) (H:let zN:=Int.ofNat;let zz0:=[zB false,zI (zN 0),zU (zN 0),zU (zN 0),zW (zN 0),zW (zN 0)];let zz1:=(zI x::zB false::zI (zN 0)::zU (zN 0)::zU (zN 0)::zW (zN 0)::zW (zN 0)::(ZX u++[AC.sl 1000420000000000000000000000000000000000000145 0 0 (Int.toNat ↑(Cfg.nt c)) none]));let zz2:=[zB false,zI (Said.at_ (Said.mk false t q)),zU (Payload.kind q),zU (Payload.st q),zW (Payload.seq q),zW (Payload.val q)];let ze4:AV:=.c (.v (.int .i64 ↑(c.ns)));let ze3:AV:=.c (.ptr Ze 0 2);let ze2:AV:=.c (.ptr 1000000000000000000000000000000000000000000100 0 0);let ze1:AV:=.c (zB false);let ze0:AV:=.c (.ptr Ze 0 0);let zs0:=fun (l:List AV)=>ze0::ze0::l;let zs1:=fun (l:List AV)=>ze0::ze0::l;let zs2:=fun (l:List (Option ABlk))=>some (Xv 23 c)::some (ZS (Int.toNat c.nodes) (ZT c (2*c.np)))::some (ZS c.np c.fp)::some (ZS c.ns c.fs)::some (ZS c.nb c.fb)::some (Yw c.nt c.ft)::some (Sr c u (IntKind.wrap .i64 (x+zN 1)))::some (SO c.nt S)::l;let zs3:=fun (l:List AV)=>ze0::ze0::l;Q (.tup [AV.agg (zI x::zB false::zI (zN 0)::zU (zN 0)::zU (zN 0)::zW (zN 0)::zW (zN 0)::(ZX u++[AC.sl 1000420000000000000000000000000000000000000145 0 0 c.nt none])),.c (zI (zN 0))],(some (Zg c.nt g)::some Zr::some Za::zs2 []),10000000000000000000000000000000000000000000000003,(zu (zu (zu (zt (true::((decide (zN 0 <= ↑(c.nt)/\(zN c.nt)= ↑(c.nt)/\ ↑(c.nt)*zN 4<=zN 140737488355328))::(zu (zt (zt (y3 (true::true::(((Int.tmod (IntKind.wrap .i64 (x+zN 1)) ↑(c.ns)==zN 0)==false)::(decide (↑(c.ns)≠zN 0))::(zt (true::true::((decide (↑(c.ns)≠zN 0))::y3 ((Zf c (Int.toNat c.nodes) (ZT c (2*c.np)))::true::(decide (↑(c.ns)≠zN 0))::(zt (zt (zt (y3 (y3 (((decide (x≥zN 1099511627776)==false)::y3 (y3 ([]))))))))))))))))))))))))),[LoopV prog (ZW prog 71 0) plH poNNI [some (.c (AC.yld 1000450000000000000000000000000000000000000152)),some (.c (.ptr 1000450000000000000000000000000000000000000147 0 0)),some (.c (.v (.int .i64 ↑(c.nt)))),some (.c (zI (zN 0)))] (yO 47 1 (Cs.arr (Int.toNat ↑(c.nt)) fun x=>List.map AC.v (Array.toList (Value.cells (Value.int .u32 0))))::some Zr::some Za::zs2 [yR 40 0 (Cs.lit [AC.ptr Ze 0 0]),yR 51 0 (Cs.lit zz0),yR 66 0 (Cs.lit (zI (zN 0)::zB false::zI (zN 0)::zU (zN 0)::zU (zN 0)::zW (zN 0)::zW (zN 0)::z8 (fun zk=>zB false) (z8 (fun zk=>zU (zN 0)) (z8 (fun zk=>zU (zN 0)) (z8 (fun zk=>zH (zN 0)) (z8 (fun zk=>zB false) [.v (.int .i8 (zN 0)),zU (zN 0),AC.v (Value.slice none 0 0)])))))),yR 66 0 (Cs.lit zz1),yR 40 0 (Cs.lit [AC.ptr Ze 0 0]),yF 0 0 (Cs.obj (AObj.dfr true)),yF 0 0 (Cs.obj (AObj.loop LoopState.ready none (ze0::AV.agg zz2:: .c (.ptr YQ 0 0)::ze2:: .c (.ptr 1000000000000000000000000000000000000000000101 0 0):: .c (zI (zN 0)):: .c (zI x):: .c (.ptr 1000170000000000000000000000000000000000000143 0 0):: .c (.ptr 1000180000000000000000000000000000000000000143 0 0)::zT::zT:: .c (.ptr 1000440000000000000000000000000000000000000145 0 0)::zT::zT::ze1::ze0::ze1::ze1::zs3 (ze0:: .c (.ptr 23 0 0)::ze1::ze1::zT::ze1::zs3 (ze3:: .c (zI x):: .c (zB (decide (x≥zN 1099511627776)))::zT::zs3 (ze3:: .c (zI x)::zs3 (ze3:: .c (zI x):: .c (zI (IntKind.wrap .i64 (x+zN 1)))::ze0::ze3::AV.agg zz2::AV.agg zz0::zs3 (ze0:: .c (.ptr 23 0 0):: .c (zI x)::zs3 (.c (.ptr Ze 0 1)::ze4:: .c (zI (Int.tmod x ↑(c.ns))):: .c (zI (X0 c (Int.toNat c.nodes) (ZT c (2*c.np)) (List.headD [Int.tmod x ↑(c.ns)] (zN 0)))):: .c (zI x)::zs3 (.c (.ptr Ze 0 1)::ze4:: .c (zI (IntKind.wrap .i64 (Int.tdiv x ↑(c.ns))))::ze2::ze1::z9 zT (z9 zT (z9 zT (z9 zT (z9 zT (zT::zT::zT::zs1 (ze3:: .c (zI (IntKind.wrap .i64 (x+zN 1)))::zs1 (.c (.ptr Ze 0 1)::ze4:: .c (zI (Int.tmod (IntKind.wrap .i64 (x+zN 1)) ↑(c.ns)))::ze1::z9 zT (zT::zT::zT::zT:: .c (zI x)::AV.agg zz0::zs0 (.c (.ptr Ze 0 3)::AV.agg (ZX u)::zs0 (.c (.ptr Ze 0 45):: .c (.sl M9 0 0 c.nt none):: .c (.v (.int .i64 ↑(c.nt))):: .c (.sl 1000420000000000000000000000000000000000000145 0 0 (Int.toNat ↑(c.nt)) none)::AV.agg zz1::ze0:: .c (AC.fn 71 [(1000450000000000000000000000000000000000000147,0,0)])::z9 zT (z9 zT (z9 zT [zT])))))))))))))))))))) (Array.mk [144,145]) (Oy prog 12 1) (Oz prog 12 1) 1000450000000000000000000000000000000000000151))]) 23 1000450000000000000000000000000000000000000159 (ZQ 23 []) (List.zip poNNI (Zg c.nt g::TJ prog c u S x (IntKind.wrap .i64 (x+zN 1)) q)) 10000000000000000000000000000000000000000000000000 (Exit.exit 0) none])):
 ∃p r,Ss prog (SJ::plI) c u x S ⟨false,t,q⟩ p [some (K6 prog c u S x (IntKind.wrap .i64 (x+Int.ofNat 1)) q g)]=some r/\Q r:=
 ⟨pD 12 355752,_,by kernel_rfl,H⟩
theorem Ag (c:Cfg) (u w2:Vw) (x:Int) (S:Nat->ZJ) (t:Int) (q:Payload) (g:Nat->Int) (Q:VF->Prop) (H:let zN:=Int.ofNat;let zD:=Int.toNat;let zz0:=[zB false,zI (zN 0),zU (zN 0),zU (zN 0),zW (zN 0),zW (zN 0)];let zz3:=(Js c (zD (Cfg.nodes c)) (ZT c (2*Cfg.np c)) (Zi (ZX u)));let zz1:=(zI x::zB false::zI (zN 0)::zU (zN 0)::zU (zN 0)::zW (zN 0)::zW (zN 0)::(ZX zz3++[AC.sl 1000540000000000000000000000000000000000000146 0 0 (zD ↑(Cfg.nt c)) none]));let zz2:=[zB false,zI (Said.at_ (Said.mk false t q)),zU (Payload.kind q),zU (Payload.st q),zW (Payload.seq q),zW (Payload.val q)];let ze4:AV:=.c (.v (.int .i64 ↑(c.ns)));let ze3:AV:=.c (.ptr Ze 0 2);let ze2:AV:=.c (.ptr 1000000000000000000000000000000000000000000100 0 0);let ze1:AV:=.c (zB false);let ze0:AV:=.c (.ptr Ze 0 0);let zs0:=fun (l:List AV)=>ze0::ze0::l;let zs1:=fun (l:List AV)=>ze0::ze0::l;let zs2:=fun (l:List (Option ABlk))=>some (Xv 23 c)::some (ZS (zD c.nodes) (ZT c (2*c.np)))::some (ZS c.np c.fp)::some (ZS c.ns c.fs)::some (ZS c.nb c.fb)::some (Yw c.nt c.ft)::l;Q (.tup [AV.agg (zI x::zB false::zI (zN 0)::zU (zN 0)::zU (zN 0)::zW (zN 0)::zW (zN 0)::(ZX w2++[AC.sl 1000540000000000000000000000000000000000000146 0 0 c.nt none])),.c (zI (zN 0))],(some (Zg c.nt g)::some Zr::some Za::zs2 [some (Sr c w2 (IntKind.wrap .i64 (x+zN 1))),some (SO c.nt S)]),10000000000000000000000000000000000000000000000003,(zu (zu (zu (zt (true::((decide (zN 0 <= ↑(c.nt)/\(zN c.nt)= ↑(c.nt)/\ ↑(c.nt)*zN 4<=zN 140737488355328))::(zu (zt (zt (y3 (y3 (((Zf c (zD c.nodes) (ZT c (2*c.np)))::(pX Kz (YF.mk c (zD c.nodes) (ZT c (2*c.np)) [AV.agg (ZX u)]))::(zu (zt (y3 (y3 (true::(((Int.tmod (IntKind.wrap .i64 (x+zN 1)) ↑(c.ns)==zN 0)==true)::(decide (↑(c.ns)≠zN 0))::(zt (true::true::((decide (↑(c.ns)≠zN 0))::y3 ((Zf c (zD c.nodes) (ZT c (2*c.np)))::true::(decide (↑(c.ns)≠zN 0))::(zt (zt (zt (y3 (y3 (((decide (x≥zN 1099511627776)==false)::y3 (y3 ([])))))))))))))))))))))))))))))))),[LoopV prog (ZW prog 71 0) plH poNBI [some (.c (AC.yld 1000570000000000000000000000000000000000000153)),some (.c (.ptr 1000570000000000000000000000000000000000000148 0 0)),some (.c (.v (.int .i64 ↑(c.nt)))),some (.c (zI (zN 0)))] (yO 47 1 (Cs.arr (zD ↑(c.nt)) fun x=>List.map AC.v (Array.toList (Value.cells (Value.int .u32 0))))::some Zr::some Za::zs2 [some (Sr c zz3 (IntKind.wrap .i64 (x+zN 1))),some (SO c.nt S),yR 40 0 (Cs.lit [AC.ptr Ze 0 0]),yR 51 0 (Cs.lit zz0),yR 66 0 (Cs.lit (zI (zN 0)::zB false::zI (zN 0)::zU (zN 0)::zU (zN 0)::zW (zN 0)::zW (zN 0)::z8 (fun zk=>zB false) (z8 (fun zk=>zU (zN 0)) (z8 (fun zk=>zU (zN 0)) (z8 (fun zk=>zH (zN 0)) (z8 (fun zk=>zB false) [.v (.int .i8 (zN 0)),zU (zN 0),AC.v (Value.slice none 0 0)])))))),yR 66 0 (Cs.lit zz1),yR 40 0 (Cs.lit [AC.ptr Ze 0 0]),yF 0 0 (Cs.obj (AObj.dfr true)),yF 0 0 (Cs.obj (AObj.loop LoopState.ready none (ze0::AV.agg zz2:: .c (.ptr YQ 0 0)::ze2:: .c (.ptr 1000000000000000000000000000000000000000000101 0 0):: .c (zI (zN 0)):: .c (zI x):: .c (.ptr 1000170000000000000000000000000000000000000143 0 0):: .c (.ptr 1000180000000000000000000000000000000000000143 0 0)::zT::zT:: .c (.ptr 1000560000000000000000000000000000000000000146 0 0)::zT::zT::ze1::ze0::ze1::ze1::zs1 (ze0:: .c (.ptr 23 0 0)::ze1::ze1::zT::ze1::zs1 (ze3:: .c (zI x):: .c (zB (decide (x≥zN 1099511627776)))::zT::zs1 (ze3:: .c (zI x)::zs1 (ze3:: .c (zI x):: .c (zI (IntKind.wrap .i64 (x+zN 1)))::ze0::ze3::AV.agg zz2::AV.agg zz0::zs1 (ze0:: .c (.ptr 23 0 0):: .c (zI x)::zs1 (.c (.ptr Ze 0 1)::ze4:: .c (zI (Int.tmod x ↑(c.ns))):: .c (zI (X0 c (zD c.nodes) (ZT c (2*c.np)) (List.headD [Int.tmod x ↑(c.ns)] (zN 0)))):: .c (zI x)::zs1 (.c (.ptr Ze 0 1)::ze4:: .c (zI (IntKind.wrap .i64 (Int.tdiv x ↑(c.ns))))::ze2::ze1::z9 zT (z9 zT (z9 zT (z9 zT (z9 zT (zT::zT::zT::zs0 (ze3:: .c (zI (IntKind.wrap .i64 (x+zN 1)))::zs0 (.c (.ptr Ze 0 1)::ze4:: .c (zI (Int.tmod (IntKind.wrap .i64 (x+zN 1)) ↑(c.ns))):: .c (zB true)::zs0 (zs0 (.c (.ptr 23 0 0)::zs0 (.c (.ptr Ze 0 3)::AV.agg (ZX u)::AV.agg (ZX zz3)::ze0:: .c (.ptr Ze 0 3):: .c (zI x)::AV.agg zz0::zs0 (.c (.ptr Ze 0 3)::AV.agg (ZX zz3)::zs0 (.c (.ptr Ze 0 45):: .c (.sl M9 0 0 c.nt none):: .c (.v (.int .i64 ↑(c.nt))):: .c (.sl 1000540000000000000000000000000000000000000146 0 0 (zD ↑(c.nt)) none)::AV.agg zz1::ze0:: .c (AC.fn 71 [(1000570000000000000000000000000000000000000148,0,0)])::z9 zT (z9 zT (z9 zT [zT])))))))))))))))))))))) (Array.mk [144,145]) (Oy prog 12 1) (Oz prog 12 1) 1000570000000000000000000000000000000000000152))]) 23 1000570000000000000000000000000000000000000160 (ZQ 23 []) (List.zip poNBI (Zg c.nt g::TI prog c w2 S x (IntKind.wrap .i64 (x+zN 1)) q)) 10000000000000000000000000000000000000000000000000 (Exit.exit 0) none])):
 ∃p r,Ss prog (SI::plI) c u x S ⟨false,t,q⟩ p [some (K5 prog c w2 S x (IntKind.wrap .i64 (x+Int.ofNat 1)) q g)]=some r/\Q r:=
 ⟨pD 12 178605,_,by kernel_rfl,H⟩
abbrev X1 (c:Cfg) (x:Int):Int:=X0 c c.nodes.toNat (ZT c (2*c.np)) (Int.tmod x (c.ns:Int))
abbrev Vx (c:Cfg) (x:Int):Int:=IntKind.wrap .i64 (Int.tdiv x (c.ns:Int))
abbrev XU (x:Int):Int:=IntKind.wrap .i64 (x+Int.ofNat 1)
abbrev VN (c:Cfg) (u:Vw) (x:Int):Vw:=Qk (decide (Int.ofNat 0<=ZI c c.nodes.toNat (ZT c (2*c.np)) (X1 c x))) (X1 c x) u
abbrev XK (c:Cfg) (w:Vw):Vw:=Js c c.nodes.toNat (ZT c (2*c.np)) (Zi (ZX w))
abbrev Su (c:Cfg) (u:Vw) (x:Int) (q:Payload) (S:Nat->ZJ):Nat->ZJ:=UF c (X1 c x) (IntKind.wrap .i64 (VN c u x).command) (Vx c x) q S c.nt
abbrev TX (c:Cfg) (x:Int) (T:Nat->ZJ):Nat->Int:=T0 c T (IntKind.wrap .i64 (Int.tdiv (XU x) c.ns)) c.nt
abbrev Jd (c:Cfg) (x:Int) (l:List AC) (w:Vw):AV:=.tup [.agg ((.v (.int .i64 x)::(l++ZX w))++[.sl YQ 0 0 c.nt none]),.c (.v (.int .i64 (Int.ofNat 0)))]
abbrev Pv (c:Cfg) (w:Vw) (y:Int) (T:Nat->ZJ) (g:Nat->Int):AMem:=[YQ].zip [Zg c.nt g]++plI.zip (Wc c w y T)
structure GB (c:Cfg) (u:Vw) (x:Int):Prop where
 nt:c.nt<=8
 ns:c.ns≠0
 st:YA c c.nodes.toNat=true
 hh:YT c=true
 lt:x<1099511627776
 rd:YO (IntKind.wrap .i64 (Int.tdiv (XU x) c.ns))=true
abbrev Oo (c:Cfg) (O:Nat) (x:Int) (l:List AC) (w:Vw) (y:Int) (T:Nat->ZJ) (g:Nat->Int) (z:VF):Prop:=z.2.2.1<=100000000000000000000000000000000000000000000000000/\ZZ z.2.2.2.1/\(∀e∈z.2.2.2.2,e)/\z.1= .tup [.agg ((.v (.int .i64 x)::(l++ZX w))++[.sl O 0 0 c.nt none]),.c (.v (.int .i64 (Int.ofNat 0)))]/\z.2.1=some (Zg c.nt g)::(Wc c w y T).map some
theorem Ma {c:Cfg} {u:Vw} {x:Int} (f:GB c u x):decide (Int.ofNat 0<=(c.nt:Int)/\Int.ofNat c.nt=(c.nt:Int)/\(c.nt:Int)*Int.ofNat 4<=Int.ofNat 140737488355328)=true/\decide ((c.ns:Int)≠Int.ofNat 0)=true/\(decide (x≥Int.ofNat 1099511627776)==false)=true:=by
 have:=f.nt;have:=f.ns;have:=f.lt;refine⟨by simp;omega,by simp;omega,?_⟩;rw[decide_eq_false (show ¬x≥Int.ofNat 1099511627776 by simp;omega)];rfl
theorem LY (c:Cfg) (u:Vw) (x:Int) (S:Nat->ZJ) (d:Said) (O:Nat) (l:List AC) (hl:l.all (YI YQ)=true) (w:Vw) (y:Int) (T:Nat->ZJ) (g:Nat->Int) (hO:VO YQ 100000000000000000000000000000000000000000000000000 100000000000000000000000000000000000000000000000000 (fun _=>.inl O) ([YQ].zip [Zg c.nt g]++plI.zip (Wc c w y T))=true) {eb:List (Option ABlk)} (hE:BL (Wc c u x S) eb) (h:∃p lp z,Ss prog (O::plI) c u x S d p lp=some z/\Oo c O x l w y T g z):
 CallV prog 12 [.c (.ptr Ze 0 0),.agg (d.cells.map .v)] plI eb YQ (Jd c x l w) (Pv c w y T g) 100000000000000000000000000000000000000000000000000:=by
 obtain⟨p,lp,z,h1,h2,h3,h4,h5,h6⟩:=h;refine NR ST (fuel:=300) (str:=nSt) (vids:=O::plI) (blks:=Wc c u x S) (by decide) (by unfold ZR;omega) rfl (by kernel_rfl) (by kernel_rfl) hE ⟨p,lp,z,h1,h2,h3,h4,fun _=>.inl O,?_⟩;rw[h5,h6];refine Sj (hs:=[0]) (vals:=[Jd c x l w]) (gs:=[YQ]) (gb:=[Zg c.nt g]) (ids:=plI) (blks:=Wc c w y T) (kb:=(Wc c w y T).map some) (A:=[(O,some (Zg c.nt g))]) rfl hO ?_ ?_ (by kernel_rfl) (Pc (Nat.le_refl _)) (BL.refl _)
 . refine WY (List.mem_singleton.2 rfl) (fun h=>AV.noConfusion h) (EZ (l:=.v (.int .i64 x)::(l++ZX w)) (by rw[List.all_cons,List.all_append,hl,Rm];rfl) ?_) Sm
   exact Pk (Vs (Nat.le_refl _) (by decide) (by decide) rfl)
 . exact Tv (Ph (o:=O) (by kernel_rfl) (by kernel_rfl) rfl (List.mem_cons_self ..) (BEq.refl _) Y8) Sk
theorem AB (c:Cfg) (u:Vw) (x t:Int) (q:Payload) (S:Nat->ZJ) (f:GB c u x) (hT:∀j,YO (Su c u x q S j).rnd=true) (hb:(Int.tmod (XU x) (c.ns:Int)==Int.ofNat 0)=false) (h8:pW W5 ⟨c,c.nodes.toNat,ZT c (2*c.np),[.agg (ZX u),.c (.v (.int .i64 (X1 c x)))]⟩=true) {eb:List (Option ABlk)} (hE:BL (Wc c u x S) eb):
 CallV prog 12 [.c (.ptr Ze 0 0),.agg ((Said.mk true t q).cells.map .v)] plI eb YQ (Jd c x (Vz x q) (VN c u x)) (Pv c (VN c u x) (XU x) (Su c u x q S) (TX c x (Su c u x q S))) 100000000000000000000000000000000000000000000000000:=by
 obtain⟨v,hv⟩:∃v,v=VN c u x:=⟨_,rfl⟩
 obtain⟨T,hTe⟩:∃T,T=Su c u x q S:=⟨_,rfl⟩
 rw[<- hTe] at hT ⊢;rw[<- hv];refine LY c u x S ⟨true,t,q⟩ SL (Vz x q) rfl v (XU x) T (TX c x T) (by kernel_rfl) hE ?_;refine(?_:(∃p r,Ss prog (SL::plI) c u x S ⟨true,t,q⟩ p [some (AZ prog c v (XU x) T x q (X1 c x) (Vx c x)),some (K8 prog c v T x (XU x) q (TX c x T))]=some r/\_)->_) (Ak c u v x (XU x) S T t q (X1 c x) (Vx c x) (TX c x T) (Oo c SL x (Vz x q) v (XU x) T (TX c x T)) ?_)
 . rintro⟨p,r,h1,h2⟩
   exact⟨p,_,r,h1,h2⟩
 . obtain⟨d1,d2,d5⟩:=Ma f
   refine⟨by dsimp only;omega,?_,?_,rfl,rfl⟩
   . simp only[ZZ,List.forall_mem_cons,List.not_mem_nil,false_implies,implies_true,and_true,true_and]
     have d4:((Int.tmod (XU x) (c.ns:Int)==Int.ofNat 0)==false)=true:=by rw[hb];rfl
     repeat' apply And.intro
     all_goals first|exact d1|exact d2|exact d4|exact d5|exact YN _ _ _|exact h8
   . simp only[List.forall_mem_cons,List.not_mem_nil,false_implies,implies_true,and_true]
     refine⟨jjjl c v T x (XU x) q f.nt f.ns f.st f.hh f.rd hT ?_ (b:=⟨true,true,47,1,.arr (Int.toNat (c.nt:Int)) fun _=>List.map AC.v (Array.toList (Value.cells (Value.int IntKind.u32 0)))⟩) ⟨rfl,rfl,rfl,rfl,.inr (.inl ⟨_,_,_,rfl,rfl,fun _ _=>rfl⟩)⟩,?_⟩
     . repeat (first|exact trivial|refine⟨BEq.refl _,?_⟩|refine⟨Pe (by repeat (first|exact trivial|refine⟨.inl rfl,?_⟩|refine⟨.inr rfl,?_⟩)),?_⟩)
     . rw[hTe,hv]
       refine Fe c (VN c u x) (XU x) S x q (X1 c x) (Vx c x) f.nt f.st ?_
       repeat (first|exact trivial|refine⟨BEq.refl _,?_⟩|refine⟨Pe (by repeat (first|exact trivial|refine⟨.inl rfl,?_⟩|refine⟨.inr rfl,?_⟩)),?_⟩)
theorem AA (c:Cfg) (u:Vw) (x t:Int) (q:Payload) (S:Nat->ZJ) (f:GB c u x) (hT:∀j,YO (Su c u x q S j).rnd=true) (hb:(Int.tmod (XU x) (c.ns:Int)==Int.ofNat 0)=true) (h8:pW W5 ⟨c,c.nodes.toNat,ZT c (2*c.np),[.agg (ZX u),.c (.v (.int .i64 (X1 c x)))]⟩=true) (h9:pX Kz ⟨c,c.nodes.toNat,ZT c (2*c.np),[.agg (ZX (VN c u x))]⟩=true) {eb:List (Option ABlk)} (hE:BL (Wc c u x S) eb):
 CallV prog 12 [.c (.ptr Ze 0 0),.agg ((Said.mk true t q).cells.map .v)] plI eb YQ (Jd c x (Vz x q) (XK c (VN c u x))) (Pv c (XK c (VN c u x)) (XU x) (Su c u x q S) (TX c x (Su c u x q S))) 100000000000000000000000000000000000000000000000000:=by
 obtain⟨v,hv⟩:∃v,v=VN c u x:=⟨_,rfl⟩
 obtain⟨T,hTe⟩:∃T,T=Su c u x q S:=⟨_,rfl⟩
 rw[<- hTe] at hT ⊢;rw[<- hv] at h9 ⊢;obtain⟨w,hw⟩:∃w,w=XK c v:=⟨_,rfl⟩
 rw[<- hw];refine LY c u x S ⟨true,t,q⟩ SK (Vz x q) rfl w (XU x) T (TX c x T) (by kernel_rfl) hE ?_;refine(?_:(∃p r,Ss prog (SK::plI) c u x S ⟨true,t,q⟩ p [some (AZ prog c v (XU x) T x q (X1 c x) (Vx c x)),some (K7 prog c w T x (XU x) q (TX c x T))]=some r/\_)->_) (Aj c u v w x (XU x) S T t q (X1 c x) (Vx c x) (TX c x T) (Oo c SK x (Vz x q) w (XU x) T (TX c x T)) ?_)
 . rintro⟨p,r,h1,h2⟩
   exact⟨p,_,r,h1,h2⟩
 . obtain⟨d1,d2,d5⟩:=Ma f
   refine⟨by dsimp only;omega,?_,?_,rfl,rfl⟩
   . simp only[ZZ,List.forall_mem_cons,List.not_mem_nil,false_implies,implies_true,and_true,true_and]
     have d4:((Int.tmod (XU x) (c.ns:Int)==Int.ofNat 0)==true)=true:=by rw[hb];rfl
     repeat' apply And.intro
     all_goals first|exact d1|exact d2|exact d4|exact d5|exact YN _ _ _|exact h8|exact h9
   . simp only[List.forall_mem_cons,List.not_mem_nil,false_implies,implies_true,and_true]
     refine⟨jjjn c w T x (XU x) q f.nt f.ns f.st f.hh f.rd hT ?_ (b:=⟨true,true,47,1,.arr (Int.toNat (c.nt:Int)) fun _=>List.map AC.v (Array.toList (Value.cells (Value.int IntKind.u32 0)))⟩) ⟨rfl,rfl,rfl,rfl,.inr (.inl ⟨_,_,_,rfl,rfl,fun _ _=>rfl⟩)⟩,?_⟩
     . subst hw;repeat (first|exact trivial|refine⟨BEq.refl _,?_⟩|refine⟨Pe (by repeat (first|exact trivial|refine⟨.inl rfl,?_⟩|refine⟨.inr rfl,?_⟩)),?_⟩)
     . rw[hTe,hv]
       refine Fe c (VN c u x) (XU x) S x q (X1 c x) (Vx c x) f.nt f.st ?_
       repeat (first|exact trivial|refine⟨BEq.refl _,?_⟩|refine⟨Pe (by repeat (first|exact trivial|refine⟨.inl rfl,?_⟩|refine⟨.inr rfl,?_⟩)),?_⟩)
theorem Az (c:Cfg) (u:Vw) (x t:Int) (q:Payload) (S:Nat->ZJ) (f:GB c u x) (hT:∀j,YO (S j).rnd=true) (hb:(Int.tmod (XU x) (c.ns:Int)==Int.ofNat 0)=false) {eb:List (Option ABlk)} (hE:BL (Wc c u x S) eb):
 CallV prog 12 [.c (.ptr Ze 0 0),.agg ((Said.mk false t q).cells.map .v)] plI eb YQ (Jd c x Vy (u)) (Pv c (u) (XU x) (S) (TX c x (S))) 100000000000000000000000000000000000000000000000000:=by
 refine LY c u x S ⟨false,t,q⟩ SJ Vy rfl u (XU x) S (TX c x S) (by kernel_rfl) hE ?_;refine(?_:(∃p r,Ss prog (SJ::plI) c u x S ⟨false,t,q⟩ p [some (K6 prog c u S x (XU x) q (TX c x S))]=some r/\_)->_) (Ah c u x S t q (TX c x S) (Oo c SJ x Vy u (XU x) S (TX c x S)) ?_)
 . rintro⟨p,r,h1,h2⟩
   exact⟨p,_,r,h1,h2⟩
 . obtain⟨d1,d2,d5⟩:=Ma f
   refine⟨by dsimp only;omega,?_,?_,rfl,rfl⟩
   . simp only[ZZ,List.forall_mem_cons,List.not_mem_nil,false_implies,implies_true,and_true,true_and]
     have d4:((Int.tmod (XU x) (c.ns:Int)==Int.ofNat 0)==false)=true:=by rw[hb];rfl
     repeat' apply And.intro
     all_goals first|exact d1|exact d2|exact d4|exact d5|exact YN _ _ _
   . simp only[List.forall_mem_cons,List.not_mem_nil,false_implies,implies_true,and_true]
     refine jjjq c u S x (XU x) q f.nt f.ns f.st f.hh f.rd hT ?_ (b:=⟨true,true,47,1,.arr (Int.toNat (c.nt:Int)) fun _=>List.map AC.v (Array.toList (Value.cells (Value.int IntKind.u32 0)))⟩) ⟨rfl,rfl,rfl,rfl,.inr (.inl ⟨_,_,_,rfl,rfl,fun _ _=>rfl⟩)⟩
     repeat (first|exact trivial|refine⟨BEq.refl _,?_⟩|refine⟨Pe (by repeat (first|exact trivial|refine⟨.inl rfl,?_⟩|refine⟨.inr rfl,?_⟩)),?_⟩)
theorem Ay (c:Cfg) (u:Vw) (x t:Int) (q:Payload) (S:Nat->ZJ) (f:GB c u x) (hT:∀j,YO (S j).rnd=true) (hb:(Int.tmod (XU x) (c.ns:Int)==Int.ofNat 0)=true) (h9:pX Kz ⟨c,c.nodes.toNat,ZT c (2*c.np),[.agg (ZX (u))]⟩=true) {eb:List (Option ABlk)} (hE:BL (Wc c u x S) eb):
 CallV prog 12 [.c (.ptr Ze 0 0),.agg ((Said.mk false t q).cells.map .v)] plI eb YQ (Jd c x Vy (XK c (u))) (Pv c (XK c (u)) (XU x) (S) (TX c x (S))) 100000000000000000000000000000000000000000000000000:=by
 obtain⟨w,hw⟩:∃w,w=XK c u:=⟨_,rfl⟩
 rw[<- hw];refine LY c u x S ⟨false,t,q⟩ SI Vy rfl w (XU x) S (TX c x S) (by kernel_rfl) hE ?_;refine(?_:(∃p r,Ss prog (SI::plI) c u x S ⟨false,t,q⟩ p [some (K5 prog c w S x (XU x) q (TX c x S))]=some r/\_)->_) (Ag c u w x S t q (TX c x S) (Oo c SI x Vy w (XU x) S (TX c x S)) ?_)
 . rintro⟨p,r,h1,h2⟩
   exact⟨p,_,r,h1,h2⟩
 . obtain⟨d1,d2,d5⟩:=Ma f
   refine⟨by dsimp only;omega,?_,?_,rfl,rfl⟩
   . simp only[ZZ,List.forall_mem_cons,List.not_mem_nil,false_implies,implies_true,and_true,true_and]
     have d4:((Int.tmod (XU x) (c.ns:Int)==Int.ofNat 0)==true)=true:=by rw[hb];rfl
     repeat' apply And.intro
     all_goals first|exact d1|exact d2|exact d4|exact d5|exact YN _ _ _|exact h9
   . simp only[List.forall_mem_cons,List.not_mem_nil,false_implies,implies_true,and_true]
     refine jjjs c w S x (XU x) q f.nt f.ns f.st f.hh f.rd hT ?_ (b:=⟨true,true,47,1,.arr (Int.toNat (c.nt:Int)) fun _=>List.map AC.v (Array.toList (Value.cells (Value.int IntKind.u32 0)))⟩) ⟨rfl,rfl,rfl,rfl,.inr (.inl ⟨_,_,_,rfl,rfl,fun _ _=>rfl⟩)⟩;subst hw;repeat (first|exact trivial|refine⟨BEq.refl _,?_⟩|refine⟨Pe (by repeat (first|exact trivial|refine⟨.inl rfl,?_⟩|refine⟨.inr rfl,?_⟩)),?_⟩)
structure T6 where
 u:Vw
 x:Int
 S:Nat->ZJ
structure TZ (s:T6):Prop where
 v:s.u.Ok
 x0:0<=s.x
 x1:s.x<=1099511627776
 st:∀j,YO (s.S j).rnd=true
structure PxC (c:Cfg):Prop where
 g:CfgGood c
 e0:Zu c=0
 st:YA c c.nodes.toNat=true
 hh:YT c=true
def Uq (c:Cfg) (s:T6) (d:Said):Vw:=if d.is=true then VN c s.u s.x else s.u
def Am (c:Cfg) (s:T6):Bool:=Int.tmod (XU s.x) (c.ns:Int)==Int.ofNat 0
def RF (c:Cfg) (s:T6) (d:Said):Vw:=if Am c s=true then XK c (Uq c s d) else Uq c s d
def Pw (c:Cfg) (s:T6) (d:Said):Nat->ZJ:=if d.is=true then Su c s.u s.x d.p s.S else s.S
def Mc (c:Cfg) (s:T6) (d:Said):T6:=if s.x<1099511627776 then⟨RF c s d,XU s.x,Pw c s d⟩ else s
def GH (x:Int) (d:Said):Said:=if d.is=true then⟨true,x,d.p⟩ else Said.zero
theorem jjpu {c:Cfg} (h:Zu c=0):YT c=true:=by
 have h9:=(Cx h).2.2.2.2.2.2.2.2.1;unfold XC at h9;refine List.all_eq_true.2 fun i hi=>?_
 have hz:YX c i=0:=by
  split at h9
  . rename_i j hj
    have:=List.find?_some hj;rw[h9] at this;simp at this
  . rename_i hn
    have:=List.find?_eq_none.1 hn i hi;simpa using this
 unfold YX at hz;split at hz
 . have:=PV hz
   simpa using this
 . cases hz
theorem jjpt {c:Cfg} (g:CfgGood c):YA c c.nodes.toNat=true:=by
 have:=g.n4;have:=g.n16;have:=g.p2;have:=g.p8;have:=g.s1;have:=g.s16;have:=g.nt;have:=g.nb;simp[YA];omega
theorem jjpv {c:Cfg} (h:Zu c=0):PxC c:=⟨E4 h,h,jjpt (E4 h),jjpu h⟩
theorem NN (z:Int):YO (IntKind.wrap .i64 z)=true:=by
 unfold YO;simp only[IntKind.wrap,IntKind.bits,IntKind.signed,Bool.and_eq_true,decide_eq_true_eq]
 first|omega|(simp;omega)
theorem J3 {c:Cfg} (g:CfgGood c):WN c c.nodes.toNat=true:=by
 have:=g.s16;have:=g.n16;have:=g.nt;have:=g.nb;have:=g.n4;have:=g.p2;have:=g.p8;have:=g.s1;simp[WN];omega
theorem NU {c:Cfg} (g:CfgGood c):(Zq c c.nodes.toNat==Int.ofNat 0)=false:=by
 have:=g.s1;have:=g.s16;have:=g.n4;have:=g.n16;have:=g.l1;have:=g.l4;have l0:(c.ns:Int)*4<=(c.ns:Int)*c.long:=Int.mul_le_mul_of_nonneg_left (by omega) (by omega);have l1:(c.ns:Int)*c.long<=16*4096:=Int.mul_le_mul (by omega) (by omega) (by omega) (by omega);unfold Zq;rw[if_neg (by omega),Wu _ (by omega) (by omega)];simp;omega
theorem FU (c:Cfg) (nq:Nat) (fq:Nat->Int) (l:List AC):pX Kz ⟨c,nq,fq,[.agg l]⟩=(W7 l&&(true&&(decide (c.np<=8)&&(WN c nq&&(QL l&&(decide (0<=ZP (l.getD 41 ZV))&&!(Zq c nq==Int.ofNat 0))))))):=rfl
theorem FT (c:Cfg) (nq:Nat) (fq:Nat->Int) (l:List AC) (z:Int):pW W5 ⟨c,nq,fq,[.agg l,.c (.v (.int .i64 z))]⟩=(W7 l&&decide (c.np<=8)):=rfl
theorem Ir {v:Vw} (h:v.Ok):(Zi (ZX v)).Ok:=by
 have e:=L5 v;have e:(Zi (ZX v)).Same v:=e;exact⟨fun i hi=>by rw[e.miss i hi];exact h.miss i hi,fun i hi=>by rw[e.good i hi];exact h.good i hi,fun i hi=>by rw[e.score i hi];exact h.score i hi,by rw[e.command];exact h.command,by rw[e.mode];exact h.mode⟩
section
variable {c:Cfg} (f:PxC c)
include f
omit f in
theorem FS {a z:Int} (h1:1<=a) (h2:a<=4) (z0:0<=z) (z1:z<=255):0<=VD a z/\VD a z<=255:=by
 unfold VD;split
 . omega
 . simp only[IntKind.wrap,IntKind.bits,IntKind.signed]
   first|omega|(simp;omega)
omit f in
theorem jjpp {a z:Int} (h1:1<=a) (h2:a<=4) (z0:0<=z) (z1:z<=4):VD a z<=4:=by
 obtain⟨x,rfl⟩:=Int.eq_ofNat_of_zero_le (show 0<=a by omega);obtain⟨y,rfl⟩:=Int.eq_ofNat_of_zero_le z0;have hx:x=1\/x=2\/x=3\/x=4:=by omega
 have hy:y=0\/y=1\/y=2\/y=3\/y=4:=by omega
 rcases hx with rfl|rfl|rfl|rfl<;>rcases hy with rfl|rfl|rfl|rfl|rfl<;>decide
theorem Fc {w:Vw} (hw:w.Ok):(-1<=(XK c w).command/\(XK c w).command<8)/\(0<=(XK c w).command->(XK c w).command<c.np):=by
 have hk:=Ir hw;have n4:=f.g.n4;have h:=jjof f.g (show 0<c.nodes.toNat by omega) (ZT c (2*c.np)) (Zh ⟨c.np,c.miss,c.good⟩ (Zi (ZX w))) hk.command _ rfl;exact⟨h.1,fun h0=>(h.2.2 h0).1⟩
theorem Fd {w:Vw} (hw:w.Ok):(XK c w).Ok:=by
 have p8:=f.g.p8;have hk:=Ir hw;obtain⟨hc,_⟩:=Fc f hw;obtain⟨v,hv⟩:∃v,Zi (ZX w)=v:=⟨_,rfl⟩
 have hm:=HT c c.nodes.toNat (ZT c (2*c.np)) (UL (Zh ⟨c.np,c.miss,c.good⟩ v)) (U1 c c.nodes.toNat (ZT c (2*c.np)) (ZX (Zh ⟨c.np,c.miss,c.good⟩ v)));unfold XK at hc ⊢;rw[hv] at hk hc ⊢;refine⟨fun i hi=>?_,fun i hi=>?_,fun i hi=>?_,?_,?_⟩
 . have a:=hk.miss i hi
   show 0<=Vc ⟨c.np,c.miss,c.good⟩ i (v.got i) (v.miss i)/\Vc ⟨c.np,c.miss,c.good⟩ i (v.got i) (v.miss i)<=255;unfold Vc Yx;constructor<;>(repeat' split)<;>omega
 . have a:=hk.good i hi
   show 0<=Vb ⟨c.np,c.miss,c.good⟩ i (v.got i) (v.good i)/\Vb ⟨c.np,c.miss,c.good⟩ i (v.got i) (v.good i)<=255;unfold Vb Yx;constructor<;>(repeat' split)<;>omega
 . have a:=hk.score i hi
   show 0<=V8 ⟨c.np,c.miss,c.good⟩ i (v.got i) (v.score i)/\V8 ⟨c.np,c.miss,c.good⟩ i (v.got i) (v.score i)<=65535;unfold V8 Yy Yq;constructor<;>(repeat' split)<;>omega
 . omega
 . exact FS hm.1 hm.2 hk.mode.1 hk.mode.2
omit f in
theorem NO (s:T6) (h:s.u.Ok) (d:Said):(Uq c s d).Ok:=by
 unfold Uq;split
 . exact⟨h.miss,h.good,h.score,h.command,h.mode⟩
 . exact h
theorem jjpo {s:T6} (h:TZ s) (d:Said):(RF c s d).Ok:=by
 unfold RF;split
 . exact Fd f (NO s h.v d)
 . exact NO s h.v d
omit f in
theorem Fb {s:T6} (h:TZ s) (d:Said) (j:Nat):YO (Pw c s d j).rnd=true:=by
 unfold Pw;split
 . show YO (if j<c.nt then _ else _:ZJ).rnd=true
   split
   . unfold QI TY
     dsimp only;split
     . exact NN _
     . exact h.st j
   . exact h.st j
 . exact h.st j
theorem jjmc {s:T6} (h:TZ s) (d:Said):TZ (Mc c s d):=by
 unfold Mc;split
 . rename_i hx
   have x0:=h.x0;have e:XU s.x=s.x+1:=Wu (s.x+1) (by omega) (by omega);exact⟨jjpo f h d,by show 0<=XU s.x;rw[e];omega,by show XU s.x<=_;rw[e];omega,Fb h d⟩
 . exact h
theorem Mb {s:T6} (hx:s.x<1099511627776):GB c s.u s.x:=⟨f.g.nt,by have:=f.g.s1;omega,f.st,f.hh,hx,NN _⟩
theorem J2 (u:Vw) (z:Int):pW W5 ⟨c,c.nodes.toNat,ZT c (2*c.np),[.agg (ZX u),.c (.v (.int .i64 z))]⟩=true:=by
 rw[FT,Vr u,decide_eq_true f.g.p8];rfl
theorem J1 {w:Vw} (hv:w.Ok):pX Kz ⟨c,c.nodes.toNat,ZT c (2*c.np),[.agg (ZX w)]⟩=true:=by
 have pv:QL (ZX w)=true:=(DH w).2 fun i hi=>⟨(hv.miss i hi).1,(hv.good i hi).1,(hv.score i hi).1⟩
 have hm:decide (0<=ZP ((ZX w).getD 41 ZV))=true:=decide_eq_true hv.mode.1;rw[FU,Vr w,decide_eq_true f.g.p8,J3 f.g,pv,hm,NU f.g];rfl
theorem jjme {s:T6} (h:TZ s) (hx:s.x<1099511627776) (d:Said) {eb:List (Option ABlk)} (hE:BL (Wc c s.u s.x s.S) eb):
 CallV prog 12 [.c (.ptr Ze 0 0),.agg (d.cells.map .v)] plI eb YQ (Jd c s.x (UJ (GH s.x d)) (RF c s d)) (Pv c (RF c s d) (XU s.x) (Pw c s d) (TX c s.x (Pw c s d))) 100000000000000000000000000000000000000000000000000:=by
 obtain⟨is,t,q⟩:=d;have hT:=Fb (c:=c) h ⟨is,t,q⟩;have hV:=NO (c:=c) s h.v ⟨is,t,q⟩;unfold RF
 cases hb:Am c s with
 |false=>
  rw[if_neg (by simp)]
  cases is with
  |true=>exact AB c s.u s.x t q s.S (Mb f hx) hT hb (J2 f _ _) hE
  |false=>exact Az c s.u s.x t q s.S (Mb f hx) hT hb hE
 |true=>
  rw[if_pos rfl]
  cases is with
  |true=>exact AA c s.u s.x t q s.S (Mb f hx) hT hb (J2 f _ _) (J1 f hV) hE
  |false=>exact Ay c s.u s.x t q s.S (Mb f hx) hT hb (J1 f hV) hE
end
abbrev QK (c:Cfg) (v:Vw):Bool:=XQ c c.nodes.toNat (ZT c (2*c.np)) (ZX v)
theorem En {c:Cfg} (g:CfgGood c) (v:Vw):QK c v=true↔((-1<=v.command/\(v.command<0\/(0<=IntKind.wrap .i64 v.command/\IntKind.wrap .i64 v.command<c.np))/\v.mode<=4)/\∀p,p<8->U9 (fun i=>decide (i<c.np)) v p=true):=by
 have n4:=g.n4;have hq:0<c.nodes.toNat:=by omega
 have hr:Zq c c.nodes.toNat≠0:=by
  have:=NU g;simpa using this
 have hh:Z8 c c.nodes.toNat (ZT c (2*c.np))=fun i=>decide (i<c.np):=by
  funext i;unfold Z8;refine decide_eq_decide.2 ?_;rw[Qr g hq];simp only[Int.ofNat_eq_natCast];omega
 unfold QK;rw[jjms,Bool.and_eq_true,I4,hh];unfold QF;simp only[Bool.and_eq_true,Bool.or_eq_true,decide_eq_true_eq,Qr g hq];constructor
 . rintro⟨⟨_,h1,h2,h3⟩,h4⟩;exact⟨⟨h1,h2,h3⟩,h4⟩
 . rintro⟨⟨h1,h2,h3⟩,h4⟩;exact⟨⟨hr,h1,h2,h3⟩,h4⟩
theorem Eo {c:Cfg} (g:CfgGood c) {s:T6} (h:QK c s.u=true) (d:Said):QK c (Uq c s d)=true:=by
 unfold Uq;split
 . have n4:=g.n4
   have hq:0<c.nodes.toNat:=by omega
   rw[En g] at h ⊢;obtain⟨h1,h2⟩:=h;refine⟨h1,fun p hp=>?_⟩;have:=(Lt _ _ _).1 (h2 p hp);refine(Lt _ _ _).2 ⟨?_,this.2⟩;by_cases e:p<c.np
   . exact .inl (decide_eq_true e)
   . rcases this.1 with k|⟨k1,k2,k3⟩
     . exact .inl k
     . refine .inr ⟨k1,?_,k3⟩
       show Ou _ _ p (s.u.got p)=false;unfold Ou;rw[k2,Bool.or_false];by_cases e2:X1 c s.x=(p:Int)
       . have:¬(Int.ofNat 0<=ZI c c.nodes.toNat (ZT c (2*c.np)) (X1 c s.x)):=by
          show ¬(0<=ZI _ _ _ _);rw[Qr g hq,e2];omega
         rw[decide_eq_false this,Bool.and_false]
       . rw[decide_eq_false e2];rfl
 . exact h
theorem jjmg {c:Cfg} (f:PxC c) {w:Vw} (hw:w.Ok) (h:QK c w=true):QK c (XK c w)=true:=by
 have g:=f.g;have hk:=Ir hw;obtain⟨hc,hc2⟩:=Fc f hw;have ok:=Fd f hw;have p8:=g.p8;rw[En g] at h ⊢;obtain⟨⟨_,_,hm⟩,h2⟩:=h;have S:=L5 w;have S:(Zi (ZX w)).Same w:=S
 have e:IntKind.wrap .i64 (XK c w).command=(XK c w).command:=by
  simp only[IntKind.wrap,IntKind.bits,IntKind.signed]
  first|omega|(simp;omega)
 refine⟨⟨hc.1,?_,?_⟩,fun p hp=>?_⟩
 . rw[e]
   by_cases h0:(XK c w).command<0
   . exact .inl h0
   . exact .inr ⟨by omega,hc2 (by omega)⟩
 . have a:=HT c c.nodes.toNat (ZT c (2*c.np)) (UL (Zh ⟨c.np,c.miss,c.good⟩ (Zi (ZX w)))) (U1 c c.nodes.toNat (ZT c (2*c.np)) (ZX (Zh ⟨c.np,c.miss,c.good⟩ (Zi (ZX w)))))
   refine jjpp a.1 a.2 hk.mode.1 ?_;show (Zi (ZX w)).mode<=4;rw[S.mode];exact hm
 . obtain ⟨m1,m2,m3,m4⟩:=(Lt _ _ _).1 (h2 p hp)
   have km:=(hk.miss p hp)
   have kg:=(hk.good p hp)
   have ks:=(hk.score p hp)
   have eI:=S.inn p hp;have eM:=S.miss p hp;have eG:=S.good p hp;have eS:=S.score p hp;have eT:=S.got p hp;obtain⟨v,hv⟩:∃v,Zi (ZX w)=v:=⟨_,rfl⟩
   unfold XK;rw[hv] at km kg ks eI eM eG eS eT ⊢;refine(Lt _ _ _).2 ⟨?_,?_,?_,?_⟩
   . by_cases q:p<c.np
     . exact .inl (decide_eq_true q)
     . rcases m1 with k|⟨k1,k2,k3,k4,k5⟩
       . exact absurd (of_decide_eq_true k) q
       . refine .inr ⟨?_,?_,?_,?_,?_⟩
         . show Ub _ p (v.inn p) _ _ _=false
           unfold Ub;rw[if_neg q,eI];exact k1
         . show QX _ p (v.got p)=false
           unfold QX;rw[if_neg q,eT];exact k2
         . show Vc _ p _ (v.miss p)=0
           unfold Vc;rw[if_neg q,eM];exact k3
         . show Vb _ p _ (v.good p)=0
           unfold Vb;rw[if_neg q,eG];exact k4
         . show V8 _ p _ (v.score p)=0
           unfold V8;rw[if_neg q,eS];exact k5
   . show Vc _ p _ (v.miss p)<=100
     unfold Vc Yx;(repeat' split)<;>omega
   . show Vb _ p _ (v.good p)<=100
     unfold Vb Yx;(repeat' split)<;>omega
   . show V8 _ p _ (v.score p)<=1000
     unfold V8 Yy Yq;(repeat' split)<;>omega
theorem jjm9 {c:Cfg} (f:PxC c) {s:T6} (h:TZ s) (hm:QK c s.u=true) (d:Said):QK c (RF c s d)=true:=by
 unfold RF;split
 . exact jjmg f (NO s h.v d) (Eo f.g hm d)
 . exact Eo f.g hm d
end Go.Proofs.YtljeokninakliaaGreatDoor
end
section
namespace Go.Proofs.YtljeokninakliaaGreatDoor
open Go.RowKit Tryz
structure KpOk (q:List AC):Prop where
 len:q.length=48
 vs:∀x∈q,∃v,x= .v v
 b:∀i,i<8->Z5 Kd.b (q.getD (i*6) ZV)=true
 r:∀i,i<8->Z5 (Kd.i .i64) (q.getD (i*6+1) ZV)=true
theorem KpOk.low {q:List AC} (h:KpOk q) (N:Nat):q.all (YI N)=true:=List.all_eq_true.2 fun x hx=>by
 obtain⟨v,rfl⟩:=h.vs x hx;rfl
theorem DC:∀(vs l:List AC) (j:Nat),(YD l j vs).length=l.length
 | [],_,_=>rfl
 |x::r,l,j=>by
  rw[YD,DC r,Ip];split<;>simp
theorem jjqf {q:List AC} (h:KpOk q) {n:Nat} (hn:n<8) (rr:Int) (p:Payload):KpOk (YD q (n*6) (.v (.bool true):: .v (.int .i64 rr)::Ut p)):=by
 have hl:n*6+(AC.v (.bool true):: .v (.int .i64 rr)::Ut p).length<=q.length:=by rw[h.len];show n*6+6<=48;omega
 have hg:∀i,(YD q (n*6) (.v (.bool true):: .v (.int .i64 rr)::Ut p)).getD i ZV=((if n*6<=i/\i<n*6+6 then (AC.v (.bool true):: .v (.int .i64 rr)::Ut p)[i-n*6]? else q[i]?)).getD ZV:=fun i=>by
  rw[List.getD_eq_getElem?_getD,Sb _ _ _ _ hl];rfl
 refine⟨by rw[DC];exact h.len,fun x hx=>?_,fun i hi=>?_,fun i hi=>?_⟩
 . obtain⟨i,hi⟩:=List.getElem?_of_mem hx
   rw[Sb _ _ _ _ hl] at hi;split at hi
   . have:=List.mem_of_getElem? hi
     simp only[Ut,List.mem_cons,List.not_mem_nil,or_false] at this;rcases this with rfl|rfl|rfl|rfl|rfl|rfl<;>exact⟨_,rfl⟩
   . exact h.vs x (List.mem_of_getElem? hi)
 . rw[hg]
   split
   . obtain rfl:i=n:=by omega
     rw[Nat.sub_self];rfl
   . rw[<- List.getD_eq_getElem?_getD];exact h.b i hi
 . rw[hg]
   split
   . obtain rfl:i=n:=by omega
     rw[show i*6+1-i*6=1 by omega];rfl
   . rw[<- List.getD_eq_getElem?_getD];exact h.r i hi
theorem jjr9 (c:Cfg) {q:List AC} (h:KpOk q) {o:Int} (ho:o.toNat<8) (p:Payload) (rr:Int):cpQ c q o p rr= .ptr 23 0 0:: .v (.int .i64 c.fresh)::YD q (o.toNat*6) (.v (.bool true):: .v (.int .i64 rr)::Ut p):=by
 have hl:o.toNat*6+(AC.v (.bool true):: .v (.int .i64 rr)::Ut p).length<=q.length:=by rw[h.len];show o.toNat*6+6<=48;omega
 have hl2:2+o.toNat*6+(AC.v (.bool true):: .v (.int .i64 rr)::Ut p).length<=(AC.ptr 23 0 0:: .v (.int .i64 c.fresh)::q).length:=by
  show 2+o.toNat*6+6<=q.length+1+1;rw[h.len];omega
 refine List.ext_getElem? fun i=>?_
 unfold cpQ;rw[Sb _ _ _ _ hl2]
 match i with
 |0=>rw[if_neg (by omega)];rfl
 |1=>rw[if_neg (by omega)];rfl
 |i+2=>
  rw[List.getElem?_cons_succ,List.getElem?_cons_succ,List.getElem?_cons_succ,List.getElem?_cons_succ,Sb _ _ _ _ hl];show (if 2+o.toNat*6<=i+2/\i+2<2+o.toNat*6+6 then _ else _)=(if o.toNat*6<=i/\i<o.toNat*6+6 then _ else _)
  by_cases e:o.toNat*6<=i/\i<o.toNat*6+6
  . rw[if_pos e,if_pos (by omega),show i+2-(2+o.toNat*6)=i-o.toNat*6 by omega]
  . rw[if_neg e,if_neg (by omega)]
theorem Ju (a b:AC) (q:List AC) (n d:Nat):(a::b::q).getD (2+n*6+d) ZV=q.getD (n*6+d) ZV:=by
 rw[show 2+n*6+d=n*6+d+1+1 by omega,List.getD_cons_succ,List.getD_cons_succ]
theorem V2 {N:Nat} (hN:1000000000000000000000000000000000000000000<=N) (i:Nat) (h:Nat.blt i 1000000000000000000000000000000000000000000=true):Nat.blt i N=true:=by
 rw[Nat.blt_eq] at h ⊢;exact Nat.lt_of_lt_of_le h hN
theorem Hx {N:Nat} (hN:1000000000000000000000000000000000000000000<=N) {c:Cfg}:Zd N (Xv 23 c):=by
 refine Yg ?_;simp[Jc,YI,V2 hN 23 rfl,V2 hN 24 rfl,V2 hN 25 rfl,V2 hN 26 rfl,V2 hN 27 rfl,V2 hN 28 rfl]
theorem Ie {N:Nat} (hN:1000000000000000000000000000000000000000000<=N) {c:Cfg} {q:List AC} (h:KpOk q):Zd N (WV c q):=by
 refine Yg ?_;simp[YI,V2 hN 23 rfl];exact fun x hx=>List.all_eq_true.1 (h.low N) x hx
theorem DZ {N:Nat} (hN:1000000000000000000000000000000000000000000<=N) {c:Cfg} {u:Vw} {la:Int} {m:Nat}:Zd N (Xd c u la m):=by
 refine Yg ?_;rw[List.all_append,List.all_append,Rm];simp[YI,V2 hN 23 rfl,V2 hN PI rfl,V2 hN Wm rfl]
theorem jjo9 {N:Nat} (hN:1000000000000000000000000000000000000000000<=N) {c:Cfg} {q:List AC} (h:KpOk q):∀b∈OK c q,Zd N b:=by
 intro x hx;simp only[List.mem_cons,List.not_mem_nil,or_false] at hx;rcases hx with rfl|rfl|rfl|rfl|rfl|rfl|rfl|rfl
 . exact Yg rfl
 . exact Hx hN
 . exact Y8
 . exact Y8
 . exact Y8
 . exact Y8
 . exact Y8
 . exact Ie hN h
theorem LT {N:Nat} (hN:1000000000000000000000000000000000000000000<=N) {c:Cfg} {u:Vw} {la:Int} {m:Nat} {σ:Nat->Nat} {T:Nat->ZJ} {q:List AC} (h:KpOk q):∀b∈XP c u la m σ T q,Zd N b:=by
 intro x hx;simp only[List.mem_cons,List.not_mem_nil,or_false] at hx;rcases hx with rfl|rfl|rfl|rfl|rfl|rfl|rfl|rfl|rfl|rfl|rfl
 . exact Yg rfl
 . exact Yg rfl
 . exact Hx hN
 . exact Y8
 . exact Y8
 . exact Y8
 . exact Y8
 . exact Y8
 . exact Ie hN h
 . exact DZ hN
 . exact Y8
abbrev AR (c:Cfg) (q:List AC) (e:Int) (z:VF):Prop:=z.1=i64 e/\z.2.1=(OK c q).map some/\z.2.2.1<=AQ/\ZZ z.2.2.2.1/\∀x∈z.2.2.2.2,x
theorem IY (c:Cfg) (q:List AC) (o:Int) (p:Payload) (rr:Int) {q':List AC} (hq':KpOk q') (e:Int) (h:∃K9 z,cpR prog c q o p rr K9=some z/\AR c q' e z) {eb:List (Option ABlk)} (hE:BL (OK c q) eb):
 CallV prog 67 [.c (.ptr PI 0 0),i64 o,.agg (Ut p),i64 rr] cpI eb cpN (i64 e) (cpI.zip (OK c q')) AQ:=by
 obtain⟨K9,z,h1,h2,h3,h4,h5,h6⟩:=h;refine NR ST (fuel:=300) (str:=1000000000000000000000000) (vids:=cpI) (blks:=OK c q) (by decide) (by decide) rfl (by kernel_rfl) (by kernel_rfl) hE ⟨K9,[],z,h1,h4,h5,h6,fun g=>.inl g,?_⟩;rw[h2,h3];exact Sj (hs:=[0]) (vals:=[i64 e]) (gs:=[]) (gb:=[]) (ids:=cpI) (blks:=OK c q') (kb:=(OK c q').map some) (A:=[]) rfl (by kernel_rfl) (WY (List.mem_singleton.2 rfl) (fun h=>AV.noConfusion h) (Yp rfl) Sm) Sk (by kernel_rfl) (jjo9 (by decide) hq') (BL.refl _)
theorem jjo8 (c:Cfg) (g:CfgGood c) {q:List AC} (hq:KpOk q) (o:Int) (p:Payload) (rr:Int) (ho:0<=o/\o<c.np) (hr:0<=rr/\rr<=1099511627776):
 ∃q' e,KpOk q'/\∀{eb:List (Option ABlk)},BL (OK c q) eb->CallV prog 67 [.c (.ptr PI 0 0),i64 o,.agg (Ut p),i64 rr] cpI eb cpN (i64 e) (cpI.zip (OK c q')) AQ:=by
 have p8:=g.p8;have n4:=g.n4;have h8:o.toNat<8:=by omega
 have e0:=Ju (.ptr 23 0 0) (.v (.int .i64 c.fresh)) q o.toNat 0;have e1:=Ju (.ptr 23 0 0) (.v (.int .i64 c.fresh)) q o.toNat 1;rw[Nat.add_zero (o.toNat*6)] at e0;have k0:=hq.b o.toNat h8;have k1:=hq.r o.toNat h8;rw[<- e0] at k0;rw[<- e1] at k1
 have hF:decide (ZI c c.nodes.toNat (ZT c (2*c.np)) o<Int.ofNat 0)=false:=by
  have:=(Qr g (show 0<c.nodes.toNat by omega) (ZT c (2*c.np)) o).2 ho;exact decide_eq_false (by simp;omega)
 have hR:(!decide (rr<=Int.ofNat 1099511627776))=false:=by simp;omega
 have d0:(decide (rr≥Int.ofNat 0)==true)=true:=by simp;omega
 have d1:decide (Int.ofNat 0<=o/\o<Int.ofNat 8)=true:=decide_eq_true (by simp;omega);have dF:(decide (ZI c c.nodes.toNat (ZT c (2*c.np)) o<Int.ofNat 0)==false)=true:=by rw[hF];rfl
 have dR:((!decide (rr<=Int.ofNat 1099511627776))==false)=true:=by rw[hR];rfl
 have i1:∀d,d<=6->ABlk.inb (ABlk.mk true false 136 0 (Cs.lit (.ptr 23 0 0:: .v (.int .i64 c.fresh)::q))) 0 (2+o.toNat*6+d)=true:=fun d hd=>by
  have:=hq.len;simp[ABlk.inb];omega
 have i2:=i1 1 (by omega);have i3:=i1 2 (by omega);have i6:=i1 6 (by omega);have hw:=jjqf hq h8 rr p;have ew:=jjr9 c hq h8 p rr;obtain⟨b,hb⟩:∃b,Zz (List.getD (.ptr 23 0 0:: .v (.int .i64 c.fresh)::q) (2+o.toNat*6+0) ZV)=b:=⟨_,rfl⟩
 obtain⟨t,ht⟩:∃t,decide (rr<ZP (List.getD (.ptr 23 0 0:: .v (.int .i64 c.fresh)::q) (2+o.toNat*6+1) ZV))=t:=⟨_,rfl⟩
 have db:(Zz (List.getD (.ptr 23 0 0:: .v (.int .i64 c.fresh)::q) (2+o.toNat*6+0) ZV)==b)=true:=by rw[hb];simp
 have dt:(decide (rr<ZP (List.getD (.ptr 23 0 0:: .v (.int .i64 c.fresh)::q) (2+o.toNat*6+1) ZV))==t)=true:=by rw[ht];simp
 cases b with
 | true=>
  cases t with
  |true=>
   refine⟨q,1,hq,fun hE=>IY c q o p rr hq 1 (cpT c q o p rr (AR c q 1) ?_) hE⟩;refine⟨fun h=>(absurd (hF.symm.trans h) Bool.false_ne_true),fun _=>⟨fun h=>(absurd (hR.symm.trans h) Bool.false_ne_true),fun _=>⟨fun _=>⟨fun _=>⟨rfl,rfl,by dsimp only;decide,?_,by simp⟩,fun h=>(absurd (h.symm.trans ht) Bool.false_ne_true)⟩,fun h=>(absurd (h.symm.trans hb) Bool.false_ne_true)⟩⟩⟩;simp only[ZZ,List.forall_mem_cons,List.not_mem_nil,false_implies,implies_true,and_true,true_and]
   repeat' apply And.intro
   all_goals first|exact k0|exact k1|exact d0|exact d1|exact dF|exact dR|exact i2|exact i3|exact i6|exact YN _ _ _|exact db|exact dt|rfl
  |false=>
   refine⟨_,0,hw,fun hE=>IY c q o p rr hw 0 (cpT c q o p rr (AR c _ 0) ?_) hE⟩;refine⟨fun h=>(absurd (hF.symm.trans h) Bool.false_ne_true),fun _=>⟨fun h=>(absurd (hR.symm.trans h) Bool.false_ne_true),fun _=>⟨fun _=>⟨fun h=>(absurd (ht.symm.trans h) Bool.false_ne_true),fun _=>⟨rfl,?_,by dsimp only;decide,?_,by simp⟩⟩,fun h=>(absurd (h.symm.trans hb) Bool.false_ne_true)⟩⟩⟩
   . dsimp only;rw[ew];rfl
   . simp only[ZZ,List.forall_mem_cons,List.not_mem_nil,false_implies,implies_true,and_true,true_and]
     repeat' apply And.intro
     all_goals first|exact k0|exact k1|exact d0|exact d1|exact dF|exact dR|exact i2|exact i3|exact i6|exact YN _ _ _|exact db|exact dt|rfl
 |false=>
  refine⟨_,0,hw,fun hE=>IY c q o p rr hw 0 (cpT c q o p rr (AR c _ 0) ?_) hE⟩;refine⟨fun h=>(absurd (hF.symm.trans h) Bool.false_ne_true),fun _=>⟨fun h=>(absurd (hR.symm.trans h) Bool.false_ne_true),fun _=>⟨fun h=>(absurd (hb.symm.trans h) Bool.false_ne_true),fun _=>⟨rfl,?_,by dsimp only;decide,?_,by simp⟩⟩⟩⟩
  . dsimp only;rw[ew];rfl
  . simp only[ZZ,List.forall_mem_cons,List.not_mem_nil,false_implies,implies_true,and_true,true_and]
    repeat' apply And.intro
    all_goals first|exact k0|exact k1|exact d0|exact d1|exact dF|exact dR|exact i2|exact i3|exact i6|exact YN _ _ _|exact db|rfl
def UT (c:Cfg) (o cm rr:Int) (p:Payload) (σ:Nat->Nat) (T:Nat->ZJ) (k j:Nat):ZJ:=if j<k then QI c o cm rr p (σ j) (T j) else T j
theorem jjgm (c:Cfg) (o cm rr:Int) (p:Payload) (σ:Nat->Nat) (T:Nat->ZJ):UT c o cm rr p σ T 0=T:=by funext j;exact if_neg (Nat.not_lt_zero j)
theorem jjo7 {c:Cfg} {o cm rr:Int} {p:Payload} {σ:Nat->Nat} {T:Nat->ZJ} {k:Nat}:UT c o cm rr p σ T k k=T k:=if_neg (Nat.lt_irrefl k)
theorem EV {c:Cfg} {u:Vw} {la:Int} {m:Nat} {σ:Nat->Nat} {T:Nat->ZJ} {q:List AC} {y:Int} {p:Payload} (h:KpOk q):∀b∈Mv c u la m σ T q y p,Zd ctN b:=by
 intro b hb;rcases List.mem_append.1 hb with hb|hb
 . exact LT (by decide) h b hb
 . rw[List.mem_singleton.1 hb];exact Yg rfl
theorem jjrb (c:Cfg) (w:Vw) (la:Int) (m:Nat) (σ:Nat->Nat) (T:Nat->ZJ) {q:List AC} (hq:KpOk q) (y:Int) (p:Payload) (o rr:Int) (hm:m<=8) (hst:YA c c.nodes.toNat=true) {eb:List (Option ABlk)} (hL:BL (Mv c w la m σ T q y p) eb):
 LoopV prog (ZW prog 29 0) OL ctI ((Mw o rr m 0).map some) eb 96 ctN (ZQ 96 []) (ctI.zip (Mv c w la m σ (UT c o (IntKind.wrap .i64 w.command) rr p σ T m) q y p)) GY (.exit 0) none:=by
 refine Pn ST (fuel:=100) (str:=Jv) (nh:=BE) (S:=Nat) (fun k=>k<=m) (fun k=>m-k) OL [] ctI (fun k=>Mw o rr m k) (fun k=>Mv c w la m σ (UT c o (IntKind.wrap .i64 w.command) rr p σ T k) q y p) (by decide) (by decide) (by decide) (s0:=0) (Nat.zero_le _) (fun _=>⟨rfl,rfl⟩) (by kernel_rfl) (by rw[jjgm];exact hL) (fun k _=>⟨rfl,EV hq⟩) ?_;intro k hk;obtain⟨S,hS⟩:∃S,UT c o (IntKind.wrap .i64 w.command) rr p σ T k=S:=⟨_,rfl⟩
 refine(?_:(∃pp r,ctR prog c w la m σ S q y p o rr k pp=some r/\_)->_) (ckT c w la m σ S q y p o rr k (XA ctN GY 96 OL [] ctI (fun k=>k<=m) (fun k=>m-k) (fun k=>Mw o rr m k) (fun k=>Mv c w la m σ (UT c o (IntKind.wrap .i64 w.command) rr p σ T k) q y p) (.exit 0) [] (ctI.zip (Mv c w la m σ (UT c o (IntKind.wrap .i64 w.command) rr p σ T m) q y p)) k) ?_)
 . rintro⟨pp,r,h1,h2⟩
   exact⟨pp,[],r,by rw[hS];exact h1,h2⟩
 . refine ⟨fun c1=>?_,fun c1=>?_⟩
   . have hlt:k<m:=by simpa using c1
     have hqq:Pt (YF.mk c c.nodes.toNat (ZT c (2*c.np)) [.c (.v (.int .i64 (Int.ofNat (σ k)))),.agg [.v (.bool (S k).any),.v (.int .u32 (S k).seq),.v (.int .u32 (S k).val),.v (.int .i64 (S k).rnd)],.agg [.v (.bool true),.v (.int .i64 y),.v (.int .u8 p.kind),.v (.int .u8 p.st),.v (.int .u32 p.seq),.v (.int .u32 p.val),.v (.int .i64 o),.v (.int .i64 (IntKind.wrap .i64 (Vw.command w))),.v (.int .i64 rr)]])=true:=by
      show (YA c c.nodes.toNat&&true)=true;rw[hst];rfl
     refine⟨?_,rfl,by dsimp only;decide,rfl,.inl ⟨rfl,k+1,hlt,by show m-(k+1)<m-k;omega,?_,?_⟩⟩
     . simp only[ZZ,List.forall_mem_cons,Xs,hqq,YN]
       simp[YK,Xt,Xu];omega
     . dsimp only;rw[Sn (show k<9223372036854775807 by omega)];rfl
     . refine⟨BEq.refl _,BEq.refl _,BEq.refl _,BEq.refl _,BEq.refl _,BEq.refl _,BEq.refl _,BEq.refl _,BEq.refl _,BEq.refl _,⟨rfl,rfl,rfl,rfl,.inr (.inl ⟨_,_,_,rfl,rfl,fun j _=>?_⟩)⟩,BEq.refl _,trivial⟩
       have hat:S k=T k:=by rw[<- hS];exact jjo7
       by_cases e:j=0+Int.toNat (Int.ofNat k)
       . rw[if_pos e]
         rw[Xs] at e;subst e;have:UT c o (IntKind.wrap .i64 w.command) rr p σ T (j+1) j=QI c o (IntKind.wrap .i64 w.command) rr p (σ j) (T j):=if_pos (Nat.lt_succ_self j);dsimp only;rw[this];simp[TY,YD,UI,ZN,QI,Xs,hat]
       . rw[if_neg e]
         rw[Xs] at e
         have:UT c o (IntKind.wrap .i64 w.command) rr p σ T (k+1) j=S j:=by
          rw[<- hS];simp only[UT,show (j<k+1)=(j<k) by simp;omega]
         dsimp only;rw[this]
   . obtain rfl : k = m := by have:¬k<m:=by simpa using c1
                              omega
     rw[hS];exact⟨by simp only[ZZ,List.forall_mem_cons,c1];simp,rfl,by dsimp only;decide,rfl,.inr ⟨by simp,rfl,(fun _ h=>by cases h),Pi (by kernel_rfl) (EV hq) rfl⟩⟩
abbrev cdG (c:Cfg) (u:Vw) (la:Int) (m:Nat) (σ:Nat->Nat) (T:Nat->ZJ) (q:List AC) (z:VF):Prop:=z.1= .tup []/\z.2.1=(XP c u la m σ T q).map some/\z.2.2.1<=GE/\ZZ z.2.2.2.1/\∀x∈z.2.2.2.2,x
theorem Ft (c:Cfg) (u w:Vw) (la:Int) (m:Nat) (σ:Nat->Nat) (T T2:Nat->ZJ) (q:List AC) (y:Int) (d:List AC) {q':List AC} (hq':KpOk q') (h:∃K9 lp z,Bh prog c u la m σ T q y d K9 lp=some z/\cdG c w la m σ T2 q' z) {eb:List (Option ABlk)} (hE:BL (XP c u la m σ T q) eb):
 CallV prog 29 [.c (.ptr Yz 0 0),i64 y,.agg d] cqI eb GR (.tup []) (cqI.zip (XP c w la m σ T2 q')) GE:=by
 obtain⟨K9,lp,z,h1,h2,h3,h4,h5,h6⟩:=h;refine NR ST (fuel:=300) (str:=Jv) (vids:=cqI) (blks:=XP c u la m σ T q) (by decide) (by decide) rfl (by kernel_rfl) (by kernel_rfl) hE ⟨K9,lp,z,h1,h4,h5,h6,fun g=>.inl g,?_⟩;rw[h2,h3];exact Sj (hs:=[0]) (vals:=[.tup []]) (gs:=[]) (gb:=[]) (ids:=cqI) (blks:=XP c w la m σ T2 q') (kb:=(XP c w la m σ T2 q').map some) (A:=[]) rfl (by kernel_rfl) (WY (List.mem_singleton.2 rfl) (fun h=>AV.noConfusion h) (F0 rfl) Sm) Sk (by kernel_rfl) (LT (by decide) hq') (BL.refl _)
theorem BB {c:Cfg} (g:CfgGood c) {y:Int} (hy:0<=y):0<=X1 c y/\X1 c y<c.np:=by
 have n4:=g.n4;have s1:=g.s1;show 0<=(if c.nodes.toNat=0 then -1 else Ky c.fs c.ns (Int.tmod y (c.ns:Int)))/\(if c.nodes.toNat=0 then -1 else Ky c.fs c.ns (Int.tmod y (c.ns:Int)))<c.np;have t0:0<=Int.tmod y (c.ns:Int):=Int.tmod_nonneg _ hy;have t1:Int.tmod y (c.ns:Int)<c.ns:=Int.tmod_lt_of_pos _ (by omega);rw[if_neg (by omega)];unfold Ky;rw[if_pos ⟨t0,t1⟩];exact g.fs _ (by omega)
theorem BC {c:Cfg} (g:CfgGood c) {y:Int} (hy:0<=y) (h1:y<=1099511627776):0<=Vx c y/\Vx c y<=1099511627776:=by
 have s1:=g.s1;have t0:0<=Int.tdiv y (c.ns:Int):=Int.tdiv_nonneg hy (by omega);have t1:Int.tdiv y (c.ns:Int)<=y:=Int.tdiv_le_self _ hy;unfold Vx;rw[Wu _ (by omega) (by omega)];omega
theorem jjrc {c:Cfg} (f:PxC c) (u:Vw) (la y:Int) (hy:0<=y) (hy1:y<=1099511627776) (m:Nat) (hm:m<=8) (σ:Nat->Nat) (T:Nat->ZJ) {q:List AC} (hq:KpOk q) (p:Payload):
 ∃q',KpOk q'/\∀{eb:List (Option ABlk)},BL (XP c u la m σ T q) eb->CallV prog 29 [.c (.ptr Yz 0 0),i64 y,.agg (Vz y p)] cqI eb GR (.tup []) (cqI.zip (XP c (VN c u y) la m σ (UT c (X1 c y) (IntKind.wrap .i64 (VN c u y).command) (Vx c y) p σ T m) q')) GE:=by
 obtain⟨q',e,hq',hp⟩:=jjo8 c f.g hq (X1 c y) p (Vx c y) (BB f.g hy) (BC f.g hy hy1);have h8:=J2 f u (X1 c y)
 have ns:decide ((c.ns:Int)≠Int.ofNat 0)=true:=by
  have:=f.g.s1;exact decide_eq_true (by simp;omega)
 obtain⟨w,hw⟩:∃w,VN c u y=w:=⟨_,rfl⟩
 have hk:=fun {eb}=>jjrb c w la m σ T hq' y p (X1 c y) (Vx c y) hm f.st (eb:=eb)
 obtain⟨T2,hT⟩:∃T2,UT c (X1 c y) (IntKind.wrap .i64 w.command) (Vx c y) p σ T m=T2:=⟨_,rfl⟩
 rw[hT] at hk;refine⟨q',hq',fun hE=>?_⟩;rw[hw,hT];refine Ft c u w la m σ T T2 q y (Vz y p) hq' ?_ hE;refine(?_:(∃pp r,Bh prog c u la m σ T q y (Vz y p) pp [some (cpS c q' e),some (ctS c w la m σ T2 q' y p)]=some r/\_)->_) (cdT c u w la m σ T T2 q q' y p e (cdG c w la m σ T2 q') ?_)
 . rintro⟨pp,r,h1,h2⟩
   exact⟨pp,_,r,h1,h2⟩
 . refine⟨rfl,rfl,by dsimp only;decide,?_,?_⟩
   . simp only[ZZ,List.forall_mem_cons,List.not_mem_nil,false_implies,implies_true,and_true,true_and]
     repeat' apply And.intro
     all_goals first|exact YN _ _ _|exact ns|exact h8
   . simp only[List.forall_mem_cons,List.not_mem_nil,false_implies,implies_true,and_true]
     refine⟨hk ?_,hp (BL.refl (OK c q))⟩;rw[<- hw];exact BL.refl (Mv c (VN c u y) la m σ T q' y p)
theorem jjoe (c:Cfg) (u:Vw) (la y:Int) (m:Nat) (σ:Nat->Nat) (T:Nat->ZJ) {q:List AC} (hq:KpOk q) {eb:List (Option ABlk)} (hE:BL (XP c u la m σ T q) eb):
 CallV prog 29 [.c (.ptr Yz 0 0),i64 y,.agg Vy] cqI eb GR (.tup []) (cqI.zip (XP c u la m σ T q)) GE:=by
 refine Ft c u u la m σ T T q y Vy hq ?_ hE;refine(?_:(∃pp r,Bh prog c u la m σ T q y Vy pp []=some r/\_)->_) (cdT0 c u la m σ T q y (cdG c u la m σ T q) ?_)
 . rintro⟨pp,r,h1,h2⟩
   exact⟨pp,_,r,h1,h2⟩
 . exact⟨rfl,rfl,by dsimp only;decide,by simp[ZZ],by simp⟩
theorem E0 {N:Nat} (hN:1000000000000000000000000000000000000000000<=N) {c:Cfg} {u:Vw} {la:Int} {m:Nat} {σ:Nat->Nat} {T:Nat->ZJ} {q:List AC} (h:KpOk q):∀b∈Zs c u la m σ T q,Zd N b:=by
 intro b hb;obtain⟨x,hx,rfl⟩:=List.mem_map.1 hb;have:=LT hN h x hx;cases x;exact this
def Tl (c:Cfg) (σ:Nat->Nat) (T:Nat->ZJ) (rd:Int) (k j:Nat):Int:=if j<k then Q2 c (Int.ofNat (σ j)) (T j).any (T j).val (T j).rnd rd else 0
theorem jjm8 {n:Nat} {f:Nat->List AC} {g:Nat->Int} (h:∀j,j<n->f j=[.v (.int .u32 (g j))]):BEq (ABlk.mk true true 47 1 (.arr n f)) (Zg n g):=⟨rfl,rfl,rfl,rfl,.inr (.inl ⟨n,_,_,rfl,rfl,fun j hj=>h j hj⟩)⟩
theorem IZ (c : Cfg) (u : Vw) (la:Int) (m:Nat) (σ:Nat->Nat) (T:Nat->ZJ) {q:List AC} (hq:KpOk q) (rd:Int) (o N n1 n2 n3 n4:Nat) (hm:m<=8) (hst:YA c c.nodes.toNat=true) (hh:YT c=true) (hv:YO rd=true) (hT:∀j,YO (T j).rnd=true)
 (tr:∀g k Q,AP c m σ T rd g (OI o rd m k) (Zs c u la m σ T q) k n3 n4 Q->∃p r,view (coH++[]) (o::cqI) (fC (VG prog) 100 (ZW prog 31 0) n1 MP (Wi 39 coH (o::cqI) (OI o rd m k) (Zg m g::Zs c u la m σ T q) p []))=some r/\Q r)
 (h1:N<=n1) (h2:n1<=n2) (h5:n2<=ZR) (h3:n3<=n2) (h4:n4<=n2) (hI:(o::cqI).all (Zc N n2)=true) (hN:1000000000000000000000000000000000000000000<=N) (ho:Nat.blt o N=true) {eb:List (Option ABlk)} (hL:BL (Zs c u la m σ T q) eb) {b:ABlk} (hy:BEq b (Zg m fun _=>0)):
 LoopV prog (ZW prog 31 0) coH (o::cqI) ((OI o rd m 0).map some) (some b::eb) 39 N (ZQ 39 [(5,.c (.sl o 0 0 m none))]) ((o::cqI).zip (Zg m (Tl c σ T rd m)::Zs c u la m σ T q)) n2 (.exit 0) none:=by
 have lo:∀k,∀b∈Zg m (Tl c σ T rd k)::Zs c u la m σ T q,Zd N b:=fun k b hb=>by
  rcases List.mem_cons.1 hb with rfl|hb
  . exact Y8
  . exact E0 hN hq b hb
 have hV:∀k,(OI o rd m k).all (Wb N)=true:=fun k=>by
  have a1:Wb N (.c (.sl o 0 0 m none))=true:=by simp[Wb,WZ,XT,YI,ho]
  have a2:Wb N (.c (.ptr Yz 0 0))=true:=by simp[Wb,WZ,XT,YI,V2 hN Yz rfl]
  have a3:Wb N (.c (.sl Wm 0 0 m none))=true:=by simp[Wb,WZ,XT,YI,V2 hN Wm rfl]
  show (Wb N (.c (.ptr Yz 0 0))&&(true&&(Wb N (.c (.sl o 0 0 m none))&&(Wb N (.c (.sl Wm 0 0 m none))&&(true&&(true&&true))))))=true;rw[a1,a2,a3];rfl
 refine Pn ST (fuel:=100) (str:=MP) (nh:=n1) (S:=Nat) (fun k=>k<=m) (fun k=>m-k) coH [] (o::cqI) (fun k=>OI o rd m k) (fun k=>Zg m (Tl c σ T rd k)::Zs c u la m σ T q) h1 h2 h5 (s0:=0) (Nat.zero_le _) (fun _=>⟨rfl,rfl⟩) hI ⟨IR hy (fun j _=>by unfold Tl;rw[if_neg (Nat.not_lt_zero _)]),hL⟩ (fun k _=>⟨hV k,lo k⟩) ?_;intro k hk;refine(?_:(∃p r,view (coH++[]) (o::cqI) (fC (VG prog) 100 (ZW prog 31 0) n1 MP (Wi 39 coH (o::cqI) (OI o rd m k) (Zg m (Tl c σ T rd k)::Zs c u la m σ T q) p []))=some r/\_)->_) (tr (Tl c σ T rd k) k (XA N n2 39 coH [] (o::cqI) (fun k=>k<=m) (fun k=>m-k) (fun k=>OI o rd m k) (fun k=>Zg m (Tl c σ T rd k)::Zs c u la m σ T q) (.exit 0) [(5,.c (.sl o 0 0 m none))] ((o::cqI).zip (Zg m (Tl c σ T rd m)::Zs c u la m σ T q)) k) ?_)
 . rintro⟨p,r,h1,h2⟩
   exact⟨p,[],r,h1,h2⟩
 . refine⟨fun c1=>?_,fun c1=>?_⟩
   . have hlt:k<m:=by simpa using c1
     have hq:Ps (YF.mk c c.nodes.toNat (ZT c (2*c.np)) [.c (.v (.int .i64 (Int.ofNat (σ k)))),.agg [.v (.bool (T k).any),.v (.int .u32 (T k).seq),.v (.int .u32 (T k).val),.v (.int .i64 (T k).rnd)],.c (.v (.int .i64 rd))])=true:=by
      show (YA c c.nodes.toNat&&(YT c&&(YO (T k).rnd&&YO rd)))=true;rw[hst,hh,hv,hT];rfl
     refine⟨?_,rfl,h3,rfl,.inl ⟨rfl,k+1,hlt,by show m-(k+1)<m-k;omega,?_,⟨jjm8 fun j hj=>?_,BL.refl (Zs c u la m σ T q)⟩⟩⟩
     . simp only[ZZ,List.forall_mem_cons,Xs,hq,YN]
       simp[YK,Xt,Xu];omega
     . dsimp only;rw[Sn (show k<9223372036854775807 by omega)];rfl
     . by_cases e:j=0+Int.toNat (Int.ofNat k)
       . have e2:j=k:=by rw[e,Xs]
         rw[if_pos e];subst e2;have:Tl c σ T rd (j+1) j=Q2 c (Int.ofNat (σ j)) (T j).any (T j).val (T j).rnd rd:=if_pos (Nat.lt_succ_self j);rw[this,Xs];simp[YD,UI,ZN]
       . rw[if_neg e]
         rw[Xs] at e;simp only[Tl,show (j<k+1)=(j<k) by simp;omega];rfl
   . obtain rfl : k = m := by have:¬k<m:=by simpa using c1
                              omega
     refine⟨by simp only[ZZ,List.forall_mem_cons,c1];simp,rfl,h4,rfl,.inr ⟨by simp,rfl,fun p hp=>?_,Pi hI (lo _) rfl⟩⟩;rw[List.mem_singleton.1 hp];exact⟨by simp[Wb,WZ,XT,YI,ho],.tail _ (.tail _ (.head _))⟩
theorem IG (c:Cfg) (u:Vw) (la:Int) (m:Nat) (σ:Nat->Nat) (T:Nat->ZJ) {q:List AC} (hq:KpOk q) (rd:Int) (g:Nat->Int) (o n n':Nat) (hn:n<=n') (hl:n'<=ZR) (hN:1000000000000000000000000000000000000000000<=n) (h1:Nat.ble n o=true) (h2:Nat.blt o n'=true) (hk:cqI.all (Zc n n')=true) (hF:ON n n' cqI (Zs c u la m σ T q) ((o::cqI).zip (Zg m g::Zs c u la m σ T q))=true) (hr:VO n n' n' (fun g=>.inl g) ((o::cqI).zip (Zg m g::Zs c u la m σ T q))=true)
 (h:∃p lp z,ZB (o::cqI) (ZM (VG prog) (fC (VG prog) 300) 31 [.c (.ptr Yz 0 0),i64 rd] n MP (XW (cqI.zip (Zs c u la m σ T q)) p lp))=some z/\z.1= .c (.sl o 0 0 m none)/\z.2.1=some (Zg m g)::(Zs c u la m σ T q).map some/\z.2.2.1<=n'/\ZZ z.2.2.2.1/\∀x∈z.2.2.2.2,x) {eb:List (Option ABlk)} (hE:BL (Zs c u la m σ T q) eb):
 CallV prog 31 [.c (.ptr Yz 0 0),i64 rd] cqI eb n (.c (.sl o 0 0 m none)) ((o::cqI).zip (Zg m g::Zs c u la m σ T q)) n':=by
 obtain⟨p,lp,z,g1,g2,g3,g4,g5,g6⟩:=h;refine NR ST (fuel:=300) (str:=MP) (vids:=o::cqI) (blks:=Zs c u la m σ T q) hn hl rfl (by kernel_rfl) hF hE ⟨p,lp,z,g1,g4,g5,g6,fun g=>.inl g,?_⟩;rw[g2,g3];have b1:=Nat.le_of_ble_eq_true h1;have b2:o<n':=by rwa[Nat.blt_eq] at h2
 exact Sj (hs:=[0]) (vals:=[.c (.sl o 0 0 m none)]) (gs:=[o]) (gb:=[Zg m g]) (ids:=cqI) (blks:=Zs c u la m σ T q) (kb:=(Zs c u la m σ T q).map some) (A:=[(o,some (Zg m g))]) rfl hr (WY (List.mem_singleton.2 rfl) (fun h=>AV.noConfusion h) (Vs b1 b2 b2 rfl) Sm) (Tv (Ph (o:=o) h1 h2 rfl (List.mem_cons_self ..) (BEq.refl _) Y8) Sk) hk (E0 hN hq) (BL.refl _)
theorem jjkt (c:Cfg) (u:Vw) (la:Int) (m:Nat) (σ:Nat->Nat) (T:Nat->ZJ) {q:List AC} (hq:KpOk q) (rd:Int) (hm:m<=8) (hst:YA c c.nodes.toNat=true) (hh:YT c=true) (hv:YO rd=true) (hT:∀j,YO (T j).rnd=true) {eb:List (Option ABlk)} (hE:BL (Zs c u la m σ T q) eb):
 CallV prog 31 [.c (.ptr Yz 0 0),i64 rd] cqI eb GT (.c (.sl Xp 0 0 m none)) ((Xp::cqI).zip (Zg m (Tl c σ T rd m)::Zs c u la m σ T q)) KB:=by
 refine IG c u la m σ T hq rd (Tl c σ T rd m) Xp GT KB (by decide) (by decide) (by decide) rfl rfl (by kernel_rfl) (by kernel_rfl) (by kernel_rfl) ?_ hE;obtain⟨g,hg⟩:∃g,Tl c σ T rd m=g:=⟨_,rfl⟩
 have hs:=fun {eb} {b}=>IZ c u la m σ T hq rd Xp coNN Bo Bp 100000000100010001110000014000000000000000000000009 100000000100010001110000000000000000000000000000001 hm hst hh hv hT (fun g k Q h=>coNT c u la m σ T q rd g k Q h) (by decide) (by decide) (by decide) (by decide) (by decide) (by kernel_rfl) (by decide) rfl (eb:=eb) (b:=b)
 rw[hg] at hs ⊢;refine(?_:(∃p r,Br prog c u la m σ T q rd p [some (Bt c u la m σ T q g)]=some r/\_)->_) (coNX c u la m σ T q rd g (fun z=>z.1= .c (.sl Xp 0 0 m none)/\z.2.1=some (Zg m g)::(Zs c u la m σ T q).map some/\z.2.2.1<=KB/\ZZ z.2.2.2.1/\∀x∈z.2.2.2.2,x) ?_)
 . rintro⟨p,r,h1,h2⟩
   exact⟨p,_,r,h1,h2⟩
 . refine⟨rfl,rfl,by dsimp only;decide,?_,fun x hx=>?_⟩
   . simp only[ZZ,List.forall_mem_cons]
     simp;omega
   . rw[List.mem_singleton.1 hx]
     exact hs (BL.refl (Zs c u la m σ T q)) ⟨rfl,rfl,rfl,rfl,.inr (.inl ⟨_,_,_,rfl,rfl,fun _ _=>rfl⟩)⟩
theorem jjku (c:Cfg) (u:Vw) (la:Int) (m:Nat) (σ:Nat->Nat) (T:Nat->ZJ) {q:List AC} (hq:KpOk q) (rd:Int) (hm:m<=8) (hst:YA c c.nodes.toNat=true) (hh:YT c=true) (hv:YO rd=true) (hT:∀j,YO (T j).rnd=true) {eb:List (Option ABlk)} (hE:BL (Zs c u la m σ T q) eb):
 CallV prog 31 [.c (.ptr Yz 0 0),i64 rd] cqI eb GS (.c (.sl Xo 0 0 m none)) ((Xo::cqI).zip (Zg m (Tl c σ T rd m)::Zs c u la m σ T q)) KA:=by
 refine IG c u la m σ T hq rd (Tl c σ T rd m) Xo GS KA (by decide) (by decide) (by decide) rfl rfl (by kernel_rfl) (by kernel_rfl) (by kernel_rfl) ?_ hE;obtain⟨g,hg⟩:∃g,Tl c σ T rd m=g:=⟨_,rfl⟩
 have hs:=fun {eb} {b}=>IZ c u la m σ T hq rd Xo coBN Bj Bk 100000000100010002410000014000000000000000000000009 100000000100010002410000000000000000000000000000001 hm hst hh hv hT (fun g k Q h=>coBT c u la m σ T q rd g k Q h) (by decide) (by decide) (by decide) (by decide) (by decide) (by kernel_rfl) (by decide) rfl (eb:=eb) (b:=b)
 rw[hg] at hs ⊢;refine(?_:(∃p r,Bm prog c u la m σ T q rd p [some (Bn c u la m σ T q g)]=some r/\_)->_) (coBX c u la m σ T q rd g (fun z=>z.1= .c (.sl Xo 0 0 m none)/\z.2.1=some (Zg m g)::(Zs c u la m σ T q).map some/\z.2.2.1<=KA/\ZZ z.2.2.2.1/\∀x∈z.2.2.2.2,x) ?_)
 . rintro⟨p,r,h1,h2⟩
   exact⟨p,_,r,h1,h2⟩
 . refine⟨rfl,rfl,by dsimp only;decide,?_,fun x hx=>?_⟩
   . simp only[ZZ,List.forall_mem_cons]
     simp;omega
   . rw[List.mem_singleton.1 hx]
     exact hs (BL.refl (Zs c u la m σ T q)) ⟨rfl,rfl,rfl,rfl,.inr (.inl ⟨_,_,_,rfl,rfl,fun _ _=>rfl⟩)⟩
theorem jjks (c:Cfg) (u:Vw) (la:Int) (m:Nat) (σ:Nat->Nat) (T:Nat->ZJ) {q:List AC} (hq:KpOk q) (rd:Int) (hm:m<=8) (hst:YA c c.nodes.toNat=true) (hh:YT c=true) (hv:YO rd=true) (hT:∀j,YO (T j).rnd=true) {eb:List (Option ABlk)} (hE:BL (Zs c u la m σ T q) eb):
 CallV prog 31 [.c (.ptr Yz 0 0),i64 rd] cqI eb GU (.c (.sl Xq 0 0 m none)) ((Xq::cqI).zip (Zg m (Tl c σ T rd m)::Zs c u la m σ T q)) KC:=by
 refine IG c u la m σ T hq rd (Tl c σ T rd m) Xq GU KC (by decide) (by decide) (by decide) rfl rfl (by kernel_rfl) (by kernel_rfl) (by kernel_rfl) ?_ hE;obtain⟨g,hg⟩:∃g,Tl c σ T rd m=g:=⟨_,rfl⟩
 have hs:=fun {eb} {b}=>IZ c u la m σ T hq rd Xq coZN Bu Bv 10000000001110000014000000000000000000000009 10000000001110000000000000000000000000000001 hm hst hh hv hT (fun g k Q h=>coZT c u la m σ T q rd g k Q h) (by decide) (by decide) (by decide) (by decide) (by decide) (by kernel_rfl) (by decide) rfl (eb:=eb) (b:=b)
 rw[hg] at hs ⊢;refine(?_:(∃p r,Bx prog c u la m σ T q rd p [some (By c u la m σ T q g)]=some r/\_)->_) (coZX c u la m σ T q rd g (fun z=>z.1= .c (.sl Xq 0 0 m none)/\z.2.1=some (Zg m g)::(Zs c u la m σ T q).map some/\z.2.2.1<=KC/\ZZ z.2.2.2.1/\∀x∈z.2.2.2.2,x) ?_)
 . rintro⟨p,r,h1,h2⟩
   exact⟨p,_,r,h1,h2⟩
 . refine⟨rfl,rfl,by dsimp only;decide,?_,fun x hx=>?_⟩
   . simp only[ZZ,List.forall_mem_cons]
     simp;omega
   . rw[List.mem_singleton.1 hx]
     exact hs (BL.refl (Zs c u la m σ T q)) ⟨rfl,rfl,rfl,rfl,.inr (.inl ⟨_,_,_,rfl,rfl,fun _ _=>rfl⟩)⟩
abbrev Jw (y:Int) (d:Said) (w:Vw) (o m:Nat):AV:=.tup [.agg ((.v (.int .i64 y)::(UJ d++ZX w))++[.sl o 0 0 m none]),.c (.v (.int .i64 (Int.ofNat 0)))]
abbrev MQ (o:Nat) (c:Cfg) (w:Vw) (a:Int) (m:Nat) (σ:Nat->Nat) (T:Nat->ZJ) (q:List AC) (g:Nat->Int):AMem:=[o].zip [Zg m g]++cqI.zip (XP c w a m σ T q)
abbrev BA:Nat:=100000000105000000000000000000000000000000000000000
theorem IX (bu bd:List AC) (c:Cfg) (u w:Vw) (la a y:Int) (d:Said) (m:Nat) (σ:Nat->Nat) (T T2 T3:Nat->ZJ) (q:List AC) {q2:List AC} (hq:KpOk q2) (f:Nat->List AC) (g g3:Nat->Int) (W O n n':Nat) (hn:n<=n') (hn1:Nat.blt n n'=true) (hl:n'<=ZR) (hN:1000000000000000000000000000000000000000000<=n) (hk:cqI.all (Zc n n')=true)
 (hT:∀j,j<m->T2 j=T3 j) (hg:∀j,j<m->g j=g3 j)
 (hF:ON n n' (W::cqI) (RV c.nodes.toNat f::XP c u la m σ T q) (MQ n c w a m σ T3 q2 g3)=true) (hr:VO n n' n' (fun _=>.inl O) (MQ n c w a m σ T3 q2 g3)=true)
 (h:∃p lp z,ZB (O::W::cqI) (ZM (GN prog bu bd) (fC (GN prog bu bd) 300) 9 [.c (.ptr Yz 0 0),i64 a,.c (.sl W 0 0 c.nodes.toNat none)] n Jv (XW ((W,RV c.nodes.toNat f)::cqI.zip (XP c u la m σ T q)) p lp))=some z/\z.1=Jw y d w O m/\(∃x,z.2.1=some (Zg m g)::x::(XP c w a m σ T2 q2).map some)/\z.2.2.1<=n'/\ZZ z.2.2.2.1/\∀e∈z.2.2.2.2,e) {eb:List (Option ABlk)} (hE:BL (RV c.nodes.toNat f::XP c u la m σ T q) eb):
 CallV prog 9 [.c (.ptr Yz 0 0),i64 a,.c (.sl W 0 0 c.nodes.toNat none)] (W::cqI) eb n (Jw y d w n m) (MQ n c w a m σ T3 q2 g3) n':=by
 obtain⟨p,lp,z,g1,g2,⟨x,g3'⟩,g4,g5,g6⟩:=h;have b2:n<n':=by rwa[Nat.blt_eq] at hn1
 refine NR (hECq bu bd) (fuel:=300) (str:=Jv) (vids:=O::W::cqI) (blks:=RV c.nodes.toNat f::XP c u la m σ T q) hn hl rfl (by kernel_rfl) hF hE ⟨p,lp,z,g1,g4,g5,g6,fun _=>.inl O,?_⟩;rw[g2,g3'];refine Sj (hs:=[0]) (vals:=[Jw y d w n m]) (gs:=[n]) (gb:=[Zg m g3]) (ids:=cqI) (blks:=XP c w a m σ T3 q2) (kb:=(XP c w a m σ T2 q2).map some) (A:=[(O,some (Zg m g)),(W,x)]) rfl hr ?_ ?_ hk (LT hN hq) ?_
 . exact WY (List.mem_singleton.2 rfl) (fun h=>AV.noConfusion h) (EZ (l:=.v (.int .i64 y)::(UJ d++ZX w)) (by rw[List.all_cons,List.all_append,Rm];rfl) (Pk (Vs (Nat.le_refl _) b2 b2 rfl))) Sm
 . exact Tv (Ph (o:=O) (Nat.ble_eq_true_of_le (Nat.le_refl n)) hn1 rfl (List.mem_cons_self ..) (IR (BEq.refl _) hg) Y8) Sk
 . exact⟨BEq.refl _,BEq.refl _,BEq.refl _,BEq.refl _,BEq.refl _,BEq.refl _,BEq.refl _,BEq.refl _,BEq.refl _,BEq.refl _,⟨rfl,rfl,rfl,rfl,.inr (.inl ⟨_,_,_,rfl,rfl,fun j hj=>by dsimp only;rw[hT j hj]⟩)⟩,trivial⟩
theorem jjda (d:Said):Y5 (d.cells.map .v) (UJ d)=true:=by
 show Y5 (d.cells.map .v) (d.cells.map .v)=true;refine I0 _ fun v hv=>?_
 simp only[Said.cells,Payload.cells,List.cons_append,List.nil_append,List.mem_cons,List.not_mem_nil,or_false] at hv;rcases hv with rfl|rfl|rfl|rfl|rfl|rfl
 . exact .inl ⟨_,rfl⟩
 all_goals exact .inr ⟨_,_,rfl⟩
theorem DD (u:Vw):Y5 (ZX u) (ZX u)=true:=by
 refine I0 _ fun v hv=>?_
 unfold Vw.cells at hv;simp only[List.mem_cons,List.not_mem_nil,or_false] at hv
 repeat' (rcases hv with rfl|hv)
 all_goals first
  |exact .inl ⟨_,rfl⟩
  |exact .inr ⟨_,_,rfl⟩
  |(subst hv;exact .inr ⟨_,_,rfl⟩)
structure CqF (c:Cfg) (u:Vw) (y:Int) (d:Said) (f:Nat->List AC):Prop where
 ok:YS c.nodes.toNat f=true
 b:ZX (OG c c.nodes.toNat (ZT c (2*c.np)) c.nodes.toNat f)=ZX u
 d:PO c.nodes (XF f c.nodes.toNat) y=d
 t:V5 (Zx (XQ c c.nodes.toNat (ZT c (2*c.np))) (ZX (Xr c c.nodes.toNat (ZT c (2*c.np)))) (min c.nodes.toNat c.nodes.toNat) f)=true
theorem BD {x:Int} (h0:0<=x) (h1:x<1099511627776):XU x=x+1/\IntKind.wrap .i64 (XU x-Int.ofNat 1)=x:=by
 have e:XU x=x+1:=Wu (x+1) (by omega) (by omega);rw[e];exact⟨rfl,by rw[show x+1-Int.ofNat 1=x by simp,Wu x (by omega) (by omega)]⟩
theorem jjrd {c:Cfg} (f:PxC c) {s:T6} (h:TZ s) (hx:s.x<1099511627776) (la:Int) (m:Nat) (hm:m<=8) (σ:Nat->Nat) (hσ:∀j,j<m->σ j<c.nt) {q:List AC} (hq:KpOk q) (d:Said) (hd:d=GH s.x d):
 ∃q' T2,KpOk q'/\(∀j,j<m->T2 j=Pw c s d (σ j))/\(∀j,YO (T2 j).rnd=true)/\∀{eb:List (Option ABlk)},BL (XP c s.u la m σ (fun j=>s.S (σ j)) q) eb->CallV prog 29 [.c (.ptr Yz 0 0),i64 s.x,.agg (UJ d)] cqI eb GR (.tup []) (cqI.zip (XP c (Uq c s d) la m σ T2 q')) GE:=by
 obtain⟨is,t,p⟩:=d
 cases is with
 | true=>
  obtain rfl:t=s.x:=by
   have:(Said.mk true t p).at_=(GH s.x ⟨true,t,p⟩).at_:=by rw[<- hd]
   exact this
  obtain⟨q',hq',hc⟩:=jjrc f s.u la s.x h.x0 (by omega) m hm σ (fun j=>s.S (σ j)) hq p;refine⟨q',_,hq',fun j hj=>?_,fun j=>?_,hc⟩
  . unfold UT
    rw[if_pos hj];show _=UF c (X1 c s.x) (IntKind.wrap .i64 (VN c s.u s.x).command) (Vx c s.x) p s.S c.nt (σ j);unfold UF;rw[if_pos (hσ j hj)]
  . unfold UT
    split
    . unfold QI TY
      dsimp only;split
      . exact NN _
      . exact h.st _
    . exact h.st _
 |false=>
  have e:Said.mk false t p=Said.zero:=hd;rw[e];exact⟨q,fun j=>s.S (σ j),hq,fun j _=>rfl,fun j=>h.st _,fun hE=>jjoe c s.u la s.x m σ (fun j=>s.S (σ j)) hq hE⟩
theorem jjkp {c:Cfg} (f:PxC c) {s:T6} (h:TZ s) (hx:s.x<1099511627776) (m:Nat) (hm:m<=8) (σ:Nat->Nat) (hσ:∀j,j<m->σ j<c.nt) {q:List AC} (hq:KpOk q) (d:Said) (hd:d=GH s.x d) (F:Nat->List AC) (hF:CqF c s.u s.x d F):
 ∃q',KpOk q'/\∀{eb:List (Option ABlk)},BL (RV c.nodes.toNat F::XP c s.u s.x m σ (fun j=>s.S (σ j)) q) eb->CallV prog 9 [.c (.ptr Yz 0 0),i64 (XU s.x),.c (.sl SR 0 0 c.nodes.toNat none)] (SR::cqI) eb XE (Jw s.x d (RF c s d) XE m) (MQ XE c (RF c s d) (XU s.x) m σ (fun j=>Pw c s d (σ j)) q' (fun j=>TX c s.x (Pw c s d) (σ j))) BA:=by
 have x0:=h.x0;have g:=f.g;have n4:=g.n4;have n16:=g.n16;obtain⟨y1,y2⟩:=BD x0 hx;obtain⟨q',T2,hq',hT2,hi,hc⟩:=jjrd f h hx (XU s.x) m hm σ hσ hq d hd;obtain⟨a,ha⟩:∃a,XU s.x=a:=⟨_,rfl⟩
 have a1:a=s.x+1:=by rw[<- ha,y1]
 rw[ha] at y2
 have hg:∀j,j<m->Tl c σ T2 (IntKind.wrap .i64 (Int.tdiv a c.ns)) m j=TX c s.x (Pw c s d) (σ j):=fun j hj=>by
  show _=T0 c (Pw c s d) (IntKind.wrap .i64 (Int.tdiv (XU s.x) c.ns)) c.nt (σ j);unfold Tl T0;rw[if_pos hj,if_pos (hσ j hj),hT2 j hj,ha]
 have hv:YO (IntKind.wrap .i64 (Int.tdiv a c.ns))=true:=NN _
 have ns:decide ((c.ns:Int)≠Int.ofNat 0)=true:=by
  have:=g.s1;exact decide_eq_true (by simp;omega)
 have d0:(decide (a>Int.ofNat 0)==true)=true:=by simp;omega
 have d1:(decide (a<Int.ofNat 0)==false)=true:=by simp;omega
 have d2:(decide (a>Int.ofNat 1099511627776)==false)=true:=by simp;omega
 have d3:(decide (a<=s.x)==false)=true:=by simp;omega
 have sd:Y5 (List.map AC.v (PO c.nodes (XF F c.nodes.toNat) s.x).cells) (UJ d)=true:=by rw[hF.d];exact jjda d
 have c1:decide (c.nodes.toNat<=c.nodes.toNat)=true:=decide_eq_true (Nat.le_refl _);have c2:decide (c.nodes.toNat<=1000000)=true:=decide_eq_true (by omega);have c3:((List.range c.nodes.toNat).all fun k=>Zn Held.ks (F k))=true:=hF.ok;rw[ha] at hc;obtain⟨g0,hg0⟩:∃g0,Tl c σ T2 (IntKind.wrap .i64 (Int.tdiv a c.ns)) m=g0:=⟨_,rfl⟩
 rw[hg0] at hg;refine⟨q',hq',fun hE=>?_⟩;rw[ha]
 cases hb:Am c s with
 |false=>
  have e1:RF c s d=Uq c s d:=by unfold RF;rw[if_neg (by rw[hb];simp)]
  rw[e1];have db:(Int.tmod a (c.ns:Int)==Int.ofNat 0)=false:=by rw[<- ha];exact hb
  have db2:((Int.tmod a (c.ns:Int)==Int.ofNat 0)==false)=true:=by rw[db];rfl
  refine IX [] (UJ d) c s.u (Uq c s d) s.x a s.x d m σ (fun j=>s.S (σ j)) T2 _ q hq' F g0 _ SR Xp XE BA (by decide) rfl (by decide) (by decide) (by kernel_rfl) hT2 hg (by kernel_rfl) (by kernel_rfl) ?_ hE;refine(?_:(∃p r,KE prog (Xp::SR::cqI) [] (UJ d) c s.u s.x a m σ (fun j=>s.S (σ j)) q F p [some (AO c (Uq c s d) a m σ T2 q'),some (Bq c (Uq c s d) a m σ T2 q' g0)]=some r/\_)->_) (csN c s.u (Uq c s d) s.x a d m σ (fun j=>s.S (σ j)) T2 q q' F g0 (fun z=>z.1=Jw s.x d (Uq c s d) Xp m/\(∃x,z.2.1=some (Zg m g0)::x::(XP c (Uq c s d) a m σ T2 q').map some)/\z.2.2.1<=BA/\ZZ z.2.2.2.1/\∀e∈z.2.2.2.2,e) ?_)
  . rintro⟨p,r,h1,h2⟩
    exact⟨p,_,r,h1,h2⟩
  . refine⟨by dsimp only;rw[y2];rfl,⟨_,rfl⟩,by dsimp only;decide,?_,?_⟩
    . simp only[ZZ,List.forall_mem_cons,List.not_mem_nil,false_implies,implies_true,and_true,true_and]
      simp only[y2]
      repeat' apply And.intro
      all_goals first|exact ns|exact d0|exact d1|exact d2|exact d3|exact db2|exact sd|exact c1|exact c2|exact c3|exact YN _ _ _|rfl
    . simp only[List.forall_mem_cons,List.not_mem_nil,false_implies,implies_true,and_true]
      simp only[y2];refine⟨?_,(hc (BL.refl (XP c s.u a m σ (fun j=>s.S (σ j)) q))).mono (by decide)⟩;rw[<- hg0];have hh:=jjkt c (Uq c s d) a m σ T2 hq' (IntKind.wrap .i64 (Int.tdiv a c.ns)) hm f.st f.hh hv hi (BL.refl (Zs c (Uq c s d) a m σ T2 q'));exact hh.mono (by decide)
 | true=>
  have e1:RF c s d=XK c (Uq c s d):=by unfold RF;rw[if_pos hb]
  rw[e1];have db:(Int.tmod a (c.ns:Int)==Int.ofNat 0)=true:=by rw[<- ha];exact hb
  have db2:((Int.tmod a (c.ns:Int)==Int.ofNat 0)==true)=true:=by rw[db];rfl
  have h9:=J1 f (NO s h.v d (c:=c));have sb:Y5 (ZX (OG c c.nodes.toNat (ZT c (2*c.np)) c.nodes.toNat F)) (ZX s.u)=true:=by rw[hF.b];exact DD s.u
  have sp:GC ⟨c,c.nodes.toNat,ZT c (2*c.np),c.nodes.toNat,F⟩=true:=by
   have hr:Zq c c.nodes.toNat≠0:=by have:=NU g;simpa using this
   show (decide (Zq c c.nodes.toNat≠0)&&(WN c c.nodes.toNat&&(decide (0<=c.nodes)&&(decide (c.nodes.toNat<=1000000)&&(YS c.nodes.toNat F&&V5 _)))))=true;rw[J3 g,hF.ok,hF.t,c2,decide_eq_true hr,decide_eq_true (show 0<=c.nodes by omega)];rfl
  have cn:(Zf c c.nodes.toNat (ZT c (2*c.np))&&(decide (c.nodes.toNat<=c.nodes.toNat)&&(Nat.beq 56 56&&YS c.nodes.toNat F)))=true:=by rw[YN,c1,hF.ok];rfl
  refine IX (ZX s.u) (UJ d) c s.u (XK c (Uq c s d)) s.x a s.x d m σ (fun j=>s.S (σ j)) T2 _ q hq' F g0 _ SR Xo XE BA (by decide) rfl (by decide) (by decide) (by kernel_rfl) hT2 hg (by kernel_rfl) (by kernel_rfl) ?_ hE;refine(?_:(∃p r,KE prog (Xo::SR::cqI) (ZX s.u) (UJ d) c s.u s.x a m σ (fun j=>s.S (σ j)) q F p [some (AO c (Uq c s d) a m σ T2 q'),some (Bl c (XK c (Uq c s d)) a m σ T2 q' g0)]=some r/\_)->_) (csB c s.u s.u (Uq c s d) (XK c (Uq c s d)) s.x a d m σ (fun j=>s.S (σ j)) T2 q q' F g0 (fun z=>z.1=Jw s.x d (XK c (Uq c s d)) Xo m/\(∃x,z.2.1=some (Zg m g0)::x::(XP c (XK c (Uq c s d)) a m σ T2 q').map some)/\z.2.2.1<=BA/\ZZ z.2.2.2.1/\∀e∈z.2.2.2.2,e) ?_)
  . rintro⟨p,r,h1,h2⟩
    exact⟨p,_,r,h1,h2⟩
  . refine⟨by dsimp only;rw[y2];rfl,⟨_,rfl⟩,by dsimp only;decide,?_,?_⟩
    . simp only[ZZ,List.forall_mem_cons,List.not_mem_nil,false_implies,implies_true,and_true,true_and]
      simp only[y2]
      repeat' apply And.intro
      all_goals first|exact ns|exact d0|exact d1|exact d2|exact d3|exact db2|exact sd|exact c1|exact c2|exact c3|exact sb|exact sp|exact cn|exact h9|exact YN _ _ _|rfl
    . simp only[List.forall_mem_cons,List.not_mem_nil,false_implies,implies_true,and_true]
      simp only[y2];refine⟨?_,(hc (BL.refl (XP c s.u a m σ (fun j=>s.S (σ j)) q))).mono (by decide)⟩;rw[<- hg0];have hh:=jjku c (XK c (Uq c s d)) a m σ T2 hq' (IntKind.wrap .i64 (Int.tdiv a c.ns)) hm f.st f.hh hv hi (BL.refl (Zs c (XK c (Uq c s d)) a m σ T2 q'));exact hh.mono (by decide)
end Go.Proofs.YtljeokninakliaaGreatDoor
end
