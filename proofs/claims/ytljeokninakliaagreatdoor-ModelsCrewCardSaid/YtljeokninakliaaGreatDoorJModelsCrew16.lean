/- Parts, one behind the other. Parts of a proof. -/
import Derived.Test.YtljeokninakliaaGreatDoorJModelsCrew15
import Derived.Test.YtljeokninakliaaGreatDoorJModelsCrew10
import Derived.Test.YtljeokninakliaaGreatDoorJModelsCrew9
set_option linter.unusedSimpArgs false
set_option linter.unusedVariables false
set_option maxRecDepth 1000000
set_option maxHeartbeats 4000000
section
namespace Go.Proofs.YtljeokninakliaaGreatDoor
open Go.RowKit Tryz
def Ur (hl lev:Int):Prop:=(hl=1\/hl=2)/\lev≠2
instance (hl lev:Int):Decidable (Ur hl lev):=by unfold Ur;infer_instance
def AU (c:Cfg) (nq:Nat) (fq:Nat->Int) (l:List AC) (z:Int):Int:=W0 (ZI c nq fq z) (Zz (l.getD z.toNat ZV)) (ZP (l.getD (24+z.toNat) ZV))
def OJ (c:Cfg) (nq:Nat) (fq:Nat->Int) (l:List AC) (z cmd:Int):Int:=if Ur (AU c nq fq l z) (VL (ZP (l.getD (24+z.toNat) ZV))) then cmd else if 0<mA c nq fq l then (Ye c nq fq l 0:Int) else -1
def U1 (c:Cfg) (nq:Nat) (fq:Nat->Int) (l:List AC):Int:=OJ c nq fq l (IntKind.wrap .i64 (ZP (l.getD 40 ZV))) (ZP (l.getD 40 ZV))
def Bz (c:Cfg) (nq:Nat) (fq:Nat->Int) (l:List AC) (_:List AV):AV:=.c (.v (.int .i8 (U1 c nq fq l)))
def KD (c:Cfg) (_:List AC) (r:List AV):Bool:=r.isEmpty&&decide (c.np<=8)
def Jy:Yk:=Y9 netRd (rV Bz) (pW KD)
theorem EH {n:Nat} (h:n<8):IntKind.wrap .i8 (Int.ofNat n)=(n:Int):=by
 simp only[IntKind.wrap,IntKind.bits,IntKind.signed,Int.ofNat_eq_natCast]
 first|omega|(simp;omega)
theorem jjr7:ZA prog 69 Jy:=by
 refine Ic (G:=mS) (by kernel_rfl) (E:=Kq prog) BS ⟨_,_,Tryz.func69,rfl⟩ (fun _ _ _ _ _=>rfl) fun c nq fq v r hr=>?_
 simp only[KD,Bool.and_eq_true,decide_eq_true_eq] at hr;obtain⟨hr,h8⟩:=hr;obtain rfl:=List.isEmpty_iff.1 hr;have hR:Bz c nq fq (ZX v) []= .c (.v (.int .i8 (OJ c nq fq (ZX v) (IntKind.wrap .i64 v.command) v.command))):=rfl;rw[hR];refine(?_:(∃p q,QZ (Kq prog) 69 c nq fq v [] p []=some q/\Z6 (.c (.v (.int .i8 (OJ c nq fq (ZX v) (IntKind.wrap .i64 v.command) v.command)))) q)->_) (Ar c nq fq v _ ?_)
 . rintro⟨p,q,h1,h2⟩
   exact⟨p,[],q,h1,h2⟩
 . have hfit:0<mA c nq fq (ZX v)->Ye c nq fq (ZX v) 0<8:=fun h=>by
    rw[JS] at h;rw[EM h];exact jjqm h
   have hpw:∀z,pW W5 ⟨c,nq,fq,[.agg (ZX v),.c (.v (.int .i64 z))]⟩=true:=fun z=>by simp[pW,W5,Vr,h8]
   have hm1:W0 (ZI c nq fq (IntKind.wrap .i64 (-1))) (Zz (List.getD (ZX v) (Int.toNat (IntKind.wrap .i64 (-1))) ZV)) (ZP (List.getD (ZX v) (24+Int.toNat (IntKind.wrap .i64 (-1))) ZV))=0:=by
    unfold W0;rw[if_pos];have:=@Nx c nq fq (IntKind.wrap .i64 (-1));have e:IntKind.wrap .i64 (-1)= -1:=by decide
    rw[e] at this ⊢;omega
   have hm2:∀z,z=v.command->v.command= -1->W0 (ZI c nq fq (IntKind.wrap .i64 z)) (Zz (List.getD (ZX v) (Int.toNat (IntKind.wrap .i64 z)) ZV)) (ZP (List.getD (ZX v) (24+Int.toNat (IntKind.wrap .i64 z)) ZV))=0:=fun z e1 e2=>by rw[e1,e2];exact hm1
   have hm3:=hm2 v.command rfl;unfold OJ AU;have e1:24+Int.toNat (IntKind.wrap .i64 v.command)*1=24+Int.toNat (IntKind.wrap .i64 v.command):=by simp
   have hin:∀z,W0 (ZI c nq fq z) (Zz (List.getD (ZX v) (Int.toNat z) ZV)) (ZP (List.getD (ZX v) (24+Int.toNat z) ZV))=1\/W0 (ZI c nq fq z) (Zz (List.getD (ZX v) (Int.toNat z) ZV)) (ZP (List.getD (ZX v) (24+Int.toNat z) ZV))=2->(0<=z/\z<8)/\Z5 (.i .u16) (List.getD (ZX v) (24+Int.toNat z) ZV)=true:=fun z h=>by
    obtain⟨a,b⟩:=Nx (M5 h).1;obtain⟨k,rfl⟩:=Int.eq_ofNat_of_zero_le a;have:=(U2 v k (by omega)).2;simp only[Nat.mul_one,Int.ofNat_eq_natCast,Int.toNat_natCast] at this;simp only[Int.toNat_natCast];exact⟨⟨a,by omega⟩,this⟩
   have hin:=hin (IntKind.wrap .i64 v.command);simp only[e1,hpw];obtain⟨lv,Hd⟩:∃x,VL (ZP (List.getD (ZX v) (24+Int.toNat (IntKind.wrap .i64 v.command)) ZV))=x:=⟨_,rfl⟩
   obtain⟨hl,hhl⟩:∃x,W0 (ZI c nq fq (IntKind.wrap .i64 v.command)) (Zz (List.getD (ZX v) (Int.toNat (IntKind.wrap .i64 v.command)) ZV)) (ZP (List.getD (ZX v) (24+Int.toNat (IntKind.wrap .i64 v.command)) ZV))=x:=⟨_,rfl⟩
   obtain⟨m,hm⟩:∃x,mA c nq fq (ZX v)=x:=⟨_,rfl⟩
   obtain⟨b,hb⟩:∃x,Ye c nq fq (ZX v) 0=x:=⟨_,rfl⟩
   rw[hm,hb] at hfit;rw[hhl] at hin hm3;simp only[Hd,hhl,hm,hb];clear Hd hhl hm1 hm2 hpw hR e1;have hneg:(Int.negSucc 0)=(-1:Int):=rfl;by_cases hs:Ur hl lv
   . simp only[if_pos hs]
     unfold Ur at hs;by_cases hm0:0<m
     . have hb8:=hfit hm0
       simp only[EH hb8,hneg];clear hb hm hfit
       (repeat' (first|refine⟨fun h=>?_,fun h=>?_⟩|fail))
       all_goals (simp only[bne_iff_ne,ne_eq,bne_eq_false_iff_eq,beq_iff_eq,beq_eq_false_iff_ne,decide_eq_true_eq,decide_eq_false_iff_not,Int.ofNat_eq_natCast,gt_iff_lt,Int.cast_ofNat_Int] at *)
       all_goals (first|(exfalso;omega)|skip)
       all_goals (refine⟨?_,(by first|(unfold ZR;omega)|(dsimp only;unfold ZR;omega)),?_,by simp⟩)
       all_goals first
        |rfl
        |(simp[ZZ,Yb,YN,Yi,Ya,XZ,Y0,Vr,WI,YK,Vw.len,h8];done)
        |(have q:=hin (by omega);simp only[q.2];simp[ZZ,Yb,YN,Yi,Ya,XZ,Y0,Vr,WI,YK,Vw.len,h8];omega)
        |(simp[ZZ,Yb,YN,Yi,Ya,XZ,Y0,Vr,WI,YK,Vw.len,h8];omega)
     . simp only[hneg]
       clear hb hm hfit
       (repeat' (first|refine⟨fun h=>?_,fun h=>?_⟩|fail))
       all_goals (simp only[bne_iff_ne,ne_eq,bne_eq_false_iff_eq,beq_iff_eq,beq_eq_false_iff_ne,decide_eq_true_eq,decide_eq_false_iff_not,Int.ofNat_eq_natCast,gt_iff_lt,Int.cast_ofNat_Int] at *)
       all_goals (first|(exfalso;omega)|skip)
       all_goals (refine⟨?_,(by first|(unfold ZR;omega)|(dsimp only;unfold ZR;omega)),?_,by simp⟩)
       all_goals first
        |rfl
        |(simp[ZZ,Yb,YN,Yi,Ya,XZ,Y0,Vr,WI,YK,Vw.len,h8];done)
        |(have q:=hin (by omega);simp only[q.2];simp[ZZ,Yb,YN,Yi,Ya,XZ,Y0,Vr,WI,YK,Vw.len,h8];omega)
        |(simp[ZZ,Yb,YN,Yi,Ya,XZ,Y0,Vr,WI,YK,Vw.len,h8];omega)
   . simp only[if_neg hs]
     unfold Ur at hs;by_cases hm0:0<m
     . have hb8:=hfit hm0
       simp only[EH hb8,hneg,if_pos hm0];clear hb hm hfit
       (repeat' (first|refine⟨fun h=>?_,fun h=>?_⟩|fail))
       all_goals (simp only[bne_iff_ne,ne_eq,bne_eq_false_iff_eq,beq_iff_eq,beq_eq_false_iff_ne,decide_eq_true_eq,decide_eq_false_iff_not,Int.ofNat_eq_natCast,gt_iff_lt,Int.cast_ofNat_Int] at *)
       all_goals (first|(exfalso;omega)|skip)
       all_goals (refine⟨?_,(by first|(unfold ZR;omega)|(dsimp only;unfold ZR;omega)),?_,by simp⟩)
       all_goals first
        |rfl
        |(simp[ZZ,Yb,YN,Yi,Ya,XZ,Y0,Vr,WI,YK,Vw.len,h8];done)
        |(have q:=hin (by omega);simp only[q.2];simp[ZZ,Yb,YN,Yi,Ya,XZ,Y0,Vr,WI,YK,Vw.len,h8];omega)
        |(simp[ZZ,Yb,YN,Yi,Ya,XZ,Y0,Vr,WI,YK,Vw.len,h8];omega)
     . simp only[hneg,if_neg hm0]
       clear hb hm hfit
       (repeat' (first|refine⟨fun h=>?_,fun h=>?_⟩|fail))
       all_goals (simp only[bne_iff_ne,ne_eq,bne_eq_false_iff_eq,beq_iff_eq,beq_eq_false_iff_ne,decide_eq_true_eq,decide_eq_false_iff_not,Int.ofNat_eq_natCast,gt_iff_lt,Int.cast_ofNat_Int] at *)
       all_goals (first|(exfalso;omega)|skip)
       all_goals (refine⟨?_,(by first|(unfold ZR;omega)|(dsimp only;unfold ZR;omega)),?_,by simp⟩)
       all_goals first
        |rfl
        |(simp[ZZ,Yb,YN,Yi,Ya,XZ,Y0,Vr,WI,YK,Vw.len,h8];done)
        |(have q:=hin (by omega);simp only[q.2];simp[ZZ,Yb,YN,Yi,Ya,XZ,Y0,Vr,WI,YK,Vw.len,h8];omega)
        |(simp[ZZ,Yb,YN,Yi,Ya,XZ,Y0,Vr,WI,YK,Vw.len,h8];omega)
abbrev Pq (c:Cfg) (nq:Nat) (fq:Nat->Int) (v:Vw) (k:Nat):List AV:=[.c (.ptr 5 0 0),.c (.ptr 1000 0 0),i64 (Int.ofNat (Zy (Z3 c nq fq v) k)),i64 (Int.ofNat (Zy (Z8 c nq fq) k)),i64 (Int.ofNat k)]
def mdR (P:Program) (c:Cfg) (nq:Nat) (fq:Nat->Int) (v:Vw) (k:Nat) (path:List Dec):Option VC:=
 view ([0,3,4,5,7]++[]) (Yc++[1000]) (fC (Q6 P) 100 (ZW P 118 0) 1000000000000000000000000000000000000000000 nSt (Wi 25 [0,3,4,5,7] (Yc++[1000]) (Pq c nq fq v k) (X6 c nq fq++[WJ v]) path []))
theorem md (c:Cfg) (nq:Nat) (fq:Nat->Int) (v:Vw) (k:Nat) (Q:VC->Prop) (H:let zN:=Int.ofNat;let zM:=ABlk.mk;let zq0:List Bool:=[Zf c nq fq,true,decide (zN k<zN 8)==true];let zq1:List Bool:=(ABlk.inb (zM true false 32 0 (Cs.lit (ZX v))) 0 (0+Int.toNat (zN k)*1+1))::(Z5 Kd.b (List.getD (ZX v) (0+Int.toNat (zN k)*1) ZV))::(decide (zN 0<=zN k/\zN k<zN 8))::(decide (ZI c nq fq (List.headD [zN k] (zN 0))<zN 0)==false)::zq0;let zs0:=fun (l:List (Option ABlk))=>yF 172 0 (Cs.lit [zI (zN 1),zI (Int.negSucc 0)])::yF 3 1 (yP c)::yF 3 1 (yS c)::yF 3 1 (yB c)::yF 70 3 (yT c)::yF 3 1 (Cs.arr nq fun k=>List.map AC.v ((fun i=>[Value.int .i64 (fq i)]) k))::yF 81 0 (Cs.lit [zI c.nodes,AC.sl 0 0 0 c.np none,AC.sl 1 0 0 c.ns none,zI c.long,AC.sl 2 0 0 c.nb none,AC.sl 3 0 0 c.nt none,zI c.miss,zI c.good,zI c.fresh,AC.sl 4 0 0 nq none])::yR 32 0 (Cs.lit (ZX v))::l;let zs1:=fun (l:List (Option AV))=>some (ZO (List.zip [0,3,4,5,7] (Pq c nq fq v k)) 0)::some (ZO (List.zip [0,3,4,5,7] (Pq c nq fq v k)) (0+1+1+1))::some (ZO (List.zip [0,3,4,5,7] (Pq c nq fq v k)) (0+1+1+1+1))::l;let zs2:=fun (l:List (Option AV))=>some (.c (zI (IntKind.wrap .i64 (zN (Zy (Z8 c nq fq) k)+zN 1))))::some (.c (zI (IntKind.wrap .i64 (zN k+zN 1))))::l;(((decide (zN k<zN 8))=true->(((decide (ZI c nq fq (List.headD [zN k] (zN 0))<zN 0))=true->Q (Exit.normal,(zs1 [some (ZO (List.zip [0,3,4,5,7] (Pq c nq fq v k)) (0+1+1+1+1+1)),some (.c (zI (IntKind.wrap .i64 (zN k+zN 1))))]),(zs0 []),25,1000000000000000000000000000000000000000008,((decide (ZI c nq fq (List.headD [zN k] (zN 0))<zN 0)==true)::zq0),[]))/\((decide (ZI c nq fq (List.headD [zN k] (zN 0))<zN 0))=false->(((Zz (List.getD (ZX v) (0+Int.toNat (zN k)*1) ZV))=true->Q (Exit.normal,(some (ZO (List.zip [0,3,4,5,7] (Pq c nq fq v k)) 0)::some (ZO (List.zip [0,3,4,5,7] (Pq c nq fq v k)) (0+1+1+1))::some (.c (zI (IntKind.wrap .i64 (zN (Zy (Z3 c nq fq v) k)+zN 1))))::zs2 []),(zs0 []),25,1000000000000000000000000000000000000000018,((Zz (List.getD (ZX v) (0+Int.toNat (zN k)*1) ZV)==true)::zq1),[]))/\((Zz (List.getD (ZX v) (0+Int.toNat (zN k)*1) ZV))=false->Q (Exit.normal,(zs1 (zs2 [])),(zs0 []),25,1000000000000000000000000000000000000000015,((Zz (List.getD (ZX v) (0+Int.toNat (zN k)*1) ZV)==false)::zq1),[]))))))/\((decide (zN k<zN 8))=false->Q (Exit.exit 0,(zs1 [some (ZO (List.zip [0,3,4,5,7] (Pq c nq fq v k)) (0+1+1+1+1+1)),some (ZO (List.zip [0,3,4,5,7] (Pq c nq fq v k)) (0+1+1+1+1+1+1+1))]),(zs0 []),25,1000000000000000000000000000000000000000001,[decide (zN k<zN 8)==false],[])))):
 ∃p r,mdR prog c nq fq v k p=some r/\Q r:=
 ZD H (fun g1=>ZD g1 (fun g2=>⟨pD 2 4,_,by kernel_rfl,g2⟩) (fun g2=>ZD g2 (fun g3=>⟨pD 3 16,_,by kernel_rfl,g3⟩) (fun g3=>⟨pD 3 25,_,by kernel_rfl,g3⟩))) (fun g1=>⟨pD 1 2,_,by kernel_rfl,g1⟩)
theorem jjq9 (c:Cfg) (nq:Nat) (fq:Nat->Int) (v:Vw) {eblks:List (Option ABlk)} (heb:BL (X6 c nq fq++[WJ v]) eblks):
 LoopV prog (ZW prog 118 0) [0,3,4,5,7] (Yc++[1000]) ((Pq c nq fq v 0).map some) eblks 25 1004 (ZQ 25 [(4,i64 (Int.ofNat (Zy (Z3 c nq fq v) 8))),(5,i64 (Int.ofNat (Zy (Z8 c nq fq) 8)))]) [] 100000000000000000000000000000000000000000000000000 (.exit 0) none:=by
 refine Pn Nd (fuel:=100) (str:=nSt) (nh:=1000000000000000000000000000000000000000000) (S:=Nat) (fun k=>k<=8) (fun k=>8-k) [0,3,4,5,7] [] (Yc++[1000]) (Pq c nq fq v) (fun _=>X6 c nq fq++[WJ v]) (by decide) (by decide) (by unfold ZR;omega) (s0:=0) (by omega) (fun _=>⟨rfl,rfl⟩) (by kernel_rfl) heb (fun k _=>⟨rfl,?_⟩) ?_
 . intro b hb
   rcases List.mem_append.1 hb with h|h
   . exact Dc (by omega) b h
   . rw[List.mem_singleton.1 h];exact Tu
 intro k hk;refine(?_:(∃p r,mdR prog c nq fq v k p=some r/\_)->_) (md c nq fq v k (XA 1004 100000000000000000000000000000000000000000000000000 25 [0,3,4,5,7] [] (Yc++[1000]) (fun k=>k<=8) (fun k=>8-k) (Pq c nq fq v) (fun _=>X6 c nq fq++[WJ v]) (.exit 0) [(4,i64 (Int.ofNat (Zy (Z3 c nq fq v) 8))),(5,i64 (Int.ofNat (Zy (Z8 c nq fq) 8)))] [] k) ?_)
 . rintro⟨p,r,h1,h2⟩
   exact⟨p,[],r,h1,h2⟩
 . have hb:=NK (Z8 c nq fq) k
   have hi:=NK (Z3 c nq fq v) k
   have nx:∀{a b:Int} {i j:Nat},i=Zy (Z3 c nq fq v) (k+1)->j=Zy (Z8 c nq fq) (k+1)->k<8->a=Int.ofNat i->b=Int.ofNat j->[some (.c (.ptr 5 0 0)),some (.c (.ptr 1000 0 0)),some (i64 a),some (i64 b),some (i64 (Int.ofNat (k+1)))]=(Pq c nq fq v (k+1)).map some:=by
    rintro a b i j rfl rfl _ rfl rfl;rfl
   refine⟨fun c1=>⟨fun c2=>?_,fun c2=>⟨fun c3=>?_,fun c3=>?_⟩⟩,fun c1=>?_⟩
   . have hlt:k<8:=by simp at c1;omega
     have h0:Z8 c nq fq k=false:=by simpa[Z8] using c2
     refine⟨?_,rfl,by dsimp only;omega,rfl,.inl ⟨rfl,k+1,by omega,by show 8-(k+1)<8-k;omega,?_,by exact BL.refl (X6 c nq fq++[WJ v])⟩⟩
     . simp[ZZ,hlt,c2,Yb,YN,Yi,Ya,XZ,Y0]
       simp at c2;omega
     . rw[OZ k (by omega)]
       exact nx (i:=Zy (Z3 c nq fq v) k) (j:=Zy (Z8 c nq fq) k) (by rw[Qt];simp[Z3,h0]) (by rw[Qt];simp[h0]) hlt rfl rfl
   . have hlt:k<8:=by simp at c1;omega
     have h0:Z8 c nq fq k=true:=by simpa[Z8] using c2
     rw[Si v k hlt] at c3;refine⟨?_,rfl,by dsimp only;omega,rfl,.inl ⟨rfl,k+1,by omega,by show 8-(k+1)<8-k;omega,?_,by exact BL.refl (X6 c nq fq++[WJ v])⟩⟩
     . simp only[ZZ,List.forall_mem_cons,Si v k hlt,NE v k hlt]
       simp[ZZ,hlt,c3,Yb,YN,Yi,Ya,XZ,Y0,Vw.len,WI,YK];simp at c2;omega
     . rw[OZ k (by omega),OZ _ (by omega),OZ _ (by omega)]
       exact nx (i:=Zy (Z3 c nq fq v) k+1) (j:=Zy (Z8 c nq fq) k+1) (by rw[Qt];simp[Z3,h0,c3]) (by rw[Qt];simp[h0]) hlt rfl rfl
   . have hlt:k<8:=by simp at c1;omega
     have h0:Z8 c nq fq k=true:=by simpa[Z8] using c2
     rw[Si v k hlt] at c3;refine⟨?_,rfl,by dsimp only;omega,rfl,.inl ⟨rfl,k+1,by omega,by show 8-(k+1)<8-k;omega,?_,by exact BL.refl (X6 c nq fq++[WJ v])⟩⟩
     . simp only[ZZ,List.forall_mem_cons,Si v k hlt,NE v k hlt]
       simp[ZZ,hlt,c3,Yb,YN,Yi,Ya,XZ,Y0,Vw.len,WI,YK];simp at c2;omega
     . rw[OZ k (by omega),OZ _ (by omega)]
       exact nx (i:=Zy (Z3 c nq fq v) k) (j:=Zy (Z8 c nq fq) k+1) (by rw[Qt];simp[Z3,h0,c3]) (by rw[Qt];simp[h0]) hlt rfl rfl
   . have hge:k=8:=by simp at c1;omega
     subst hge;refine⟨by simp[ZZ],rfl,by dsimp only;omega,rfl,.inr ⟨by simp,rfl,fun q hq=>?_,fun p hpp=>(by cases hpp)⟩⟩;simp only[List.mem_cons,List.not_mem_nil,or_false] at hq;rcases hq with rfl|rfl
     . exact⟨rfl,by simp[ZO]⟩
     . exact⟨rfl,by simp[ZO]⟩
def W6 (c:Cfg) (nq:Nat) (fq:Nat->Int) (l:List AC):Nat:=Zy (fun p=>Z8 c nq fq p&&Zz (l.getD p ZV)) 8
def RR (c:Cfg) (nq:Nat) (fq:Nat->Int):Nat:=Zy (Z8 c nq fq) 8
abbrev UL (v:Vw):List AC:=[.v (.bool (v.inn 0)),.v (.bool (v.inn 1)),.v (.bool (v.inn 2)),.v (.bool (v.inn 3)),.v (.bool (v.inn 4)),.v (.bool (v.inn 5)),.v (.bool (v.inn 6)),.v (.bool (v.inn 7))]
theorem jjn2 (c:Cfg) (nq:Nat) (fq:Nat->Int) (v:Vw):W6 c nq fq (UL v)=Zy (Z3 c nq fq v) 8:=
 Lc fun i hi=>by
  have:Zz ((UL v).getD i ZV)=v.inn i:=by
   match i,hi with
   |0,_=>rfl
   |1,_=>rfl
   |2,_=>rfl
   |3,_=>rfl
   |4,_=>rfl
   |5,_=>rfl
   |6,_=>rfl
   |7,_=>rfl
  simp only[Z3,this]
def PY (c:Cfg) (nq:Nat) (fq:Nat->Int) (l:List AC) (_:List AV):AV:=.tup [i64 (Int.ofNat (W6 c nq fq (l.take 8))),i64 (Int.ofNat (RR c nq fq))]
theorem mdIn (c:Cfg) (nq:Nat) (fq:Nat->Int) (v:Vw) (Q:VF->Prop) (H:Q (.tup [.c (zI (Int.ofNat (Zy (Z3 c nq fq v) 8))),.c (zI (Int.ofNat (Zy (Z8 c nq fq) 8)))],[],100000000000000000000000000000000000000000000000004,[],[LoopV prog (ZW prog 118 0) [0,3,4,5,7] (Yc++[1000]) [some (.c (.ptr 5 0 0)),some (.c (.ptr 1000 0 0)),some (.c (zI (Int.ofNat 0))),some (.c (zI (Int.ofNat 0))),some (.c (zI (Int.ofNat 0)))] [yF 172 0 (Cs.lit [zI (Int.ofNat 1),zI (Int.negSucc 0)]),yF 3 1 (yP c),yF 3 1 (yS c),yF 3 1 (yB c),yF 70 3 (yT c),yF 3 1 (Cs.arr nq fun k=>List.map AC.v ((fun i=>[Value.int .i64 (fq i)]) k)),yF 81 0 (Cs.lit [zI c.nodes,AC.sl 0 0 0 c.np none,AC.sl 1 0 0 c.ns none,zI c.long,AC.sl 2 0 0 c.nb none,AC.sl 3 0 0 c.nt none,zI c.miss,zI c.good,zI c.fresh,AC.sl 4 0 0 nq none]),yR 32 0 (Cs.lit (ZX v))] 25 1004 (ZQ 25 [(4,i64 (Int.ofNat (Zy (Z3 c nq fq v) 8))),(5,i64 (Int.ofNat (Zy (Z8 c nq fq) 8)))]) [] 100000000000000000000000000000000000000000000000000 (Exit.exit 0) none])):
 ∃p r,QZ (Q6 prog) 118 c nq fq v [] p [some ⟨[0,3,4,5,7],Yc++[1000],ZQ 25 [(4,i64 (Int.ofNat (Zy (Z3 c nq fq v) 8))),(5,i64 (Int.ofNat (Zy (Z8 c nq fq) 8)))],[],100000000000000000000000000000000000000000000000000,.exit 0⟩]=some r/\Q r:=
 ⟨pD 0 0,_,by kernel_rfl,H⟩
theorem jjny:ZA prog 118 (Y9 netRd (rV PY) (pV fun _ r=>r.isEmpty)):=by
 refine ID (E:=Q6 prog) Nd ⟨_,_,Tryz.func118,rfl⟩ (fun _ _ _ _ _=>rfl) fun c nq fq v r hr=>?_
 obtain rfl:=List.isEmpty_iff.1 hr;refine(?_:(∃p q,QZ (Q6 prog) 118 c nq fq v [] p [some ⟨[0,3,4,5,7],Yc++[1000],ZQ 25 [(4,i64 (Int.ofNat (Zy (Z3 c nq fq v) 8))),(5,i64 (Int.ofNat (Zy (Z8 c nq fq) 8)))],[],100000000000000000000000000000000000000000000000000,.exit 0⟩]=some q/\Z6 (PY c nq fq (ZX v) []) q)->_) (mdIn c nq fq v _ ?_)
 . rintro⟨p,q,h1,h2⟩
   exact⟨p,_,q,h1,h2⟩
 . refine⟨by simp only[PY,i64,RR];rw[<- jjn2];rfl,(by first|(unfold ZR;omega)|(dsimp only;unfold ZR;omega)),by simp[ZZ],fun q hq=>?_⟩
   rw[List.mem_singleton.1 hq];exact jjq9 c nq fq v (BL.refl _)
def GX:Yk:=Y9 netRd (rV PY) (pV fun _ r=>r.isEmpty)
def MF (P:Program):Env:=⟨P,[(118,GX)]⟩
theorem BR:ZC (MF prog):=by
 refine Xf (fun f g h=>?_) (by kernel_rfl) (by kernel_rfl);simp only[MF,List.mem_cons,Prod.mk.injEq,List.not_mem_nil,or_false] at h;obtain⟨rfl,rfl⟩:=h;exact jjny
def Tg (is all:Nat) (cmd:Int):Int:=if cmd<0\/is=0 then 4 else if is=all then 1 else if is=1 then 3 else 2
def X4 (c:Cfg) (nq:Nat) (fq:Nat->Int) (l:List AC) (cmd:Int):Int:=Tg (W6 c nq fq l) (RR c nq fq) cmd
def MN (c:Cfg) (nq:Nat) (fq:Nat->Int) (l:List AC) (_:List AV):AV:=.c (.v (.int .u8 (X4 c nq fq (l.take 8) (ZP (l.getD 40 ZV)))))
theorem mdAs (c:Cfg) (nq:Nat) (fq:Nat->Int) (v:Vw) (Q:VF->Prop) (H:let zN:=Int.ofNat;let zq0:List Bool:=true::true::(Zf c nq fq)::(zu (zt (y3 (true::[]))));let zq1:List Bool:=(decide (Vw.command v<zN 0)==false)::zq0;let zq2:List Bool:=((zN (W6 c nq fq (UL v))==zN 0)==false)::zq1;let zq3:List Bool:=((zN (W6 c nq fq (UL v))==zN (RR c nq fq))==false)::zq2;(((decide (Vw.command v<zN 0))=true->Q (.c (zU (zN 4)),[],1016,((decide (Vw.command v<zN 0)==true)::zq0),[]))/\((decide (Vw.command v<zN 0))=false->(((zN (W6 c nq fq (UL v))==zN 0)=true->Q (.c (zU (zN 4)),[],1018,(((zN (W6 c nq fq (UL v))==zN 0)==true)::zq1),[]))/\((zN (W6 c nq fq (UL v))==zN 0)=false->(((zN (W6 c nq fq (UL v))==zN (RR c nq fq))=true->Q (.c (zU (zN 1)),[],1022,(((zN (W6 c nq fq (UL v))==zN (RR c nq fq))==true)::zq2),[]))/\((zN (W6 c nq fq (UL v))==zN (RR c nq fq))=false->(((zN (W6 c nq fq (UL v))==zN 1)=true->Q (.c (zU (zN 3)),[],1025,(((zN (W6 c nq fq (UL v))==zN 1)==true)::zq3),[]))/\((zN (W6 c nq fq (UL v))==zN 1)=false->Q (.c (zU (zN 2)),[],1025,(((zN (W6 c nq fq (UL v))==zN 1)==false)::zq3),[])))))))))):
 ∃p r,QZ (MF prog) 106 c nq fq v [] p []=some r/\Q r:=
 ZD H (fun g1=>⟨pD 3 1,_,by kernel_rfl,g1⟩) (fun g1=>ZD g1 (fun g2=>⟨pD 3 11,_,by kernel_rfl,g2⟩) (fun g2=>ZD g2 (fun g3=>⟨pD 4 47,_,by kernel_rfl,g3⟩) (fun g3=>ZD g3 (fun g4=>⟨pD 5 155,_,by kernel_rfl,g4⟩) (fun g4=>⟨pD 5 236,_,by kernel_rfl,g4⟩))))
def MR:Yk:=Y9 netRd (rV MN) (pV fun _ r=>r.isEmpty)
theorem jjo3:ZA prog 106 MR:=by
 refine ID (E:=MF prog) BR ⟨_,_,Tryz.func106,rfl⟩ (fun _ _ _ _ _=>rfl) fun c nq fq v r hr=>?_
 obtain rfl:=List.isEmpty_iff.1 hr;refine(?_:(∃p q,QZ (MF prog) 106 c nq fq v [] p []=some q/\Z6 (MN c nq fq (ZX v) []) q)->_) (mdAs c nq fq v _ ?_)
 . rintro⟨p,q,h1,h2⟩
   exact⟨p,_,q,h1,h2⟩
 . have hr:MN c nq fq (ZX v) []= .c (.v (.int .u8 (Tg (W6 c nq fq (UL v)) (RR c nq fq) v.command))):=rfl
   rw[hr];generalize W6 c nq fq (UL v)=i;generalize RR c nq fq=a
   (repeat' (first|refine⟨fun h=>?_,fun h=>?_⟩|fail))
   all_goals (refine⟨?_,(by first|(unfold ZR;omega)|(dsimp only;unfold ZR;omega)),?_,by simp⟩)
   all_goals (first|(simp_all[Tg];done)|(simp_all[Tg];omega)|(simp_all[ZZ,Yb,YN,Yi,Ya,XZ,Y0,Vr,WI,YK,Vw.len];done)|(simp_all[ZZ,Yb,YN,Yi,Ya,XZ,Y0,Vr,WI,YK,Vw.len];omega))
abbrev edgeL:List Bool:=[true,true,true,true,true,false,true,true,true,true,false,true,true,true,true,false,false,true,true,true,false,false,false,true,true]
def Za:ABlk:=⟨false,false,198,0,.lit (edgeL.map fun b=>.v (.bool b))⟩
def mE:AMem:=[(Z2 1,Za)]
def VY (a b:Int):Bool:=decide (b<5)&&edgeL.getD ((if 5<=a then 0 else a.toNat)*5+b.toNat) false
def edR (P:Program) (a b:Int) (path:List Dec):Option VF:=ZB [] (ZM (E1 P) (fC (E1 P) 300) 107 [.c (.v (.int .u8 a)),.c (.v (.int .u8 b))] 1000 nSt (XW mE path []))
theorem ed (a b:Int) (Q:VF->Prop) (H:let zN:=Int.ofNat;let zD:=Int.toNat;let zs0:=fun (l:List AC)=>zB true::zB true::zB true::zB true::zB true::zB false::zB true::zB true::zB true::zB true::zB false::zB true::zB true::zB true::zB true::zB false::zB false::zB true::zB true::zB true::zB false::zB false::zB false::zB true::zB true::l;(((decide (a≥zN 5))=true->(((decide (b<zN 5))=true->Q (.c (zB (Zz (List.getD (zs0 []) (0+zD b*1) ZV))),[],1014,[ABlk.inb (ABlk.mk false false 198 0 (Cs.lit (zs0 []))) 0 (0+zD b*1+1),Z5 Kd.b (List.getD (zs0 []) (0+zD b*1) ZV),decide (zN 0<=b/\b<zN 5),true,decide (b<zN 5)==true,decide (a≥zN 5)==true],[]))/\((decide (b<zN 5))=false->Q (.c (zB false),[],1009,[decide (b<zN 5)==false,decide (a≥zN 5)==true],[]))))/\((decide (a≥zN 5))=false->(((decide (b<zN 5))=true->Q (.c (zB (Zz (List.getD (zs0 []) (0+zD a*5+zD b*1) ZV))),[],1013,[ABlk.inb (ABlk.mk false false 198 0 (Cs.lit (zs0 []))) 0 (0+zD a*5+zD b*1+1),Z5 Kd.b (List.getD (zs0 []) (0+zD a*5+zD b*1) ZV),decide (zN 0<=b/\b<zN 5),decide (zN 0<=a/\a<zN 5),decide (b<zN 5)==true,decide (a≥zN 5)==false],[]))/\((decide (b<zN 5))=false->Q (.c (zB false),[],1008,[decide (b<zN 5)==false,decide (a≥zN 5)==false],[])))))):
 ∃p r,edR prog a b p=some r/\Q r:=
 ZD H (fun g1=>ZD g1 (fun g2=>⟨pD 6 4,_,by kernel_rfl,g2⟩) (fun g2=>⟨pD 6 7,_,by kernel_rfl,g2⟩)) (fun g1=>ZD g1 (fun g2=>⟨pD 6 5,_,by kernel_rfl,g2⟩) (fun g2=>⟨pD 6 8,_,by kernel_rfl,g2⟩))
theorem DW (a b:Nat) (ha:a<5) (hb:b<5):Zz (List.getD (edgeL.map fun b=>AC.v (.bool b)) (a*5+b) ZV)=edgeL.getD (a*5+b) false/\Z5 .b (List.getD (edgeL.map fun b=>AC.v (.bool b)) (a*5+b) ZV)=true:=by
 have h:a*5+b<25:=by omega
 generalize a*5+b=k at h
 match k,h with
 |0,_=>exact⟨rfl,rfl⟩
 |1,_=>exact⟨rfl,rfl⟩
 |2,_=>exact⟨rfl,rfl⟩
 |3,_=>exact⟨rfl,rfl⟩
 |4,_=>exact⟨rfl,rfl⟩
 |5,_=>exact⟨rfl,rfl⟩
 |6,_=>exact⟨rfl,rfl⟩
 |7,_=>exact⟨rfl,rfl⟩
 |8,_=>exact⟨rfl,rfl⟩
 |9,_=>exact⟨rfl,rfl⟩
 |10,_=>exact⟨rfl,rfl⟩
 |11,_=>exact⟨rfl,rfl⟩
 |12,_=>exact⟨rfl,rfl⟩
 |13,_=>exact⟨rfl,rfl⟩
 |14,_=>exact⟨rfl,rfl⟩
 |15,_=>exact⟨rfl,rfl⟩
 |16,_=>exact⟨rfl,rfl⟩
 |17,_=>exact⟨rfl,rfl⟩
 |18,_=>exact⟨rfl,rfl⟩
 |19,_=>exact⟨rfl,rfl⟩
 |20,_=>exact⟨rfl,rfl⟩
 |21,_=>exact⟨rfl,rfl⟩
 |22,_=>exact⟨rfl,rfl⟩
 |23,_=>exact⟨rfl,rfl⟩
 |24,_=>exact⟨rfl,rfl⟩
 |n+25,h=>exact absurd h (by omega)
def MS:Yk:=Y9 (X2 mE (by kernel_rfl)) (fun| [.c (.v (.int .u8 a)),.c (.v (.int .u8 b))]=>bo (VY a b)|_=>bo false) (fun| [.c (.v (.int .u8 a)),.c (.v (.int .u8 b))]=>decide (0<=a)&&decide (0<=b)|_=>false)
theorem jjqn:edgeL.map (fun b=>AC.v (.bool b))=[.v (.bool true),.v (.bool true),.v (.bool true),.v (.bool true),.v (.bool true),.v (.bool false),.v (.bool true),.v (.bool true),.v (.bool true),.v (.bool true),.v (.bool false),.v (.bool true),.v (.bool true),.v (.bool true),.v (.bool true),.v (.bool false),.v (.bool false),.v (.bool true),.v (.bool true),.v (.bool true),.v (.bool false),.v (.bool false),.v (.bool false),.v (.bool true),.v (.bool true)]:=rfl
theorem jjo1:ZA prog 107 MS:=by
 refine U3 (E:=E1 prog) Vk (X2 mE (by kernel_rfl)) (fuel:=300) (str:=nSt) ⟨_,_,Tryz.func107,rfl⟩ (fun s=>by split<;>rfl) fun s hs=>?_
 split at hs
 . rename_i a b
   simp only[Bool.and_eq_true,decide_eq_true_eq] at hs;obtain⟨a0,b0⟩:=hs;refine(?_:(∃p q,edR prog a b p=some q/\Z6 (bo (VY a b)) q)->_) (ed a b _ ?_)
   . rintro⟨p,q,h1,h2⟩
     exact⟨p,_,q,h1,h2⟩
   . obtain⟨x,rfl⟩:=Int.eq_ofNat_of_zero_le a0
     obtain⟨y,rfl⟩:=Int.eq_ofNat_of_zero_le b0;simp only[<- jjqn];refine⟨fun h1=>⟨fun h2=>?_,fun h2=>?_⟩,fun h1=>⟨fun h2=>?_,fun h2=>?_⟩⟩
     . have h1':(5:Int)<=(x:Int):=by simpa using h1
       have h2':(y:Int)<5:=by simpa using h2
       have e:=DW 0 y (by omega) (by omega);simp only[Nat.zero_mul] at e;refine⟨?_,(by first|(unfold ZR;omega)|(dsimp only;unfold ZR;omega)),?_,by simp⟩
       . simp only[VY,Int.toNat_natCast,Nat.mul_one,e.1]
         simp[bo,h1',h2']
       . simp only[ZZ,List.forall_mem_cons,Int.toNat_natCast,Nat.mul_one,e.2]
         simp[WI,h1',h2'];omega
     . have h2':¬(y:Int)<5:=by simpa using h2
       refine⟨by simp[bo,VY,h2'],(by first|(unfold ZR;omega)|(dsimp only;unfold ZR;omega)),by simp[ZZ,h1,h2];simp at h1 h2;omega,by simp⟩
     . have h1':¬(5:Int)<=(x:Int):=by simpa using h1
       have h2':(y:Int)<5:=by simpa using h2
       have e:=DW x y (by omega) (by omega);refine⟨?_,(by first|(unfold ZR;omega)|(dsimp only;unfold ZR;omega)),?_,by simp⟩
       . simp only[VY,Int.toNat_natCast,Nat.mul_one,Nat.zero_add,e.1]
         simp[bo,h1',h2']
       . simp only[ZZ,List.forall_mem_cons,Int.toNat_natCast,Nat.mul_one,Nat.zero_add,e.2]
         simp[WI,h1',h2'];omega
     . have h2':¬(y:Int)<5:=by simpa using h2
       refine⟨by simp[bo,VY,h2'],(by first|(unfold ZR;omega)|(dsimp only;unfold ZR;omega)),by simp[ZZ,h1,h2];simp at h1 h2;omega,by simp⟩
 . cases hs
def SH:AMem:=mS++mE
def MG (P:Program):Env:=⟨P,[(106,MR),(107,MS)]⟩
theorem BX:ZC (MG prog):=by
 refine Xf (fun f g h=>?_) (by kernel_rfl) (by kernel_rfl);simp only[MG,List.mem_cons,Prod.mk.injEq,List.not_mem_nil,or_false] at h;rcases h with⟨rfl,rfl⟩|⟨rfl,rfl⟩
 . exact jjo3
 . exact jjo1
def VD (to mode:Int):Int:=if VY mode to=true then to else IntKind.wrap .u8 (mode-1)
def O3 (c:Cfg) (nq:Nat) (fq:Nat->Int) (l:List AC) (_:List AV):AV:=.c (.v (.int .u8 (VD (X4 c nq fq (l.take 8) (ZP (l.getD 40 ZV))) (ZP (l.getD 41 ZV)))))
def Mq (G:AMem) (E:Env) (f:FuncId) (c:Cfg) (nq:Nat) (fq:Nat->Int) (v:Vw) (r:List AV) (path:List Dec) (lp:List (Option Zl)):Option VF:=ZB [] (ZM E (fC E 300) f (.c (.ptr 5 0 0):: .agg (ZX v)::r) 1000 nSt (XW (G++Xg c nq fq) path lp))
theorem mdNx (c:Cfg) (nq:Nat) (fq:Nat->Int) (v:Vw) (Q:VF->Prop) (H:let zs0:=fun (l:List AV)=>AV.c (AC.v (Value.int IntKind.u8 (Vw.mode v)))::AV.c (AC.v (Value.int IntKind.u8 (X4 c nq fq (UL v) (Vw.command v))))::l;(((VY (Vw.mode v) (X4 c nq fq (UL v) (Vw.command v)))=true->Q (AV.c (AC.v (Value.int IntKind.u8 (X4 c nq fq (UL v) (Vw.command v)))),[],1010,[VY (Vw.mode v) (X4 c nq fq (UL v) (Vw.command v))==true,true,match (zs0 []) with| [AV.c (AC.v (Value.int IntKind.u8 a)),AV.c (AC.v (Value.int IntKind.u8 b))]=>decide (0<=a)&&decide (0<=b)|x=>false,true,true,Zf c nq fq,true,true,true,true,true,true,true,true,true,true,true,true,true,true,true,true,true,true,true,true,true,true,true,true,true,true,true,true,true,true,true,true,true,true,true,true,true,true,true,true,true,true,true,true],[]))/\((VY (Vw.mode v) (X4 c nq fq (UL v) (Vw.command v)))=false->Q (AV.c (AC.v (Value.int IntKind.u8 (IntKind.wrap IntKind.u8 (Vw.mode v-Int.ofNat 1)))),[],1012,[true,true,VY (Vw.mode v) (X4 c nq fq (UL v) (Vw.command v))==false,true,match (zs0 []) with| [AV.c (AC.v (Value.int IntKind.u8 a)),AV.c (AC.v (Value.int IntKind.u8 b))]=>decide (0<=a)&&decide (0<=b)|x=>false,true,true,Zf c nq fq,true,true,true,true,true,true,true,true,true,true,true,true,true,true,true,true,true,true,true,true,true,true,true,true,true,true,true,true,true,true,true,true,true,true,true,true,true,true,true,true,true,true,true,true],[])))):
 ∃p r,Mq SH (MG prog) 70 c nq fq v [] p []=some r/\Q r:=
 ZD H (fun g1=>⟨pD 1 1,_,by kernel_rfl,g1⟩) (fun g1=>⟨pD 1 2,_,by kernel_rfl,g1⟩)
def N2:Yk:=Y9 (XG SH (by kernel_rfl)) (rV O3) (pV fun l r=>r.isEmpty&&decide (0<=ZP (l.getD 41 ZV)))
theorem jjgw (i a:Nat) (c:Int):1<=Tg i a c/\Tg i a c<=4:=by
 unfold Tg
 repeat' split
 all_goals omega
theorem HT (c:Cfg) (nq:Nat) (fq:Nat->Int) (l:List AC) (cmd:Int):1<=X4 c nq fq l cmd/\X4 c nq fq l cmd<=4:=jjgw _ _ _
theorem jjkk:ZA prog 70 N2:=by
 refine DY (G:=SH) (by kernel_rfl) (E:=MG prog) BX ⟨_,_,Tryz.func70,rfl⟩ (fun _ _ _ _ _=>rfl) fun c nq fq v r hr=>?_
 simp only[Bool.and_eq_true,decide_eq_true_eq] at hr;obtain⟨hr,h0⟩:=hr;have h0:0<=v.mode:=h0;obtain rfl:=List.isEmpty_iff.1 hr;refine(?_:(∃p q,Mq SH (MG prog) 70 c nq fq v [] p []=some q/\Z6 (O3 c nq fq (ZX v) []) q)->_) (mdNx c nq fq v _ ?_)
 . rintro⟨p,q,h1,h2⟩
   exact⟨p,_,q,h1,h2⟩
 . have hr:O3 c nq fq (ZX v) []= .c (.v (.int .u8 (VD (X4 c nq fq (UL v) v.command) v.mode))):=rfl
   have ha:=HT c nq fq (UL v) v.command;rw[hr];generalize X4 c nq fq (UL v) v.command=a at *
   (repeat' (first|refine⟨fun h=>?_,fun h=>?_⟩|fail))
   all_goals (refine⟨?_,(by first|(unfold ZR;omega)|(dsimp only;unfold ZR;omega)),?_,by simp⟩)
   . simp[VD,h]
   . simp[ZZ,Yb,YN,Yi,Ya,XZ,Y0,h,h0];omega
   . simp[VD,h]
   . simp[ZZ,Yb,YN,Yi,Ya,XZ,Y0,h,h0];omega
theorem jjq4 (c:Cfg) (nq:Nat) (fq:Nat->Int) (z:Int) (Q:VF->Prop) (H:let zN:=Int.ofNat;(((!decide (↑nq>zN 0))=true->Q (.c (zI (Int.negSucc 0)),[],1016,[(!decide (↑nq>zN 0))==true,true],[]))/\((!decide (↑nq>zN 0))=false->(((decide (z<zN 0))=true->Q (.c (zI (Int.negSucc 0)),[],1028,[decide (z<zN 0)==true,true,(!decide (↑nq>zN 0))==false,true],[]))/\((decide (z<zN 0))=false->(((decide (z≥ ↑(c.ns)))=true->Q (.c (zI (Int.negSucc 0)),[],1032,[decide (z≥ ↑(c.ns))==true,decide (z<zN 0)==false,true,(!decide (↑nq>zN 0))==false,true],[]))/\((decide (z≥ ↑(c.ns)))=false->Q (.c (zI (c.fs (0+Int.toNat z))),[],1036,[ABlk.inb (ABlk.mk false false 3 1 (yS c)) (0+Int.toNat z) 1,true,decide (zN 0<=z/\z < ↑(c.ns)),decide (z≥ ↑(c.ns))==false,decide (z<zN 0)==false,true,(!decide (↑nq>zN 0))==false,true],[])))))))):
 ∃p r,Pr prog 33 c nq fq [z] p=some r/\Q r:=
 ZD H (fun g1=>⟨pD 7 729,_,by kernel_rfl,g1⟩) (fun g1=>ZD g1 (fun g2=>⟨pD 12 3645,_,by kernel_rfl,g2⟩) (fun g2=>ZD g2 (fun g3=>⟨pD 12 182979,_,by kernel_rfl,g3⟩) (fun g3=>⟨pD 12 360126,_,by kernel_rfl,g3⟩)))
def X0 (c:Cfg) (nq:Nat) (_:Nat->Int) (z:Int):Int:=if nq=0 then -1 else Ky c.fs c.ns z
theorem jjkj:ZA prog 33 (Uj (fun c nq fq zs=>i64 (X0 c nq fq (zs.headD 0))) fun c nq fq zs=>true&&decide (zs.length=1)):=by
 refine Id ⟨_,_,Tryz.func33,rfl⟩ (fun c nq fq zs=>Ux _) 1 fun c nq fq zs _ hz=>?_
 obtain⟨z,rfl⟩:=List.length_eq_one_iff.1 hz;refine(?_:(∃p r,Pr prog 33 c nq fq [z] p=some r/\(r.1=i64 (X0 c nq fq z)/\r.2.2.1<=ZR/\ZZ r.2.2.2.1/\∀q∈r.2.2.2.2,q))->_) (jjq4 c nq fq z _ ?_)
 . rintro⟨p,r,h1,h2⟩
   exact⟨E1 prog,300,nSt,rfl,Vk,p,[],r,h1,h2⟩
 . repeat' (first|refine⟨fun h=>?_,fun h=>?_⟩|fail)
   all_goals (refine⟨?_,(by first|(unfold ZR;omega)|(dsimp only;unfold ZR;omega)),?_,by simp⟩)
   all_goals (simp only[Int.ofNat_eq_natCast] at *)
   all_goals (first
    |(show i64 _=i64 _;unfold X0 Ky;simp at *;first|(rw[if_pos (by omega)];done)|(rw[if_neg (by omega),if_neg (by omega)];done)|(rw[if_neg (by omega),if_pos (by omega)];done)|(intros;omega)|(split<;>first|rfl|omega))
    |(simp at *;simp[ZZ,YK];omega))
theorem jjq3 (c:Cfg) (nq:Nat) (fq:Nat->Int) (Q:VF->Prop) (H:(((!decide (↑nq>Int.ofNat 0))=true->Q (.c (zI (Int.ofNat 0)),[],1016,[(!decide (↑nq>Int.ofNat 0))==true,true],[]))/\((!decide (↑nq>Int.ofNat 0))=false->Q (.c (zI (IntKind.wrap .i64 (↑(c.ns)*c.long))),[],130000000000000000000000000000000000001015,[true,true,true,(!decide (↑nq>Int.ofNat 0))==false,true],[])))):
 ∃p r,Pr prog 18 c nq fq [] p=some r/\Q r:=
 ZD H (fun g1=>⟨pD 7 729,_,by kernel_rfl,g1⟩) (fun g1=>⟨pD 7 1458,_,by kernel_rfl,g1⟩)
theorem LC:ZA prog 18 (Uj (fun c nq _ _=>i64 (Zq c nq)) fun c nq fq zs=>true&&decide (zs.length=0)):=by
 refine Id ⟨_,_,Tryz.func18,rfl⟩ (fun c nq fq zs=>Ux _) 0 fun c nq fq zs _ hz=>?_
 obtain rfl:=List.length_eq_zero_iff.1 hz;refine(?_:(∃p r,Pr prog 18 c nq fq [] p=some r/\(r.1=i64 (Zq c nq)/\r.2.2.1<=ZR/\ZZ r.2.2.2.1/\∀q∈r.2.2.2.2,q))->_) (jjq3 c nq fq _ ?_)
 . rintro⟨p,r,h1,h2⟩
   exact⟨E1 prog,300,nSt,rfl,Vk,p,[],r,h1,h2⟩
 . refine⟨fun h=>?_,fun h=>?_⟩
   . refine⟨?_,(by first|(unfold ZR;omega)|(dsimp only;unfold ZR;omega)),?_,by simp⟩
     . show i64 _=i64 _
       simp at h;simp[Zq,h]
     . simp at h
       simp[ZZ,h]
   . refine⟨?_,(by first|(unfold ZR;omega)|(dsimp only;unfold ZR;omega)),?_,by simp⟩
     . show i64 _=i64 _
       simp at h;unfold Zq;rw[if_neg (by omega)]
     . simp at h
       simp[ZZ];omega
def JG:List (FuncId × Yk):=[(68,JE),(69,Jy),(70,N2),(18,Tn)]
def B3 (P:Program):Env:=⟨P,JG⟩
theorem hEBd:ZC (B3 prog):=by
 refine Xf (fun f g h=>?_) (by kernel_rfl) (by kernel_rfl);simp only[B3,JG,List.mem_cons,Prod.mk.injEq,List.not_mem_nil,or_false] at h;rcases h with⟨rfl,rfl⟩|⟨rfl,rfl⟩|⟨rfl,rfl⟩|⟨rfl,rfl⟩
 . exact jjqy
 . exact jjr7
 . exact jjkk
 . exact LC
theorem bdT (c:Cfg) (nq:Nat) (fq:Nat->Int) (v:Vw) (Q:VF->Prop) (H:let zz0:=(RN.mk (Cfg.np c) (Cfg.miss c) (Cfg.good c));Q (.agg (z8 (fun zk=>zB (Ub zz0 zk (Vw.inn v zk) (Vw.got v zk) (Vw.miss v zk) (Vw.good v zk))) (z8 (fun zk=>zU (Vc zz0 zk (Vw.got v zk) (Vw.miss v zk))) (z8 (fun zk=>zU (Vb zz0 zk (Vw.got v zk) (Vw.good v zk))) (z8 (fun zk=>zH (V8 zz0 zk (Vw.got v zk) (Vw.score v zk))) (z8 (fun zk=>zB (QX zz0 zk (Vw.got v zk))) [.v (.int .i8 (U1 c nq fq (ZX (Zh zz0 v)))),zU (VD (X4 c nq fq (z8 (fun zk=>zB (Ub zz0 zk (Vw.inn v zk) (Vw.got v zk) (Vw.miss v zk) (Vw.good v zk))) []) (U1 c nq fq (ZX (Zh zz0 v)))) (Vw.mode v))]))))),[],1017,(zu (zu (zt (zt (zt ((Zf c nq fq)::(pV (fun l r=>List.isEmpty r&&decide (0<=ZP (List.getD l 41 ZV))) (YF.mk c nq fq [.agg (z8 (fun zk=>zB (Ub zz0 zk (Vw.inn v zk) (Vw.got v zk) (Vw.miss v zk) (Vw.good v zk))) (z8 (fun zk=>zU (Vc zz0 zk (Vw.got v zk) (Vw.miss v zk))) (z8 (fun zk=>zU (Vb zz0 zk (Vw.got v zk) (Vw.good v zk))) (z8 (fun zk=>zH (V8 zz0 zk (Vw.got v zk) (Vw.score v zk))) (z8 (fun zk=>zB (QX zz0 zk (Vw.got v zk))) [.v (.int .i8 (U1 c nq fq (ZX (Zh zz0 v)))),zU (Vw.mode v)])))))]))::(zu (zt (y3 (true::((Zf c nq fq)::(pW KD (YF.mk c nq fq [AV.agg (ZX (Zh zz0 v))]))::(zu (zt (y3 (true::((Zf c nq fq)::(pX Mh (YF.mk c nq fq [AV.agg (ZX v)]))::(zu (zt (y3 ((((Zq c nq==Int.ofNat 0)==false)::(Zf c nq fq)::true::[]))))))))))))))))))))),[])):
 ∃p r,Mq SH (B3 prog) 30 c nq fq v [] p []=some r/\Q r:=
 ⟨pD 1 2,_,by kernel_rfl,H⟩
def Js (c:Cfg) (nq:Nat) (fq:Nat->Int) (v:Vw):Vw:={Zh ⟨c.np,c.miss,c.good⟩ v with command:=U1 c nq fq (ZX (Zh ⟨c.np,c.miss,c.good⟩ v)),mode:=VD (X4 c nq fq (UL (Zh ⟨c.np,c.miss,c.good⟩ v)) (U1 c nq fq (ZX (Zh ⟨c.np,c.miss,c.good⟩ v)))) v.mode}
def bdR (c:Cfg) (nq:Nat) (fq:Nat->Int) (l:List AC) (_:List AV):AV:=.agg (ZX (Js c nq fq (Zi l)))
def Kz (c:Cfg) (nq:Nat) (l:List AC) (r:List AV):Bool:=r.isEmpty&&(decide (c.np<=8)&&(WN c nq&&(QL l&&(decide (0<=ZP (l.getD 41 ZV))&&!(Zq c nq==Int.ofNat 0)))))
def PJ:Yk:=Y9 (XG SH (by kernel_rfl)) (rV bdR) (pX Kz)
theorem Bd (c:Cfg) (nq:Nat) (fq:Nat->Int) (l:List AC):pX Mh ⟨c,nq,fq,[.agg l]⟩=(W7 l&&(decide (c.np<=8)&&(WN c nq&&QL l))):=rfl
theorem Bc (c:Cfg) (nq:Nat) (fq:Nat->Int) (l:List AC):pW KD ⟨c,nq,fq,[.agg l]⟩=(W7 l&&(true&&decide (c.np<=8))):=rfl
theorem Bb {c:Cfg} {nq:Nat} {fq:Nat->Int} {l:List AC} {z:Int} (h1:W7 l=true) (h2:ZP (l.getD 41 ZV)=z) (hz:0<=z):pV (fun l r=>r.isEmpty&&decide (0<=ZP (l.getD 41 ZV))) ⟨c,nq,fq,[.agg l]⟩=true:=by
 show (W7 l&&(true&&decide (0<=ZP (l.getD 41 ZV))))=true;rw[h1,h2,decide_eq_true hz];rfl
theorem jjkm:ZA prog 30 PJ:=by
 refine DX (G:=SH) (by kernel_rfl) (E:=B3 prog) hEBd ⟨_,_,Tryz.func30,rfl⟩ (fun _ _ _ _ _=>rfl) fun c nq fq v r hr=>?_
 simp only[Kz,Bool.and_eq_true,decide_eq_true_eq,Bool.not_eq_true',List.isEmpty_iff] at hr;obtain⟨rfl,h8,hg,hp,hm,hz⟩:=hr;refine(?_:(∃p q,Mq SH (B3 prog) 30 c nq fq v [] p []=some q/\Z6 (bdR c nq fq (ZX v) []) q)->_) (bdT c nq fq v _ ?_)
 . rintro⟨p,q,h1,h2⟩
   exact⟨p,_,q,h1,h2⟩
 . have va:W7 (ZX v)=true:=Vr v
   have vb:W7 (ZX (Zh ⟨c.np,c.miss,c.good⟩ v))=true:=Vr _;refine⟨?_,(by first|(unfold ZR;omega)|(dsimp only;unfold ZR;omega)),?_,by simp⟩
   . show _=AV.agg (ZX (Js c nq fq (Zi (ZX v))))
     rfl
   . have n8:decide (c.np<=8)=true:=decide_eq_true h8
     simp only[ZZ,List.forall_mem_cons,List.not_mem_nil,false_implies,implies_true,and_true,true_and,Bd,Bc,va,vb,hp,hg,n8,hz,YN]
     repeat' apply And.intro
     all_goals first
      |rfl
      |exact Bb rfl rfl hm
      |(simp[Yb,YN,Yi,Ya,XZ,Y0];done)
def MI (P:Program):Env:=⟨P,[(59,WB)]⟩
theorem BZ:ZC (MI prog):=by
 refine Xf (fun f g h=>?_) (by kernel_rfl) (by kernel_rfl);simp only[MI,List.mem_cons,Prod.mk.injEq,List.not_mem_nil,or_false] at h;obtain⟨rfl,rfl⟩:=h;exact NB
theorem anSt (c:Cfg) (nq:Nat) (fq:Nat->Int) (z:Int) (Q:VF->Prop) (H:let zN:=Int.ofNat;let zM:=ABlk.mk;let zD:=Int.toNat;let zq0:List Bool:=zt (zt (y3 (true::true::((decide (zN 0<=zN 0/\zN 0<=Option.getD (some ↑(c.nt)) ↑(c.nt)/\Option.getD (some ↑(c.nt)) ↑(c.nt)<=YR none c.nt (some ↑(c.nt))))::true::(decide (YR none c.nt (some ↑(c.nt)) <= ↑(Option.getD none c.nt)))::true::(Zt none (zM true true 70 3 (Cs.arr c.nt fun k=>List.map AC.v ((fun i=>[Value.int .i64 (Station.node (YY (Zj (zM false false 70 3 (yT c)) 0 0 3) i)),Value.int .u32 (Station.safe (YY (Zj (zM false false 70 3 (yT c)) 0 0 3) i)),Value.int .i64 (Station.hold (YY (Zj (zM false false 70 3 (yT c)) 0 0 3) i))]) k))) 0 c.nt)::(decide (0+c.nt<=c.nt))::(decide (c.nt<=1000000))::(Yv c.nt fun k=>List.map AC.v ((fun i=>[Value.int .i64 (Station.node (c.ft i)),Value.int .u32 (Station.safe (c.ft i)),Value.int .i64 (Station.hold (c.ft i))]) k))::true::true::(decide (zN 0<=zN 0/\zN 0<=Option.getD (some ↑(0+c.nb)) ↑(0+c.nb)/\Option.getD (some ↑(0+c.nb)) ↑(0+c.nb)<=YR none (0+c.nb) (some ↑(0+c.nb))))::true::(decide (YR none (0+c.nb) (some ↑(0+c.nb)) <= ↑(Option.getD none (0+c.nb))))::true::(Zt none (zM true true 3 1 (Cs.arr (0+c.nb) fun i=>if i<0 then[] else YW (zM false false 3 1 (yB c)) 0 0 1 (i-0))) 0 (0+c.nb))::(decide (0+c.nb<=c.nb))::true::true::(decide ((0+c.nb)*8<=140737488355328))::(ABlk.inb (zM false false 3 1 (yB c)) 0 1)::y3 (true::(decide (zN 0<=zN 0/\zN 0<=Option.getD (some ↑(0+c.ns)) ↑(0+c.ns)/\Option.getD (some ↑(0+c.ns)) ↑(0+c.ns)<=YR none (0+c.ns) (some ↑(0+c.ns))))::true::(decide (YR none (0+c.ns) (some ↑(0+c.ns)) <= ↑(Option.getD none (0+c.ns))))::true::(Zt none (zM true true 3 1 (Cs.arr (0+c.ns) fun i=>if i<0 then[] else YW (zM false false 3 1 (yS c)) 0 0 1 (i-0))) 0 (0+c.ns))::(decide (0+c.ns<=c.ns))::true::true::(decide ((0+c.ns)*8<=140737488355328))::(ABlk.inb (zM false false 3 1 (yS c)) 0 1)::y3 (true::(decide (zN 0<=zN 0/\zN 0<=Option.getD (some ↑(0+c.np)) ↑(0+c.np)/\Option.getD (some ↑(0+c.np)) ↑(0+c.np)<=YR none (0+c.np) (some ↑(0+c.np))))::true::(decide (YR none (0+c.np) (some ↑(0+c.np)) <= ↑(Option.getD none (0+c.np))))::true::(Zt none (zM true true 3 1 (Cs.arr (0+c.np) fun i=>if i<0 then[] else YW (zM false false 3 1 (yP c)) 0 0 1 (i-0))) 0 (0+c.np))::(decide (0+c.np<=c.np))::true::true::(decide ((0+c.np)*8<=140737488355328))::(ABlk.inb (zM false false 3 1 (yP c)) 0 1)::(zt (true::(((!decide (↑nq>zN 0))==false)::true::[])))))))));let zq1:List Bool:=(decide (z<zN 0)==false)::zq0;(((decide (z<zN 0))=true->Q (.tup [.agg [zI (zN 0),zW (zN 0),zI (zN 0)],.c (zB false)],[],1137,(y3 (true::true::(decide (z<zN 0)==true)::zq0)),[]))/\((decide (z<zN 0))=false->(((decide (z≥ ↑(zD (Option.getD (some ↑(c.nt)) ↑(c.nt)-zN 0))))=true->Q (.tup [.agg [zI (zN 0),zW (zN 0),zI (zN 0)],.c (zB false)],[],1141,(y3 (true::true::(decide (z≥ ↑(zD (Option.getD (some ↑(c.nt)) ↑(c.nt)-zN 0)))==true)::zq1)),[]))/\((decide (z≥ ↑(zD (Option.getD (some ↑(c.nt)) ↑(c.nt)-zN 0))))=false->Q (.tup [.agg [zI (Station.node (YY (fun k=>List.map AC.v ((fun i=>[Value.int .i64 (Station.node (c.ft i)),Value.int .u32 (Station.safe (c.ft i)),Value.int .i64 (Station.hold (c.ft i))]) k)) (0+zD z))),zW (Station.safe (YY (fun k=>List.map AC.v ((fun i=>[Value.int .i64 (Station.node (c.ft i)),Value.int .u32 (Station.safe (c.ft i)),Value.int .i64 (Station.hold (c.ft i))]) k)) (0+zD z))),zI (Station.hold (YY (fun k=>List.map AC.v ((fun i=>[Value.int .i64 (Station.node (c.ft i)),Value.int .u32 (Station.safe (c.ft i)),Value.int .i64 (Station.hold (c.ft i))]) k)) (0+zD z)))],.c (zB true)],[],1144,(y3 (true::true::(ABlk.inb (zM true true 70 3 (Cs.arr c.nt fun k=>List.map AC.v ((fun i=>[Value.int .i64 (Station.node (YY (Zj (zM false false 70 3 (yT c)) 0 0 3) i)),Value.int .u32 (Station.safe (YY (Zj (zM false false 70 3 (yT c)) 0 0 3) i)),Value.int .i64 (Station.hold (YY (Zj (zM false false 70 3 (yT c)) 0 0 3) i))]) k))) (0+zD z) 3)::y3 ((decide (zN 0<=z/\z < ↑(zD (Option.getD (some ↑(c.nt)) ↑(c.nt)-zN 0))))::(decide (z≥ ↑(zD (Option.getD (some ↑(c.nt)) ↑(c.nt)-zN 0)))==false)::zq1))),[])))))):
 ∃p r,JX (MI prog) 72 c nq fq [i64 z] p []=some r/\Q r:=
 ZD H (fun g1=>⟨pD 19 4784427,_,by kernel_rfl,g1⟩) (fun g1=>ZD g1 (fun g2=>⟨pD 19 396987885,_,by kernel_rfl,g2⟩) (fun g2=>⟨pD 19 784408374,_,by kernel_rfl,g2⟩))
abbrev Un (a:Int) (k:Nat):ABlk:=WH 2 1 k fun i=>[.int .i64 (a+Int.ofNat i)]
abbrev Xi (a h:Int) (l k:Nat):List (Nat × AV):=[(0,i64 a),(1,i64 h),(5,.c (.sl 2000 0 0 l none)),(7,i64 h),(8,i64 (Int.ofNat k))]
def On (P:Program) (a h:Int) (l k:Nat) (path:List Dec):Option VC:=
 view [0,1,5,7,8] [2000,1000000000000000000000000000000000000000013] (fC (E1 P) 100 (ZW P 79 0) 1000000000000000000000000000000000000000000 nSt ⟨ZQ 24 (Xi a h l k),[(2000,Un a l)],0,0,false,path,[],[],[],none,[]⟩)
theorem anRd (a h:Int) (l k:Nat) (Q:VC->Prop) (H:let zN:=Int.ofNat;let zs0:=fun (zl:List (Option AV))=>some (ZO (Xi a h l k) 0)::some (ZO (Xi a h l k) (0+1))::some (ZO (Xi a h l k) (0+1+1+1+1+1))::some (ZO (Xi a h l k) (0+1+1+1+1+1+1+1))::zl;(((decide (zN k<h))=true->(((decide (IntKind.wrap .i64 (a+zN k)≥a))=true->Q (Exit.normal,[some (ZO (Xi a h l k) 0),some (ZO (Xi a h l k) (0+1)),some (.c (.sl 1000000000000000000000000000000000000000013 0 0 (l+1) none)),some (ZO (Xi a h l k) (0+1+1+1+1+1+1+1)),some (.c (zI (IntKind.wrap .i64 (zN k+zN 1))))],[none,yO 2 1 (Cs.arr (l+1) fun i=>if i<l then List.map AC.v ((fun i=>[Value.int .i64 (a+zN i)]) i) else YW (ABlk.mk true false 2 0 (Cs.lit [zI (IntKind.wrap .i64 (a+zN k))])) 0 0 1 (i-l))],24,1000000000000000000000000000000000000000017,[true,true,decide (l<=l),decide ((l+1)*8<=140737488355328),decide (IntKind.wrap .i64 (a+zN k)≥a)==true,decide (zN k<h)==true],[]))/\((decide (IntKind.wrap .i64 (a+zN k)≥a))=false->Q (Exit.normal,(zs0 [some (.c (zI (IntKind.wrap .i64 (zN k+zN 1))))]),[yO 2 1 (Cs.arr l fun k=>List.map AC.v ((fun i=>[Value.int .i64 (a+zN i)]) k)),none],24,1000000000000000000000000000000000000000010,[decide (IntKind.wrap .i64 (a+zN k)≥a)==false,decide (zN k<h)==true],[]))))/\((decide (zN k<h))=false->Q (Exit.exit 0,(zs0 [some (ZO (Xi a h l k) (0+1+1+1+1+1+1+1+1))]),[yO 2 1 (Cs.arr l fun k=>List.map AC.v ((fun i=>[Value.int .i64 (a+zN i)]) k)),none],24,1000000000000000000000000000000000000000001,[decide (zN k<h)==false],[])))):
 ∃p r,On prog a h l k p=some r/\Q r:=
 ZD H (fun g1=>ZD g1 (fun g2=>⟨pD 2 4,_,by kernel_rfl,g2⟩) (fun g2=>⟨pD 2 7,_,by kernel_rfl,g2⟩)) (fun g1=>⟨pD 1 2,_,by kernel_rfl,g1⟩)
theorem Fh (f:Nat->Int) (n:Nat) (v:Int) (N:Nat) (hN:1<=N) (hN2:N<=1000000000000000000000000000000000000000000) (hn:n<=1000000) (j:Nat) (hj:j<=n) (hmin:∀i,i<j->f i≠v) (hyes:j<n->f j=v) {e:Exit} {out:List (Nat × AV)}
 (hF:(j<n->e= .ret/\out=[(4,i64 (Int.ofNat j))])/\(j=n->e= .exit 0/\out=[])):
 LoopV prog (ZW prog 108 0) [0,1,7,8] [0] ((SU v n 0).map some) ([Zb 2 n f].map some) 19 N (ZQ 19 out) [] 100000000000000000000000000000000000000000000000000 e none:=by
 have e0:∀k:Nat,0+Int.toNat (Int.ofNat k)=k:=fun k=>by simp
 have hw:∀k,k<n->IntKind.wrap IntKind.i64 (Int.ofNat k+Int.ofNat 1)=Int.ofNat (k+1):=fun k hk=>by rw[Wu _ (by simp;omega) (by simp;omega)];rfl
 refine Rx Vk (fuel:=100) (str:=nSt) (nh:=1000000000000000000000000000000000000000000) [0,1,7,8] [4] [0] (SU v n) [Zb 2 n f] j hN2 (by decide) (by unfold ZR;omega) ?_ (fun _=>⟨rfl,rfl⟩) ?_ ?_ ?_ ?_ ?_
 . rcases Nat.lt_or_ge j n with h|h
   . rw[(hF.1 h).1];simp
   . rw[(hF.2 (by omega)).1];simp
 . simp[Zc];omega
 . intro k _
   simp[Wb,WZ,YI,XT,i64];omega
 . intro b hb
   rw[List.mem_singleton.1 hb];exact Rq
 . intro k hk
   have hm:=hmin k hk;refine ixl f n v k _ ⟨fun c1=>⟨fun c2=>?_,fun c2=>?_⟩,fun c1=>?_⟩<;>simp only[e0] at *
   . simp at c2;exact absurd c2.symm hm
   . have hlt:k<n:=by omega
     simp at c2;refine⟨⟨?_,rfl,by dsimp only;omega,rfl⟩,rfl,?_,BL.refl _⟩
     . simp only[ZZ,List.forall_mem_cons,e0]
       simp[YK,hlt,c2]
     . dsimp only;rw[hw k hlt];rfl
   . simp at c1;omega
 . refine ixl f n v j _ ⟨fun c1=>⟨fun c2=>?_,fun c2=>?_⟩,fun c1=>?_⟩<;>simp only[e0] at *
   . have hlt:j<n:=by simpa using c1
     obtain⟨rfl,rfl⟩:=hF.1 hlt;refine U4 ⟨?_,rfl,by dsimp only;omega,rfl⟩ rfl rfl ?_
     . simp only[ZZ,List.forall_mem_cons,e0]
       simp at c2;simp[YK,hlt,c2]
     . simp[i64]
   . have hlt:j<n:=by simpa using c1
     simp at c2;exact absurd (hyes hlt).symm c2
   . have hlt:¬j<n:=by simpa using c1
     obtain⟨rfl,rfl⟩:=hF.2 (by omega);refine Qv ⟨?_,rfl,by dsimp only;omega,rfl⟩ rfl;simp[ZZ];omega
theorem jj92 (f:Nat->Int) (n:Nat) (v:Int) (hn:n<=1000000):∃p lp r,ZB [] (ZM (E1 prog) (fC (E1 prog) 300) 78 (.c (.sl 0 0 0 n none)::[i64 v]) 1000 nSt (XW [(0,Zb 2 n f)] p lp))=some r/\
 r.1=bo (VZ f n v)/\r.2.2.1<=ZR/\ZZ r.2.2.2.1/\∀q∈r.2.2.2.2,q:=by
 obtain⟨j,hj,hmin,hyes⟩:=Qn n fun i=>f i==v
 have hmin':∀i,i<j->f i≠v:=fun i hi=>by simpa using hmin i hi
 rcases Nat.lt_or_ge j n with h|h
 . have hy:f j=v:=by simpa using hyes h
   refine⟨_,_,_,jj91 f n v j,?_,by dsimp only;unfold ZR;omega,by simp[ZZ],fun q hq=>?_⟩
   . have:VZ f n v=true:=List.any_eq_true.2 ⟨j,by simpa using h,by simp[hy]⟩
     simp[bo,this]
   . rw[List.mem_singleton.1 hq]
     exact Fh f n v _ (by omega) (by omega) hn j hj hmin' (fun _=>hy) ⟨fun _=>⟨rfl,rfl⟩,fun h=>by omega⟩
 . obtain rfl:j=n:=by omega
   refine⟨_,_,_,jjai f j v,?_,by dsimp only;unfold ZR;omega,by simp[ZZ],fun q hq=>?_⟩
   . have:VZ f j v=false:=List.any_eq_false.2 fun i hi=>by have:=hmin' i (by simpa using hi);simpa using this
     simp[bo,this]
   . rw[List.mem_singleton.1 hq]
     exact Fh f j v _ (by omega) (by omega) hn j hj hmin' (fun h=>by omega) ⟨fun h=>by omega,fun _=>⟨rfl,rfl⟩⟩
def VV:Yk
 | [.c a,.c (.v (.int .i64 v))],m,_=>match XH 1 m a with|some (n,F,b)=>some (bo (VZ (fA F) n v),[],0,[b,decide (n<=1000000),ZE n F])|none=>none
 |_,_,_=>none
theorem jjac:ZA prog 78 VV:=by
 refine⟨⟨_,_,Tryz.func78,rfl⟩,fun C β m m2 w args ib r news k' ob vs hct ho hs hr hfree hlim hv=>?_⟩;unfold VV at hct;split at hct
 . rename_i a v
   split at hct
   . rename_i n F b hsl
     simp only[Option.some.injEq,Prod.mk.injEq] at hct;obtain⟨rfl,rfl,rfl,rfl⟩:=hct;simp only[ZZ,List.forall_mem_cons,decide_eq_true_eq] at ho;obtain⟨rfl,o2,o3,_⟩:=ho;exact NT Vk hs hr hsl o3 hv (OY [.int .i64 v] rfl) (fun _ _ _ h=>h) 2 (jj92 (fA F) n v o2)
   . cases hct
 . cases hct
def YP (a:Int) (k:Nat):Nat:=min k (9223372036854775808-a).toNat
theorem CS (x:Int) (h0:9223372036854775808<=x) (h1:x<=18446744073709551615):IntKind.wrap IntKind.i64 x=x-18446744073709551616:=by
 simp only[IntKind.wrap,IntKind.bits,IntKind.signed]
 first|omega|(simp;omega)
theorem jjfx (a h:Int) (n:Nat) (hn:14<=n) (hn2:n<=2000) (h0:0<=h) (h1:h<=1000000) (a0: -9223372036854775808<=a) (a1:a<=9223372036854775807):
 LoopV prog (ZW prog 79 0) [0,1,5,7,8] [] [some (i64 a),some (i64 h),some (.c (.v (.slice none 0 0))),some (i64 h),some (i64 0)] [] 24 n
  (ZQ 24 [(5,.c (.sl 2000 0 0 (YP a h.toNat) none))]) [(2000,Un a (YP a h.toNat))] 100000000000000000000000000000000000000000000000000 (.exit 0) none:=by
 refine Pd Vk (fuel:=100) (S:=Nat) (inv:=fun k=>k<=h.toNat) (μ:=fun k=>h.toNat-k) (tmI:=fun k=>ZQ 24 (Xi a h (YP a k) k)) (mI:=fun k=>[(2000,Un a (YP a k))]) (nh:=1000000000000000000000000000000000000000000) (str:=nSt) (by omega) (by omega) (fun _ h=>by cases h) (s0:=0) (by omega) ?_ ?_
 . intro tm m g1 g2 g3
   simp only[List.map_cons,List.map_nil,List.cons.injEq,and_true] at g1;obtain⟨s0,s1,s5,s7,s8⟩:=g1;have e0:YP a 0=0:=by simp[YP]
   simp only[e0];refine UA (ρ:=fun _=>.inr 1) (by omega) (by omega) (by unfold ZR;omega) g3 ?_ ?_ ?_
   . simp[VO]
   . exact⟨.inr (.inr (.inl ⟨by omega,by omega,rfl,Nat.one_pos,_,rfl⟩)),trivial⟩
   . exact⟨⟨_,s0,by simp[i64],WP rfl⟩,⟨_,s1,by simp[i64],WP rfl⟩,⟨_,s5,by simp,M3 (by omega) (by omega) (by omega) rfl⟩,⟨_,s7,by simp[i64],WP rfl⟩,⟨_,s8,by simp[i64],WP rfl⟩,trivial⟩
 . intro k hk
   have hk1:IntKind.wrap IntKind.i64 (Int.ofNat k+Int.ofNat 1)=Int.ofNat (k+1):=by rw[Wu _ (by simp;omega) (by simp;omega)];rfl
   refine(?_:(∃p r,On prog a h (YP a k) k p=some r/\_)->_) (anRd a h (YP a k) k (fun r=>ZZ r.2.2.2.2.2.1/\r.2.2.2.2.2.2=[]/\r.2.2.2.2.1<=100000000000000000000000000000000000000000000000000/\
    ∀ st':St,[0,1,5,7,8].map (fun t=>st'.tm[t]?)=r.2.1->[2000,1000000000000000000000000000000000000000013].map (ZY st'.m)=r.2.2.1->st'.tm.length=r.2.2.2.1->
     ((r.1= .normal/\∃s',s'<=h.toNat/\h.toNat-s'<h.toNat-k/\Wk n 1000000000000000000000000000000000000000000 100000000000000000000000000000000000000000000000000 st'.tm st'.m (ZQ 24 (Xi a h (YP a s') s')) [(2000,Un a (YP a s'))])\/
      (r.1≠ .normal/\r.1= .exit 0/\Wk n 100000000000000000000000000000000000000000000000000 100000000000000000000000000000000000000000000000000 st'.tm st'.m (ZQ 24 [(5,.c (.sl 2000 0 0 (YP a h.toNat) none))]) [(2000,Un a (YP a h.toNat))]))) ⟨fun c1=>⟨fun c2=>?_,fun c2=>?_⟩,fun c1=>?_⟩)
   . rintro⟨p,⟨e,l,b,len,n1,ob,po⟩,hv,hob,hpo,hn1,hw⟩
     obtain⟨st,v1,v2,v3,v4,v6,v7,v8⟩:=P3 hv;exact⟨p,[],e,n1,st,v1,hn1,⟨by rw[v6];exact hob,by rw[v7];have hpo:po=[]:=hpo;rw[hpo];simp⟩,v8,hw st v2 v3 v4⟩
   . have hlt:(k:Int)<h:=by simpa using c1
     have hin:a+k<=9223372036854775807:=by
      rcases (show a+k<=9223372036854775807\/9223372036854775808<=a+k by omega) with h|h
      . exact h
      . exfalso
        have:=CS (a+Int.ofNat k) (by simp;omega) (by simp;omega);rw[this] at c2;simp at c2;omega
     have hw:IntKind.wrap .i64 (a+Int.ofNat k)=a+Int.ofNat k:=Wu _ (by simp;omega) (by simp;omega);have e1:YP a k=k:=by unfold YP;omega
     have e2:YP a (k+1)=k+1:=by unfold YP;omega
     refine⟨?_,rfl,by dsimp only;omega,fun st' v2 v3 v4=>.inl ⟨rfl,k+1,by omega,by omega,?_⟩⟩
     . simp only[ZZ,List.forall_mem_cons,hw]
       simp only[Int.ofNat_eq_natCast];simp[hlt];omega
     . rw[e2]
       rw[e1] at v2 v3;simp only[List.map_cons,List.map_nil,List.cons.injEq,and_true] at v2 v3;obtain⟨s0,s1,s5,s7,s8⟩:=v2;obtain⟨b22,b1013⟩:=v3;refine UA (ρ:=fun _=>.inl 1000000000000000000000000000000000000000013) (by omega) (by omega) (by unfold ZR;omega) v4 ?_ ?_ ?_
       . simp[VO]
       . exact⟨.inr (.inl ⟨by omega,by omega,1000000000000000000000000000000000000000013,_,rfl,b1013,Ii (f:=fun i=>[.int .i64 (a+Int.ofNat i)]) (g:=fun i=>[.int .i64 (a+Int.ofNat i)]) (l:=[.int .i64 (IntKind.wrap IntKind.i64 (a+Int.ofNat k))]) rfl (fun _ _=>rfl) (by simp only[hw]),Y8⟩),trivial⟩
       . exact⟨⟨_,s0,by simp[i64,ZO],WP rfl⟩,⟨_,s1,by simp[i64,ZO],WP rfl⟩,⟨_,s5,by simp,Vs (by omega) (by omega) (by omega) rfl⟩,⟨_,s7,by simp[i64,ZO],WP rfl⟩,⟨_,s8,by simp,WP (by rw[hk1])⟩,trivial⟩
   . have hlt:(k:Int)<h:=by simpa using c1
     have hout:9223372036854775808<=a+k:=by
      rcases (show a+k<=9223372036854775807\/9223372036854775808<=a+k by omega) with h|h
      . exfalso
        rw[Wu _ (by simp;omega) (by simp;omega)] at c2;simp at c2;omega
      . exact h
     have e2:YP a (k+1)=YP a k:=by unfold YP;omega
     refine⟨?_,rfl,by dsimp only;omega,fun st' v2 v3 v4=>.inl ⟨rfl,k+1,by omega,by omega,?_⟩⟩
     . have hwo:IntKind.wrap IntKind.i64 (a+(k:Int))=a+k-18446744073709551616:=CS _ (by omega) (by omega)
       simp[ZZ,hwo];omega
     . rw[e2]
       simp only[List.map_cons,List.map_nil,List.cons.injEq,and_true] at v2 v3;obtain⟨s0,s1,s5,s7,s8⟩:=v2;obtain⟨b22,b1013⟩:=v3;refine UA (ρ:=fun _=>.inl 2000) (by omega) (by omega) (by unfold ZR;omega) v4 ?_ ?_ ?_
       . simp[VO]
       . exact⟨.inr (.inl ⟨by omega,by omega,2000,_,rfl,b22,⟨rfl,rfl,rfl,rfl,.inr (.inl ⟨_,_,_,rfl,rfl,fun _ _=>rfl⟩)⟩,Y8⟩),trivial⟩
       . exact⟨⟨_,s0,by simp[i64,ZO],WP rfl⟩,⟨_,s1,by simp[i64,ZO],WP rfl⟩,⟨_,s5,by simp[ZO],Vs (by omega) (by omega) (by omega) rfl⟩,⟨_,s7,by simp[i64,ZO],WP rfl⟩,⟨_,s8,by simp,WP (by rw[hk1])⟩,trivial⟩
   . have hlt:¬(k:Int)<h:=by simpa using c1
     obtain rfl:k=h.toNat:=by omega
     refine⟨?_,rfl,by dsimp only;omega,fun st' v2 v3 v4=>.inr ⟨by simp,rfl,?_⟩⟩
     . simp[ZZ];omega
     . simp only[List.map_cons,List.map_nil,List.cons.injEq,and_true] at v2 v3
       obtain⟨s0,s1,s5,s7,s8⟩:=v2;obtain⟨b22,b1013⟩:=v3;refine UA (ρ:=fun _=>.inl 2000) (by omega) (by omega) (by unfold ZR;omega) v4 ?_ ?_ ?_
       . simp[VO]
       . exact⟨.inr (.inl ⟨by omega,by omega,2000,_,rfl,b22,⟨rfl,rfl,rfl,rfl,.inr (.inl ⟨_,_,_,rfl,rfl,fun _ _=>rfl⟩)⟩,Y8⟩),trivial⟩
       . exact⟨⟨_,s5,by simp[ZO],Vs (by omega) (by omega) (by omega) rfl⟩,trivial⟩
def Jj (a h:Int):Zl:=⟨[0,1,5,7,8],[],ZQ 24 [(5,.c (.sl 2000 0 0 (YP a h.toNat) none))],[(2000,Un a (YP a h.toNat))],100000000000000000000000000000000000000000000000000,.exit 0⟩
def Ap (P:Program) (a h:Int):Option VF:=ZB [2000] (ZM (E1 P) (fC (E1 P) 300) 79 [i64 a,i64 h] 10 nSt (XW [] [] [some (Jj a h)]))
theorem jjjh (a h:Int):Ap prog a h=
 some (.c (.sl 2000 0 0 (YP a (Int.toNat h)) none),[some (ABlk.mk true true 2 1 (Cs.arr (YP a (Int.toNat h)) fun k=>List.map AC.v ((fun i=>[Value.int .i64 (a+Int.ofNat i)]) k)))],100000000000000000000000000000000000000000000000002,[],[LoopV prog (ZW prog 79 0) [0,1,5,7,8] [] [some (.c (.v (.int .i64 a))),some (.c (.v (.int .i64 h))),some (.c (AC.v (Value.slice none 0 0))),some (.c (.v (.int .i64 h))),some (.c (.v (.int .i64 (Int.ofNat 0))))] [] 24 14 (ZQ 24 [(5,.c (.sl 2000 0 0 (YP a (Int.toNat h)) none))]) [(2000,Un a (YP a (Int.toNat h)))] 100000000000000000000000000000000000000000000000000 (Exit.exit 0) none]):=by kernel_rfl
def N7:List (FuncId × Yk):=[(19,PL),(18,Tn),(20,PK)]
theorem jjke:∀f g,(f,g)∈N7->ZA prog f g:=by
 intro f g h;simp only[N7,List.mem_cons,Prod.mk.injEq,List.not_mem_nil,or_false] at h;rcases h with⟨rfl,rfl⟩|⟨rfl,rfl⟩|⟨rfl,rfl⟩
 . exact Ib
 . exact LC
 . exact jjkl
def Q8 (P:Program):Env:=⟨P,N7⟩
theorem JO:ZC (Q8 prog):=Xf jjke (by kernel_rfl) (by kernel_rfl)
abbrev T8:List Nat:=[0,3,32]
abbrev myI:List Nat:=Yc++[1000]
abbrev QW (k:Nat):List AV:=[.c (.ptr 5 0 0),.c (.ptr 1000 0 0),i64 (Int.ofNat k)]
def Ab (P:Program) (c:Cfg) (nq:Nat) (fq:Nat->Int) (v:Vw) (k:Nat) (path:List Dec):Option VC:=
 view (T8++[4]) myI (fC (Q8 P) 100 (ZW P 6 0) 1000000000000000000000000000000000000000000 nSt (Wi 67 T8 myI (QW k) (X6 c nq fq++[WJ v]) path []))
theorem J6 (c:Cfg) (nq:Nat) (fq:Nat->Int) (v:Vw) (k:Nat) (Q:VC->Prop) (H:let zN:=Int.ofNat;let zM:=ABlk.mk;let zD:=Int.toNat;let zz0:=[yF 172 0 (Cs.lit [zI (zN 1),zI (Int.negSucc 0)]),yF 3 1 (yP c),yF 3 1 (yS c),yF 3 1 (yB c),yF 70 3 (yT c),yF 3 1 (Cs.arr nq fun k=>List.map AC.v ((fun i=>[Value.int IntKind.i64 (fq i)]) k)),yF 81 0 (Cs.lit [zI (Cfg.nodes c),AC.sl 0 0 0 (Cfg.np c) none,AC.sl 1 0 0 (Cfg.ns c) none,zI (Cfg.long c),AC.sl 2 0 0 (Cfg.nb c) none,AC.sl 3 0 0 (Cfg.nt c) none,zI (Cfg.miss c),zI (Cfg.good c),zI (Cfg.fresh c),AC.sl 4 0 0 nq none]),yR 32 0 (Cs.lit (ZX v))];let zz1:=(List.getD (ZX v) (8+zD (zN k)*1) ZV);let zz2:=[some (ZO (List.zip T8 (QW k)) 0),some (ZO (List.zip T8 (QW k)) 3),some (ZO (List.zip T8 (QW k)) 32),some (AV.c (zB false))];let zz3:=(List.getD (ZX v) (16+zD (zN k)*1) ZV);let zz4:=(List.getD (ZX v) (24+zD (zN k)*1) ZV);let zz5:=[AV.agg (ZX v),AV.c (zI (zN k))];let zz6:=[some (ZO (List.zip T8 (QW k)) 0),some (ZO (List.zip T8 (QW k)) 3),some (AV.c (zI (IntKind.wrap IntKind.i64 (zN k+zN 1)))),some (ZO (List.zip T8 (QW k)) 4)];let zq0:List Bool:=[Zf c nq fq,true,decide (zN k<zN 8)==true];let zq1:List Bool:=true::(Sx RY zz5)::(zu (zt (y3 (((decide (ZI c nq fq (zN k)<zN 0)==true)::zq0)))));let zq2:List Bool:=(ABlk.inb (zM true false 32 0 (Cs.lit (ZX v))) 0 (8+zD (zN k)*1+1))::(Z5 (Kd.i .u8) zz1)::(decide (zN 0<=zN k/\zN k<zN 8))::((!H7 (ZX v) (zN k))==false)::zq1;let zq3:List Bool:=(ABlk.inb (zM true false 32 0 (Cs.lit (ZX v))) 0 (16+zD (zN k)*1+1))::(Z5 (Kd.i .u8) zz3)::(decide (zN 0<=zN k/\zN k<zN 8))::(decide (ZP zz1>zN 100)==false)::zq2;let zq4:List Bool:=(ABlk.inb (zM true false 32 0 (Cs.lit (ZX v))) 0 (24+zD (zN k)*1+1))::(Z5 (Kd.i .u16) zz4)::(decide (zN 0<=zN k/\zN k<zN 8))::(decide (ZP zz3>zN 100)==false)::zq3;let zq5:List Bool:=(ABlk.inb (zM true false 32 0 (Cs.lit (ZX v))) 0 (8+zD (zN k)*1+1))::(Z5 (Kd.i .u8) zz1)::(decide (zN 0<=zN k/\zN k<zN 8))::(decide (ZI c nq fq (zN k)<zN 0)==false)::zq0;let zq6:List Bool:=(ABlk.inb (zM true false 32 0 (Cs.lit (ZX v))) 0 (16+zD (zN k)*1+1))::(Z5 (Kd.i .u8) zz3)::(decide (zN 0<=zN k/\zN k<zN 8))::(decide (ZP zz1>zN 100)==false)::zq5;let zq7:List Bool:=(ABlk.inb (zM true false 32 0 (Cs.lit (ZX v))) 0 (24+zD (zN k)*1+1))::(Z5 (Kd.i .u16) zz4)::(decide (zN 0<=zN k/\zN k<zN 8))::(decide (ZP zz3>zN 100)==false)::zq6;(((decide (zN k<zN 8))=true->(((decide (ZI c nq fq (zN k)<zN 0))=true->(((!H7 (ZX v) (zN k))=true->Q (Exit.ret,zz2,zz0,67,1000000000000000000000000000000000000000013,(((!H7 (ZX v) (zN k))==true)::zq1),[]))/\((!H7 (ZX v) (zN k))=false->(((decide (ZP zz1>zN 100))=true->Q (Exit.ret,zz2,zz0,67,1000000000000000000000000000000000000000023,((decide (ZP zz1>zN 100)==true)::zq2),[]))/\((decide (ZP zz1>zN 100))=false->(((decide (ZP zz3>zN 100))=true->Q (Exit.ret,zz2,zz0,67,1000000000000000000000000000000000000000028,((decide (ZP zz3>zN 100)==true)::zq3),[]))/\((decide (ZP zz3>zN 100))=false->(((decide (ZP zz4>zN 1000))=true->Q (Exit.ret,zz2,zz0,67,1000000000000000000000000000000000000000033,((decide (ZP zz4>zN 1000)==true)::zq4),[]))/\((decide (ZP zz4>zN 1000))=false->Q (Exit.normal,zz6,zz0,67,1000000000000000000000000000000000000000034,((decide (ZP zz4>zN 1000)==false)::zq4),[]))))))))))/\((decide (ZI c nq fq (zN k)<zN 0))=false->(((decide (ZP zz1>zN 100))=true->Q (Exit.ret,zz2,zz0,67,1000000000000000000000000000000000000000020,((decide (ZP zz1>zN 100)==true)::zq5),[]))/\((decide (ZP zz1>zN 100))=false->(((decide (ZP zz3>zN 100))=true->Q (Exit.ret,zz2,zz0,67,1000000000000000000000000000000000000000025,((decide (ZP zz3>zN 100)==true)::zq6),[]))/\((decide (ZP zz3>zN 100))=false->(((decide (ZP zz4>zN 1000))=true->Q (Exit.ret,zz2,zz0,67,1000000000000000000000000000000000000000030,((decide (ZP zz4>zN 1000)==true)::zq7),[]))/\((decide (ZP zz4>zN 1000))=false->Q (Exit.normal,zz6,zz0,67,1000000000000000000000000000000000000000031,((decide (ZP zz4>zN 1000)==false)::zq7),[]))))))))))/\((decide (zN k<zN 8))=false->Q (Exit.exit 0,[some (ZO (List.zip T8 (QW k)) 0),some (ZO (List.zip T8 (QW k)) 3),some (ZO (List.zip T8 (QW k)) 32),some (ZO (List.zip T8 (QW k)) 4)],zz0,67,1000000000000000000000000000000000000000001,[decide (zN k<zN 8)==false],[])))):
 ∃p r,Ab prog c nq fq v k p=some r/\Q r:=
 ZD H (fun g1=>ZD g1 (fun g2=>ZD g2 (fun g3=>⟨pD 6 247,_,by kernel_rfl,g3⟩) (fun g3=>ZD g3 (fun g4=>⟨pD 17 1219,_,by kernel_rfl,g4⟩) (fun g4=>ZD g4 (fun g5=>⟨pD 17 179095,_,by kernel_rfl,g5⟩) (fun g5=>ZD g5 (fun g6=>⟨pD 17 43402963,_,by kernel_rfl,g6⟩) (fun g6=>⟨pD 17 86449684,_,by kernel_rfl,g6⟩))))) (fun g2=>ZD g2 (fun g3=>⟨pD 17 736,_,by kernel_rfl,g3⟩) (fun g3=>ZD g3 (fun g4=>⟨pD 17 178612,_,by kernel_rfl,g4⟩) (fun g4=>ZD g4 (fun g5=>⟨pD 17 43402480,_,by kernel_rfl,g5⟩) (fun g5=>⟨pD 17 86449201,_,by kernel_rfl,g5⟩))))) (fun g1=>⟨pD 1 2,_,by kernel_rfl,g1⟩)
theorem FD (c:Cfg) (nq:Nat) (fq:Nat->Int) (v:Vw) (Q:VF->Prop) (H:let zN:=Int.ofNat;let zz0:=[yF 172 0 (Cs.lit [zI (zN 1),zI (Int.negSucc 0)]),yF 3 1 (yP c),yF 3 1 (yS c),yF 3 1 (yB c),yF 70 3 (yT c),yF 3 1 (Cs.arr nq fun k=>List.map AC.v ((fun i=>[Value.int IntKind.i64 (fq i)]) k)),yF 81 0 (Cs.lit [zI (Cfg.nodes c),AC.sl 0 0 0 (Cfg.np c) none,AC.sl 1 0 0 (Cfg.ns c) none,zI (Cfg.long c),AC.sl 2 0 0 (Cfg.nb c) none,AC.sl 3 0 0 (Cfg.nt c) none,zI (Cfg.miss c),zI (Cfg.good c),zI (Cfg.fresh c),AC.sl 4 0 0 nq none]),yR 32 0 (Cs.lit (ZX v))];let zz1:=(ZI c nq fq (IntKind.wrap IntKind.i64 (Vw.command v))<zN 0);let zq0:List Bool:=[Zf c nq fq,true];let zq1:List Bool:=true::true::((Zq c nq==zN 0)==false)::zq0;let zq2:List Bool:=true::true::(decide (Vw.command v<Int.negSucc 0)==false)::zq1;let zq3:List Bool:=(Zf c nq fq)::y3 ((decide (Vw.command v≥zN 0)==true)::zq2);let zq4:List Bool:=true::true::(decide zz1==false)::zq3;let zq5:List Bool:=true::true::(decide (Vw.command v≥zN 0)==false)::zq2;(((Zq c nq==zN 0)=true->Q (.c (zB false),[],1011,(((Zq c nq==zN 0)==true)::zq0),[]))/\((Zq c nq==zN 0)=false->(((decide (Vw.command v<Int.negSucc 0))=true->Q (.c (zB false),[],1014,((decide (Vw.command v<Int.negSucc 0)==true)::zq1),[]))/\((decide (Vw.command v<Int.negSucc 0))=false->(((decide (Vw.command v≥zN 0))=true->(((decide zz1)=true->Q (.c (zB false),[],1024,((decide zz1==true)::zq3),[]))/\((decide zz1)=false->(((decide (Vw.mode v>zN 4))=true->Q (.c (zB false),[],1027,((decide (Vw.mode v>zN 4)==true)::zq4),[]))/\((decide (Vw.mode v>zN 4))=false->Q (.c (zB false),[],100000000000000000000000000000000000000000000000000,((decide (Vw.mode v>zN 4)==false)::zq4),[LoopV prog (ZW prog 6 0) T8 myI [some (.c (.ptr 5 0 0)),some (.c (.ptr 1000 0 0)),some (.c (zI (zN 0)))] zz0 67 1027 (ZQ 67 [(4,bo false)]) [] 100000000000000000000000000000000000000000000000000 Exit.ret none]))))))/\((decide (Vw.command v≥zN 0))=false->(((decide (Vw.mode v>zN 4))=true->Q (.c (zB false),[],1022,((decide (Vw.mode v>zN 4)==true)::zq5),[]))/\((decide (Vw.mode v>zN 4))=false->Q (.c (zB false),[],100000000000000000000000000000000000000000000000000,((decide (Vw.mode v>zN 4)==false)::zq5),[LoopV prog (ZW prog 6 0) T8 myI [some (.c (.ptr 5 0 0)),some (.c (.ptr 1000 0 0)),some (.c (zI (zN 0)))] zz0 67 1022 (ZQ 67 [(4,bo false)]) [] 100000000000000000000000000000000000000000000000000 Exit.ret none])))))))))):
 ∃p r,QZ (Q8 prog) 6 c nq fq v [] p [some ⟨T8,myI,ZQ 67 [(4,bo false)],[],100000000000000000000000000000000000000000000000000,.ret⟩]=some r/\Q r:=
 ZD H (fun g1=>⟨pD 12 1,_,by kernel_rfl,g1⟩) (fun g1=>ZD g1 (fun g2=>⟨pD 12 29,_,by kernel_rfl,g2⟩) (fun g2=>ZD g2 (fun g3=>ZD g3 (fun g4=>⟨pD 18 4785212,_,by kernel_rfl,g4⟩) (fun g4=>ZD g4 (fun g5=>⟨pD 18 138708344,_,by kernel_rfl,g5⟩) (fun g5=>⟨pD 18 267848507,_,by kernel_rfl,g5⟩))) (fun g3=>ZD g3 (fun g4=>⟨pD 18 129144593,_,by kernel_rfl,g4⟩) (fun g4=>⟨pD 18 258284756,_,by kernel_rfl,g4⟩))))
theorem FE (c:Cfg) (nq:Nat) (fq:Nat->Int) (v:Vw) (Q:VF->Prop) (H:let zN:=Int.ofNat;let zz0:=[yF 172 0 (Cs.lit [zI (zN 1),zI (Int.negSucc 0)]),yF 3 1 (yP c),yF 3 1 (yS c),yF 3 1 (yB c),yF 70 3 (yT c),yF 3 1 (Cs.arr nq fun k=>List.map AC.v ((fun i=>[Value.int IntKind.i64 (fq i)]) k)),yF 81 0 (Cs.lit [zI (Cfg.nodes c),AC.sl 0 0 0 (Cfg.np c) none,AC.sl 1 0 0 (Cfg.ns c) none,zI (Cfg.long c),AC.sl 2 0 0 (Cfg.nb c) none,AC.sl 3 0 0 (Cfg.nt c) none,zI (Cfg.miss c),zI (Cfg.good c),zI (Cfg.fresh c),AC.sl 4 0 0 nq none]),yR 32 0 (Cs.lit (ZX v))];let zz1:=(ZI c nq fq (IntKind.wrap IntKind.i64 (Vw.command v))<zN 0);let zq0:List Bool:=[Zf c nq fq,true];let zq1:List Bool:=true::true::((Zq c nq==zN 0)==false)::zq0;let zq2:List Bool:=true::true::(decide (Vw.command v<Int.negSucc 0)==false)::zq1;let zq3:List Bool:=(Zf c nq fq)::y3 ((decide (Vw.command v≥zN 0)==true)::zq2);let zq4:List Bool:=true::true::(decide zz1==false)::zq3;let zq5:List Bool:=true::true::(decide (Vw.command v≥zN 0)==false)::zq2;(((Zq c nq==zN 0)=true->Q (.c (zB false),[],1011,(((Zq c nq==zN 0)==true)::zq0),[]))/\((Zq c nq==zN 0)=false->(((decide (Vw.command v<Int.negSucc 0))=true->Q (.c (zB false),[],1014,((decide (Vw.command v<Int.negSucc 0)==true)::zq1),[]))/\((decide (Vw.command v<Int.negSucc 0))=false->(((decide (Vw.command v≥zN 0))=true->(((decide zz1)=true->Q (.c (zB false),[],1024,((decide zz1==true)::zq3),[]))/\((decide zz1)=false->(((decide (Vw.mode v>zN 4))=true->Q (.c (zB false),[],1027,((decide (Vw.mode v>zN 4)==true)::zq4),[]))/\((decide (Vw.mode v>zN 4))=false->Q (.c (zB true),[],100000000000000000000000000000000000000000000000001,((decide (Vw.mode v>zN 4)==false)::zq4),[LoopV prog (ZW prog 6 0) T8 myI [some (.c (.ptr 5 0 0)),some (.c (.ptr 1000 0 0)),some (.c (zI (zN 0)))] zz0 67 1027 (ZQ 67 []) [] 100000000000000000000000000000000000000000000000000 (Exit.exit 0) none]))))))/\((decide (Vw.command v≥zN 0))=false->(((decide (Vw.mode v>zN 4))=true->Q (.c (zB false),[],1022,((decide (Vw.mode v>zN 4)==true)::zq5),[]))/\((decide (Vw.mode v>zN 4))=false->Q (.c (zB true),[],100000000000000000000000000000000000000000000000001,((decide (Vw.mode v>zN 4)==false)::zq5),[LoopV prog (ZW prog 6 0) T8 myI [some (.c (.ptr 5 0 0)),some (.c (.ptr 1000 0 0)),some (.c (zI (zN 0)))] zz0 67 1022 (ZQ 67 []) [] 100000000000000000000000000000000000000000000000000 (Exit.exit 0) none])))))))))):
 ∃p r,QZ (Q8 prog) 6 c nq fq v [] p [some ⟨T8,myI,ZQ 67 [],[],100000000000000000000000000000000000000000000000000,.exit 0⟩]=some r/\Q r:=
 ZD H (fun g1=>⟨pD 12 1,_,by kernel_rfl,g1⟩) (fun g1=>ZD g1 (fun g2=>⟨pD 12 29,_,by kernel_rfl,g2⟩) (fun g2=>ZD g2 (fun g3=>ZD g3 (fun g4=>⟨pD 18 4785212,_,by kernel_rfl,g4⟩) (fun g4=>ZD g4 (fun g5=>⟨pD 18 138708344,_,by kernel_rfl,g5⟩) (fun g5=>⟨pD 18 267848507,_,by kernel_rfl,g5⟩))) (fun g3=>ZD g3 (fun g4=>⟨pD 18 129144593,_,by kernel_rfl,g4⟩) (fun g4=>⟨pD 18 258284756,_,by kernel_rfl,g4⟩))))
theorem Ez (t:Nat->Bool) (v:Vw) (k:Nat):U9 t v k=((t k||WD v k)&&(decide (v.miss k<=100)&&(decide (v.good k<=100)&&decide (v.score k<=1000)))):=rfl
theorem JV (c:Cfg) (nq:Nat) (fq:Nat->Int) (v:Vw) (N:Nat) (hN:1010<=N) (hN2:N<=1000000000000000000000000000000000000000000) (hk:myI.all (Zc N 100000000000000000000000000000000000000000000000000)=true) (hv:∀k,(QW k).all (Wb N)=true) (j:Nat) (hj:j<=8) (hmin:∀i,i<j->U9 (Z8 c nq fq) v i=true) (hyes:j<8->U9 (Z8 c nq fq) v j=false) {e:Exit} {out:List (Nat × AV)}
 (hF:(j<8->e= .ret/\out=[(4,bo false)])/\(j=8->e= .exit 0/\out=[])):
 LoopV prog (ZW prog 6 0) T8 myI ((QW 0).map some) ((X6 c nq fq++[WJ v]).map some) 67 N (ZQ 67 out) [] 100000000000000000000000000000000000000000000000000 e none:=by
 refine Rx JO (fuel:=100) (str:=nSt) (nh:=1000000000000000000000000000000000000000000) T8 [4] myI QW (X6 c nq fq++[WJ v]) j hN2 (by decide) (by unfold ZR;omega) ?_ (fun _=>⟨rfl,rfl⟩) hk (fun k _=>hv k) ?_ ?_ ?_
 . rcases Nat.lt_or_ge j 8 with h|h
   . rw[(hF.1 h).1];simp
   . rw[(hF.2 (by omega)).1];simp
 . intro b hb
   rcases List.mem_append.1 hb with h|h
   . exact Dc (by omega) b h
   . rw[List.mem_singleton.1 h];exact Tu
 . intro k hkj
   have hm:=hmin k hkj;have hk8:k<8:=by omega
   refine J6 c nq fq v k _ ?_;rw[Ez] at hm;clear hmin hyes hF hv hk;have w1:IntKind.wrap IntKind.i64 (Int.ofNat k+Int.ofNat 1)=Int.ofNat (k+1):=by rw[Wu _ (by simp;omega) (by simp;omega)];rfl
   rw[show Z8 c nq fq k=decide (0<=ZI c nq fq (Int.ofNat k)) from rfl] at hm;obtain⟨b0,hb0⟩:∃b,WD v k=b:=⟨_,rfl⟩
   rw[hb0] at hm;simp only[IV hk8,(Ru v k hk8).1,(Rv v k hk8).1,(U2 v k hk8).1,(Ru v k hk8).2,(Rv v k hk8).2,(U2 v k hk8).2,List.headD_cons,w1,hb0];clear hb0;cases b0
   all_goals (simp only[Bool.or_true,Bool.or_false,Bool.true_and,Bool.and_eq_true,Bool.and_eq_false_iff,decide_eq_true_eq,decide_eq_false_iff_not] at hm)
   all_goals (repeat' (first|refine⟨fun h=>?_,fun h=>?_⟩|fail))
   all_goals (first|contradiction|(exfalso;have hx:= ‹(!true)=true›;cases hx;done)|(exfalso;have hx:= ‹(!false)=false›;cases hx;done)|(exfalso;simp only[decide_eq_true_eq,decide_eq_false_iff_not,Int.ofNat_eq_natCast,Int.cast_ofNat_Int,gt_iff_lt] at *;omega)|skip)
   all_goals (refine⟨⟨?_,rfl,by dsimp only;omega,rfl⟩,rfl,rfl,BL.refl _⟩)
   all_goals first
    |(simp_all[ZZ,Yb,YN,Yi,Ya,XZ,Y0,WI,Vw.len,Vr,Sx,RY];done)
    |(simp_all[ZZ,Yb,YN,Yi,Ya,XZ,Y0,WI,Vw.len,Vr,Sx,RY];omega)
    |(simp_all[ZZ,Yb,YN,Yi,Ya,XZ,Y0,WI,Vw.len,Vr,Sx,RY];omega)
 . rcases Nat.lt_or_ge j 8 with hk8|hge
   . obtain⟨rfl,rfl⟩:=hF.1 hk8
     have hm:=hyes hk8;clear hmin hyes hF hv hk;rw[Ez] at hm;refine J6 c nq fq v j _ ?_;rw[show Z8 c nq fq j=decide (0<=ZI c nq fq (Int.ofNat j)) from rfl] at hm;obtain⟨b0,hb0⟩:∃b,WD v j=b:=⟨_,rfl⟩
     rw[hb0] at hm;simp only[IV hk8,(Ru v j hk8).1,(Rv v j hk8).1,(U2 v j hk8).1,(Ru v j hk8).2,(Rv v j hk8).2,(U2 v j hk8).2,List.headD_cons,hb0];clear hb0;cases b0
     all_goals (simp only[Bool.or_true,Bool.or_false,Bool.true_and,Bool.and_eq_true,Bool.and_eq_false_iff,decide_eq_true_eq,decide_eq_false_iff_not] at hm)
     all_goals (repeat' (first|refine⟨fun h=>?_,fun h=>?_⟩|fail))
     all_goals (first|contradiction|(exfalso;have hx:= ‹(!true)=true›;cases hx;done)|(exfalso;have hx:= ‹(!false)=false›;cases hx;done)|(exfalso;simp only[decide_eq_true_eq,decide_eq_false_iff_not,Int.ofNat_eq_natCast,Int.cast_ofNat_Int,gt_iff_lt] at *;omega)|skip)
     all_goals (refine U4 ⟨?_,rfl,by dsimp only;omega,rfl⟩ rfl rfl ?_)
     all_goals first
      |(simp[bo];done)
      |(simp_all[ZZ,Yb,YN,Yi,Ya,XZ,Y0,WI,Vw.len,Vr,Sx,RY];done)
      |(simp_all[ZZ,Yb,YN,Yi,Ya,XZ,Y0,WI,Vw.len,Vr,Sx,RY];omega)
      |(simp_all[ZZ,Yb,YN,Yi,Ya,XZ,Y0,WI,Vw.len,Vr,Sx,RY];omega)
   . obtain⟨rfl,rfl⟩:=hF.2 (by omega)
     refine J6 c nq fq v j _ ?_;refine⟨fun h1=>?_,fun h1=>?_⟩
     . exfalso;simp at h1;omega
     . refine Qv ⟨?_,rfl,by dsimp only;omega,rfl⟩ rfl
       simp[ZZ];omega
def QF (c:Cfg) (nq:Nat) (fq:Nat->Int) (cmd mode:Int):Bool:=decide (Zq c nq≠0)&&(decide (-1<=cmd)&&((decide (cmd<0)||decide (0<=ZI c nq fq (IntKind.wrap .i64 cmd)))&&decide (mode<=4)))
def XQ (c:Cfg) (nq:Nat) (fq:Nat->Int) (l:List AC):Bool:=QF c nq fq (ZP (l.getD 40 ZV)) (ZP (l.getD 41 ZV))&&Sq (Z8 c nq fq) l
theorem jjms (c:Cfg) (nq:Nat) (fq:Nat->Int) (v:Vw):XQ c nq fq (ZX v)=(QF c nq fq v.command v.mode&&Sq (Z8 c nq fq) (ZX v)):=rfl
def FC (c:Cfg) (nq:Nat) (fq:Nat->Int) (l:List AC) (_:List AV):AV:=bo (XQ c nq fq l)
def JC:Yk:=Y9 netRd (rV FC) (pV fun _ r=>r.isEmpty)
theorem Fq:ZA prog 6 JC:=by
 refine ID (E:=Q8 prog) JO ⟨_,_,Tryz.func6,rfl⟩ (fun _ _ _ _ _=>rfl) fun c nq fq v r hr=>?_
 obtain rfl:=List.isEmpty_iff.1 hr;have hR:FC c nq fq (ZX v) []=bo (QF c nq fq v.command v.mode&&Sq (Z8 c nq fq) (ZX v)):=rfl;rw[hR];obtain⟨j,hj,hmin,hyes⟩:=Qn 8 fun p=>!U9 (Z8 c nq fq) v p
 have hmin:∀i,i<j->U9 (Z8 c nq fq) v i=true:=fun i hi=>by simpa using hmin i hi
 have hyes:j<8->U9 (Z8 c nq fq) v j=false:=fun h=>by simpa using hyes h
 rcases Nat.lt_or_ge j 8 with h8|h8
 . have hL:Sq (Z8 c nq fq) (ZX v)=false:=by
    cases h:Sq (Z8 c nq fq) (ZX v) with
    |false=>rfl
    |true=>rw[(I4 _ _).1 h j h8] at hyes;exact absurd (hyes h8) (by simp)
   rw[hL,Bool.and_false];refine(?_:(∃p q,QZ (Q8 prog) 6 c nq fq v [] p [some ⟨T8,myI,ZQ 67 [(4,bo false)],[],100000000000000000000000000000000000000000000000000,.ret⟩]=some q/\Z6 (bo false) q)->_) (FD c nq fq v _ ?_)
   . rintro⟨p,q,h1,h2⟩
     exact⟨p,_,q,h1,h2⟩
   . have hs:∀N,1010<=N->N<=1000000000000000000000000000000000000000000->myI.all (Zc N 100000000000000000000000000000000000000000000000000)=true->(∀k,(QW k).all (Wb N)=true)->_:=fun N a b d f=>JV c nq fq v N a b d f j hj hmin hyes (e:=.ret) (out:=[(4,bo false)]) ⟨fun _=>⟨rfl,rfl⟩,fun h=>by omega⟩
     (repeat' (first|refine⟨fun h=>?_,fun h=>?_⟩|fail))
     all_goals (refine⟨rfl,(by first|(unfold ZR;omega)|(dsimp only;unfold ZR;omega)),?_,fun q hq=>?_⟩)
     all_goals first
      |(cases hq;done)
      |(rw[List.mem_singleton.1 hq];exact hs _ (by omega) (by omega) (by kernel_rfl) (fun _=>rfl))
      |(simp_all[ZZ,Yb,YN,Yi,Ya,XZ,Y0,Vr];done)
      |(simp_all[ZZ,Yb,YN,Yi,Ya,XZ,Y0,Vr];omega)
 . obtain rfl:j=8:=by omega
   have hL:Sq (Z8 c nq fq) (ZX v)=true:=(I4 _ _).2 hmin;rw[hL,Bool.and_true];refine(?_:(∃p q,QZ (Q8 prog) 6 c nq fq v [] p [some ⟨T8,myI,ZQ 67 [],[],100000000000000000000000000000000000000000000000000,.exit 0⟩]=some q/\Z6 (bo (QF c nq fq v.command v.mode)) q)->_) (FE c nq fq v _ ?_)
   . rintro⟨p,q,h1,h2⟩
     exact⟨p,_,q,h1,h2⟩
   . have hs:∀N,1010<=N->N<=1000000000000000000000000000000000000000000->myI.all (Zc N 100000000000000000000000000000000000000000000000000)=true->(∀k,(QW k).all (Wb N)=true)->_:=fun N a b d f=>JV c nq fq v N a b d f 8 hj hmin hyes (e:=.exit 0) (out:=[]) ⟨fun h=>by omega,fun _=>⟨rfl,rfl⟩⟩
     (repeat' (first|refine⟨fun h=>?_,fun h=>?_⟩|fail))
     all_goals (refine⟨?_,(by first|(unfold ZR;omega)|(dsimp only;unfold ZR;omega)),?_,fun q hq=>?_⟩)
     all_goals first
      |(cases hq;done)
      |(rw[List.mem_singleton.1 hq];exact hs _ (by omega) (by omega) (by kernel_rfl) (fun _=>rfl))
      |(simp_all[QF,bo];done)
      |(simp_all[QF,bo];omega)
      |(simp_all[ZZ,Yb,YN,Yi,Ya,XZ,Y0,Vr];done)
      |(simp_all[ZZ,Yb,YN,Yi,Ya,XZ,Y0,Vr];omega)
theorem mbFi (c:Cfg) (nq:Nat) (fq:Nat->Int) (Q:VF->Prop) (H:let zN:=Int.ofNat;let zz0:=((ZE (Cfg.np c) fun k=>List.map AC.v ((fun i=>[Value.int IntKind.i64 (Cfg.fp c i)]) k))&&((ZE (Cfg.ns c) fun k=>List.map AC.v ((fun i=>[Value.int IntKind.i64 (Cfg.fs c i)]) k))&&((ZE (Cfg.nb c) fun k=>List.map AC.v ((fun i=>[Value.int IntKind.i64 (Cfg.fb c i)]) k))&&((Yv (Cfg.nt c) fun k=>List.map AC.v ((fun i=>[Value.int IntKind.i64 (Station.node (Cfg.ft c i)),Value.int IntKind.u32 (Station.safe (Cfg.ft c i)),Value.int IntKind.i64 (Station.hold (Cfg.ft c i))]) k))&&ZE nq fun k=>List.map AC.v ((fun i=>[Value.int IntKind.i64 (fq i)]) k)))));Q (.agg (z8 (fun zk=>zB (decide (ZI c nq fq (zN zk)≥zN 0))) (z8 (fun zk=>zU (zN 0)) (z8 (fun zk=>zU (zN 0)) (z8 (fun zk=>zH (zN 0)) (z8 (fun zk=>zB false) [.v (.int .i8 (zN 0)),zU (zN 0)]))))),[],1101,(zu (zu (zt (zt (zt (true::((decide (0+c.np<=c.np)&&(decide (0+c.ns<=c.ns)&&(decide (0+c.nb<=c.nb)&&(decide (0+c.nt<=c.nt)&&(decide (0+nq<=nq)&&zz0)))))::y3 ((decide (0+c.np<=c.np)&&(decide (0+c.ns<=c.ns)&&(decide (0+c.nb<=c.nb)&&(decide (0+c.nt<=c.nt)&&(decide (0+nq<=nq)&&zz0)))))::y3 ((decide (0+c.np<=c.np)&&(decide (0+c.ns<=c.ns)&&(decide (0+c.nb<=c.nb)&&(decide (0+c.nt<=c.nt)&&(decide (0+nq<=nq)&&zz0)))))::y3 ((decide (0+c.np<=c.np)&&(decide (0+c.ns<=c.ns)&&(decide (0+c.nb<=c.nb)&&(decide (0+c.nt<=c.nt)&&(decide (0+nq<=nq)&&zz0)))))::y3 ((decide (0+c.np<=c.np)&&(decide (0+c.ns<=c.ns)&&(decide (0+c.nb<=c.nb)&&(decide (0+c.nt<=c.nt)&&(decide (0+nq<=nq)&&zz0)))))::y3 ((decide (0+c.np<=c.np)&&(decide (0+c.ns<=c.ns)&&(decide (0+c.nb<=c.nb)&&(decide (0+c.nt<=c.nt)&&(decide (0+nq<=nq)&&zz0)))))::y3 ((decide (0+c.np<=c.np)&&(decide (0+c.ns<=c.ns)&&(decide (0+c.nb<=c.nb)&&(decide (0+c.nt<=c.nt)&&(decide (0+nq<=nq)&&zz0)))))::y3 ((decide (0+c.np<=c.np)&&(decide (0+c.ns<=c.ns)&&(decide (0+c.nb<=c.nb)&&(decide (0+c.nt<=c.nt)&&(decide (0+nq<=nq)&&zz0)))))::true::[])))))))))))))),[])):
 ∃p r,JX (Q6 prog) 24 c nq fq [] p []=some r/\Q r:=
 ⟨pD 9 0,_,by kernel_rfl,H⟩
def Xr (c:Cfg) (nq:Nat) (fq:Nat->Int):Vw:=⟨Z8 c nq fq,fun _=>0,fun _=>0,fun _=>0,fun _=>false,0,0⟩
def BQ:YF->AV
 |⟨c,nq,fq,[]⟩=>.agg (ZX (Xr c nq fq))
 |_=>i64 0
def BP:YF->Bool
 |⟨_,_,_,[]⟩=>true
 |_=>false
def Jz:Yk:=Y9 netRd BQ BP
theorem Fr:ZA prog 24 Jz:=by
 refine U3 (E:=Q6 prog) Nd netRd (fuel:=300) (str:=nSt) ⟨_,_,Tryz.func24,rfl⟩ (fun s=>by unfold BQ;split<;>rfl) fun s hs=>?_
 unfold BP at hs;split at hs
 . rename_i c nq fq
   refine(?_:(∃p q,JX (Q6 prog) 24 c nq fq [] p []=some q/\Z6 (.agg (ZX (Xr c nq fq))) q)->_) (mbFi c nq fq _ ?_)
   . rintro⟨p,q,h1,h2⟩
     exact⟨p,[],q,h1,h2⟩
   . refine⟨rfl,(by first|(unfold ZR;omega)|(dsimp only;unfold ZR;omega)),?_,by simp⟩
     simp[ZZ,Yb,YN,Yi,Ya,XZ,Y0]
 . cases hs
def AJ (P:Program):Env:=⟨P,[(59,WB)]⟩
theorem hEGv:ZC (AJ prog):=by
 refine Xf (fun f g h=>?_) (by kernel_rfl) (by kernel_rfl);simp only[AJ,List.mem_cons,Prod.mk.injEq,List.not_mem_nil,or_false] at h;obtain⟨rfl,rfl⟩:=h;exact NB
def gvR (P:Program) (c:Cfg) (nq:Nat) (fq:Nat->Int) (path:List Dec):Option VF:=ZB [] (ZM (AJ P) (fC (AJ P) 300) 21 [.c (.ptr 5 0 0)] 1000 nSt (XW (mS++Xg c nq fq) path []))
theorem gvT (c:Cfg) (nq:Nat) (fq:Nat->Int) (Q:VF->Prop) (H:let zN:=Int.ofNat;let zz0:=(Zj (ABlk.mk false false 70 3 (yT c)) 0 0 3);Q (.agg [zI c.nodes,AC.sl 1040 0 0 (Int.toNat (Option.getD (some ↑(0+c.np)) ↑(0+c.np)-zN 0)) (some (Int.toNat (↑(0+c.np)-zN 0))),AC.sl 1067 0 0 (Int.toNat (Option.getD (some ↑(0+c.ns)) ↑(0+c.ns)-zN 0)) (some (Int.toNat (↑(0+c.ns)-zN 0))),zI c.long,AC.sl 1094 0 0 (Int.toNat (Option.getD (some ↑(0+c.nb)) ↑(0+c.nb)-zN 0)) (some (Int.toNat (↑(0+c.nb)-zN 0))),AC.sl 1111 0 0 (Int.toNat (Option.getD (some ↑(c.nt)) ↑(c.nt)-zN 0)) (some (Int.toNat (↑(c.nt)-zN 0))),zI c.miss,zI c.good,zI c.fresh],[],1125,(zt (zt (true::true::true::true::true::decide (zN 0<=zN 0/\zN 0<=Option.getD (some ↑(c.nt)) ↑(c.nt)/\Option.getD (some ↑(c.nt)) ↑(c.nt)<=YR none c.nt (some ↑(c.nt)))::true::decide (YR none c.nt (some ↑(c.nt)) <= ↑(Option.getD none c.nt))::true::Zt none (ABlk.mk true true 70 3 (Cs.arr c.nt fun k=>List.map AC.v ((fun i=>[Value.int .i64 (Station.node (YY zz0 i)),Value.int .u32 (Station.safe (YY zz0 i)),Value.int .i64 (Station.hold (YY zz0 i))]) k))) 0 c.nt::decide (0+c.nt<=c.nt)::decide (c.nt<=1000000)::(Yv c.nt fun k=>List.map AC.v ((fun i=>[Value.int .i64 (Station.node (c.ft i)),Value.int .u32 (Station.safe (c.ft i)),Value.int .i64 (Station.hold (c.ft i))]) k))::true::true::decide (zN 0<=zN 0/\zN 0<=Option.getD (some ↑(0+c.nb)) ↑(0+c.nb)/\Option.getD (some ↑(0+c.nb)) ↑(0+c.nb)<=YR none (0+c.nb) (some ↑(0+c.nb)))::true::decide (YR none (0+c.nb) (some ↑(0+c.nb)) <= ↑(Option.getD none (0+c.nb)))::true::Zt none (ABlk.mk true true 3 1 (Cs.arr (0+c.nb) fun i=>if i<0 then[] else YW (ABlk.mk false false 3 1 (yB c)) 0 0 1 (i-0))) 0 (0+c.nb)::decide (0+c.nb<=c.nb)::true::true::decide ((0+c.nb)*8<=140737488355328)::ABlk.inb (ABlk.mk false false 3 1 (yB c)) 0 1::true::true::true::true::decide (zN 0<=zN 0/\zN 0<=Option.getD (some ↑(0+c.ns)) ↑(0+c.ns)/\Option.getD (some ↑(0+c.ns)) ↑(0+c.ns)<=YR none (0+c.ns) (some ↑(0+c.ns)))::true::decide (YR none (0+c.ns) (some ↑(0+c.ns)) <= ↑(Option.getD none (0+c.ns)))::true::Zt none (ABlk.mk true true 3 1 (Cs.arr (0+c.ns) fun i=>if i<0 then[] else YW (ABlk.mk false false 3 1 (yS c)) 0 0 1 (i-0))) 0 (0+c.ns)::decide (0+c.ns<=c.ns)::true::true::decide ((0+c.ns)*8<=140737488355328)::ABlk.inb (ABlk.mk false false 3 1 (yS c)) 0 1::true::true::true::true::decide (zN 0<=zN 0/\zN 0<=Option.getD (some ↑(0+c.np)) ↑(0+c.np)/\Option.getD (some ↑(0+c.np)) ↑(0+c.np)<=YR none (0+c.np) (some ↑(0+c.np)))::true::decide (YR none (0+c.np) (some ↑(0+c.np)) <= ↑(Option.getD none (0+c.np)))::true::Zt none (ABlk.mk true true 3 1 (Cs.arr (0+c.np) fun i=>if i<0 then[] else YW (ABlk.mk false false 3 1 (yP c)) 0 0 1 (i-0))) 0 (0+c.np)::decide (0+c.np<=c.np)::true::true::decide ((0+c.np)*8<=140737488355328)::ABlk.inb (ABlk.mk false false 3 1 (yP c)) 0 1::zt [true,(!decide (↑nq>zN 0))==false,true]))),[])):
 ∃p r,gvR prog c nq fq p=some r/\Q r:=
 ⟨pD 14 1458,_,by kernel_rfl,H⟩
theorem LP {q:IntKind} {n:Int} (h:(Lit.int q n).wf=true):B9 (some q) (.int q n):=⟨n,rfl,h⟩
theorem Payload.ok_flat {x:Payload} (h:x.Ok):Flat Payload.ks x.cells:=by
 obtain⟨h0,h1,h2,h3⟩:=h;refine⟨rfl,fun i k hk=>?_⟩
 match i,hk with
 |0,hk=>obtain rfl:=Option.some.inj hk.symm;exact⟨_,rfl,LP (by unfold Lit.wf;rw[Bool.and_eq_true,decide_eq_true_iff,decide_eq_true_iff,show IntKind.min _=0 from rfl];first|(rw[show IntKind.max .u8=255 from rfl];omega)|(rw[show IntKind.max .u32=4294967295 from rfl];omega))⟩
 |1,hk=>obtain rfl:=Option.some.inj hk.symm;exact⟨_,rfl,LP (by unfold Lit.wf;rw[Bool.and_eq_true,decide_eq_true_iff,decide_eq_true_iff,show IntKind.min _=0 from rfl];first|(rw[show IntKind.max .u8=255 from rfl];omega)|(rw[show IntKind.max .u32=4294967295 from rfl];omega))⟩
 |2,hk=>obtain rfl:=Option.some.inj hk.symm;exact⟨_,rfl,LP (by unfold Lit.wf;rw[Bool.and_eq_true,decide_eq_true_iff,decide_eq_true_iff,show IntKind.min _=0 from rfl];first|(rw[show IntKind.max .u8=255 from rfl];omega)|(rw[show IntKind.max .u32=4294967295 from rfl];omega))⟩
 |3,hk=>obtain rfl:=Option.some.inj hk.symm;exact⟨_,rfl,LP (by unfold Lit.wf;rw[Bool.and_eq_true,decide_eq_true_iff,decide_eq_true_iff,show IntKind.min _=0 from rfl];first|(rw[show IntKind.max .u8=255 from rfl];omega)|(rw[show IntKind.max .u32=4294967295 from rfl];omega))⟩
 |i+4,hk=>simp[Payload.ks] at hk
def Zn:List (Option IntKind)->List AC->Bool
 | [],[]=>true
 |none::ks,.v (.bool _)::r=>Zn ks r
 |some k::ks,.v (.int q n)::r=>decide (q=k)&&((Lit.int k n).wf&&Zn ks r)
 |_,_=>false
theorem Flat.nil:Flat [] []:=⟨rfl,fun i k h=>by simp at h⟩
theorem Flat.cons {k:Option IntKind} {ks:List (Option IntKind)} {c:Value} {cs:List Value} (h1:B9 k c) (h2:Flat ks cs):Flat (k::ks) (c::cs):=by
 refine⟨by simp[h2.1],fun i q hq=>?_⟩
 cases i with
 |zero=>simp at hq;subst hq;exact⟨c,rfl,h1⟩
 |succ i=>simpa using h2.2 i q (by simpa using hq)
theorem Nz:∀{ks:List (Option IntKind)} {l:List AC},Zn ks l=true->∃vs,l=vs.map .v/\Flat ks vs
 | [],[],_=>⟨[],rfl,Flat.nil⟩
 |none::ks,.v (.bool b)::r,h=>by
  obtain⟨vs,rfl,hf⟩:=Nz (ks:=ks) (l:=r) (by simpa[Zn] using h);exact⟨.bool b::vs,rfl,Flat.cons ⟨b,rfl⟩ hf⟩
 |some k::ks,.v (.int q n)::r,h=>by
  simp only[Zn,Bool.and_eq_true,decide_eq_true_eq] at h;obtain⟨rfl,h1,h2⟩:=h;obtain⟨vs,rfl,hf⟩:=Nz (ks:=ks) (l:=r) h2;exact⟨.int q n::vs,rfl,Flat.cons ⟨n,rfl,h1⟩ hf⟩
theorem LA:∀{ks:List (Option IntKind)} {vs:List Value},Flat ks vs->Zn ks (vs.map .v)=true
 | [],vs,h=>by rw[h.unnil];rfl
 |none::ks,vs,h=>by
  obtain⟨c,r,rfl,⟨b,rfl⟩,h2⟩:=h.uncons;simpa[Zn] using LA h2
 |some k::ks,vs,h=>by
  obtain⟨c,r,rfl,⟨n,rfl,h1⟩,h2⟩:=h.uncons;simp[Zn,h1,LA h2]
theorem Wo {k:IntKind} {n:Int} (h1:k.min<=n) (h2:n<=k.max):(Lit.int k n).wf=true:=by
 unfold Lit.wf;rw[Bool.and_eq_true,decide_eq_true_iff,decide_eq_true_iff];exact⟨h1,h2⟩
theorem Flat.repB:∀(n:Nat) (v:List Bool),v.length=n->Flat (List.replicate n none) (v.map Value.bool)
 |0,[],_=>Flat.nil
 |n+1,b::r,h=>by rw[List.replicate_succ];exact Flat.cons ⟨b,rfl⟩ (Flat.repB n r (by simpa using h))
theorem Flat.repI {k:IntKind}:∀(n:Nat) (v:List Int),v.length=n->(∀x∈v,(Lit.int k x).wf=true)->Flat (List.replicate n (some k)) (v.map (Value.int k))
 |0,[],_,_=>Flat.nil
 |n+1,b::r,h,hv=>by rw[List.replicate_succ];exact Flat.cons ⟨b,rfl,hv b (by simp)⟩ (Flat.repI n r (by simpa using h) fun x hx=>hv x (by simp[hx]))
theorem Io {n:Nat} {v:Vector Int n} {p:Int->Prop} (h:∀k,k<n->p (Yo 0 v k)):∀x∈v.toList,p x:=by
 intro x hx;obtain⟨i,hi,rfl⟩:=List.mem_iff_getElem.1 hx;have:=h i (by simpa using hi);simpa[Yo,show i<n by simpa using hi] using this
theorem Said.ok_flat {x:Said} (h:x.Ok):Flat Said.ks x.cells:=by
 have h0:Flat Said.ks ([.bool x.is,.int .i64 x.at_]++x.p.cells):=Flat.cons ⟨_,rfl⟩ (Flat.cons ⟨_,rfl,Wo h.1.1 h.1.2⟩ (by simpa using Payload.ok_flat h.2));exact h0
theorem View.ok_flat {x:View} (h:x.Ok):Flat View.ks x.cells:=by
 obtain⟨h1,h2,h3,h4,h5⟩:=h
 have e:Flat View.ks _:=(Flat.repB 8 x.inn.toList (by simp)).append ((Flat.repI 8 x.miss.toList (by simp) (Io fun k hk=>Wo (k:=.u8) (h1 k hk).1 (h1 k hk).2)).append ((Flat.repI 8 x.good.toList (by simp) (Io fun k hk=>Wo (k:=.u8) (h2 k hk).1 (h2 k hk).2)).append
  ((Flat.repI 8 x.score.toList (by simp) (Io fun k hk=>Wo (k:=.u16) (h3 k hk).1 (h3 k hk).2)).append ((Flat.repB 8 x.got.toList (by simp)).append (Flat.cons ⟨_,rfl,Wo (k:=.i8) h4.1 h4.2⟩ (Flat.cons ⟨_,rfl,Wo (k:=.u8) h5.1 h5.2⟩ Flat.nil))))))
 simpa[View.cells] using e
theorem Cell.ok_flat {x:Cell} (h:x.Ok):Flat Cell.ks x.cells:=by
 obtain⟨h1,h2,h3,h4⟩:=h;have e:Flat Cell.ks _:=Flat.cons (c:=.int .i64 x.age) ⟨_,rfl,Wo h1.1 h1.2⟩ ((Said.ok_flat h2).append ((Said.ok_flat h3).append ((View.ok_flat h4).append Flat.nil)));simpa[Cell.cells,Said.cells,Payload.cells] using e
theorem Held.ok_flat {x:Held} (h:x.Ok):Flat Held.ks x.cells:=by
 have e:Flat Held.ks _:=Flat.cons (c:=.bool x.is) ⟨_,rfl⟩ ((Cell.ok_flat h).append Flat.nil);simpa[Held.cells] using e
structure Hq where
 is:Bool
 age:Int
 ob:Bool
 oa:Int
 ok:Int
 os:Int
 oq:Int
 ov:Int
 rb:Bool
 ra:Int
 rk:Int
 rs:Int
 rq:Int
 rv:Int
 u:Vw
abbrev Ts (h:Hq):List Value:=.bool h.is:: .int .i64 h.age:: .bool h.ob:: .int .i64 h.oa:: .int .u8 h.ok:: .int .u8 h.os:: .int .u32 h.oq:: .int .u32 h.ov:: .bool h.rb:: .int .i64 h.ra:: .int .u8 h.rk:: .int .u8 h.rs:: .int .u32 h.rq:: .int .u32 h.rv::h.u.cells
abbrev YC (h:Hq):List AC:=(Ts h).map .v
def Rc (x:Held):Hq:=⟨x.is,x.cell.age,x.cell.offer.is,x.cell.offer.at_,x.cell.offer.p.kind,x.cell.offer.p.st,x.cell.offer.p.seq,x.cell.offer.p.val,x.cell.report.is,x.cell.report.at_,x.cell.report.p.kind,x.cell.report.p.st,x.cell.report.p.seq,x.cell.report.p.val,T4 x.cell.view⟩
theorem Ly (x:Held):Ts (Rc x)=x.cells:=by
 show Ts (Rc x)=([.bool x.is]:List Value)++(([.int .i64 x.cell.age,.bool x.cell.offer.is,.int .i64 x.cell.offer.at_,.int .u8 x.cell.offer.p.kind,.int .u8 x.cell.offer.p.st,.int .u32 x.cell.offer.p.seq,.int .u32 x.cell.offer.p.val,.bool x.cell.report.is,.int .i64 x.cell.report.at_,.int .u8 x.cell.report.p.kind,.int .u8 x.cell.report.p.st,.int .u32 x.cell.report.p.seq,.int .u32 x.cell.report.p.val]:List Value)++x.cell.view.cells)
 rw[<- Qp];rfl
def Ul (l:List AC):Hq:=⟨Zz (l.getD 0 ZV),ZP (l.getD 1 ZV),Zz (l.getD 2 ZV),ZP (l.getD 3 ZV),ZP (l.getD 4 ZV),ZP (l.getD 5 ZV),ZP (l.getD 6 ZV),ZP (l.getD 7 ZV),Zz (l.getD 8 ZV),ZP (l.getD 9 ZV),ZP (l.getD 10 ZV),ZP (l.getD 11 ZV),ZP (l.getD 12 ZV),ZP (l.getD 13 ZV),Zi (l.drop 14)⟩
theorem C3 (h:Hq):YC (Ul (YC h))=YC h:=rfl
theorem NJ {l:List AC} (h:Zn Held.ks l=true):∃x:Held,x.Ok/\l=YC (Rc x)/\YC (Ul l)=l:=by
 obtain⟨vs,rfl,hf⟩:=Nz h;obtain⟨x,hx,rfl⟩:=Held.of_flat hf;refine⟨x,hx,by unfold YC;rw[Ly],?_⟩;rw[<- Ly];exact C3 _
theorem JQ {x:Held} (h:x.Ok):Zn Held.ks (YC (Rc x))=true:=by
 unfold YC;rw[Ly];exact LA (Held.ok_flat h)
def YS (n:Nat) (f:Nat->List AC):Bool:=(List.range n).all fun k=>Zn Held.ks (f k)
theorem Ln {n:Nat} {f:Nat->List AC} (h:YS n f=true) {k:Nat} (hk:k<n):Zn Held.ks (f k)=true:=List.all_eq_true.1 h k (by simpa using hk)
theorem jjge {n:Nat} {f:Nat->List AC} (h:∀k,k<n->Zn Held.ks (f k)=true):YS n f=true:=List.all_eq_true.2 fun k hk=>h k (by simpa using hk)
def Um (ty n:Nat) (f:Nat->List AC):ABlk:=XX ty 56 n fun k=>Ts (Ul (f k))
theorem C6 {C:Ctx} {β:Nm} {m2:AMem} {w:World} (hr:Rel C β m2 w) {id:Nat} {o r:Bool} {t q n:Nat} {F:Nat->List AC} (hx:ZY m2 id=some ⟨o,r,t,56,.arr q F⟩) (hn:n<=q) (hF:YS n F=true) (ty:Nat)
 {β0:Nm} {m0:AMem} (h0:Rel (ZG w) β0 m0 w) (n0:∀i x,ZY m0 i=some x->x.own=false/\Xm x=false) {id0:Nat} (hid:β0 id0=none) (hg:∀g,id0≠Z2 g):∃L,β id=some L/\Rel (ZG w) (ZU β0 id0 L) (m0++[(id0,Um ty n F)]) w:=by
 obtain⟨L,hL,hk⟩:=hr.blk id _ hx;refine⟨L,hL,?_⟩;refine(QD h0 n0 hid hg (y:=Um ty n F) rfl rfl (L:=L) ?_).1;refine⟨hk.sz,fun l h=>(by cases h),fun k j hi=>?_,hk.lt,fun ho=>(by cases ho),fun n' f h i hi=>(by cases h;simp[Ts,Vw.len];rfl),fun ho=>(by cases ho)⟩;simp only[ABlk.inb,Um,XX,Bool.and_eq_true] at hi;have hi1:k<n:=of_decide_eq_true hi.1;have hi2:j+1<=56:=of_decide_eq_true hi.2;obtain⟨g1,u,g2,g3,g4⟩:=hk.cells k j (by simp only[ABlk.inb,Bool.and_eq_true,decide_eq_true_eq];omega);refine⟨g1,u,?_,g3,g4⟩;simp only[Cs.get] at g2;simp only[Cs.get,Um,XX];obtain⟨_,_,_,e⟩:=NJ (Ln hF hi1);rw[<- e] at g2;have hj:j<(Ts (Ul (F k))).length:=by simp[Ts,Vw.len];omega
 simp only[YC,List.getD,List.getElem?_map,List.getElem?_eq_getElem hj,Option.map_some,Option.getD_some,γc] at g2 ⊢;exact g2
structure ZJ where
 any:Bool
 seq:Int
 val:Int
 rnd:Int
def ZJ.cells (x:ZJ):List Value:=[.bool x.any,.int .u32 x.seq,.int .u32 x.val,.int .i64 x.rnd]
def T1 (F:Nat->List AC) (i:Nat):ZJ:=⟨Zz ((F i).getD 0 ZV),ZP ((F i).getD 1 ZV),ZP ((F i).getD 2 ZV),ZP ((F i).getD 3 ZV)⟩
def C7:List AC->Bool
 | [.v (.bool _),.v (.int .u32 _),.v (.int .u32 _),.v (.int .i64 _)]=>true
 |_=>false
def Mm (n:Nat) (F:Nat->List AC):Bool:=(List.range n).all fun k=>C7 (F k)
theorem jjlr {n:Nat} {F:Nat->List AC} (h:Mm n F=true):∀i,i<n->F i=((fun i=>(T1 F i).cells) i).map .v:=fun i hi=>by
 have h1:=List.all_eq_true.1 h i (by simpa using hi);unfold C7 at h1;split at h1
 . rename_i a b d e hf
   unfold T1;simp only[hf];rfl
 . cases h1
abbrev svB (n:Nat) (f:Nat->ZJ):ABlk:=XX 89 4 n fun i=>[.bool (f i).any,.int .u32 (f i).seq,.int .u32 (f i).val,.int .i64 (f i).rnd]
abbrev SO (n:Nat) (f:Nat->ZJ):ABlk:=WH 89 4 n fun i=>[.bool (f i).any,.int .u32 (f i).seq,.int .u32 (f i).val,.int .i64 (f i).rnd]
def OM (P:Program) (a:AV) (m:AMem) (path:List Dec):Option VF:=ZB [1003,1005] (ZM (E1 P) (fC (E1 P) 300) 22 [a] 1000 nSt (XW m path []))
theorem cwAs (f:Nat->ZJ) (n:Nat) (Q:VF->Prop) (H:Q (.c (.sl 1005 0 0 (0+n) none),[none,yO 89 4 (Cs.arr (0+n) fun i=>if i<0 then[] else YW (ABlk.mk false false 89 4 (Cs.arr n fun k=>List.map AC.v ((fun i=>[Value.bool (ZJ.any (f i)),Value.int .u32 (ZJ.seq (f i)),Value.int .u32 (ZJ.val (f i)),Value.int .i64 (ZJ.rnd (f i))]) k))) 0 0 4 (i-0))],1007,[decide (0+n<=n),true,true,decide ((0+n)*24<=140737488355328),ABlk.inb (ABlk.mk false false 89 4 (Cs.arr n fun k=>List.map AC.v ((fun i=>[Value.bool (ZJ.any (f i)),Value.int .u32 (ZJ.seq (f i)),Value.int .u32 (ZJ.val (f i)),Value.int .i64 (ZJ.rnd (f i))]) k))) 0 1],[])):
 ∃p r,OM prog (.c (.sl 0 0 0 n none)) [(0,svB n f)] p=some r/\Q r:=
 ⟨pD 1 0,_,by kernel_rfl,H⟩
theorem cwBs (Q:VF->Prop) (H:Q (.c (AC.v (Value.slice none 0 0)),[none,none],1004,[],[])):
 ∃p r,OM prog (.c (.v (.slice none 0 0))) [] p=some r/\Q r:=
 ⟨pD 1 0,_,by kernel_rfl,H⟩
theorem cwCs (b o cc:Nat) (Q:VF->Prop) (H:Q (.c (.sl 1003 0 0 0 none),[yO 89 4 (Cs.arr 0 fun x=>[]),none],1007,[true,true,true],[])):
 ∃p r,OM prog (.c (.v (.slice (some ⟨b,o,none⟩) 0 cc))) [] p=some r/\Q r:=
 ⟨pD 1 0,_,by kernel_rfl,H⟩
def Qf:Yk
 | [.c a],m,ib=>match XH 4 m a with|some (n,F,b)=>some (.c (.sl ib 0 0 n none),[(ib,SO n (T1 F))],1,[b,decide (n<=1000000),Mm n F])|none=>none
 |_,_,_=>none
theorem jjo2 :ZA prog 22 Qf:=by
 refine⟨⟨_,_,Tryz.func22,rfl⟩,fun C β m m2 w args ib r news k' ob vs hct ho hs hr hfree hlim hv=>?_⟩;unfold Qf at hct;split at hct
 . rename_i a
   split at hct
   . rename_i n F b hsl
     simp only[Option.some.injEq,Prod.mk.injEq] at hct;obtain⟨rfl,rfl,rfl,rfl⟩:=hct;simp only[ZZ,List.forall_mem_cons,decide_eq_true_eq] at ho;obtain⟨rfl,o2,o3,_⟩:=ho;simp only[γt] at hv;split at hv
     . rename_i v0 us hv0 hus
       cases hus;cases hv;have hid:β ib=none:=hfree ib (Nat.le_refl _) (by omega)
       have hmid:ZY m2 ib=none:=by
        cases e:ZY m2 ib with
        |none=>rfl
        |some x=>obtain⟨L,hL,_⟩:=hr.blk ib x e;rw[hid] at hL;cases hL
       obtain⟨L,hk,hL2⟩:=Uy hr (by omega:0<4) (UZ hs hsl) hv0 89 (jjlr o3) (fun _=>rfl) (ZG w) (fun _=>none) rfl;have hL3:=hL2 (ZU (fun _=>none) 0 L) 0 W9;have hrel:=(QD (Se w) (fun _ _ h=>by cases h) (id:=0) rfl (fun g=>by unfold Z2;omega) rfl rfl hk).1;rcases Nat.eq_zero_or_pos n with rfl|hpos
       . cases hnil:L.nil with
         |true=>
          simp only[γc,W9,hnil,if_true] at hL3;have hv1:v0= .slice none 0 0:=by simpa using hL3.symm
          subst hv1;obtain⟨p,⟨v,b',n',ob,po⟩,hrun,hvr,hn,hob,hpo⟩:∃p r,OM prog (.c (.v (.slice none 0 0))) [] p=some r/\(r.1= .c (.v (.slice none 0 0))/\r.2.2.1<=ZR/\ZZ r.2.2.2.1/\∀q∈r.2.2.2.2,q):=cwBs _ ⟨rfl,by dsimp only;unfold ZR;omega,by simp[ZZ],by simp⟩
          obtain⟨s',r1,r2,r3,r4⟩:=T7 hrun;refine(Xa Vk r1 ⟨by rw[r3];exact hob,by rw[r4];exact hpo⟩ (C:=ZG w) (β:=fun _=>none) (w:=w) (vs:=[.slice none 0 0]) rfl (Se w) (fun _ _ _=>rfl)).mono ?_;rintro e w' ⟨β',u,rfl,_,_,hu,hr'⟩;simp only at hvr;subst hvr;cases hu;refine⟨ZU β ib ⟨0,0,4,0,true⟩,_,rfl,Wq hid,fun id h=>by unfold ZU;rw[if_neg (by omega)],?_,Cu (y:=SO 0 (T1 F)) (hr.below (So hr')) hid (W8 (by omega)) rfl⟩;simp[γ,γ1,γc,W9]
         |false=>
          simp only[γc,W9,hnil,Bool.false_eq_true,if_false,Option.some.injEq] at hL3;subst hL3;obtain⟨p,⟨v,b',n',ob,po⟩,hrun,hvr,hbl,hn,hob,hpo⟩:∃p r,OM prog (.c (.v (.slice (some ⟨L.b,L.o+(0*L.s+0),none⟩) 0 ((none:Option Nat).getD (L.cap-0))))) [] p=some r/\(r.1= .c (.sl 1003 0 0 0 none)/\r.2.1=[some ⟨true,true,89,4,.arr 0 fun _=>[]⟩,none]/\r.2.2.1<=ZR/\ZZ r.2.2.2.1/\∀q∈r.2.2.2.2,q):=cwCs _ _ _ _ ⟨rfl,rfl,by dsimp only;unfold ZR;omega,by simp[ZZ],by simp⟩
          obtain⟨s',r1,r2,r3,r4⟩:=T7 hrun;have hn:n'<=ZR:=hn;simp only at hvr hbl;subst hvr;subst hbl;refine(Xa Vk r1 ⟨by rw[r3];exact hob,by rw[r4];exact hpo⟩ (C:=ZG w) (β:=fun _=>none) (w:=w) (vs:=[_]) rfl (Se w) (fun _ _ _=>rfl)).mono ?_;rintro e w' ⟨β',u,rfl,_,_,hu,hr'⟩;simp only[List.map_cons,List.map_nil,List.cons.injEq,and_true] at r2;obtain⟨r2,_⟩:=r2;obtain⟨L',hL',hb'⟩:=hr'.blk 1003 _ r2;refine⟨ZU β ib L',u,rfl,Wq hid,fun id h=>by unfold ZU;rw[if_neg (by omega)],?_,?_⟩
          . simp only[γ,γ1,γc,hL'] at hu
            simp only[γ,γ1,γc,W9];exact hu
          . exact D6 (S8 hr (So hr') hid (W8 (by omega)) hr' r2 rfl rfl (fun k j hi=>by simp[ABlk.inb] at hi) hL') hmid rfl rfl
       . have hnil:L.nil=false:=(hk.cells 0 0 (by simp[XX,ABlk.inb,hpos])).1
         obtain⟨p,⟨v,b',n',ob,po⟩,hrun,hvr,hbl,hn,hob,hpo⟩:∃p r,OM prog (.c (.sl 0 0 0 n none)) [(0,svB n (T1 F))] p=some r/\(r.1= .c (.sl 1005 0 0 n none)/\r.2.1=[none,some (SO n (T1 F))]/\r.2.2.1<=ZR/\ZZ r.2.2.2.1/\∀q∈r.2.2.2.2,q):=by
          refine cwAs _ _ _ ?_;simp only[Nat.zero_add];refine⟨?_,?_,(by first|(unfold ZR;omega)|(dsimp only;unfold ZR;omega)),?_,by simp⟩
          . first|trivial|rfl
          . simp[YW,WH]
          . simp[ZZ,YK,hpos];omega
         obtain⟨s',r1,r2,r3,r4⟩:=T7 hrun;have hn:n'<=ZR:=hn;simp only at hvr hbl;subst hvr;subst hbl;refine(Xa Vk r1 ⟨by rw[r3];exact hob,by rw[r4];exact hpo⟩ (C:=ZG w) (β:=ZU (fun _=>none) 0 L) (w:=w) (vs:=[v0]) ?_ hrel (fun id h1 _=>by unfold ZU;rw[if_neg (by omega)])).mono ?_
         . simp only[γt,γ1,hL3]
         . rintro e w' ⟨β',u,rfl,_,_,hu,hr'⟩
           simp only[List.map_cons,List.map_nil,List.cons.injEq,and_true] at r2;obtain⟨_,r2⟩:=r2;obtain⟨L',hL',hb'⟩:=hr'.blk 1005 _ r2;refine⟨ZU β ib L',u,rfl,Wq hid,fun id h=>by unfold ZU;rw[if_neg (by omega)],?_,?_⟩
           . simp only[γ,γ1,γc,hL'] at hu
             simp only[γ,γ1,γc,W9];exact hu
           . refine S8 hr (So hr') hid (W8 (by omega)) hr' r2 rfl rfl (fun k j _=>?_) hL'
             match j with
             |0=>exact⟨_,rfl⟩
             |1=>exact⟨_,rfl⟩
             |2=>exact⟨_,rfl⟩
             |3=>exact⟨_,rfl⟩
             |j+4=>exact⟨_,rfl⟩
     . cases hv
   . cases hct
 . cases hct
structure VcX where
 A:Nat->Option Addr
 m:Nat->Nat
 k:Nat->Nat
 z:Nat->Int
abbrev Jo (nn:Int) (x:VcX):List AC:=[.v (.int .i64 nn),.v (.slice (x.A 0) (x.m 0) (x.k 0)),.v (.slice (x.A 1) (x.m 1) (x.k 1)),.v (.int .i64 (x.z 0)),.v (.slice (x.A 2) (x.m 2) (x.k 2)),.v (.slice (x.A 3) (x.m 3) (x.k 3)),.v (.int .i64 (x.z 1)),.v (.int .i64 (x.z 2)),.v (.int .i64 (x.z 3))]
abbrev GL (d:Said):List AC:=[.v (.bool d.is),.v (.int .i64 d.at_),.v (.int .u8 d.p.kind),.v (.int .u8 d.p.st),.v (.int .u32 d.p.seq),.v (.int .u32 d.p.val)]
def AH (P:Program) (ids:List Nat) (nn a:Int) (x:VcX) (u:Vw) (d:Said) (o:Hq) (path:List Dec) (lp:List (Option Zl)):Option VF:=
 ZB ids (ZM (E1 P) (fC (E1 P) 300) 10 [.agg (Jo nn x),.agg (ZX u),.agg (GL d),.agg (YC o),i64 a] 2000 nSt (XW [] path lp))
abbrev vcI:List Nat:=[2000,2001,2002,2003,2007]
abbrev We (N:Nat) (g:Nat->Hq):ABlk:=WH 62 56 N fun j=>Ts (g j)
abbrev Mp (nn:Int) (x:VcX) (u:Vw) (d:Said) (o:Hq) (g:Nat->Hq):List ABlk:=[⟨true,false,25,0,.lit (Jo nn x)⟩,⟨true,false,32,0,.lit (ZX u)⟩,⟨true,false,51,0,.lit (GL d)⟩,⟨true,false,62,0,.lit (YC o)⟩,We nn.toNat g]
abbrev Q4:List Nat:=[4,5,6,7,8,11,12]
abbrev Ot (nn a:Int) (k:Nat):List AV:=[i64 a,.c (.ptr 2000 0 0),.c (.ptr 2001 0 0),.c (.ptr 2002 0 0),.c (.ptr 2003 0 0),.c (.sl 2007 0 0 nn.toNat none),i64 (Int.ofNat k)]
abbrev Gw (nn a:Int):List (Nat × AV):=[(4,i64 a),(5,.c (.ptr 2000 0 0)),(8,.c (.ptr 2003 0 0)),(11,.c (.sl 2007 0 0 nn.toNat none))]
def Gu (P:Program) (nn a:Int) (x:VcX) (u:Vw) (d:Said) (o:Hq) (g:Nat->Hq) (k:Nat) (path:List Dec):Option VC:=
 view (Q4++[]) vcI (fC (E1 P) 100 (ZW P 10 0) 100000000 nSt (Wi 37 Q4 vcI (Ot nn a k) (Mp nn x u d o g) path []))
abbrev vcS (nn a:Int) (x:VcX) (u:Vw) (d:Said) (o:Hq) (g:Nat->Hq):Zl:=⟨Q4,vcI,ZQ 37 (Gw nn a),vcI.zip (Mp nn x u d o g),100000000000000000000000000000000000000000000000000,.exit 0⟩
theorem vc0 (nn a:Int) (x:VcX) (u:Vw) (d:Said) (o:Hq) (g:Nat->Hq) (k:Nat) (Q:VC->Prop) (H:let zN:=Int.ofNat;let zz0:=(ABlk.mk true false 25 0 (Cs.lit [zI nn,AC.v (Value.slice (x.1 0) (VcX.m x 0) (VcX.k x 0)),AC.v (Value.slice (x.1 1) (VcX.m x 1) (VcX.k x 1)),zI (VcX.z x 0),AC.v (Value.slice (x.1 2) (VcX.m x 2) (VcX.k x 2)),AC.v (Value.slice (x.1 3) (VcX.m x 3) (VcX.k x 3)),zI (VcX.z x 1),zI (VcX.z x 2),zI (VcX.z x 3)]));let zs0:=fun (l:List (Option AV))=>some (ZO (List.zip Q4 (Ot nn a k)) 4)::some (ZO (List.zip Q4 (Ot nn a k)) 5)::some (ZO (List.zip Q4 (Ot nn a k)) 6)::some (ZO (List.zip Q4 (Ot nn a k)) 7)::some (ZO (List.zip Q4 (Ot nn a k)) 8)::some (ZO (List.zip Q4 (Ot nn a k)) 11)::l;(((decide (zN k<nn))=true->Q (Exit.normal,(zs0 [some (.c (zI (IntKind.wrap .i64 (zN k+zN 1))))]),[some zz0,yR 32 0 (Cs.lit (ZX u)),yR 51 0 (Cs.lit (GL d)),yR 62 0 (Cs.lit (YC o)),yO 62 56 (Cs.arr (Int.toNat nn) fun i=>if i=0+Int.toNat (zN k) then YD ((fun k=>List.map AC.v ((fun j=>Ts (g j)) k)) i) 0 (zB true::zI (zN 0)::zB false::zI (zN 0)::zU (zN 0)::zU (zN 0)::zW (zN 0)::zW (zN 0)::zB (Said.is d)::zI (Said.at_ d)::zU (Payload.kind (Said.p d))::zU (Payload.st (Said.p d))::zW (Payload.seq (Said.p d))::zW (Payload.val (Said.p d))::z8 (fun zk=>zB (Vw.inn u zk)) (z8 (fun zk=>zU (Vw.miss u zk)) (z8 (fun zk=>zU (Vw.good u zk)) (z8 (fun zk=>zH (Vw.score u zk)) (z8 (fun zk=>zB (Vw.got u zk)) [.v (.int .i8 (Vw.command u)),zU (Vw.mode u)]))))) else List.map AC.v ((fun j=>Ts (g j)) i))],37,100000015,(ABlk.inb (ABlk.mk true true 62 56 (Cs.arr (Int.toNat nn) fun k=>List.map AC.v ((fun j=>Ts (g j)) k))) (0+Int.toNat (zN k)) 56::decide (zN 0<=zN k/\zN k < ↑(Int.toNat nn))::zt (zt (zt (zt (zt (zt [true,true,decide (zN k<nn)==true,true,true])))))),[]))/\((decide (zN k<nn))=false->Q (Exit.exit 0,(zs0 [some (ZO (List.zip Q4 (Ot nn a k)) 12)]),[some zz0,yR 32 0 (Cs.lit (ZX u)),yR 51 0 (Cs.lit (GL d)),yR 62 0 (Cs.lit (YC o)),yO 62 56 (Cs.arr (Int.toNat nn) fun k=>List.map AC.v ((fun j=>Ts (g j)) k))],37,100000004,[decide (zN k<nn)==false,true,true],[])))):
 ∃p r,Gu prog nn a x u d o g k p=some r/\Q r:=
 ZD H (fun g1=>⟨pD 1 1,_,by kernel_rfl,g1⟩) (fun g1=>⟨pD 1 2,_,by kernel_rfl,g1⟩)
theorem vcT (nn a:Int) (x:VcX) (u:Vw) (d:Said) (o:Hq) (g:Nat->Hq) (Q:VF->Prop) (H:Q (.c (.sl 2007 0 0 (Int.toNat nn) none),[yO 62 56 (Cs.arr (Int.toNat nn) fun i=>if i=0+Int.toNat (Int.tmod a nn) then YD ((fun k=>List.map AC.v ((fun j=>Ts (g j)) k)) i) 0 (YC o) else List.map AC.v ((fun j=>Ts (g j)) i))],100000000070000000000000000000000000000000000000003,((ABlk.inb (ABlk.mk true true 62 56 (Cs.arr (Int.toNat nn) fun k=>List.map AC.v ((fun j=>Ts (g j)) k))) (0+Int.toNat (Int.tmod a nn)) 56)::(decide (Int.ofNat 0<=Int.tmod a nn/\Int.tmod a nn < ↑(Int.toNat nn)))::(zu (zt (zt (zt (true::((decide (nn≠Int.ofNat 0))::true::true::(decide (Int.ofNat 0<=nn/\nn=nn/\nn*Int.ofNat 136<=Int.ofNat 140737488355328))::true::true::[]))))))),[LoopV prog (ZW prog 10 0) Q4 vcI [some (.c (zI a)),some (.c (.ptr 2000 0 0)),some (.c (.ptr 2001 0 0)),some (.c (.ptr 2002 0 0)),some (.c (.ptr 2003 0 0)),some (.c (.sl 2007 0 0 (Int.toNat nn) none)),some (.c (zI (Int.ofNat 0)))] [yR 25 0 (Cs.lit [zI nn,AC.v (Value.slice (x.1 0) (VcX.m x 0) (VcX.k x 0)),AC.v (Value.slice (x.1 1) (VcX.m x 1) (VcX.k x 1)),zI (VcX.z x 0),AC.v (Value.slice (x.1 2) (VcX.m x 2) (VcX.k x 2)),AC.v (Value.slice (x.1 3) (VcX.m x 3) (VcX.k x 3)),zI (VcX.z x 1),zI (VcX.z x 2),zI (VcX.z x 3)]),yR 32 0 (Cs.lit (ZX u)),yR 51 0 (Cs.lit (GL d)),yR 62 0 (Cs.lit (YC o)),yO 62 56 (Cs.arr (Int.toNat nn) fun x=>List.map AC.v (Array.toList (Value.cells (Value.agg #[Value.bool false,Value.int .i64 0,Value.bool false,Value.int .i64 0,Value.int .u8 0,Value.int .u8 0,Value.int .u32 0,Value.int .u32 0,Value.bool false,Value.int .i64 0,Value.int .u8 0,Value.int .u8 0,Value.int .u32 0,Value.int .u32 0,Value.bool false,Value.bool false,Value.bool false,Value.bool false,Value.bool false,Value.bool false,Value.bool false,Value.bool false,Value.int .u8 0,Value.int .u8 0,Value.int .u8 0,Value.int .u8 0,Value.int .u8 0,Value.int .u8 0,Value.int .u8 0,Value.int .u8 0,Value.int .u8 0,Value.int .u8 0,Value.int .u8 0,Value.int .u8 0,Value.int .u8 0,Value.int .u8 0,Value.int .u8 0,Value.int .u8 0,Value.int .u16 0,Value.int .u16 0,Value.int .u16 0,Value.int .u16 0,Value.int .u16 0,Value.int .u16 0,Value.int .u16 0,Value.int .u16 0,Value.bool false,Value.bool false,Value.bool false,Value.bool false,Value.bool false,Value.bool false,Value.bool false,Value.bool false,Value.int .i8 0,Value.int .u8 0]))))] 37 2010 (ZQ 37 (Gw nn a)) (List.zip vcI (Mp nn x u d o g)) 100000000000000000000000000000000000000000000000000 (Exit.exit 0) none])):
 ∃p r,AH prog [2007] nn a x u d o p [some (vcS nn a x u d o g)]=some r/\Q r:=
 ⟨pD 0 0,_,by kernel_rfl,H⟩
theorem Lt (t:Nat->Bool) (v:Vw) (p:Nat):U9 t v p=true↔(t p=true\/(v.inn p=false/\v.got p=false/\v.miss p=0/\v.good p=0/\v.score p=0))/\v.miss p<=100/\v.good p<=100/\v.score p<=1000:=by
 unfold U9 SY;simp only[Bool.and_eq_true,Bool.or_eq_true,decide_eq_true_eq,Bool.not_eq_true']
end Go.Proofs.YtljeokninakliaaGreatDoor
end
