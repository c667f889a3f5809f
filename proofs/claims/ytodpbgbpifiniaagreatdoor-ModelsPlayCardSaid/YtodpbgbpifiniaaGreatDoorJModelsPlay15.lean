/- Parts, one behind the other. Parts of a proof. -/
import Derived.Test.YtodpbgbpifiniaaGreatDoorJModelsPlay14
import Derived.Test.YtodpbgbpifiniaaGreatDoorJModelsPlay10
import Derived.Test.YtodpbgbpifiniaaGreatDoorJModelsPlay9
set_option linter.unusedSimpArgs false
set_option linter.unusedVariables false
set_option maxRecDepth 1000000
set_option maxHeartbeats 4000000
section
namespace Go.Proofs.YtodpbgbpifiniaaGreatDoor
open Go.RowKit Tryz
def RN (c:Cfg):Int:=
 if Ya c≠0 then Ya c else if XJ c≠0 then XJ c else if YV c=false then 1 else if XK c≠0 then XK c else if Z3 c=false then 1 else if Xi c≠0 then Xi c else if YA c≠0 then YA c else if XL c≠0 then XL c else if Ys c≠0 then Ys c else Y0 c
def Mu (c:Cfg) (r:VF):Prop:=r.1=i64 (RN c)/\r.2.2.1<=ZQ/\ZZ r.2.2.2.1/\∀q∈r.2.2.2.2,q
theorem jjnp {n:Int} (h4:4<=n) (h16:n<=16):(if IntKind.wrap IntKind.i64 (n+Int.ofNat 116)>IntKind.wrap IntKind.i64 (IntKind.wrap IntKind.i64 (Int.ofNat 3*n)+Int.ofNat 1) then IntKind.wrap IntKind.i64 (n+Int.ofNat 116) else IntKind.wrap IntKind.i64 (IntKind.wrap IntKind.i64 (Int.ofNat 3*n)+Int.ofNat 1))=max (3*n+1) (n+116):=by
 have w1:IntKind.wrap IntKind.i64 (n+Int.ofNat 116)=n+116:=by
  rw[XG _ (by simp;omega) (by simp;omega)];simp
 have w2:IntKind.wrap IntKind.i64 (IntKind.wrap IntKind.i64 (Int.ofNat 3*n)+Int.ofNat 1)=3*n+1:=by
  rw[XG (Int.ofNat 3*n) (by simp;omega) (by simp;omega),XG _ (by simp;omega) (by simp;omega)];simp
 rw[w1,w2];split<;>omega
theorem jjdv {f:Nat->Int} {n j:Nat} {lo hi:Int} (hmin:∀i,i<j->ZV (f i) lo hi=0) (hj:j<n) (hy:ZV (f j) lo hi≠0):Xx f n lo hi=ZV (f j) lo hi:=by
 unfold Xx;rw[OW (j:=j) (fun i hi=>by simp[hmin i hi]) (Nat.le_of_lt hj) (fun _=>by simp[hy]),if_pos hj]
theorem jjhn {f:Nat->Int} {n:Nat} {lo hi:Int} (hmin:∀i,i<n->ZV (f i) lo hi=0):Xx f n lo hi=0:=by
 unfold Xx;rw[OW (j:=n) (fun i hi=>by simp[hmin i hi]) (Nat.le_refl _) (fun h=>absurd h (Nat.lt_irrefl _)),if_neg (Nat.lt_irrefl _)]
theorem jjb3 {c:Cfg} {j:Nat} (hmin:∀i,i<j->Zo c i=0) (hj:j<c.nt) (hy:Zo c j≠0):Ys c=Zo c j:=by
 unfold Ys;rw[OW (j:=j) (fun i hi=>by simp[hmin i hi]) (Nat.le_of_lt hj) (fun _=>by simp[hy]),if_pos hj]
theorem jjd8 {c:Cfg} (hmin:∀i,i<c.nt->Zo c i=0):Ys c=0:=by
 unfold Ys;rw[OW (j:=c.nt) (fun i hi=>by simp[hmin i hi]) (Nat.le_refl _) (fun h=>absurd h (Nat.lt_irrefl _)),if_neg (Nat.lt_irrefl _)]
theorem jjgq (c:Cfg):∃p lp r,JT prog c lp p=some r/\Mu c r:=by
 have f2:XJ c=0->2<=c.np/\c.np<=8:=fun h=>by have:=T5 h;omega
 have f4:XK c=0->1<=c.ns/\c.ns<=16:=fun h=>by have:=T5 h;omega
 have f8:XL c=0->c.nt<=8:=fun h=>by have:=T5 h;omega
 have f1:Ya c=0->4<=c.nodes/\c.nodes<=16:=fun h=>T5 h
 obtain⟨j,hj,hmin,hyes⟩:=Nh c.nb fun i=>ZV (c.fb i) 0 4096≠0
 simp only[ne_eq,Decidable.not_not] at hmin;obtain⟨i,hi,him,hiy⟩:=Nh c.nt fun i=>Zo c i≠0
 simp only[ne_eq,Decidable.not_not] at him;have r1:ZV (Cfg.nodes c) (Int.ofNat 4) (Int.ofNat 16)=Ya c:=rfl;have r2:ZV (↑(Cfg.np c)) (Int.ofNat 2) (Int.ofNat 8)=XJ c:=rfl;have r4:ZV (↑(Cfg.ns c)) (Int.ofNat 1) (Int.ofNat 16)=XK c:=rfl;have r6:ZV (Cfg.long c) (max (3*Cfg.nodes c+1) (Cfg.nodes c+116)) (Int.ofNat 4096)=Xi c:=rfl;have r8:ZV (↑(Cfg.nt c)) (Int.ofNat 0) (Int.ofNat 8)=XL c:=rfl;have z1:Int.ofNat 1=1:=rfl;have z0:Int.ofNat 0=0:=rfl;have z100:Int.ofNat 100=100:=rfl;by_cases h1:Ya c=0
 . obtain ⟨g4,g16⟩:=f1 h1
   have hmx:=jjnp g4 g16;rcases Nat.lt_or_ge j c.nb with hlt|hge
   . have hy:=hyes hlt
     have e7:(c.nb:Int)=c.nodes->YA c=ZV (c.fb j) 0 4096:=fun h=>by unfold YA;rw[if_pos h,jjdv hmin hlt hy]
     have e7':¬(c.nb:Int)=c.nodes->YA c=1:=fun h=>by unfold YA;rw[if_neg h]
     refine(?_:(∃p r,JT prog c [some (QD .ret [(2,i64 (ZV (c.fb j) 0 4096))] [])] p=some r/\Mu c r)->_) (n4A c (ZV (c.fb j) 0 4096) (Mu c) ?_)
     . rintro⟨p,r,q1,q2⟩
       exact⟨p,_,r,q1,q2⟩
     simp only[Ly,YZ,YT,YO,r1,r2,r4,hmx,r6,r8]
     repeat' (first|refine⟨fun h=>?_,fun h=>?_⟩|fail)
     all_goals (simp only[bne_iff_ne,ne_eq,bne_eq_false_iff_eq,Bool.not_eq_true',Bool.not_eq_false',z0,z1] at *)
     all_goals (refine⟨?_,(by first|(unfold ZQ;omega)|(dsimp only;unfold ZQ;omega)),?_,?_⟩)
     all_goals (first
      |(intro q hq;cases hq;done)
      | (intro q hq
         rw[List.mem_singleton.1 hq]
         exact NJ c _ (by omega) (by omega) (by omega) j hj hmin (fun _=>hy) ⟨fun _=>⟨rfl,rfl,rfl⟩,fun h=>by omega⟩)
      |(simp_all[RN,i64];done)
      |(simp_all[ZZ,TQ,TR];done)
      |(simp_all[ZZ,TQ,TR];omega)
      |fail)
   . obtain rfl:j=c.nb:=by omega
     have e7:(c.nb:Int)=c.nodes->YA c=0:=fun h=>by unfold YA;rw[if_pos h,jjhn hmin]
     have e7':¬(c.nb:Int)=c.nodes->YA c=1:=fun h=>by unfold YA;rw[if_neg h]
     have r10a:ZV (Cfg.miss c) (Int.ofNat 1) (Int.ofNat 100)=ZV c.miss 1 100:=rfl;have r10b:ZV (Cfg.good c) (Int.ofNat 1) (Int.ofNat 100)=ZV c.good 1 100:=rfl;have r10c:ZV (Cfg.fresh c) (Int.ofNat 1) (Int.ofNat 100)=ZV c.fresh 1 100:=rfl;rcases Nat.lt_or_ge i c.nt with hlt|hge
     . have hy:=hiy hlt
       have e9:Ys c=Zo c i:=jjb3 him hlt hy;refine(?_:(∃p r,JT prog c [some (QD (.exit 0) [(1,.c (.ptr 1000 0 0))] [(1000,Zr c),(3,Xj c.nt c.ft)]),some (LP .ret [(2,i64 (Zo c i))] [])] p=some r/\Mu c r)->_) (n4B c (Zo c i) (Mu c) ?_)
       . rintro⟨p,r,q1,q2⟩
         exact⟨p,_,r,q1,q2⟩
       simp only[Ly,YZ,YT,YO,r1,r2,r4,hmx,r6,r8,r10a,r10b,r10c]
       repeat' (first|refine⟨fun h=>?_,fun h=>?_⟩|fail)
       all_goals (simp only[bne_iff_ne,ne_eq,bne_eq_false_iff_eq,Bool.not_eq_true',Bool.not_eq_false',z0,z1] at *)
       all_goals (refine⟨?_,(by first|(unfold ZQ;omega)|(dsimp only;unfold ZQ;omega)),?_,?_⟩)
       all_goals (first
        |(intro q hq;cases hq;done)
        | (intro q hq
           rw[List.mem_singleton.1 hq]
           exact NJ c _ (by omega) (by omega) (by omega) c.nb (Nat.le_refl _) hmin (fun h=>by omega) ⟨fun h=>by omega,fun _=>⟨rfl,rfl,rfl⟩⟩)
        | (intro q hq
           simp only[List.mem_cons,List.not_mem_nil,or_false] at hq;rcases hq with rfl|rfl
           . exact Fl c _ (by omega) (by omega) (by omega) i hi him (fun _=>hy) ⟨fun _=>⟨rfl,rfl,rfl⟩,fun h=>by omega⟩
           . exact NJ c _ (by omega) (by omega) (by omega) c.nb (Nat.le_refl _) hmin (fun h=>by omega) ⟨fun h=>by omega,fun _=>⟨rfl,rfl,rfl⟩⟩)
        |(simp_all[RN,i64,Y0];done)
        |(simp_all[ZZ,TQ,TR];done)
        |(simp_all[ZZ,TQ,TR];omega)
        |fail)
     . obtain rfl:i=c.nt:=by omega
       have e9:Ys c=0:=jjd8 him;refine(?_:(∃p r,JT prog c [some (QD (.exit 0) [(1,.c (.ptr 1000 0 0))] [(1000,Zr c),(3,Xj c.nt c.ft)]),some (LP (.exit 2) [(1,.c (.ptr 1000 0 0))] [(1000,Zr c)])] p=some r/\Mu c r)->_) (n4C c (Mu c) ?_)
       . rintro⟨p,r,q1,q2⟩
         exact⟨p,_,r,q1,q2⟩
       simp only[Ly,YZ,YT,YO,r1,r2,r4,hmx,r6,r8,r10a,r10b,r10c]
       repeat' (first|refine⟨fun h=>?_,fun h=>?_⟩|fail)
       all_goals (simp only[bne_iff_ne,ne_eq,bne_eq_false_iff_eq,Bool.not_eq_true',Bool.not_eq_false',z0,z1] at *)
       all_goals (refine⟨?_,(by first|(unfold ZQ;omega)|(dsimp only;unfold ZQ;omega)),?_,?_⟩)
       all_goals (first
        |(intro q hq;cases hq;done)
        | (intro q hq
           rw[List.mem_singleton.1 hq]
           exact NJ c _ (by omega) (by omega) (by omega) c.nb (Nat.le_refl _) hmin (fun h=>by omega) ⟨fun h=>by omega,fun _=>⟨rfl,rfl,rfl⟩⟩)
        | (intro q hq
           simp only[List.mem_cons,List.not_mem_nil,or_false] at hq;rcases hq with rfl|rfl
           . exact Fl c _ (by omega) (by omega) (by omega) c.nt (Nat.le_refl _) him (fun h=>by omega) ⟨fun h=>by omega,fun _=>⟨rfl,rfl,rfl⟩⟩
           . exact NJ c _ (by omega) (by omega) (by omega) c.nb (Nat.le_refl _) hmin (fun h=>by omega) ⟨fun h=>by omega,fun _=>⟨rfl,rfl,rfl⟩⟩)
        |(simp_all[RN,i64,Y0];done)
        |(simp_all[ZZ,TQ,TR];done)
        |(simp_all[ZZ,TQ,TR];omega)
        |fail)
 . refine(?_:(∃p r,JT prog c [some (QD .ret [(2,i64 0)] [])] p=some r/\Mu c r)->_) (n4A c 0 (Mu c) ?_)
   . rintro⟨p,r,q1,q2⟩
     exact⟨p,_,r,q1,q2⟩
   simp only[r1];refine⟨fun h=>⟨?_,(by first|(unfold ZQ;omega)|(dsimp only;unfold ZQ;omega)),?_,fun q hq=>(by cases hq)⟩,fun h=>?_⟩
   . show i64 (Ya c)=i64 (RN c)
     unfold RN;rw[if_pos h1]
   . simp[ZZ]
     exact h1
   . exfalso
     simp at h;exact h1 h
theorem jjgd (c:Cfg):Z3 c=X6 c c.np:=by
 have hin:((List.range c.ns).all fun k=>decide (¬SV c k))=Za c.fs c.ns c.np:=by
  unfold Za SV;congr 1;funext k;simp only[decide_eq_decide];omega
 unfold Z3 X6;rw[hin]
 cases hi:Za c.fs c.ns c.np with
 |false=>rfl
 | true=>
  have h0:∀k,k<c.ns->0<=c.fs k:=fun k hk=>by
   have:=List.all_eq_true.1 hi k (by simpa using hk);simp at this;exact this.1
  rw[Bool.true_and,Bool.true_and];congr 1;funext i;unfold Wy Wm;rw[Bool.eq_iff_iff];simp only[Bool.not_eq_false,decide_eq_true_eq,List.any_eq_true,List.mem_range,beq_iff_eq];constructor
  . rintro⟨p,h1,h2⟩
    exact⟨p,h1,by have:=h0 p h1;simp;omega⟩
  . rintro⟨p,h1,h2⟩
    exact⟨p,h1,by have:=h0 p h1;simp at h2;omega⟩
theorem DM (c:Cfg) (k i:Nat):WS c k i=true↔∃p,p<k/\(i=(c.fp p).toNat\/i=(Wf c p).toNat):=by
 unfold WS;simp[List.any_eq_true]
def Hs (c:Cfg):Prop:=(∀i,i<c.np->0<=c.fp i/\c.fp i<c.nodes)/\(∀i,i+1<c.np->c.fp i<=c.fp (i+1))/\(∀p q,p<q->q<c.np->c.fp p≠c.fp q/\c.fp p≠Wf c q/\Wf c p≠c.fp q/\Wf c p≠Wf c q)
theorem jjjx (c:Cfg) (p:Nat) (h4:4<=c.nodes) (h0:0<=c.fp p) (h1:c.fp p<c.nodes):c.fp p≠Wf c p:=by
 unfold Wf;rw[Int.tmod_eq_emod_of_nonneg (by omega)];rcases (by omega:c.fp p+1<c.nodes\/c.fp p+1=c.nodes) with h|h
 . rw[Int.emod_eq_of_lt (by omega) h];omega
 . rw[h,Int.emod_self];omega
theorem jjbd (c:Cfg) (h4:4<=c.nodes):YV c=true↔Hs c:=by
 have hp:YV c=true↔∀k,k<c.np->¬Uz c k:=by
  unfold YV;simp[List.all_eq_true]
 rw[hp];constructor
 . intro h
   have hin:∀i,i<c.np->0<=c.fp i/\c.fp i<c.nodes:=fun i hi=>by
    have:=h i hi;unfold Uz at this;omega
   refine⟨hin,fun i hi=>?_,fun p q hpq hq=>?_⟩
   . have:=h (i+1) hi
     unfold Uz at this;simp only[not_or,not_and,Nat.add_sub_cancel] at this;have:=this.2.2.1 (by omega);omega
   . have hq':=h q hq
     unfold Uz at hq';simp only[not_or,DM] at hq';obtain⟨_,_,_,u1,u2⟩:=hq';obtain⟨a0,a1⟩:=hin p (by omega);obtain⟨b0,b1⟩:=hin q hq;obtain⟨n0,_⟩:=Pc c p h4 a0;obtain⟨m0,_⟩:=Pc c q h4 b0;refine⟨fun e=>u1 ⟨p,hpq,.inl (by rw[e])⟩,fun e=>u2 ⟨p,hpq,.inl (by rw[e])⟩,fun e=>u1 ⟨p,hpq,.inr (by rw[e])⟩,fun e=>u2 ⟨p,hpq,.inr (by rw[e])⟩⟩
 . rintro⟨hin,hs,hd⟩ k hk
   obtain⟨b0,b1⟩:=hin k hk;obtain⟨m0,_⟩:=Pc c k h4 b0;unfold Uz;simp only[not_or,DM];refine⟨by omega,by omega,?_,?_,?_⟩
   . rintro⟨h0,h1⟩
     have h2:=hs (k-1) (by omega);rw[show k-1+1=k by omega] at h2;exact(hd (k-1) k (by omega) hk).1 (by omega)
   . rintro⟨p,hpk,e⟩
     obtain⟨a0,a1⟩:=hin p (by omega);obtain⟨n0,_⟩:=Pc c p h4 a0;obtain⟨d1,d2,d3,d4⟩:=hd p k hpk hk;rcases e with e|e<;>omega
   . rintro⟨p,hpk,e⟩
     obtain⟨a0,a1⟩:=hin p (by omega);obtain⟨n0,_⟩:=Pc c p h4 a0;obtain⟨d1,d2,d3,d4⟩:=hd p k hpk hk;rcases e with e|e<;>omega
theorem jjb4 (c:Cfg) (h4:4<=c.nodes) (h16:c.nodes<=16):Yz c=0↔Hs c:=by
 have h3:Yz c=0↔(Za c.fp c.np c.nodes=true/\Yt c.fp c.np=true/\WD (Zs c) (2*c.np)=true):=by
  unfold Yz;simp only[Bool.and_eq_true];split<;>simp_all
 have hi:Za c.fp c.np c.nodes=true↔∀i,i<c.np->0<=c.fp i/\c.fp i<c.nodes:=by
  unfold Za;simp[List.all_eq_true]
 have hs:Yt c.fp c.np=true↔∀i,i+1<c.np->c.fp i<=c.fp (i+1):=by
  unfold Yt;simp only[List.all_eq_true,List.mem_range,decide_eq_true_eq];exact⟨fun h i hi=>h i (by omega),fun h i hi=>h i (by omega)⟩
 have hn:WD (Zs c) (2*c.np)=true↔∀q q',q<q'->q'<2*c.np->Zs c q≠Zs c q':=by
  unfold WD;rw[decide_eq_true_eq,List.Nodup,List.pairwise_map,List.pairwise_iff_getElem];simp only[List.length_range,List.getElem_range];exact⟨fun h q q' h1 h2=>h q q' (by omega) h2 h1,fun h q q' _ h2 h1=>h q q' h1 h2⟩
 rw[h3,hi,hs,hn];unfold Hs;refine and_congr_right fun hin=>and_congr_right fun _=>?_
 have he:∀p,Zs c (2*p)=c.fp p:=fun p=>by unfold Zs;rw[if_pos (by omega),show 2*p / 2=p by omega]
 have ho:∀p,p<c.np->Zs c (2*p+1)=Wf c p:=fun p hp=>by
  obtain⟨a0,a1⟩:=hin p hp;unfold Zs Uv Wf;rw[if_neg (by omega),show (2*p+1) / 2=p by omega,if_pos ⟨h4,h16,a0,a1⟩,Int.tmod_eq_emod_of_nonneg (by omega)]
 constructor
 . intro h p q hpq hq
   refine⟨?_,?_,?_,?_⟩
   . have:=h (2*p) (2*q) (by omega) (by omega);rwa[he,he] at this
   . have:=h (2*p) (2*q+1) (by omega) (by omega);rwa[he,ho q hq] at this
   . have:=h (2*p+1) (2*q) (by omega) (by omega);rwa[he,ho p (by omega)] at this
   . have:=h (2*p+1) (2*q+1) (by omega) (by omega);rwa[ho p (by omega),ho q hq] at this
 . intro h q q' h1 h2
   obtain⟨x,hx⟩:∃x,x=q / 2:=⟨_,rfl⟩
   obtain⟨y,hy⟩:∃y,y=q' / 2:=⟨_,rfl⟩
   have hyn:y<c.np:=by omega
   rcases Nat.lt_or_ge x y with hxy|hxy
   . obtain⟨d1,d2,d3,d4⟩:=h x y hxy hyn
     rcases (by omega:q=2*x\/q=2*x+1) with rfl|rfl<;>rcases (by omega:q'=2*y\/q'=2*y+1) with rfl|rfl
     . rw[he,he];exact d1
     . rw[he,ho y hyn];exact d2
     . rw[he,ho x (by omega)];exact d3
     . rw[ho x (by omega),ho y hyn];exact d4
   . obtain rfl:x=y:=by omega
     obtain rfl:q=2*x:=by omega
     obtain rfl:q'=2*x+1:=by omega
     obtain⟨a0,a1⟩:=hin x hyn;rw[he,ho x hyn];exact jjjx c x h4 a0 a1
theorem jjj8 (c:Cfg):RN c=ZH c:=by
 unfold RN ZH;by_cases h1:Ya c=0
 . obtain⟨g4,g16⟩:=T5 h1
   have hp:YV c=false↔Yz c≠0:=by
    rw[<- Bool.not_eq_true,jjbd c g4,<- jjb4 c g4 g16]
   have h3:Yz c≠0->Yz c=1:=by
    unfold Yz;split
    . intro h;exact absurd rfl h
    . intro _;rfl
   have h5:Z3 c=false↔Yb c≠0:=by
    rw[jjgd];unfold Yb;cases X6 c c.np<;>simp
   have h5':Yb c≠0->Yb c=1:=by
    unfold Yb;split
    . intro h;exact absurd rfl h
    . intro _;rfl
   by_cases e3:Yz c=0
   . by_cases e5:Yb c=0
     . simp[h1,hp,h5,e3,e5]
     . simp[h1,hp,h5,e3,e5,h5' e5]
   . simp[h1,hp,e3,h3 e3]
 . simp[h1]
theorem EW:ZC prog 7 (YP (fun c=>i64 (ZH c)) fun _=>true):=by
 refine Qp (E:=Hr prog) (fuel:=300) (str:=nSt) HI ⟨_,_,Tryz.func7,rfl⟩ (fun c=>PW _) fun c _=>?_
 obtain⟨p,lp,r,h1,h2⟩:=jjgq c;unfold Mu at h2;rw[jjj8] at h2;exact⟨p,lp,r,h1,h2⟩
def QE (np:Nat) (i:Nat):Bool:=decide (i<np)
theorem Bo (z:Int) (Q:VF->Prop) (H:let zz0:=(IntKind.wrap IntKind.i64 (IntKind.wrap IntKind.i64 z+Int.ofNat 1)<Int.ofNat 0);let zz1:=(IntKind.wrap IntKind.i64 (IntKind.wrap IntKind.i64 z+Int.ofNat 1)>Int.ofNat 100);(((decide zz0)=true->Q (.c (zU (Int.ofNat 0)),[],1010,[decide zz0==true],[]))/\((decide zz0)=false->(((decide zz1)=true->Q (.c (zU (Int.ofNat 100)),[],1014,[decide zz1==true,decide zz0==false],[]))/\((decide zz1)=false->Q (.c (zU (IntKind.wrap .u8 (IntKind.wrap .i64 (IntKind.wrap .i64 z+Int.ofNat 1)))),[],1014,[decide zz1==false,decide zz0==false],[])))))):
 ∃p r,MA prog 108 .u8 z p=some r/\Q r:=
 ZL H (fun g1=>⟨pD 1 1,_,by kernel_rfl,g1⟩) (fun g1=>ZL g1 (fun g2=>⟨pD 2 5,_,by kernel_rfl,g2⟩) (fun g2=>⟨pD 2 8,_,by kernel_rfl,g2⟩))
theorem H0 (z:Int) (Q:VF->Prop) (H:let zN:=Int.ofNat;let zz0:=(IntKind.wrap IntKind.i64 (IntKind.wrap IntKind.i64 z+zN 8)<zN 0);let zz1:=(IntKind.wrap IntKind.i64 (IntKind.wrap IntKind.i64 z+zN 8)>zN 1000);let zq0:List Bool:=[decide (IntKind.wrap .i64 z<zN 0)==false];let zq1:List Bool:=(decide (IntKind.wrap .i64 z>zN 1000)==false)::zq0;let zq2:List Bool:=(decide zz0==false)::zq1;(((decide (IntKind.wrap .i64 z<zN 0))=true->Q (.c (zH (zN 8)),[],1018,[decide (IntKind.wrap .i64 z<zN 0)==true],[]))/\((decide (IntKind.wrap .i64 z<zN 0))=false->(((decide (IntKind.wrap .i64 z>zN 1000))=true->Q (.c (zH (zN 1000)),[],1022,((decide (IntKind.wrap .i64 z>zN 1000)==true)::zq0),[]))/\((decide (IntKind.wrap .i64 z>zN 1000))=false->(((decide zz0)=true->Q (.c (zH (zN 0)),[],1018,((decide zz0==true)::zq1),[]))/\((decide zz0)=false->(((decide zz1)=true->Q (.c (zH (zN 1000)),[],1022,((decide zz1==true)::zq2),[]))/\((decide zz1)=false->Q (.c (zH (IntKind.wrap .u16 (IntKind.wrap .i64 (IntKind.wrap .i64 z+zN 8)))),[],1022,((decide zz1==false)::zq2),[])))))))))):
 ∃p r,MA prog 110 .u16 z p=some r/\Q r:=
 ZL H (fun g1=>⟨pD 3 1,_,by kernel_rfl,g1⟩) (fun g1=>ZL g1 (fun g2=>⟨pD 4 5,_,by kernel_rfl,g2⟩) (fun g2=>ZL g2 (fun g3=>⟨pD 3 17,_,by kernel_rfl,g3⟩) (fun g3=>ZL g3 (fun g4=>⟨pD 4 53,_,by kernel_rfl,g4⟩) (fun g4=>⟨pD 4 80,_,by kernel_rfl,g4⟩))))
theorem H1 (z:Int) (Q:VF->Prop) (H:let zN:=Int.ofNat;let zz0:=(IntKind.wrap IntKind.i64 (IntKind.wrap IntKind.i64 z-zN 1)<zN 0);let zz1:=(IntKind.wrap IntKind.i64 (IntKind.wrap IntKind.i64 z-zN 1)>zN 1000);let zq0:List Bool:=[decide (IntKind.wrap .i64 z<zN 0)==false];let zq1:List Bool:=(decide (IntKind.wrap .i64 z>zN 1000)==false)::zq0;let zq2:List Bool:=(decide zz0==false)::zq1;(((decide (IntKind.wrap .i64 z<zN 0))=true->Q (.c (zH (zN 0)),[],1014,[decide (IntKind.wrap .i64 z<zN 0)==true],[]))/\((decide (IntKind.wrap .i64 z<zN 0))=false->(((decide (IntKind.wrap .i64 z>zN 1000))=true->Q (.c (zH (zN 999)),[],1022,((decide (IntKind.wrap .i64 z>zN 1000)==true)::zq0),[]))/\((decide (IntKind.wrap .i64 z>zN 1000))=false->(((decide zz0)=true->Q (.c (zH (zN 0)),[],1018,((decide zz0==true)::zq1),[]))/\((decide zz0)=false->(((decide zz1)=true->Q (.c (zH (zN 1000)),[],1022,((decide zz1==true)::zq2),[]))/\((decide zz1)=false->Q (.c (zH (IntKind.wrap .u16 (IntKind.wrap .i64 (IntKind.wrap .i64 z-zN 1)))),[],1022,((decide zz1==false)::zq2),[])))))))))):
 ∃p r,MA prog 109 .u16 z p=some r/\Q r:=
 ZL H (fun g1=>⟨pD 2 1,_,by kernel_rfl,g1⟩) (fun g1=>ZL g1 (fun g2=>⟨pD 4 5,_,by kernel_rfl,g2⟩) (fun g2=>ZL g2 (fun g3=>⟨pD 3 17,_,by kernel_rfl,g3⟩) (fun g3=>ZL g3 (fun g4=>⟨pD 4 53,_,by kernel_rfl,g4⟩) (fun g4=>⟨pD 4 80,_,by kernel_rfl,g4⟩))))
theorem Bn (c:Cfg) (v:Vw) (z:Int) (Q:VF->Prop) (H:let zD:=Int.toNat;let zq0:List Bool:=[true,decide (z≥Int.ofNat 0)==true];(((decide (z≥Int.ofNat 0))=true->(((decide (z < ↑(c.np)))=true->Q (.agg (z8 (fun zk=>zB (Zv (ZU (Nat.beq zk (32+zD z*1)) (zB true) (zB (Vw.inn v zk))))) [zU (ZP (ZU (Nat.beq 8 (32+zD z*1)) (zB true) (zU (Vw.miss v 0)))),zU (ZP (ZU (Nat.beq 9 (32+zD z*1)) (zB true) (zU (Vw.miss v 1)))),zU (ZP (ZU (Nat.beq 10 (32+zD z*1)) (zB true) (zU (Vw.miss v 2)))),zU (ZP (ZU (Nat.beq 11 (32+zD z*1)) (zB true) (zU (Vw.miss v 3)))),zU (ZP (ZU (Nat.beq 12 (32+zD z*1)) (zB true) (zU (Vw.miss v 4)))),zU (ZP (ZU (Nat.beq 13 (32+zD z*1)) (zB true) (zU (Vw.miss v 5)))),zU (ZP (ZU (Nat.beq 14 (32+zD z*1)) (zB true) (zU (Vw.miss v 6)))),zU (ZP (ZU (Nat.beq 15 (32+zD z*1)) (zB true) (zU (Vw.miss v 7)))),zU (ZP (ZU (Nat.beq 16 (32+zD z*1)) (zB true) (zU (Vw.good v 0)))),zU (ZP (ZU (Nat.beq 17 (32+zD z*1)) (zB true) (zU (Vw.good v 1)))),zU (ZP (ZU (Nat.beq 18 (32+zD z*1)) (zB true) (zU (Vw.good v 2)))),zU (ZP (ZU (Nat.beq 19 (32+zD z*1)) (zB true) (zU (Vw.good v 3)))),zU (ZP (ZU (Nat.beq 20 (32+zD z*1)) (zB true) (zU (Vw.good v 4)))),zU (ZP (ZU (Nat.beq 21 (32+zD z*1)) (zB true) (zU (Vw.good v 5)))),zU (ZP (ZU (Nat.beq 22 (32+zD z*1)) (zB true) (zU (Vw.good v 6)))),zU (ZP (ZU (Nat.beq 23 (32+zD z*1)) (zB true) (zU (Vw.good v 7)))),zH (ZP (ZU (Nat.beq 24 (32+zD z*1)) (zB true) (zH (Vw.score v 0)))),zH (ZP (ZU (Nat.beq 25 (32+zD z*1)) (zB true) (zH (Vw.score v 1)))),zH (ZP (ZU (Nat.beq 26 (32+zD z*1)) (zB true) (zH (Vw.score v 2)))),zH (ZP (ZU (Nat.beq 27 (32+zD z*1)) (zB true) (zH (Vw.score v 3)))),zH (ZP (ZU (Nat.beq 28 (32+zD z*1)) (zB true) (zH (Vw.score v 4)))),zH (ZP (ZU (Nat.beq 29 (32+zD z*1)) (zB true) (zH (Vw.score v 5)))),zH (ZP (ZU (Nat.beq 30 (32+zD z*1)) (zB true) (zH (Vw.score v 6)))),zH (ZP (ZU (Nat.beq 31 (32+zD z*1)) (zB true) (zH (Vw.score v 7)))),zB (Zv (ZU (Nat.beq 32 (32+zD z*1)) (zB true) (zB (Vw.got v 0)))),zB (Zv (ZU (Nat.beq 33 (32+zD z*1)) (zB true) (zB (Vw.got v 1)))),zB (Zv (ZU (Nat.beq 34 (32+zD z*1)) (zB true) (zB (Vw.got v 2)))),zB (Zv (ZU (Nat.beq 35 (32+zD z*1)) (zB true) (zB (Vw.got v 3)))),zB (Zv (ZU (Nat.beq 36 (32+zD z*1)) (zB true) (zB (Vw.got v 4)))),zB (Zv (ZU (Nat.beq 37 (32+zD z*1)) (zB true) (zB (Vw.got v 5)))),zB (Zv (ZU (Nat.beq 38 (32+zD z*1)) (zB true) (zB (Vw.got v 6)))),zB (Zv (ZU (Nat.beq 39 (32+zD z*1)) (zB true) (zB (Vw.got v 7)))),.v (.int .i8 (ZP (ZU (Nat.beq 40 (32+zD z*1)) (zB true) (.v (.int .i8 (Vw.command v)))))),zU (ZP (ZU (Nat.beq 41 (32+zD z*1)) (zB true) (zU (Vw.mode v))))]),[],1018,(zu (zt (y3 (true::true::((Zq Kd.b (ZU (Nat.beq 0 (32+zD z*1)) (zB true) (zB (Vw.inn v 0))))::(Zq Kd.b (ZU (Nat.beq 1 (32+zD z*1)) (zB true) (zB (Vw.inn v 1))))::(Zq Kd.b (ZU (Nat.beq 2 (32+zD z*1)) (zB true) (zB (Vw.inn v 2))))::(Zq Kd.b (ZU (Nat.beq 3 (32+zD z*1)) (zB true) (zB (Vw.inn v 3))))::(Zq Kd.b (ZU (Nat.beq 4 (32+zD z*1)) (zB true) (zB (Vw.inn v 4))))::(Zq Kd.b (ZU (Nat.beq 5 (32+zD z*1)) (zB true) (zB (Vw.inn v 5))))::(Zq Kd.b (ZU (Nat.beq 6 (32+zD z*1)) (zB true) (zB (Vw.inn v 6))))::(Zq Kd.b (ZU (Nat.beq 7 (32+zD z*1)) (zB true) (zB (Vw.inn v 7))))::(Zq (Kd.i .u8) (ZU (Nat.beq 8 (32+zD z*1)) (zB true) (zU (Vw.miss v 0))))::(Zq (Kd.i .u8) (ZU (Nat.beq 9 (32+zD z*1)) (zB true) (zU (Vw.miss v 1))))::(Zq (Kd.i .u8) (ZU (Nat.beq 10 (32+zD z*1)) (zB true) (zU (Vw.miss v 2))))::(Zq (Kd.i .u8) (ZU (Nat.beq 11 (32+zD z*1)) (zB true) (zU (Vw.miss v 3))))::(Zq (Kd.i .u8) (ZU (Nat.beq 12 (32+zD z*1)) (zB true) (zU (Vw.miss v 4))))::(Zq (Kd.i .u8) (ZU (Nat.beq 13 (32+zD z*1)) (zB true) (zU (Vw.miss v 5))))::(Zq (Kd.i .u8) (ZU (Nat.beq 14 (32+zD z*1)) (zB true) (zU (Vw.miss v 6))))::(Zq (Kd.i .u8) (ZU (Nat.beq 15 (32+zD z*1)) (zB true) (zU (Vw.miss v 7))))::(Zq (Kd.i .u8) (ZU (Nat.beq 16 (32+zD z*1)) (zB true) (zU (Vw.good v 0))))::(Zq (Kd.i .u8) (ZU (Nat.beq 17 (32+zD z*1)) (zB true) (zU (Vw.good v 1))))::(Zq (Kd.i .u8) (ZU (Nat.beq 18 (32+zD z*1)) (zB true) (zU (Vw.good v 2))))::(Zq (Kd.i .u8) (ZU (Nat.beq 19 (32+zD z*1)) (zB true) (zU (Vw.good v 3))))::(Zq (Kd.i .u8) (ZU (Nat.beq 20 (32+zD z*1)) (zB true) (zU (Vw.good v 4))))::(Zq (Kd.i .u8) (ZU (Nat.beq 21 (32+zD z*1)) (zB true) (zU (Vw.good v 5))))::(Zq (Kd.i .u8) (ZU (Nat.beq 22 (32+zD z*1)) (zB true) (zU (Vw.good v 6))))::(Zq (Kd.i .u8) (ZU (Nat.beq 23 (32+zD z*1)) (zB true) (zU (Vw.good v 7))))::(Zq (Kd.i .u16) (ZU (Nat.beq 24 (32+zD z*1)) (zB true) (zH (Vw.score v 0))))::(Zq (Kd.i .u16) (ZU (Nat.beq 25 (32+zD z*1)) (zB true) (zH (Vw.score v 1))))::(Zq (Kd.i .u16) (ZU (Nat.beq 26 (32+zD z*1)) (zB true) (zH (Vw.score v 2))))::(Zq (Kd.i .u16) (ZU (Nat.beq 27 (32+zD z*1)) (zB true) (zH (Vw.score v 3))))::(Zq (Kd.i .u16) (ZU (Nat.beq 28 (32+zD z*1)) (zB true) (zH (Vw.score v 4))))::(Zq (Kd.i .u16) (ZU (Nat.beq 29 (32+zD z*1)) (zB true) (zH (Vw.score v 5))))::(Zq (Kd.i .u16) (ZU (Nat.beq 30 (32+zD z*1)) (zB true) (zH (Vw.score v 6))))::(Zq (Kd.i .u16) (ZU (Nat.beq 31 (32+zD z*1)) (zB true) (zH (Vw.score v 7))))::(Zq Kd.b (ZU (Nat.beq 32 (32+zD z*1)) (zB true) (zB (Vw.got v 0))))::(Zq Kd.b (ZU (Nat.beq 33 (32+zD z*1)) (zB true) (zB (Vw.got v 1))))::(Zq Kd.b (ZU (Nat.beq 34 (32+zD z*1)) (zB true) (zB (Vw.got v 2))))::(Zq Kd.b (ZU (Nat.beq 35 (32+zD z*1)) (zB true) (zB (Vw.got v 3))))::(Zq Kd.b (ZU (Nat.beq 36 (32+zD z*1)) (zB true) (zB (Vw.got v 4))))::(Zq Kd.b (ZU (Nat.beq 37 (32+zD z*1)) (zB true) (zB (Vw.got v 5))))::(Zq Kd.b (ZU (Nat.beq 38 (32+zD z*1)) (zB true) (zB (Vw.got v 6))))::(Zq Kd.b (ZU (Nat.beq 39 (32+zD z*1)) (zB true) (zB (Vw.got v 7))))::(Zq (Kd.i .i8) (ZU (Nat.beq 40 (32+zD z*1)) (zB true) (.v (.int .i8 (Vw.command v)))))::(Zq (Kd.i .u8) (ZU (Nat.beq 41 (32+zD z*1)) (zB true) (zU (Vw.mode v))))::(ABlk.inb (ABlk.mk true false 32 0 (Cs.lit (ZW v))) 0 (32+zD z*1+1))::(decide (Int.ofNat 0<=z/\z<Int.ofNat 8))::(decide (z < ↑(c.np))==true)::zq0))))),[]))/\((decide (z < ↑(c.np)))=false->Q (AV.agg (ZW v),[],1014,(zu (zu (zt (zt (y3 (y3 (true::((decide (z < ↑(c.np))==false)::zq0)))))))),[]))))/\((decide (z≥Int.ofNat 0))=false->Q (AV.agg (ZW v),[],1009,(zu (zu (zt (zt (y3 (y3 (true::((decide (z≥Int.ofNat 0)==false)::[])))))))),[])))):
 ∃p r,Ot (E1 prog) 36 c [.agg (ZW v),i64 z] p []=some r/\Q r:=
 ZL H (fun g1=>ZL g1 (fun g2=>⟨pD 6 244,_,by kernel_rfl,g2⟩) (fun g2=>⟨pD 6 487,_,by kernel_rfl,g2⟩)) (fun g1=>⟨pD 6 2,_,by kernel_rfl,g1⟩)
def Xa (k:IntKind):List AV->Bool
 | [.c (.v (.int q z))]=>decide (q=k)&&(decide (0<=z)&&decide (z<=65535))
 |_=>false
def Tw (k:IntKind) (g:Int->Int):Yq:=Z9 (Yf [] rfl) (Mb k g) (Xa k)
theorem J0 {f:FuncId} {k:IntKind} {g:Int->Int} (hf:∃(fn:Func) (c:Code),Tryz.prog.funcs[f]? =some fn/\fn.body=some c) (run:∀z:Int,0<=z->z<=65535->∃p q,MA prog f k z p=some q/\Zp (.c (.v (.int k (g z)))) q):ZC prog f (Tw k g):=by
 refine Te (E:=E1 prog) Xk (Yf [] rfl) (fuel:=300) (str:=nSt) hf (fun s=>by unfold Mb;split<;>rfl) fun s hs=>?_
 unfold Xa at hs;split at hs
 . rename_i q z
   simp only[Bool.and_eq_true,decide_eq_true_eq] at hs;obtain⟨rfl,h0,h1⟩:=hs;obtain⟨p,r,g1,g2⟩:=run z h0 h1;exact⟨p,[],r,g1,g2⟩
 . cases hs
theorem P6 {z:Int} (h0: -1000000<=z) (h1:z<=1000000):IntKind.wrap .i64 z=z:=XG _ (by omega) (by omega)
theorem jjnz:ZC prog 108 (Tw .u8 Zi):=by
 refine J0 ⟨_,_,Tryz.func108,rfl⟩ fun z h0 h1=>Bo z _ ?_
 have w1:=P6 (z:=z) (by omega) (by omega);have w2:=P6 (z:=z+Int.ofNat 1) (by simp;omega) (by simp;omega);simp only[w1,w2]
 (repeat' (first|refine⟨fun h=>?_,fun h=>?_⟩|fail))
 all_goals (simp only[decide_eq_true_eq,decide_eq_false_iff_not,Int.ofNat_eq_natCast,Int.cast_ofNat_Int,gt_iff_lt,ge_iff_le] at *)
 all_goals (refine⟨?_,(by first|(unfold ZQ;omega)|(dsimp only;unfold ZQ;omega)),by simp_all[ZZ],by simp⟩)
 all_goals first
  |(exfalso;omega)
  |(rw[show Zi z=100 by unfold Zi;omega])
  |(rw[Ek (by omega) (by omega),show Zi z=z+1 by unfold Zi;omega])
theorem jjl3:ZC prog 110 (Tw .u16 Zj):=by
 refine J0 ⟨_,_,Tryz.func110,rfl⟩ fun z h0 h1=>H0 z _ ?_
 have w1:=P6 (z:=z) (by omega) (by omega);have w2:=P6 (z:=z+Int.ofNat 8) (by simp;omega) (by simp;omega);simp only[w1,w2]
 (repeat' (first|refine⟨fun h=>?_,fun h=>?_⟩|fail))
 all_goals (simp only[decide_eq_true_eq,decide_eq_false_iff_not,Int.ofNat_eq_natCast,Int.cast_ofNat_Int,gt_iff_lt,ge_iff_le] at *)
 all_goals (refine⟨?_,(by first|(unfold ZQ;omega)|(dsimp only;unfold ZQ;omega)),by simp_all[ZZ],by simp⟩)
 all_goals first
  |(exfalso;omega)
  |(rw[show Zj z=1000 by unfold Zj;omega])
  |(rw[La (by omega) (by omega),show Zj z=z+8 by unfold Zj;omega])
theorem jjl2:ZC prog 109 (Tw .u16 Zn):=by
 refine J0 ⟨_,_,Tryz.func109,rfl⟩ fun z h0 h1=>H1 z _ ?_
 have w1:=P6 (z:=z) (by omega) (by omega);have w2:=P6 (z:=z-Int.ofNat 1) (by simp;omega) (by simp;omega);simp only[w1,w2]
 (repeat' (first|refine⟨fun h=>?_,fun h=>?_⟩|fail))
 all_goals (simp only[decide_eq_true_eq,decide_eq_false_iff_not,Int.ofNat_eq_natCast,Int.cast_ofNat_Int,gt_iff_lt,ge_iff_le] at *)
 all_goals (refine⟨?_,(by first|(unfold ZQ;omega)|(dsimp only;unfold ZQ;omega)),by simp_all[ZZ],by simp⟩)
 all_goals first
  |(exfalso;omega)
  |(rw[show Zn z=999 by unfold Zn;omega])
  |(rw[show Zn z=0 by unfold Zn;omega])
  |(rw[La (by omega) (by omega),show Zn z=z-1 by unfold Zn;omega])
def Hy:Yq:=Z9 Z7 (fun|⟨c,[.agg l,.c (.v (.int .i64 z))]⟩=>.agg (Re (decide (0<=z/\z<c.np)) z l)|_=>i64 0) (fun|⟨c,[.agg l,.c (.v (.int .i64 _))]⟩=>Yx l&&decide (c.np<=8)|_=>false)
theorem jjl5:ZC prog 36 Hy:=by
 refine Te (E:=E1 prog) Xk Z7 (fuel:=300) (str:=nSt) ⟨_,_,Tryz.func36,rfl⟩ (fun s=>by split<;>rfl) fun s hs=>?_
 split at hs
 . rename_i c l z
   simp only[Bool.and_eq_true,decide_eq_true_eq] at hs;obtain⟨hl,h8⟩:=hs;have e:=UJ hl;generalize Zk l=v at e;subst e;refine(?_:(∃p q,Ot (E1 prog) 36 c [.agg (ZW v),i64 z] p []=some q/\Zp (.agg (Re (decide (0<=z/\z<c.np)) z (ZW v))) q)->_) (Bn c v z _ ?_)
   . rintro⟨p,q,h1,h2⟩
     exact⟨p,[],q,h1,h2⟩
   . have hno:¬(0<=z/\z<c.np)->AV.agg (ZW v)=AV.agg (Re (decide (0<=z/\z<c.np)) z (ZW v)):=fun h=>by rw[decide_eq_false h,EM,Fr]
     refine⟨fun h1=>⟨fun h2=>?_,fun h2=>?_⟩,fun h1=>?_⟩
     . have h1':0<=z:=by simpa using h1
       have h2':z<c.np:=by simpa using h2
       rw[decide_eq_true (show 0<=z/\z<c.np from⟨h1',h2'⟩)];have hz:z=0\/z=1\/z=2\/z=3\/z=4\/z=5\/z=6\/z=7:=by omega
       rcases hz with rfl|rfl|rfl|rfl|rfl|rfl|rfl|rfl
       all_goals (refine⟨rfl,(by first|(unfold ZQ;omega)|(dsimp only;unfold ZQ;omega)),?_,by simp⟩)
       all_goals (simp_all[ZZ,YZ,YU,YT,YO,YE,YF,ZU,Zq,Yk,Vw.len])
     . have h2':¬z<c.np:=by simpa using h2
       exact⟨hno (by omega),(by first|(unfold ZQ;omega)|(dsimp only;unfold ZQ;omega)),by simp_all[ZZ,YZ,YU,YT,YO,YE,YF],by simp⟩
     . have h1':¬0<=z:=by simpa using h1
       exact⟨hno (by omega),(by first|(unfold ZQ;omega)|(dsimp only;unfold ZQ;omega)),by simp_all[ZZ,YZ,YU,YT,YO,YE,YF],by simp⟩
 . cases hs
def Na:List (FuncId × Yq):=[(108,Tw .u8 Zi),(110,Tw .u16 Zj),(109,Tw .u16 Zn)]
theorem jjhq:∀f g,(f,g)∈Na->ZC prog f g:=by
 intro f g h;simp only[Na,List.mem_cons,Prod.mk.injEq,List.not_mem_nil,or_false] at h;rcases h with⟨rfl,rfl⟩|⟨rfl,rfl⟩|⟨rfl,rfl⟩
 . exact jjnz
 . exact jjl3
 . exact jjl2
def MI (P:Program):Env:=⟨P,Na⟩
theorem JO:Zz (MI prog):=Xp jjhq (by kernel_rfl) (by kernel_rfl)
abbrev Q5:List Nat:=[2,3,4,5]
abbrev Jn:List Nat:=[1000,1001,1002]
abbrev OC (k:Nat):List AV:=[.c (.ptr 1000 0 0),.c (.ptr 1001 0 0),.c (.ptr 1002 0 0),i64 (Int.ofNat k)]
def OB (P:Program) (c:Cfg) (u:Vw) (k:Nat) (path:List Dec):Option VC:=
 view (Q5++[]) Jn (fC (MI P) 100 (ZY P 80 0) 1000000000000000000000000000000000000000000 nSt (WR 93 Q5 Jn (OC k) [Zr c,Yv u,Yv OD] path []))
theorem RO (k0Z k1Z:Nat) (hkZ:k0Z<8/\k1Z=k0Z+1) (c:Cfg) (u:Vw) (Q:VC->Prop) (H:let zN:=Int.ofNat;let zz0:=(Yv OD);let zz1:=(Zr c);let zz2:=[some (ZN (List.zip Q5 (OC k0Z)) 2),some (ZN (List.zip Q5 (OC k0Z)) 3),some (ZN (List.zip Q5 (OC k0Z)) 4),some (AV.c (zI (zN k1Z)))];let zz3:=[AV.c (zH (Vw.score u k0Z))];let zz4:=(IntKind.wrap IntKind.i64 (Zi (Vw.good u k0Z))≥Cfg.good c);let zz5:=[some zz1,yR 32 0 (Cs.lit (ZW (VW k0Z (Vw.inn u k0Z) (zN 0) (Zi (Vw.good u k0Z)) (Zn (Vw.score u k0Z)) false u))),some zz0];let zz6:=[some zz1,yR 32 0 (Cs.lit (ZW (VW k0Z (Vw.inn u k0Z) (Zi (Vw.miss u k0Z)) (zN 0) (Zj (Vw.score u k0Z)) false u))),some zz0];let zz7:=(IntKind.wrap IntKind.i64 (Zi (Vw.miss u k0Z))≥Cfg.miss c);let zz8:=[AV.c (zU (Vw.good u k0Z))];let zz9:=[AV.c (zU (Vw.miss u k0Z))];let zz10:=[some zz1,yR 32 0 (Cs.lit (ZW (VW k0Z true (zN 0) (Zi (Vw.good u k0Z)) (Zn (Vw.score u k0Z)) false u))),some zz0];let zz11:=[some zz1,yR 32 0 (Cs.lit (ZW (VW k0Z true (Zi (Vw.miss u k0Z)) (zN 0) (Zj (Vw.score u k0Z)) false u))),some zz0];let zq0:List Bool:=[true,true,true,true,true,true,decide (zN k0Z < ↑(c.np))==true,true];let zq1:List Bool:=y3 ((Xa .u16 zz3)::y3 (y3 ((Xa .u8 zz8)::y3 (true::true::(Vw.got u k0Z==true)::zq0))));let zq2:List Bool:=y3 (true::true::(Vw.inn u k0Z==true)::zq1);let zq3:List Bool:=true::true::(decide (zN 0≥c.miss)==true)::zq2;let zq4:List Bool:=y3 (true::true::((!Vw.inn u k0Z)==true)::zq3);let zq5:List Bool:=(decide (zN 0≥c.miss)==false)::zq2;let zq6:List Bool:=y3 (true::true::((!Vw.inn u k0Z)==true)::zq5);let zq7:List Bool:=(Vw.inn u k0Z==false)::zq1;let zq8:List Bool:=y3 (true::true::((!Vw.inn u k0Z)==true)::zq7);let zq9:List Bool:=y3 ((Xa .u16 zz3)::y3 (y3 ((Xa .u8 zz9)::y3 (true::true::(Vw.got u k0Z==false)::zq0))));let zq10:List Bool:=y3 (true::true::(Vw.inn u k0Z==true)::zq9);let zq11:List Bool:=true::true::(decide zz7==true)::zq10;let zq12:List Bool:=y3 (true::true::((!Vw.inn u k0Z)==true)::zq11);let zq13:List Bool:=(decide zz7==false)::zq10;let zq14:List Bool:=y3 (true::true::((!Vw.inn u k0Z)==true)::zq13);let zq15:List Bool:=(Vw.inn u k0Z==false)::zq9;let zq16:List Bool:=y3 (true::true::((!Vw.inn u k0Z)==true)::zq15);(((Vw.got u k0Z)=true->(((Vw.inn u k0Z)=true->(((decide (zN 0≥c.miss))=true->(((!Vw.inn u k0Z)=true->(((decide zz4)=true->Q (Exit.normal,zz2,zz10,93,1230000000000000000000000000000000000000049,(y3 (true::(decide zz4==true)::zq4)),[]))/\((decide zz4)=false->Q (Exit.normal,zz2,[some zz1,yR 32 0 (Cs.lit (ZW (VW k0Z false (zN 0) (Zi (Vw.good u k0Z)) (Zn (Vw.score u k0Z)) false u))),some zz0],93,1230000000000000000000000000000000000000045,(true::true::(decide zz4==false)::zq4),[]))))/\((!Vw.inn u k0Z)=false->Q (Exit.normal,zz2,[some zz1,yR 32 0 (Cs.lit (ZW (VW k0Z false (zN 0) (Zi (Vw.good u k0Z)) (Zn (Vw.score u k0Z)) false u))),some zz0],93,1230000000000000000000000000000000000000045,(true::true::((!Vw.inn u k0Z)==false)::zq3),[]))))/\((decide (zN 0≥c.miss))=false->(((!Vw.inn u k0Z)=true->(((decide zz4)=true->Q (Exit.normal,zz2,zz10,93,1230000000000000000000000000000000000000045,(y3 (true::(decide zz4==true)::zq6)),[]))/\((decide zz4)=false->Q (Exit.normal,zz2,zz5,93,1230000000000000000000000000000000000000041,(true::true::(decide zz4==false)::zq6),[]))))/\((!Vw.inn u k0Z)=false->Q (Exit.normal,zz2,zz5,93,1230000000000000000000000000000000000000041,(true::true::((!Vw.inn u k0Z)==false)::zq5),[]))))))/\((Vw.inn u k0Z)=false->(((!Vw.inn u k0Z)=true->(((decide zz4)=true->Q (Exit.normal,zz2,zz10,93,1230000000000000000000000000000000000000045,(y3 (true::(decide zz4==true)::zq8)),[]))/\((decide zz4)=false->Q (Exit.normal,zz2,zz5,93,1230000000000000000000000000000000000000041,(true::true::(decide zz4==false)::zq8),[]))))/\((!Vw.inn u k0Z)=false->Q (Exit.normal,zz2,zz5,93,1230000000000000000000000000000000000000041,(true::true::((!Vw.inn u k0Z)==false)::zq7),[]))))))/\((Vw.got u k0Z)=false->(((Vw.inn u k0Z)=true->(((decide zz7)=true->(((!Vw.inn u k0Z)=true->(((decide (zN 0≥c.good))=true->Q (Exit.normal,zz2,zz11,93,1230000000000000000000000000000000000000049,(y3 (true::(decide (zN 0≥c.good)==true)::zq12)),[]))/\((decide (zN 0≥c.good))=false->Q (Exit.normal,zz2,[some zz1,yR 32 0 (Cs.lit (ZW (VW k0Z false (Zi (Vw.miss u k0Z)) (zN 0) (Zj (Vw.score u k0Z)) false u))),some zz0],93,1230000000000000000000000000000000000000045,(true::true::(decide (zN 0≥c.good)==false)::zq12),[]))))/\((!Vw.inn u k0Z)=false->Q (Exit.normal,zz2,[some zz1,yR 32 0 (Cs.lit (ZW (VW k0Z false (Zi (Vw.miss u k0Z)) (zN 0) (Zj (Vw.score u k0Z)) false u))),some zz0],93,1230000000000000000000000000000000000000045,(true::true::((!Vw.inn u k0Z)==false)::zq11),[]))))/\((decide zz7)=false->(((!Vw.inn u k0Z)=true->(((decide (zN 0≥c.good))=true->Q (Exit.normal,zz2,zz11,93,1230000000000000000000000000000000000000045,(y3 (true::(decide (zN 0≥c.good)==true)::zq14)),[]))/\((decide (zN 0≥c.good))=false->Q (Exit.normal,zz2,zz6,93,1230000000000000000000000000000000000000041,(true::true::(decide (zN 0≥c.good)==false)::zq14),[]))))/\((!Vw.inn u k0Z)=false->Q (Exit.normal,zz2,zz6,93,1230000000000000000000000000000000000000041,(true::true::((!Vw.inn u k0Z)==false)::zq13),[]))))))/\((Vw.inn u k0Z)=false->(((!Vw.inn u k0Z)=true->(((decide (zN 0≥c.good))=true->Q (Exit.normal,zz2,zz11,93,1230000000000000000000000000000000000000045,(y3 (true::(decide (zN 0≥c.good)==true)::zq16)),[]))/\((decide (zN 0≥c.good))=false->Q (Exit.normal,zz2,zz6,93,1230000000000000000000000000000000000000041,(true::true::(decide (zN 0≥c.good)==false)::zq16),[]))))/\((!Vw.inn u k0Z)=false->Q (Exit.normal,zz2,zz6,93,1230000000000000000000000000000000000000041,(true::true::((!Vw.inn u k0Z)==false)::zq15),[])))))))):
 ∃p r,OB prog c u k0Z p=some r/\Q r:=by
 have hZ:(k0Z=0/\k1Z=1)\/(k0Z=1/\k1Z=2)\/(k0Z=2/\k1Z=3)\/(k0Z=3/\k1Z=4)\/(k0Z=4/\k1Z=5)\/(k0Z=5/\k1Z=6)\/(k0Z=6/\k1Z=7)\/(k0Z=7/\k1Z=8):=by omega
 clear hkZ;rcases hZ with⟨rfl,rfl⟩|⟨rfl,rfl⟩|⟨rfl,rfl⟩|⟨rfl,rfl⟩|⟨rfl,rfl⟩|⟨rfl,rfl⟩|⟨rfl,rfl⟩|⟨rfl,rfl⟩
 all_goals
  exact ZL H (fun g1=>ZL g1 (fun g2=>ZL g2 (fun g3=>ZL g3 (fun g4=>ZL g4 (fun g5=>⟨pD 20 1162497676,_,by kernel_rfl,g5⟩) (fun g5=>⟨pD 20 2324759143,_,by kernel_rfl,g5⟩)) (fun g4=>⟨pD 20 413356,_,by kernel_rfl,g4⟩)) (fun g3=>ZL g3 (fun g4=>ZL g4 (fun g5=>⟨pD 20 1162556725,_,by kernel_rfl,g5⟩) (fun g5=>⟨pD 20 2324818192,_,by kernel_rfl,g5⟩)) (fun g4=>⟨pD 20 472405,_,by kernel_rfl,g4⟩))) (fun g2=>ZL g2 (fun g3=>ZL g3 (fun g4=>⟨pD 20 1162438636,_,by kernel_rfl,g4⟩) (fun g4=>⟨pD 20 2324700103,_,by kernel_rfl,g4⟩)) (fun g3=>⟨pD 20 354316,_,by kernel_rfl,g3⟩))) (fun g1=>ZL g1 (fun g2=>ZL g2 (fun g3=>ZL g3 (fun g4=>ZL g4 (fun g5=>⟨pD 20 1162497679,_,by kernel_rfl,g5⟩) (fun g5=>⟨pD 20 2324759146,_,by kernel_rfl,g5⟩)) (fun g4=>⟨pD 20 413359,_,by kernel_rfl,g4⟩)) (fun g3=>ZL g3 (fun g4=>ZL g4 (fun g5=>⟨pD 20 1162556728,_,by kernel_rfl,g5⟩) (fun g5=>⟨pD 20 2324818195,_,by kernel_rfl,g5⟩)) (fun g4=>⟨pD 20 472408,_,by kernel_rfl,g4⟩))) (fun g2=>ZL g2 (fun g3=>ZL g3 (fun g4=>⟨pD 20 1162438639,_,by kernel_rfl,g4⟩) (fun g4=>⟨pD 20 2324700106,_,by kernel_rfl,g4⟩)) (fun g3=>⟨pD 20 354319,_,by kernel_rfl,g3⟩)))

theorem rvX (c:Cfg) (u:Vw) (k:Nat) (Q:VC->Prop) (H:let zN:=Int.ofNat;Q (Exit.exit 0,[some (ZN (List.zip Q5 (OC k)) 2),some (ZN (List.zip Q5 (OC k)) 3),some (ZN (List.zip Q5 (OC k)) 4),some (ZN (List.zip Q5 (OC k)) 5)],[yR 25 0 (Cs.lit [zI c.nodes,AC.sl 0 0 0 c.np none,AC.sl 1 0 0 c.ns none,zI c.long,AC.sl 2 0 0 c.nb none,AC.sl 3 0 0 c.nt none,zI c.miss,zI c.good,zI c.fresh]),yR 32 0 (Cs.lit (ZW u)),yR 32 0 (Cs.lit (z8 (fun zk=>zB false) (z8 (fun zk=>zU (zN 0)) (z8 (fun zk=>zU (zN 0)) (z8 (fun zk=>zH (zN 0)) (z8 (fun zk=>zB false) [.v (.int .i8 (zN 0)),zU (zN 0)]))))))],93,1000000000000000000000000000000000000000005,[decide (zN k < ↑(c.np))==false,true],[])):
 ∃p r,OB prog c u k p=some r/\Q r:=
 ⟨pD 1 2,_,by kernel_rfl,H⟩
def Ti (v:Vw):Prop:=∀i,i<8->(0<=v.miss i/\v.miss i<=255)/\(0<=v.good i/\v.good i<=255)/\(0<=v.score i/\v.score i<=65535)
def RV (c:Cfg) (v:Vw) (k:Nat) (r:VC):Prop:=
 ZZ r.2.2.2.2.2.1/\r.2.2.2.2.2.2=[]/\r.2.2.2.2.1<=100000000000000000000000000000000000000000000000000/\r.2.2.2.1=93/\r.1= .normal/\r.2.1=(OC (k+1)).map some/\r.2.2.1=[some (Zr c),some (Yv (ZD ⟨k+1,c.miss,c.good⟩ v)),some (Yv OD)]
theorem jjmh (c:Cfg) (v:Vw) (hk:0<c.np) (hp:Ti v):∃p r,OB prog c (ZD ⟨0,c.miss,c.good⟩ v) 0 p=some r/\RV c v 0 r:=by
 obtain⟨⟨p1,q1⟩,⟨p2,q2⟩,⟨p3,q3⟩⟩:=hp 0 (by omega);obtain⟨u,hu⟩:∃u,ZD ⟨0,c.miss,c.good⟩ v=u:=⟨_,rfl⟩
 have e1:u.inn 0=v.inn 0:=by rw[<- hu];rfl
 have e2:u.got 0=v.got 0:=by rw[<- hu];rfl
 have e3:u.miss 0=v.miss 0:=by rw[<- hu];rfl
 have e4:u.good 0=v.good 0:=by rw[<- hu];rfl
 have e5:u.score 0=v.score 0:=by rw[<- hu];rfl
 have w1:=VI p1;have w2:=VI p2;rw[hu];refine(RO 0 1 ⟨by decide,rfl⟩) c u _ ?_;simp only[e1,e2,e3,e4,e5,w1,w2]
 (repeat' (first|refine⟨fun h=>?_,fun h=>?_⟩|fail))
 all_goals (first|(exfalso;simp_all;done)|skip)
 all_goals (refine⟨?_,rfl,by dsimp only;omega,rfl,rfl,rfl,?_⟩)
 all_goals first
  |(rw[YX (k:=0) (ms:=c.miss) (go:=c.good) (v:=v) (u:=u) hu (a:=true) (m:=0) (x:=Zi (v.good 0)) (s:=Zn (v.score 0))];rfl)
  |(rw[YX (k:=0) (ms:=c.miss) (go:=c.good) (v:=v) (u:=u) hu (a:=true) (m:=Zi (v.miss 0)) (x:=0) (s:=Zj (v.score 0))];rfl)
  |(rw[YX (k:=0) (ms:=c.miss) (go:=c.good) (v:=v) (u:=u) hu (a:=false) (m:=0) (x:=Zi (v.good 0)) (s:=Zn (v.score 0))];rfl)
  |(rw[YX (k:=0) (ms:=c.miss) (go:=c.good) (v:=v) (u:=u) hu (a:=false) (m:=Zi (v.miss 0)) (x:=0) (s:=Zj (v.score 0))];rfl)
  |(rw[YX (k:=0) (ms:=c.miss) (go:=c.good) (v:=v) (u:=u) hu (a:=v.inn 0) (m:=0) (x:=Zi (v.good 0)) (s:=Zn (v.score 0))];rfl)
  |(rw[YX (k:=0) (ms:=c.miss) (go:=c.good) (v:=v) (u:=u) hu (a:=v.inn 0) (m:=Zi (v.miss 0)) (x:=0) (s:=Zj (v.score 0))];rfl)
  |(simp_all[ZZ,Xa];done)
  |(simp_all[ZZ,Xa];omega)
theorem jjmg (c:Cfg) (v:Vw) (hk:1<c.np) (hp:Ti v):∃p r,OB prog c (ZD ⟨1,c.miss,c.good⟩ v) 1 p=some r/\RV c v 1 r:=by
 obtain⟨⟨p1,q1⟩,⟨p2,q2⟩,⟨p3,q3⟩⟩:=hp 1 (by omega);obtain⟨u,hu⟩:∃u,ZD ⟨1,c.miss,c.good⟩ v=u:=⟨_,rfl⟩
 have e1:u.inn 1=v.inn 1:=by rw[<- hu];rfl
 have e2:u.got 1=v.got 1:=by rw[<- hu];rfl
 have e3:u.miss 1=v.miss 1:=by rw[<- hu];rfl
 have e4:u.good 1=v.good 1:=by rw[<- hu];rfl
 have e5:u.score 1=v.score 1:=by rw[<- hu];rfl
 have w1:=VI p1;have w2:=VI p2;rw[hu];refine(RO 1 2 ⟨by decide,rfl⟩) c u _ ?_;simp only[e1,e2,e3,e4,e5,w1,w2]
 (repeat' (first|refine⟨fun h=>?_,fun h=>?_⟩|fail))
 all_goals (first|(exfalso;simp_all;done)|skip)
 all_goals (refine⟨?_,rfl,by dsimp only;omega,rfl,rfl,rfl,?_⟩)
 all_goals first
  |(rw[YX (k:=1) (ms:=c.miss) (go:=c.good) (v:=v) (u:=u) hu (a:=true) (m:=0) (x:=Zi (v.good 1)) (s:=Zn (v.score 1))];rfl)
  |(rw[YX (k:=1) (ms:=c.miss) (go:=c.good) (v:=v) (u:=u) hu (a:=true) (m:=Zi (v.miss 1)) (x:=0) (s:=Zj (v.score 1))];rfl)
  |(rw[YX (k:=1) (ms:=c.miss) (go:=c.good) (v:=v) (u:=u) hu (a:=false) (m:=0) (x:=Zi (v.good 1)) (s:=Zn (v.score 1))];rfl)
  |(rw[YX (k:=1) (ms:=c.miss) (go:=c.good) (v:=v) (u:=u) hu (a:=false) (m:=Zi (v.miss 1)) (x:=0) (s:=Zj (v.score 1))];rfl)
  |(rw[YX (k:=1) (ms:=c.miss) (go:=c.good) (v:=v) (u:=u) hu (a:=v.inn 1) (m:=0) (x:=Zi (v.good 1)) (s:=Zn (v.score 1))];rfl)
  |(rw[YX (k:=1) (ms:=c.miss) (go:=c.good) (v:=v) (u:=u) hu (a:=v.inn 1) (m:=Zi (v.miss 1)) (x:=0) (s:=Zj (v.score 1))];rfl)
  |(simp_all[ZZ,Xa];done)
  |(simp_all[ZZ,Xa];omega)
theorem jjmf (c:Cfg) (v:Vw) (hk:2<c.np) (hp:Ti v):∃p r,OB prog c (ZD ⟨2,c.miss,c.good⟩ v) 2 p=some r/\RV c v 2 r:=by
 obtain⟨⟨p1,q1⟩,⟨p2,q2⟩,⟨p3,q3⟩⟩:=hp 2 (by omega);obtain⟨u,hu⟩:∃u,ZD ⟨2,c.miss,c.good⟩ v=u:=⟨_,rfl⟩
 have e1:u.inn 2=v.inn 2:=by rw[<- hu];rfl
 have e2:u.got 2=v.got 2:=by rw[<- hu];rfl
 have e3:u.miss 2=v.miss 2:=by rw[<- hu];rfl
 have e4:u.good 2=v.good 2:=by rw[<- hu];rfl
 have e5:u.score 2=v.score 2:=by rw[<- hu];rfl
 have w1:=VI p1;have w2:=VI p2;rw[hu];refine(RO 2 3 ⟨by decide,rfl⟩) c u _ ?_;simp only[e1,e2,e3,e4,e5,w1,w2]
 (repeat' (first|refine⟨fun h=>?_,fun h=>?_⟩|fail))
 all_goals (first|(exfalso;simp_all;done)|skip)
 all_goals (refine⟨?_,rfl,by dsimp only;omega,rfl,rfl,rfl,?_⟩)
 all_goals first
  |(rw[YX (k:=2) (ms:=c.miss) (go:=c.good) (v:=v) (u:=u) hu (a:=true) (m:=0) (x:=Zi (v.good 2)) (s:=Zn (v.score 2))];rfl)
  |(rw[YX (k:=2) (ms:=c.miss) (go:=c.good) (v:=v) (u:=u) hu (a:=true) (m:=Zi (v.miss 2)) (x:=0) (s:=Zj (v.score 2))];rfl)
  |(rw[YX (k:=2) (ms:=c.miss) (go:=c.good) (v:=v) (u:=u) hu (a:=false) (m:=0) (x:=Zi (v.good 2)) (s:=Zn (v.score 2))];rfl)
  |(rw[YX (k:=2) (ms:=c.miss) (go:=c.good) (v:=v) (u:=u) hu (a:=false) (m:=Zi (v.miss 2)) (x:=0) (s:=Zj (v.score 2))];rfl)
  |(rw[YX (k:=2) (ms:=c.miss) (go:=c.good) (v:=v) (u:=u) hu (a:=v.inn 2) (m:=0) (x:=Zi (v.good 2)) (s:=Zn (v.score 2))];rfl)
  |(rw[YX (k:=2) (ms:=c.miss) (go:=c.good) (v:=v) (u:=u) hu (a:=v.inn 2) (m:=Zi (v.miss 2)) (x:=0) (s:=Zj (v.score 2))];rfl)
  |(simp_all[ZZ,Xa];done)
  |(simp_all[ZZ,Xa];omega)
theorem jjme (c:Cfg) (v:Vw) (hk:3<c.np) (hp:Ti v):∃p r,OB prog c (ZD ⟨3,c.miss,c.good⟩ v) 3 p=some r/\RV c v 3 r:=by
 obtain⟨⟨p1,q1⟩,⟨p2,q2⟩,⟨p3,q3⟩⟩:=hp 3 (by omega);obtain⟨u,hu⟩:∃u,ZD ⟨3,c.miss,c.good⟩ v=u:=⟨_,rfl⟩
 have e1:u.inn 3=v.inn 3:=by rw[<- hu];rfl
 have e2:u.got 3=v.got 3:=by rw[<- hu];rfl
 have e3:u.miss 3=v.miss 3:=by rw[<- hu];rfl
 have e4:u.good 3=v.good 3:=by rw[<- hu];rfl
 have e5:u.score 3=v.score 3:=by rw[<- hu];rfl
 have w1:=VI p1;have w2:=VI p2;rw[hu];refine(RO 3 4 ⟨by decide,rfl⟩) c u _ ?_;simp only[e1,e2,e3,e4,e5,w1,w2]
 (repeat' (first|refine⟨fun h=>?_,fun h=>?_⟩|fail))
 all_goals (first|(exfalso;simp_all;done)|skip)
 all_goals (refine⟨?_,rfl,by dsimp only;omega,rfl,rfl,rfl,?_⟩)
 all_goals first
  |(rw[YX (k:=3) (ms:=c.miss) (go:=c.good) (v:=v) (u:=u) hu (a:=true) (m:=0) (x:=Zi (v.good 3)) (s:=Zn (v.score 3))];rfl)
  |(rw[YX (k:=3) (ms:=c.miss) (go:=c.good) (v:=v) (u:=u) hu (a:=true) (m:=Zi (v.miss 3)) (x:=0) (s:=Zj (v.score 3))];rfl)
  |(rw[YX (k:=3) (ms:=c.miss) (go:=c.good) (v:=v) (u:=u) hu (a:=false) (m:=0) (x:=Zi (v.good 3)) (s:=Zn (v.score 3))];rfl)
  |(rw[YX (k:=3) (ms:=c.miss) (go:=c.good) (v:=v) (u:=u) hu (a:=false) (m:=Zi (v.miss 3)) (x:=0) (s:=Zj (v.score 3))];rfl)
  |(rw[YX (k:=3) (ms:=c.miss) (go:=c.good) (v:=v) (u:=u) hu (a:=v.inn 3) (m:=0) (x:=Zi (v.good 3)) (s:=Zn (v.score 3))];rfl)
  |(rw[YX (k:=3) (ms:=c.miss) (go:=c.good) (v:=v) (u:=u) hu (a:=v.inn 3) (m:=Zi (v.miss 3)) (x:=0) (s:=Zj (v.score 3))];rfl)
  |(simp_all[ZZ,Xa];done)
  |(simp_all[ZZ,Xa];omega)
theorem jjmd (c:Cfg) (v:Vw) (hk:4<c.np) (hp:Ti v):∃p r,OB prog c (ZD ⟨4,c.miss,c.good⟩ v) 4 p=some r/\RV c v 4 r:=by
 obtain⟨⟨p1,q1⟩,⟨p2,q2⟩,⟨p3,q3⟩⟩:=hp 4 (by omega);obtain⟨u,hu⟩:∃u,ZD ⟨4,c.miss,c.good⟩ v=u:=⟨_,rfl⟩
 have e1:u.inn 4=v.inn 4:=by rw[<- hu];rfl
 have e2:u.got 4=v.got 4:=by rw[<- hu];rfl
 have e3:u.miss 4=v.miss 4:=by rw[<- hu];rfl
 have e4:u.good 4=v.good 4:=by rw[<- hu];rfl
 have e5:u.score 4=v.score 4:=by rw[<- hu];rfl
 have w1:=VI p1;have w2:=VI p2;rw[hu];refine(RO 4 5 ⟨by decide,rfl⟩) c u _ ?_;simp only[e1,e2,e3,e4,e5,w1,w2]
 (repeat' (first|refine⟨fun h=>?_,fun h=>?_⟩|fail))
 all_goals (first|(exfalso;simp_all;done)|skip)
 all_goals (refine⟨?_,rfl,by dsimp only;omega,rfl,rfl,rfl,?_⟩)
 all_goals first
  |(rw[YX (k:=4) (ms:=c.miss) (go:=c.good) (v:=v) (u:=u) hu (a:=true) (m:=0) (x:=Zi (v.good 4)) (s:=Zn (v.score 4))];rfl)
  |(rw[YX (k:=4) (ms:=c.miss) (go:=c.good) (v:=v) (u:=u) hu (a:=true) (m:=Zi (v.miss 4)) (x:=0) (s:=Zj (v.score 4))];rfl)
  |(rw[YX (k:=4) (ms:=c.miss) (go:=c.good) (v:=v) (u:=u) hu (a:=false) (m:=0) (x:=Zi (v.good 4)) (s:=Zn (v.score 4))];rfl)
  |(rw[YX (k:=4) (ms:=c.miss) (go:=c.good) (v:=v) (u:=u) hu (a:=false) (m:=Zi (v.miss 4)) (x:=0) (s:=Zj (v.score 4))];rfl)
  |(rw[YX (k:=4) (ms:=c.miss) (go:=c.good) (v:=v) (u:=u) hu (a:=v.inn 4) (m:=0) (x:=Zi (v.good 4)) (s:=Zn (v.score 4))];rfl)
  |(rw[YX (k:=4) (ms:=c.miss) (go:=c.good) (v:=v) (u:=u) hu (a:=v.inn 4) (m:=Zi (v.miss 4)) (x:=0) (s:=Zj (v.score 4))];rfl)
  |(simp_all[ZZ,Xa];done)
  |(simp_all[ZZ,Xa];omega)
theorem jjmc (c:Cfg) (v:Vw) (hk:5<c.np) (hp:Ti v):∃p r,OB prog c (ZD ⟨5,c.miss,c.good⟩ v) 5 p=some r/\RV c v 5 r:=by
 obtain⟨⟨p1,q1⟩,⟨p2,q2⟩,⟨p3,q3⟩⟩:=hp 5 (by omega);obtain⟨u,hu⟩:∃u,ZD ⟨5,c.miss,c.good⟩ v=u:=⟨_,rfl⟩
 have e1:u.inn 5=v.inn 5:=by rw[<- hu];rfl
 have e2:u.got 5=v.got 5:=by rw[<- hu];rfl
 have e3:u.miss 5=v.miss 5:=by rw[<- hu];rfl
 have e4:u.good 5=v.good 5:=by rw[<- hu];rfl
 have e5:u.score 5=v.score 5:=by rw[<- hu];rfl
 have w1:=VI p1;have w2:=VI p2;rw[hu];refine(RO 5 6 ⟨by decide,rfl⟩) c u _ ?_;simp only[e1,e2,e3,e4,e5,w1,w2]
 (repeat' (first|refine⟨fun h=>?_,fun h=>?_⟩|fail))
 all_goals (first|(exfalso;simp_all;done)|skip)
 all_goals (refine⟨?_,rfl,by dsimp only;omega,rfl,rfl,rfl,?_⟩)
 all_goals first
  |(rw[YX (k:=5) (ms:=c.miss) (go:=c.good) (v:=v) (u:=u) hu (a:=true) (m:=0) (x:=Zi (v.good 5)) (s:=Zn (v.score 5))];rfl)
  |(rw[YX (k:=5) (ms:=c.miss) (go:=c.good) (v:=v) (u:=u) hu (a:=true) (m:=Zi (v.miss 5)) (x:=0) (s:=Zj (v.score 5))];rfl)
  |(rw[YX (k:=5) (ms:=c.miss) (go:=c.good) (v:=v) (u:=u) hu (a:=false) (m:=0) (x:=Zi (v.good 5)) (s:=Zn (v.score 5))];rfl)
  |(rw[YX (k:=5) (ms:=c.miss) (go:=c.good) (v:=v) (u:=u) hu (a:=false) (m:=Zi (v.miss 5)) (x:=0) (s:=Zj (v.score 5))];rfl)
  |(rw[YX (k:=5) (ms:=c.miss) (go:=c.good) (v:=v) (u:=u) hu (a:=v.inn 5) (m:=0) (x:=Zi (v.good 5)) (s:=Zn (v.score 5))];rfl)
  |(rw[YX (k:=5) (ms:=c.miss) (go:=c.good) (v:=v) (u:=u) hu (a:=v.inn 5) (m:=Zi (v.miss 5)) (x:=0) (s:=Zj (v.score 5))];rfl)
  |(simp_all[ZZ,Xa];done)
  |(simp_all[ZZ,Xa];omega)
theorem jjmb (c:Cfg) (v:Vw) (hk:6<c.np) (hp:Ti v):∃p r,OB prog c (ZD ⟨6,c.miss,c.good⟩ v) 6 p=some r/\RV c v 6 r:=by
 obtain⟨⟨p1,q1⟩,⟨p2,q2⟩,⟨p3,q3⟩⟩:=hp 6 (by omega);obtain⟨u,hu⟩:∃u,ZD ⟨6,c.miss,c.good⟩ v=u:=⟨_,rfl⟩
 have e1:u.inn 6=v.inn 6:=by rw[<- hu];rfl
 have e2:u.got 6=v.got 6:=by rw[<- hu];rfl
 have e3:u.miss 6=v.miss 6:=by rw[<- hu];rfl
 have e4:u.good 6=v.good 6:=by rw[<- hu];rfl
 have e5:u.score 6=v.score 6:=by rw[<- hu];rfl
 have w1:=VI p1;have w2:=VI p2;rw[hu];refine(RO 6 7 ⟨by decide,rfl⟩) c u _ ?_;simp only[e1,e2,e3,e4,e5,w1,w2]
 (repeat' (first|refine⟨fun h=>?_,fun h=>?_⟩|fail))
 all_goals (first|(exfalso;simp_all;done)|skip)
 all_goals (refine⟨?_,rfl,by dsimp only;omega,rfl,rfl,rfl,?_⟩)
 all_goals first
  |(rw[YX (k:=6) (ms:=c.miss) (go:=c.good) (v:=v) (u:=u) hu (a:=true) (m:=0) (x:=Zi (v.good 6)) (s:=Zn (v.score 6))];rfl)
  |(rw[YX (k:=6) (ms:=c.miss) (go:=c.good) (v:=v) (u:=u) hu (a:=true) (m:=Zi (v.miss 6)) (x:=0) (s:=Zj (v.score 6))];rfl)
  |(rw[YX (k:=6) (ms:=c.miss) (go:=c.good) (v:=v) (u:=u) hu (a:=false) (m:=0) (x:=Zi (v.good 6)) (s:=Zn (v.score 6))];rfl)
  |(rw[YX (k:=6) (ms:=c.miss) (go:=c.good) (v:=v) (u:=u) hu (a:=false) (m:=Zi (v.miss 6)) (x:=0) (s:=Zj (v.score 6))];rfl)
  |(rw[YX (k:=6) (ms:=c.miss) (go:=c.good) (v:=v) (u:=u) hu (a:=v.inn 6) (m:=0) (x:=Zi (v.good 6)) (s:=Zn (v.score 6))];rfl)
  |(rw[YX (k:=6) (ms:=c.miss) (go:=c.good) (v:=v) (u:=u) hu (a:=v.inn 6) (m:=Zi (v.miss 6)) (x:=0) (s:=Zj (v.score 6))];rfl)
  |(simp_all[ZZ,Xa];done)
  |(simp_all[ZZ,Xa];omega)
theorem jjma (c:Cfg) (v:Vw) (hk:7<c.np) (hp:Ti v):∃p r,OB prog c (ZD ⟨7,c.miss,c.good⟩ v) 7 p=some r/\RV c v 7 r:=by
 obtain⟨⟨p1,q1⟩,⟨p2,q2⟩,⟨p3,q3⟩⟩:=hp 7 (by omega);obtain⟨u,hu⟩:∃u,ZD ⟨7,c.miss,c.good⟩ v=u:=⟨_,rfl⟩
 have e1:u.inn 7=v.inn 7:=by rw[<- hu];rfl
 have e2:u.got 7=v.got 7:=by rw[<- hu];rfl
 have e3:u.miss 7=v.miss 7:=by rw[<- hu];rfl
 have e4:u.good 7=v.good 7:=by rw[<- hu];rfl
 have e5:u.score 7=v.score 7:=by rw[<- hu];rfl
 have w1:=VI p1;have w2:=VI p2;rw[hu];refine(RO 7 8 ⟨by decide,rfl⟩) c u _ ?_;simp only[e1,e2,e3,e4,e5,w1,w2]
 (repeat' (first|refine⟨fun h=>?_,fun h=>?_⟩|fail))
 all_goals (first|(exfalso;simp_all;done)|skip)
 all_goals (refine⟨?_,rfl,by dsimp only;omega,rfl,rfl,rfl,?_⟩)
 all_goals first
  |(rw[YX (k:=7) (ms:=c.miss) (go:=c.good) (v:=v) (u:=u) hu (a:=true) (m:=0) (x:=Zi (v.good 7)) (s:=Zn (v.score 7))];rfl)
  |(rw[YX (k:=7) (ms:=c.miss) (go:=c.good) (v:=v) (u:=u) hu (a:=true) (m:=Zi (v.miss 7)) (x:=0) (s:=Zj (v.score 7))];rfl)
  |(rw[YX (k:=7) (ms:=c.miss) (go:=c.good) (v:=v) (u:=u) hu (a:=false) (m:=0) (x:=Zi (v.good 7)) (s:=Zn (v.score 7))];rfl)
  |(rw[YX (k:=7) (ms:=c.miss) (go:=c.good) (v:=v) (u:=u) hu (a:=false) (m:=Zi (v.miss 7)) (x:=0) (s:=Zj (v.score 7))];rfl)
  |(rw[YX (k:=7) (ms:=c.miss) (go:=c.good) (v:=v) (u:=u) hu (a:=v.inn 7) (m:=0) (x:=Zi (v.good 7)) (s:=Zn (v.score 7))];rfl)
  |(rw[YX (k:=7) (ms:=c.miss) (go:=c.good) (v:=v) (u:=u) hu (a:=v.inn 7) (m:=Zi (v.miss 7)) (x:=0) (s:=Zj (v.score 7))];rfl)
  |(simp_all[ZZ,Xa];done)
  |(simp_all[ZZ,Xa];omega)
abbrev BR:List (Nat × AV):=[(3,.c (.ptr 1001 0 0)),(4,.c (.ptr 1002 0 0))]
abbrev BQ (u:Vw):AMem:=[(1001,Yv u),(1002,Yv OD)]
abbrev rvS (u:Vw):Zh:=⟨Q5,Jn,ZT 93 BR,BQ u,100000000000000000000000000000000000000000000000000,.exit 0⟩
theorem rvD (c:Cfg) (v u:Vw) (Q:VF->Prop) (H:let zN:=Int.ofNat;Q (AV.agg (ZW u),[],100000000000000000000000000000000000000000000000002,(zu (zu (zt (zt (y3 (y3 (true::[]))))))),[LoopV prog (ZY prog 80 0) Q5 Jn [some (.c (.ptr 1000 0 0)),some (.c (.ptr 1001 0 0)),some (.c (.ptr 1002 0 0)),some (.c (zI (zN 0)))] [yR 25 0 (Cs.lit [zI c.nodes,AC.sl 0 0 0 c.np none,AC.sl 1 0 0 c.ns none,zI c.long,AC.sl 2 0 0 c.nb none,AC.sl 3 0 0 c.nt none,zI c.miss,zI c.good,zI c.fresh]),yR 32 0 (Cs.lit (ZW v)),yR 32 0 (Cs.lit (z8 (fun zk=>zB false) (z8 (fun zk=>zU (zN 0)) (z8 (fun zk=>zU (zN 0)) (z8 (fun zk=>zH (zN 0)) (z8 (fun zk=>zB false) [.v (.int .i8 (zN 0)),zU (zN 0)]))))))] 93 1004 (ZT 93 BR) (BQ u) 100000000000000000000000000000000000000000000000000 (Exit.exit 0) none])):
 ∃p r,Ot (MI prog) 80 c [.agg (ZW v)] p [some (rvS u)]=some r/\Q r:=
 ⟨pD 0 0,_,by kernel_rfl,H⟩
theorem jjix (c:Cfg) (v:Vw) (h8:c.np<=8) (hp:Ti v) (k:Nat) (hk:k<c.np):∃p r,OB prog c (ZD ⟨k,c.miss,c.good⟩ v) k p=some r/\RV c v k r:=by
 have:k<8:=by omega
 match k,this with
 |0,_=>exact jjmh c v hk hp
 |1,_=>exact jjmg c v hk hp
 |2,_=>exact jjmf c v hk hp
 |3,_=>exact jjme c v hk hp
 |4,_=>exact jjmd c v hk hp
 |5,_=>exact jjmc c v hk hp
 |6,_=>exact jjmb c v hk hp
 |7,_=>exact jjma c v hk hp
theorem jjm9 (c:Cfg) (v:Vw) (h8:c.np<=8) (hp:Ti v):
 LoopV prog (ZY prog 80 0) Q5 Jn ((OC 0).map some) [some (Zr c),some (Yv v),some (Yv OD)] 93 1004 (ZT 93 BR) (BQ (ZD ⟨c.np,c.miss,c.good⟩ v)) 100000000000000000000000000000000000000000000000000 (.exit 0) none:=by
 have hz:=DR c.miss c.good v;refine Rx JO (fuel:=100) (str:=nSt) (nh:=1000000000000000000000000000000000000000000) (S:=Nat) (fun k=>k<=c.np) (fun k=>c.np-k) Q5 [] Jn OC (fun k=>[Zr c,Yv (ZD ⟨k,c.miss,c.good⟩ v),Yv OD]) (by decide) (by decide) (by unfold ZQ;omega) (s0:=0) (Nat.zero_le _) (fun _=>⟨rfl,rfl⟩) (by kernel_rfl) (by rw[hz];exact BL.refl [Zr c,Yv v,Yv OD]) (fun k _=>⟨rfl,?_⟩) ?_
 . intro b hb
   simp only[List.mem_cons,List.not_mem_nil,or_false] at hb;rcases hb with rfl|rfl|rfl
   . exact VN (by omega)
   . exact WA
   . exact WA
 intro k hk;rcases Nat.lt_or_ge k c.np with hlt|hge
 . obtain⟨p,r,h1,a1,a2,a3,a4,a5,a6,a7⟩:=jjix c v h8 hp k hlt
   exact⟨p,[],r,h1,a1,a2,a3,a4,.inl ⟨a5,k+1,hlt,by show c.np-(k+1)<c.np-k;omega,by rw[a6];rfl,by rw[a7];exact BL.refl [Zr c,Yv (ZD ⟨k+1,c.miss,c.good⟩ v),Yv OD]⟩⟩
 . obtain rfl:k=c.np:=by omega
   refine(?_:(∃p r,OB prog c (ZD ⟨c.np,c.miss,c.good⟩ v) c.np p=some r/\_)->_) (rvX c (ZD ⟨c.np,c.miss,c.good⟩ v) c.np (XS 1004 100000000000000000000000000000000000000000000000000 93 Q5 [] Jn (fun k=>k<=c.np) (fun k=>c.np-k) OC (fun k=>[Zr c,Yv (ZD ⟨k,c.miss,c.good⟩ v),Yv OD]) (.exit 0) BR (BQ (ZD ⟨c.np,c.miss,c.good⟩ v)) c.np) ?_)
   . rintro⟨p,r,h1,h2⟩
     exact⟨p,[],r,h1,h2⟩
   . refine⟨by simp[ZZ],rfl,by dsimp only;omega,rfl,.inr ⟨by simp,rfl,fun q hq=>?_,fun p hpp=>?_⟩⟩
     . simp only[List.mem_cons,List.not_mem_nil,or_false] at hq
       rcases hq with rfl|rfl
       . exact⟨rfl,by simp[ZN]⟩
       . exact⟨rfl,by simp[ZN]⟩
     . simp only[List.mem_cons,List.not_mem_nil,or_false] at hpp
       rcases hpp with rfl|rfl
       . exact⟨by kernel_rfl,WA,_,.tail _ (.head _),BEq.refl _⟩
       . exact⟨by kernel_rfl,WA,_,.tail _ (.tail _ (.head _)),BEq.refl _⟩
def S0 (l:List AC):Bool:=(List.range 8).all fun i=>(decide (0<=ZP (l.getD (8+i) ZS))&&decide (ZP (l.getD (8+i) ZS)<=255))&&((decide (0<=ZP (l.getD (16+i) ZS))&&decide (ZP (l.getD (16+i) ZS)<=255))&&(decide (0<=ZP (l.getD (24+i) ZS))&&decide (ZP (l.getD (24+i) ZS)<=65535)))
theorem Ea (v:Vw):S0 (ZW v)=true↔Ti v:=by
 have e:∀i,i<8->ZP ((ZW v).getD (8+i) ZS)=v.miss i/\ZP ((ZW v).getD (16+i) ZS)=v.good i/\ZP ((ZW v).getD (24+i) ZS)=v.score i:=fun i hi=>by
  have a2:=(UF v i hi).1;have a3:=(UG v i hi).1;have a4:=(SJ v i hi).1;simp only[Nat.mul_one,Int.ofNat_eq_natCast,Int.toNat_natCast] at a2 a3 a4;exact⟨a2,a3,a4⟩
 unfold S0;rw[List.all_eq_true];constructor
 . intro h i hi
   have h:=h i (List.mem_range.2 hi);obtain⟨e1,e2,e3⟩:=e i hi;rw[e1,e2,e3] at h;simp only[Bool.and_eq_true,decide_eq_true_eq] at h;exact h
 . intro h i hi
   have hi:=List.mem_range.1 hi;obtain⟨e1,e2,e3⟩:=e i hi;rw[e1,e2,e3];simp only[Bool.and_eq_true,decide_eq_true_eq];exact h i hi
def HA:Yq:=Z9 Z7 (fun|⟨c,[.agg l]⟩=>.agg (PB ⟨c.np,c.miss,c.good⟩ l)|_=>i64 0) (fun|⟨c,[.agg l]⟩=>Yx l&&(S0 l&&decide (c.np<=8))|_=>false)
theorem jjl1:ZC prog 80 HA:=by
 refine Te (E:=MI prog) JO Z7 (fuel:=300) (str:=nSt) ⟨_,_,Tryz.func80,rfl⟩ (fun s=>by split<;>rfl) fun s hs=>?_
 split at hs
 . rename_i c l
   simp only[Bool.and_eq_true,decide_eq_true_eq] at hs;obtain⟨hl,hp,h8⟩:=hs;have e:=UJ hl;generalize Zk l=v at e;subst e;have hp:=(Ea v).1 hp;refine(?_:(∃p q,Ot (MI prog) 80 c [.agg (ZW v)] p [some (rvS (ZD ⟨c.np,c.miss,c.good⟩ v))]=some q/\Zp (.agg (PB ⟨c.np,c.miss,c.good⟩ (ZW v))) q)->_) (rvD c v (ZD ⟨c.np,c.miss,c.good⟩ v) _ ?_)
   . rintro⟨p,q,h1,h2⟩
     exact⟨p,_,q,h1,h2⟩
   . have hs:=jjm9 c v h8 hp
     refine⟨by rw[Eo],(by first|(unfold ZQ;omega)|(dsimp only;unfold ZQ;omega)),by simp[ZZ,YZ,YU,YT,YO,YE,YF,Yk,Vw.len],fun q hq=>?_⟩;rw[List.mem_singleton.1 hq];exact hs
 . cases hs
def Bp:Zf->AV
 |⟨c,[.agg l]⟩=>.agg (PB ⟨c.np,c.miss,c.good⟩ l)
 |_=>i64 0
def Hk:Zf->Bool
 |⟨c,[.agg l]⟩=>Yx l&&(S0 l&&decide (c.np<=8))
 |_=>false
theorem jjm8 (c:Cfg) (l:List AC):Hk ⟨c,[.agg l]⟩=(Yx l&&(S0 l&&decide (c.np<=8))):=rfl
theorem jjhw {P:Program} {f:FuncId} {R R':Zf->AV} {p p':Zf->Bool} (h:ZC P f (Z9 Z7 R p)) (hR:∀s,R' s=R s) (hp:∀s,p' s=p s):ZC P f (Z9 Z7 R' p'):=by
 obtain rfl:R'=R:=funext hR;obtain rfl:p'=p:=funext hp;exact h
theorem Cg:ZC prog 80 (Z9 Z7 Bp Hk):=jjhw jjl1 (fun s=>by unfold Bp;rfl) (fun s=>by unfold Hk;rfl)
theorem jjc7 {a b:Int} (h0:0<=a) (h1:0<=b):Yn a b=(decide (b<=4)&&(decide (a=0)||(decide (4<a)||(decide (a<=b)||(decide (b=a-1)&&decide (b≠0)))))):=by
 obtain⟨x,rfl⟩:=Int.eq_ofNat_of_zero_le h0;obtain⟨y,rfl⟩:=Int.eq_ofNat_of_zero_le h1;by_cases hy:y<=4
 . have hb:y=0\/y=1\/y=2\/y=3\/y=4:=by omega
   by_cases hx:x<=4
   . have ha:x=0\/x=1\/x=2\/x=3\/x=4:=by omega
     rcases ha with rfl|rfl|rfl|rfl|rfl<;>rcases hb with rfl|rfl|rfl|rfl|rfl<;>decide
   . have h5:(5:Int)<=(x:Int):=by omega
     have h4:(4:Int)<(x:Int):=by omega
     unfold Yn;rw[if_pos h5];rcases hb with rfl|rfl|rfl|rfl|rfl<;>simp[h4]
 . have:¬(y:Int)<5:=by omega
   have h':¬(y:Int)<=4:=by omega
   simp[Yn,this,h']
def GP (P:Program) (a b:Int) (path:List Dec):Option VF:=ZB [] (ZJ (E1 P) (fC (E1 P) 300) 114 [.c (.v (.int .u8 a)),.c (.v (.int .u8 b))] 1000 nSt (Y7 [] path []))
theorem Bf (a b:Int) (Q:VF->Prop) (H:let zN:=Int.ofNat;let zq0:List Bool:=[decide (b>zN 4)==false];let zq1:List Bool:=((a==zN 0)==false)::zq0;let zq2:List Bool:=(decide (a>zN 4)==false)::zq1;let zq3:List Bool:=(decide (b≥a)==false)::zq2;(((decide (b>zN 4))=true->Q (.c (zB false),[],1004,[decide (b>zN 4)==true],[]))/\((decide (b>zN 4))=false->(((a==zN 0)=true->Q (.c (zB true),[],1008,(((a==zN 0)==true)::zq0),[]))/\((a==zN 0)=false->(((decide (a>zN 4))=true->Q (.c (zB true),[],1010,((decide (a>zN 4)==true)::zq1),[]))/\((decide (a>zN 4))=false->(((decide (b≥a))=true->Q (.c (zB true),[],1015,((decide (b≥a)==true)::zq2),[]))/\((decide (b≥a))=false->(((b==IntKind.wrap .u8 (a-zN 1))=true->Q (.c (zB (b !=zN 0)),[],1023,(((b==IntKind.wrap .u8 (a-zN 1))==true)::zq3),[]))/\((b==IntKind.wrap .u8 (a-zN 1))=false->Q (.c (zB false),[],1021,(((b==IntKind.wrap .u8 (a-zN 1))==false)::zq3),[])))))))))))):
 ∃p r,GP prog a b p=some r/\Q r:=
 ZL H (fun g1=>⟨pD 1 1,_,by kernel_rfl,g1⟩) (fun g1=>ZL g1 (fun g2=>⟨pD 4 5,_,by kernel_rfl,g2⟩) (fun g2=>ZL g2 (fun g3=>⟨pD 4 35,_,by kernel_rfl,g3⟩) (fun g3=>ZL g3 (fun g4=>⟨pD 10 143,_,by kernel_rfl,g4⟩) (fun g4=>ZL g4 (fun g5=>⟨pD 12 19907,_,by kernel_rfl,g5⟩) (fun g5=>⟨pD 12 39590,_,by kernel_rfl,g5⟩)))))
abbrev My (v:Vw) (k:Nat):List AV:=[.c (.ptr 1000 0 0),.c (.ptr 1001 0 0),i64 (Int.ofNat (ZK v.inn k)),i64 (Int.ofNat k)]
def raR (P:Program) (c:Cfg) (v:Vw) (k:Nat) (path:List Dec):Option VC:=
 view ([2,3,5,6]++[]) [1000,1001] (fC (E1 P) 100 (ZY P 113 0) 1000000000000000000000000000000000000000000 nSt (WR 34 [2,3,5,6] [1000,1001] (My v k) [Zr c,Yv v] path []))
theorem ra (c:Cfg) (v:Vw) (k:Nat) (Q:VC->Prop) (H:let zN:=Int.ofNat;let zq0:List Bool:=[true];let zq1:List Bool:=(ABlk.inb (ABlk.mk true false 32 0 (Cs.lit (ZW v))) 0 (0+Int.toNat (zN k)*1+1))::(Zq Kd.b (List.getD (ZW v) (0+Int.toNat (zN k)*1) ZS))::(decide (zN 0<=zN k/\zN k<zN 8))::(decide (zN k < ↑(c.np))==true)::zq0;let zs0:=fun (l:List (Option ABlk))=>yR 25 0 (Cs.lit [zI c.nodes,AC.sl 0 0 0 c.np none,AC.sl 1 0 0 c.ns none,zI c.long,AC.sl 2 0 0 c.nb none,AC.sl 3 0 0 c.nt none,zI c.miss,zI c.good,zI c.fresh])::yR 32 0 (Cs.lit (ZW v))::l;let zs1:=fun (l:List (Option AV))=>some (ZN (List.zip [2,3,5,6] (My v k)) (0+1+1))::some (ZN (List.zip [2,3,5,6] (My v k)) (0+1+1+1))::l;(((decide (zN k < ↑(c.np)))=true->(((Zv (List.getD (ZW v) (0+Int.toNat (zN k)*1) ZS))=true->Q (Exit.normal,(zs1 [some (.c (zI (IntKind.wrap .i64 (zN (ZK (Vw.inn v) k)+zN 1)))),some (.c (zI (IntKind.wrap .i64 (zN k+zN 1))))]),(zs0 []),34,1000000000000000000000000000000000000000015,((Zv (List.getD (ZW v) (0+Int.toNat (zN k)*1) ZS)==true)::zq1),[]))/\((Zv (List.getD (ZW v) (0+Int.toNat (zN k)*1) ZS))=false->Q (Exit.normal,(zs1 [some (ZN (List.zip [2,3,5,6] (My v k)) (0+1+1+1+1+1)),some (.c (zI (IntKind.wrap .i64 (zN k+zN 1))))]),(zs0 []),34,1000000000000000000000000000000000000000012,((Zv (List.getD (ZW v) (0+Int.toNat (zN k)*1) ZS)==false)::zq1),[]))))/\((decide (zN k < ↑(c.np)))=false->Q (Exit.exit 0,(zs1 [some (ZN (List.zip [2,3,5,6] (My v k)) (0+1+1+1+1+1)),some (ZN (List.zip [2,3,5,6] (My v k)) (0+1+1+1+1+1+1))]),(zs0 []),34,1000000000000000000000000000000000000000005,((decide (zN k < ↑(c.np))==false)::zq0),[])))):
 ∃p r,raR prog c v k p=some r/\Q r:=
 ZL H (fun g1=>ZL g1 (fun g2=>⟨pD 2 4,_,by kernel_rfl,g2⟩) (fun g2=>⟨pD 2 7,_,by kernel_rfl,g2⟩)) (fun g1=>⟨pD 1 2,_,by kernel_rfl,g1⟩)
theorem raF (c:Cfg) (v:Vw) (Q:VF->Prop) (H:let zN:=Int.ofNat;let zq0:List Bool:=[true,true];let zq1:List Bool:=(decide (Vw.command v<zN 0)==false)::zq0;let zq2:List Bool:=true::((zN (ZK (Vw.inn v) c.np)==zN 0)==false)::zq1;let zq3:List Bool:=((zN (ZK (Vw.inn v) c.np)== ↑(c.np))==false)::zq2;let ze1:AV:=.c (.ptr 1001 0 0);let ze0:AV:=.c (.ptr 1000 0 0);let zs0:=fun (l:List (Option ABlk))=>yR 25 0 (Cs.lit [zI c.nodes,AC.sl 0 0 0 c.np none,AC.sl 1 0 0 c.ns none,zI c.long,AC.sl 2 0 0 c.nb none,AC.sl 3 0 0 c.nt none,zI c.miss,zI c.good,zI c.fresh])::yR 32 0 (Cs.lit (ZW v))::l;let zs1:=fun (l:List (Option AV))=>some (ze0)::some (ze1)::some (.c (zI (zN 0)))::some (.c (zI (zN 0)))::l;(((decide (Vw.command v<zN 0))=true->Q (.c (zI (zN 4)),[],100000000000000000000000000000000000000000000000006,((decide (Vw.command v<zN 0)==true)::zq0),[LoopV prog (ZY prog 113 0) [2,3,5,6] [1000,1001] (zs1 []) (zs0 []) 34 1005 (ZT 34 [(2,ze0),(3,ze1),(5,i64 (zN (ZK (Vw.inn v) c.np)))]) [(1000,Zr c),(1001,Yv v)] 100000000000000000000000000000000000000000000000000 (Exit.exit 0) none]))/\((decide (Vw.command v<zN 0))=false->(((zN (ZK (Vw.inn v) c.np)==zN 0)=true->Q (.c (zI (zN 4)),[],100000000000000000000000000000000000000000000000008,(((zN (ZK (Vw.inn v) c.np)==zN 0)==true)::zq1),[LoopV prog (ZY prog 113 0) [2,3,5,6] [1000,1001] (zs1 []) (zs0 []) 34 1005 (ZT 34 [(2,ze0),(3,ze1),(5,i64 (zN (ZK (Vw.inn v) c.np)))]) [(1000,Zr c),(1001,Yv v)] 100000000000000000000000000000000000000000000000000 (Exit.exit 0) none]))/\((zN (ZK (Vw.inn v) c.np)==zN 0)=false->(((zN (ZK (Vw.inn v) c.np)== ↑(c.np))=true->Q (.c (zI (zN 1)),[],100000000000000000000000000000000000000000000000013,(((zN (ZK (Vw.inn v) c.np)== ↑(c.np))==true)::zq2),[LoopV prog (ZY prog 113 0) [2,3,5,6] [1000,1001] (zs1 []) (zs0 []) 34 1005 (ZT 34 [(2,ze0),(3,ze1),(5,i64 (zN (ZK (Vw.inn v) c.np)))]) [(1000,Zr c),(1001,Yv v)] 100000000000000000000000000000000000000000000000000 (Exit.exit 0) none]))/\((zN (ZK (Vw.inn v) c.np)== ↑(c.np))=false->(((zN (ZK (Vw.inn v) c.np)==zN 1)=true->Q (.c (zI (zN 3)),[],100000000000000000000000000000000000000000000000015,(((zN (ZK (Vw.inn v) c.np)==zN 1)==true)::zq3),[LoopV prog (ZY prog 113 0) [2,3,5,6] [1000,1001] (zs1 []) (zs0 []) 34 1005 (ZT 34 [(2,ze0),(3,ze1),(5,i64 (zN (ZK (Vw.inn v) c.np)))]) [(1000,Zr c),(1001,Yv v)] 100000000000000000000000000000000000000000000000000 (Exit.exit 0) none]))/\((zN (ZK (Vw.inn v) c.np)==zN 1)=false->Q (.c (zI (zN 2)),[],100000000000000000000000000000000000000000000000015,(((zN (ZK (Vw.inn v) c.np)==zN 1)==false)::zq3),[LoopV prog (ZY prog 113 0) [2,3,5,6] [1000,1001] (zs1 []) (zs0 []) 34 1005 (ZT 34 [(2,ze0),(3,ze1),(5,i64 (zN (ZK (Vw.inn v) c.np)))]) [(1000,Zr c),(1001,Yv v)] 100000000000000000000000000000000000000000000000000 (Exit.exit 0) none])))))))))):
 ∃p r,ZB [] (ZJ (E1 prog) (fC (E1 prog) 300) 113 [.agg (Yi c),.agg (ZW v)] 1000 nSt (Y7 (Xl c) p [some ⟨[2,3,5,6],[1000,1001],ZT 34 [(2,.c (.ptr 1000 0 0)),(3,.c (.ptr 1001 0 0)),(5,i64 (Int.ofNat (ZK v.inn c.np)))],[(1000,Zr c),(1001,Yv v)],100000000000000000000000000000000000000000000000000,.exit 0⟩]))=some r/\Q r:=
 ZL H (fun g1=>⟨pD 3 1,_,by kernel_rfl,g1⟩) (fun g1=>ZL g1 (fun g2=>⟨pD 3 11,_,by kernel_rfl,g2⟩) (fun g2=>ZL g2 (fun g3=>⟨pD 4 47,_,by kernel_rfl,g3⟩) (fun g3=>ZL g3 (fun g4=>⟨pD 5 155,_,by kernel_rfl,g4⟩) (fun g4=>⟨pD 5 236,_,by kernel_rfl,g4⟩))))
def Of (n:Nat) (l:List AC):Nat:=ZK (fun p=>Zv (l.getD p ZS)) n
theorem jjj7 (v:Vw) {n:Nat} (h:n<=8):Of n (Wa v)=ZK v.inn n:=
 Sf fun i hi=>by
  match i,show i<8 by omega with
  |0,_=>rfl
  |1,_=>rfl
  |2,_=>rfl
  |3,_=>rfl
  |4,_=>rfl
  |5,_=>rfl
  |6,_=>rfl
  |7,_=>rfl
def Xg (n:Nat) (l:List AC) (cmd:Int):Int:=W5 (Of n l) n cmd
theorem F9 {z:Int} (h0:0<=z) (h1:z<=255):IntKind.wrap .u8 z=z:=by
 simp only[IntKind.wrap,IntKind.bits,IntKind.signed]
 first|omega|(simp;omega)
def KB:Yq:=Z9 (Yf [] rfl) (fun| [.c (.v (.int .u8 a)),.c (.v (.int .u8 b))]=>bo (Yn a b)|_=>bo false) (fun| [.c (.v (.int .u8 a)),.c (.v (.int .u8 b))]=>decide (0<=a)&&(decide (a<=255)&&decide (0<=b))|_=>false)
theorem jjhy:ZC prog 114 KB:=by
 refine Te (E:=E1 prog) Xk (Yf [] rfl) (fuel:=300) (str:=nSt) ⟨_,_,Tryz.func114,rfl⟩ (fun s=>by split<;>rfl) fun s hs=>?_
 split at hs
 . rename_i a b
   simp only[Bool.and_eq_true,decide_eq_true_eq] at hs;obtain⟨a0,a1,b0⟩:=hs;refine(?_:(∃p q,GP prog a b p=some q/\Zp (bo (Yn a b)) q)->_) (Bf a b _ ?_)
   . rintro⟨p,q,h1,h2⟩
     exact⟨p,_,q,h1,h2⟩
   . rw[jjc7 a0 b0]
     have hw:a≠0->IntKind.wrap IntKind.u8 (a-Int.ofNat 1)=a-1:=fun h=>by rw[show a-Int.ofNat 1=a-1 by simp];exact F9 (by omega) (by omega)
     (repeat' (first|refine⟨fun h=>?_,fun h=>?_⟩|fail))
     all_goals (refine⟨?_,(by first|(unfold ZQ;omega)|(dsimp only;unfold ZQ;omega)),?_,by simp⟩)
     all_goals (first|(simp_all[bo];done)|(simp_all[bo];omega)|(simp_all[ZZ];done)|(simp_all[ZZ];omega)|skip)
     all_goals (simp_all[bo])
     all_goals (by_cases h1:a-1=0<;>simp[h1,show ¬4<a by omega,show ¬a<=a-1 by omega])
     all_goals omega
 . cases hs
theorem jjmt (c:Cfg) (v:Vw) (hp:c.np<=8):
 LoopV prog (ZY prog 113 0) [2,3,5,6] [1000,1001] ((My v 0).map some) [some (Zr c),some (Yv v)] 34 1005 (ZT 34 [(2,.c (.ptr 1000 0 0)),(3,.c (.ptr 1001 0 0)),(5,i64 (Int.ofNat (ZK v.inn c.np)))]) [(1000,Zr c),(1001,Yv v)] 100000000000000000000000000000000000000000000000000 (.exit 0) none:=by
 refine Dw Xk (fuel:=100) (str:=nSt) (nh:=1000000000000000000000000000000000000000000) (S:=Nat) (fun k=>k<=c.np) (fun k=>c.np-k) [2,3,5,6] [] [1000,1001] (My v) (fun _=>[Zr c,Yv v]) (by decide) (by decide) (by unfold ZQ;omega) (s0:=0) (by omega) (fun _=>⟨rfl,rfl⟩) (by kernel_rfl) (fun k _=>⟨rfl,?_⟩) ?_
 . intro b hb
   simp only[List.mem_cons,List.not_mem_nil,or_false] at hb;rcases hb with rfl|rfl
   . exact VN (by omega)
   . exact WA
 intro k hk;refine(?_:(∃p r,raR prog c v k p=some r/\_)->_) (ra c v k (XS 1005 100000000000000000000000000000000000000000000000000 34 [2,3,5,6] [] [1000,1001] (fun k=>k<=c.np) (fun k=>c.np-k) (My v) (fun _=>[Zr c,Yv v]) (.exit 0) [(2,.c (.ptr 1000 0 0)),(3,.c (.ptr 1001 0 0)),(5,i64 (Int.ofNat (ZK v.inn c.np)))] [(1000,Zr c),(1001,Yv v)] k) ?_)
 . rintro⟨p,r,h1,h2⟩
   exact⟨p,[],r,h1,h2⟩
 . have hi:=Rt v.inn k
   have nx:∀{i:Nat},i=ZK v.inn (k+1)->[some (.c (.ptr 1000 0 0)),some (.c (.ptr 1001 0 0)),some (i64 (Int.ofNat i)),some (i64 (Int.ofNat (k+1)))]=(My v (k+1)).map some:=by
    rintro _ rfl;rfl
   refine⟨fun c1=>⟨fun c3=>?_,fun c3=>?_⟩,fun c1=>?_⟩
   . have hlt:k<c.np:=by simp at c1;omega
     rw[Wc v k (by omega)] at c3;refine⟨?_,rfl,by dsimp only;omega,rfl,.inl ⟨rfl,k+1,by omega,by show c.np-(k+1)<c.np-k;omega,?_,by exact BL.refl [Zr c,Yv v]⟩⟩
     . simp only[ZZ,List.forall_mem_cons,Wc v k (show k<8 by omega),TJ v k (show k<8 by omega)]
       simp[hlt,c3,Yk,Z6,Vw.len];omega
     . rw[Sg k (by omega),Sg _ (by omega)]
       exact nx (i:=ZK v.inn k+1) (by rw[Sj,c3];rfl)
   . have hlt:k<c.np:=by simp at c1;omega
     rw[Wc v k (by omega)] at c3;refine⟨?_,rfl,by dsimp only;omega,rfl,.inl ⟨rfl,k+1,by omega,by show c.np-(k+1)<c.np-k;omega,?_,by exact BL.refl [Zr c,Yv v]⟩⟩
     . simp only[ZZ,List.forall_mem_cons,Wc v k (show k<8 by omega),TJ v k (show k<8 by omega)]
       simp[hlt,c3,Yk,Z6,Vw.len];omega
     . rw[Sg k (by omega)]
       exact nx (i:=ZK v.inn k) (by rw[Sj,c3];rfl)
   . have hge:k=c.np:=by simp at c1;omega
     subst hge;refine⟨by simp[ZZ],rfl,by dsimp only;omega,rfl,.inr ⟨by simp,rfl,fun q hq=>?_,fun p hpp=>?_⟩⟩
     . simp only[List.mem_cons,List.not_mem_nil,or_false] at hq
       rcases hq with rfl|rfl|rfl
       . exact⟨rfl,by simp[ZN]⟩
       . exact⟨rfl,by simp[ZN]⟩
       . exact⟨rfl,by simp[ZN]⟩
     . simp only[List.mem_cons,List.not_mem_nil,or_false] at hpp
       rcases hpp with rfl|rfl
       . exact⟨by kernel_rfl,VN (by omega),Zr c,List.mem_cons_self ..,BEq.refl _⟩
       . exact⟨by kernel_rfl,WA,Yv v,List.mem_cons_of_mem _ (List.mem_cons_self ..),BEq.refl _⟩
def KA:Yq:=Z9 Z7 (fun|⟨c,[.agg l]⟩=>i64 (Xg c.np (l.take 8) (ZP (l.getD 40 ZS)))|_=>i64 0) (fun|⟨c,[.agg l]⟩=>Yx l&&decide (c.np<=8)|_=>false)
theorem jjhz:ZC prog 113 KA:=by
 refine Te (E:=E1 prog) Xk Z7 (fuel:=300) (str:=nSt) ⟨_,_,Tryz.func113,rfl⟩ (fun s=>by split<;>rfl) fun s hs=>?_
 split at hs
 . rename_i c l
   simp only[Bool.and_eq_true,decide_eq_true_eq] at hs;obtain⟨hl,hp⟩:=hs;have e:=UJ hl;generalize Zk l=v at e;subst e;refine(?_:(∃p q,ZB [] (ZJ (E1 prog) (fC (E1 prog) 300) 113 [.agg (Yi c),.agg (ZW v)] 1000 nSt (Y7 (Xl c) p [some ⟨[2,3,5,6],[1000,1001],ZT 34 [(2,.c (.ptr 1000 0 0)),(3,.c (.ptr 1001 0 0)),(5,i64 (Int.ofNat (ZK v.inn c.np)))],[(1000,Zr c),(1001,Yv v)],100000000000000000000000000000000000000000000000000,.exit 0⟩]))=some q/\Zp (i64 (W5 (Of c.np (Wa v)) c.np v.command)) q)->_) (raF c v _ ?_)
   . rintro⟨p,q,h1,h2⟩
     exact⟨p,_,q,h1,h2⟩
   . rw[jjj7 v hp]
     have hi:=Rt v.inn c.np;generalize hi':ZK v.inn c.np=i at hi ⊢
     (repeat' (first|refine⟨fun h=>?_,fun h=>?_⟩|fail))
     all_goals (refine⟨?_,(by first|(unfold ZQ;omega)|(dsimp only;unfold ZQ;omega)),?_,fun q hq=>?_⟩)
     all_goals (first
      |(rw[List.mem_singleton.1 hq,<- hi'];exact jjmt c v hp)
      |(simp_all[W5,i64];done)|(simp_all[W5,i64];omega)|(simp_all[ZZ,YZ,YU,YT,YO,YE,YF,Yk,Z6,Vw.len];done)|(simp_all[ZZ,YZ,YU,YT,YO,YE,YF,Yk,Z6,Vw.len];omega))
 . cases hs
theorem JD {S:Type} {P:Program} {f:FuncId} {rd:Rd S} {R R':S->AV} {p p':S->Bool} (h:ZC P f (Z9 rd R p)) (hR:∀s,R' s=R s) (hp:∀s,p' s=p s):ZC P f (Z9 rd R' p'):=by
 obtain rfl:R'=R:=funext hR;obtain rfl:p'=p:=funext hp;exact h
def Ji:Zf->AV
 |⟨c,[.agg l]⟩=>i64 (Xg c.np (l.take 8) (ZP (l.getD 40 ZS)))
 |_=>i64 0
def Oe:Zf->Bool
 |⟨c,[.agg l]⟩=>Yx l&&decide (c.np<=8)
 |_=>false
def Jk:List AV->AV
 | [.c (.v (.int .u8 a)),.c (.v (.int .u8 b))]=>bo (Yn a b)
 |_=>bo false
def Oh:List AV->Bool
 | [.c (.v (.int .u8 a)),.c (.v (.int .u8 b))]=>decide (0<=a)&&(decide (a<=255)&&decide (0<=b))
 |_=>false
theorem Ac:ZC prog 113 (Z9 Z7 Ji Oe):=JD jjhz (fun s=>by unfold Ji;rfl) (fun s=>by unfold Oe;rfl)
theorem Ab:ZC prog 114 (Z9 (Yf [] rfl) Jk Oh):=JD jjhy (fun s=>by unfold Jk;rfl) (fun s=>by unfold Oh;rfl)
theorem jjjd (c:Cfg) (l:List AC):Oe ⟨c,[.agg l]⟩=(Yx l&&decide (c.np<=8)):=rfl
theorem jjj4 (a b:Int):Oh [.c (.v (.int .u8 a)),.c (.v (.int .u8 b))]=(decide (0<=a)&&(decide (a<=255)&&decide (0<=b))):=rfl
def MJ (P:Program):Env:=⟨P,[(61,VZ)]⟩
theorem CB:Zz (MJ prog):=by
 refine Xp (fun f g h=>?_) (by kernel_rfl) (by kernel_rfl);simp only[MJ,List.mem_cons,Prod.mk.injEq,List.not_mem_nil,or_false] at h;obtain⟨rfl,rfl⟩:=h;exact Ll
theorem anSt (c:Cfg) (nq:Nat) (fq:Nat->Int) (z:Int) (Q:VF->Prop) (H:let zN:=Int.ofNat;let zM:=ABlk.mk;let zD:=Int.toNat;let zq0:List Bool:=zt (zt (y3 (true::true::((decide (zN 0<=zN 0/\zN 0<=Option.getD (some ↑(c.nt)) ↑(c.nt)/\Option.getD (some ↑(c.nt)) ↑(c.nt)<=YW none c.nt (some ↑(c.nt))))::true::(decide (YW none c.nt (some ↑(c.nt)) <= ↑(Option.getD none c.nt)))::true::(Zu none (zM true true 85 3 (Cs.arr c.nt fun k=>List.map AC.v ((fun i=>[Value.int .i64 (Station.node (Z4 (Zt (zM false false 85 3 (yT c)) 0 0 3) i)),Value.int .u32 (Station.safe (Z4 (Zt (zM false false 85 3 (yT c)) 0 0 3) i)),Value.int .i64 (Station.hold (Z4 (Zt (zM false false 85 3 (yT c)) 0 0 3) i))]) k))) 0 c.nt)::(decide (0+c.nt<=c.nt))::(decide (c.nt<=1000000))::(Yc c.nt fun k=>List.map AC.v ((fun i=>[Value.int .i64 (Station.node (c.ft i)),Value.int .u32 (Station.safe (c.ft i)),Value.int .i64 (Station.hold (c.ft i))]) k))::true::true::(decide (zN 0<=zN 0/\zN 0<=Option.getD (some ↑(0+c.nb)) ↑(0+c.nb)/\Option.getD (some ↑(0+c.nb)) ↑(0+c.nb)<=YW none (0+c.nb) (some ↑(0+c.nb))))::true::(decide (YW none (0+c.nb) (some ↑(0+c.nb)) <= ↑(Option.getD none (0+c.nb))))::true::(Zu none (zM true true 3 1 (Cs.arr (0+c.nb) fun i=>if i<0 then[] else Z8 (zM false false 3 1 (yB c)) 0 0 1 (i-0))) 0 (0+c.nb))::(decide (0+c.nb<=c.nb))::true::true::(decide ((0+c.nb)*8<=140737488355328))::(ABlk.inb (zM false false 3 1 (yB c)) 0 1)::y3 (true::(decide (zN 0<=zN 0/\zN 0<=Option.getD (some ↑(0+c.ns)) ↑(0+c.ns)/\Option.getD (some ↑(0+c.ns)) ↑(0+c.ns)<=YW none (0+c.ns) (some ↑(0+c.ns))))::true::(decide (YW none (0+c.ns) (some ↑(0+c.ns)) <= ↑(Option.getD none (0+c.ns))))::true::(Zu none (zM true true 3 1 (Cs.arr (0+c.ns) fun i=>if i<0 then[] else Z8 (zM false false 3 1 (yS c)) 0 0 1 (i-0))) 0 (0+c.ns))::(decide (0+c.ns<=c.ns))::true::true::(decide ((0+c.ns)*8<=140737488355328))::(ABlk.inb (zM false false 3 1 (yS c)) 0 1)::y3 (true::(decide (zN 0<=zN 0/\zN 0<=Option.getD (some ↑(0+c.np)) ↑(0+c.np)/\Option.getD (some ↑(0+c.np)) ↑(0+c.np)<=YW none (0+c.np) (some ↑(0+c.np))))::true::(decide (YW none (0+c.np) (some ↑(0+c.np)) <= ↑(Option.getD none (0+c.np))))::true::(Zu none (zM true true 3 1 (Cs.arr (0+c.np) fun i=>if i<0 then[] else Z8 (zM false false 3 1 (yP c)) 0 0 1 (i-0))) 0 (0+c.np))::(decide (0+c.np<=c.np))::true::true::(decide ((0+c.np)*8<=140737488355328))::(ABlk.inb (zM false false 3 1 (yP c)) 0 1)::(zt (true::(((!decide (↑nq>zN 0))==false)::true::[])))))))));let zq1:List Bool:=(decide (z<zN 0)==false)::zq0;(((decide (z<zN 0))=true->Q (.tup [.agg [zI (zN 0),zW (zN 0),zI (zN 0)],.c (zB false)],[],1137,(y3 (true::true::(decide (z<zN 0)==true)::zq0)),[]))/\((decide (z<zN 0))=false->(((decide (z≥ ↑(zD (Option.getD (some ↑(c.nt)) ↑(c.nt)-zN 0))))=true->Q (.tup [.agg [zI (zN 0),zW (zN 0),zI (zN 0)],.c (zB false)],[],1141,(y3 (true::true::(decide (z≥ ↑(zD (Option.getD (some ↑(c.nt)) ↑(c.nt)-zN 0)))==true)::zq1)),[]))/\((decide (z≥ ↑(zD (Option.getD (some ↑(c.nt)) ↑(c.nt)-zN 0))))=false->Q (.tup [.agg [zI (Station.node (Z4 (fun k=>List.map AC.v ((fun i=>[Value.int .i64 (Station.node (c.ft i)),Value.int .u32 (Station.safe (c.ft i)),Value.int .i64 (Station.hold (c.ft i))]) k)) (0+zD z))),zW (Station.safe (Z4 (fun k=>List.map AC.v ((fun i=>[Value.int .i64 (Station.node (c.ft i)),Value.int .u32 (Station.safe (c.ft i)),Value.int .i64 (Station.hold (c.ft i))]) k)) (0+zD z))),zI (Station.hold (Z4 (fun k=>List.map AC.v ((fun i=>[Value.int .i64 (Station.node (c.ft i)),Value.int .u32 (Station.safe (c.ft i)),Value.int .i64 (Station.hold (c.ft i))]) k)) (0+zD z)))],.c (zB true)],[],1144,(y3 (true::true::(ABlk.inb (zM true true 85 3 (Cs.arr c.nt fun k=>List.map AC.v ((fun i=>[Value.int .i64 (Station.node (Z4 (Zt (zM false false 85 3 (yT c)) 0 0 3) i)),Value.int .u32 (Station.safe (Z4 (Zt (zM false false 85 3 (yT c)) 0 0 3) i)),Value.int .i64 (Station.hold (Z4 (Zt (zM false false 85 3 (yT c)) 0 0 3) i))]) k))) (0+zD z) 3)::y3 ((decide (zN 0<=z/\z < ↑(zD (Option.getD (some ↑(c.nt)) ↑(c.nt)-zN 0))))::(decide (z≥ ↑(zD (Option.getD (some ↑(c.nt)) ↑(c.nt)-zN 0)))==false)::zq1))),[])))))):
 ∃p r,Hf (MJ prog) 69 c nq fq [i64 z] p []=some r/\Q r:=
 ZL H (fun g1=>⟨pD 19 4784427,_,by kernel_rfl,g1⟩) (fun g1=>ZL g1 (fun g2=>⟨pD 19 396987885,_,by kernel_rfl,g2⟩) (fun g2=>⟨pD 19 784408374,_,by kernel_rfl,g2⟩))
abbrev Us (a:Int) (k:Nat):ABlk:=XD 2 1 k fun i=>[.int .i64 (a+Int.ofNat i)]
abbrev Xh (a h:Int) (l k:Nat):List (Nat × AV):=[(0,i64 a),(1,i64 h),(5,.c (.sl 2000 0 0 l none)),(7,i64 h),(8,i64 (Int.ofNat k))]
def Oj (P:Program) (a h:Int) (l k:Nat) (path:List Dec):Option VC:=
 view [0,1,5,7,8] [2000,1000000000000000000000000000000000000000013] (fC (E1 P) 100 (ZY P 79 0) 1000000000000000000000000000000000000000000 nSt ⟨ZT 24 (Xh a h l k),[(2000,Us a l)],0,0,false,path,[],[],[],none,[]⟩)
theorem anRd (a h:Int) (l k:Nat) (Q:VC->Prop) (H:let zN:=Int.ofNat;let zs0:=fun (zl:List (Option AV))=>some (ZN (Xh a h l k) 0)::some (ZN (Xh a h l k) (0+1))::some (ZN (Xh a h l k) (0+1+1+1+1+1))::some (ZN (Xh a h l k) (0+1+1+1+1+1+1+1))::zl;(((decide (zN k<h))=true->(((decide (IntKind.wrap .i64 (a+zN k)≥a))=true->Q (Exit.normal,[some (ZN (Xh a h l k) 0),some (ZN (Xh a h l k) (0+1)),some (.c (.sl 1000000000000000000000000000000000000000013 0 0 (l+1) none)),some (ZN (Xh a h l k) (0+1+1+1+1+1+1+1)),some (.c (zI (IntKind.wrap .i64 (zN k+zN 1))))],[none,yO 2 1 (Cs.arr (l+1) fun i=>if i<l then List.map AC.v ((fun i=>[Value.int .i64 (a+zN i)]) i) else Z8 (ABlk.mk true false 2 0 (Cs.lit [zI (IntKind.wrap .i64 (a+zN k))])) 0 0 1 (i-l))],24,1000000000000000000000000000000000000000017,[true,true,decide (l<=l),decide ((l+1)*8<=140737488355328),decide (IntKind.wrap .i64 (a+zN k)≥a)==true,decide (zN k<h)==true],[]))/\((decide (IntKind.wrap .i64 (a+zN k)≥a))=false->Q (Exit.normal,(zs0 [some (.c (zI (IntKind.wrap .i64 (zN k+zN 1))))]),[yO 2 1 (Cs.arr l fun k=>List.map AC.v ((fun i=>[Value.int .i64 (a+zN i)]) k)),none],24,1000000000000000000000000000000000000000010,[decide (IntKind.wrap .i64 (a+zN k)≥a)==false,decide (zN k<h)==true],[]))))/\((decide (zN k<h))=false->Q (Exit.exit 0,(zs0 [some (ZN (Xh a h l k) (0+1+1+1+1+1+1+1+1))]),[yO 2 1 (Cs.arr l fun k=>List.map AC.v ((fun i=>[Value.int .i64 (a+zN i)]) k)),none],24,1000000000000000000000000000000000000000001,[decide (zN k<h)==false],[])))):
 ∃p r,Oj prog a h l k p=some r/\Q r:=
 ZL H (fun g1=>ZL g1 (fun g2=>⟨pD 2 4,_,by kernel_rfl,g2⟩) (fun g2=>⟨pD 2 7,_,by kernel_rfl,g2⟩)) (fun g1=>⟨pD 1 2,_,by kernel_rfl,g1⟩)
theorem Fo (f:Nat->Int) (n:Nat) (v:Int) (N:Nat) (hN:1<=N) (hN2:N<=1000000000000000000000000000000000000000000) (hn:n<=1000000) (j:Nat) (hj:j<=n) (hmin:∀i,i<j->f i≠v) (hyes:j<n->f j=v) {e:Exit} {out:List (Nat × AV)}
 (hF:(j<n->e= .ret/\out=[(4,i64 (Int.ofNat j))])/\(j=n->e= .exit 0/\out=[])):
 LoopV prog (ZY prog 107 0) [0,1,7,8] [0] ((T1 v n 0).map some) ([ZG 2 n f].map some) 19 N (ZT 19 out) [] 100000000000000000000000000000000000000000000000000 e none:=by
 have e0:∀k:Nat,0+Int.toNat (Int.ofNat k)=k:=fun k=>by simp
 have hw:∀k,k<n->IntKind.wrap IntKind.i64 (Int.ofNat k+Int.ofNat 1)=Int.ofNat (k+1):=fun k hk=>by rw[XG _ (by simp;omega) (by simp;omega)];rfl
 refine UH Xk (fuel:=100) (str:=nSt) (nh:=1000000000000000000000000000000000000000000) [0,1,7,8] [4] [0] (T1 v n) [ZG 2 n f] j hN2 (by decide) (by unfold ZQ;omega) ?_ (fun _=>⟨rfl,rfl⟩) ?_ ?_ ?_ ?_ ?_
 . rcases Nat.lt_or_ge j n with h|h
   . rw[(hF.1 h).1];simp
   . rw[(hF.2 (by omega)).1];simp
 . simp[Zb];omega
 . intro k _
   simp[US,WW,Yu,XR,i64];omega
 . intro b hb
   rw[List.mem_singleton.1 hb];exact TH
 . intro k hk
   have hm:=hmin k hk;refine ixl f n v k _ ⟨fun c1=>⟨fun c2=>?_,fun c2=>?_⟩,fun c1=>?_⟩<;>simp only[e0] at *
   . simp at c2;exact absurd c2.symm hm
   . have hlt:k<n:=by omega
     simp at c2;refine⟨⟨?_,rfl,by dsimp only;omega,rfl⟩,rfl,?_,BL.refl _⟩
     . simp only[ZZ,List.forall_mem_cons,e0]
       simp[Z6,hlt,c2]
     . dsimp only;rw[hw k hlt];rfl
   . simp at c1;omega
 . refine ixl f n v j _ ⟨fun c1=>⟨fun c2=>?_,fun c2=>?_⟩,fun c1=>?_⟩<;>simp only[e0] at *
   . have hlt:j<n:=by simpa using c1
     obtain⟨rfl,rfl⟩:=hF.1 hlt;refine Ry ⟨?_,rfl,by dsimp only;omega,rfl⟩ rfl rfl ?_
     . simp only[ZZ,List.forall_mem_cons,e0]
       simp at c2;simp[Z6,hlt,c2]
     . simp[i64]
   . have hlt:j<n:=by simpa using c1
     simp at c2;exact absurd (hyes hlt).symm c2
   . have hlt:¬j<n:=by simpa using c1
     obtain⟨rfl,rfl⟩:=hF.2 (by omega);refine Rq ⟨?_,rfl,by dsimp only;omega,rfl⟩ rfl;simp[ZZ];omega
theorem jj7m (f:Nat->Int) (n:Nat) (v:Int) (hn:n<=1000000):∃p lp r,ZB [] (ZJ (E1 prog) (fC (E1 prog) 300) 78 (.c (.sl 0 0 0 n none)::[i64 v]) 1000 nSt (Y7 [(0,ZG 2 n f)] p lp))=some r/\
 r.1=bo (Wm f n v)/\r.2.2.1<=ZQ/\ZZ r.2.2.2.1/\∀q∈r.2.2.2.2,q:=by
 obtain⟨j,hj,hmin,hyes⟩:=Se n fun i=>f i==v
 have hmin':∀i,i<j->f i≠v:=fun i hi=>by simpa using hmin i hi
 rcases Nat.lt_or_ge j n with h|h
 . have hy:f j=v:=by simpa using hyes h
   refine⟨_,_,_,jj7l f n v j,?_,by dsimp only;unfold ZQ;omega,by simp[ZZ],fun q hq=>?_⟩
   . have:Wm f n v=true:=List.any_eq_true.2 ⟨j,by simpa using h,by simp[hy]⟩
     simp[bo,this]
   . rw[List.mem_singleton.1 hq]
     exact Fo f n v _ (by omega) (by omega) hn j hj hmin' (fun _=>hy) ⟨fun _=>⟨rfl,rfl⟩,fun h=>by omega⟩
 . obtain rfl:j=n:=by omega
   refine⟨_,_,_,jj8o f j v,?_,by dsimp only;unfold ZQ;omega,by simp[ZZ],fun q hq=>?_⟩
   . have:Wm f j v=false:=List.any_eq_false.2 fun i hi=>by have:=hmin' i (by simpa using hi);simpa using this
     simp[bo,this]
   . rw[List.mem_singleton.1 hq]
     exact Fo f j v _ (by omega) (by omega) hn j hj hmin' (fun h=>by omega) ⟨fun h=>by omega,fun _=>⟨rfl,rfl⟩⟩
def W6:Yq
 | [.c a,.c (.v (.int .i64 v))],m,_=>match XB 1 m a with|some (n,F,b)=>some (bo (Wm (fA F) n v),[],0,[b,decide (n<=1000000),Zy n F])|none=>none
 |_,_,_=>none
theorem jj8j:ZC prog 78 W6:=by
 refine⟨⟨_,_,Tryz.func78,rfl⟩,fun C β m m2 w args ib r news k' ob vs hct ho hs hr hfree hlim hv=>?_⟩;unfold W6 at hct;split at hct
 . rename_i a v
   split at hct
   . rename_i n F b hsl
     simp only[Option.some.injEq,Prod.mk.injEq] at hct;obtain⟨rfl,rfl,rfl,rfl⟩:=hct;simp only[ZZ,List.forall_mem_cons,decide_eq_true_eq] at ho;obtain⟨rfl,o2,o3,_⟩:=ho;exact NN Xk hs hr hsl o3 hv (OX [.int .i64 v] rfl) (fun _ _ _ h=>h) 2 (jj7m (fA F) n v o2)
   . cases hct
 . cases hct
def YH (a:Int) (k:Nat):Nat:=min k (9223372036854775808-a).toNat
theorem Dk (x:Int) (h0:9223372036854775808<=x) (h1:x<=18446744073709551615):IntKind.wrap IntKind.i64 x=x-18446744073709551616:=by
 simp only[IntKind.wrap,IntKind.bits,IntKind.signed]
 first|omega|(simp;omega)
theorem jjd9 (a h:Int) (n:Nat) (hn:14<=n) (hn2:n<=2000) (h0:0<=h) (h1:h<=1000000) (a0: -9223372036854775808<=a) (a1:a<=9223372036854775807):
 LoopV prog (ZY prog 79 0) [0,1,5,7,8] [] [some (i64 a),some (i64 h),some (.c (.v (.slice none 0 0))),some (i64 h),some (i64 0)] [] 24 n
  (ZT 24 [(5,.c (.sl 2000 0 0 (YH a h.toNat) none))]) [(2000,Us a (YH a h.toNat))] 100000000000000000000000000000000000000000000000000 (.exit 0) none:=by
 refine Pd Xk (fuel:=100) (S:=Nat) (inv:=fun k=>k<=h.toNat) (μ:=fun k=>h.toNat-k) (tmI:=fun k=>ZT 24 (Xh a h (YH a k) k)) (mI:=fun k=>[(2000,Us a (YH a k))]) (nh:=1000000000000000000000000000000000000000000) (str:=nSt) (by omega) (by omega) (fun _ h=>by cases h) (s0:=0) (by omega) ?_ ?_
 . intro tm m g1 g2 g3
   simp only[List.map_cons,List.map_nil,List.cons.injEq,and_true] at g1;obtain⟨s0,s1,s5,s7,s8⟩:=g1;have e0:YH a 0=0:=by simp[YH]
   simp only[e0];refine V5 (ρ:=fun _=>.inr 1) (by omega) (by omega) (by unfold ZQ;omega) g3 ?_ ?_ ?_
   . simp[VA]
   . exact⟨.inr (.inr (.inl ⟨by omega,by omega,rfl,Nat.one_pos,_,rfl⟩)),trivial⟩
   . exact⟨⟨_,s0,by simp[i64],WM rfl⟩,⟨_,s1,by simp[i64],WM rfl⟩,⟨_,s5,by simp,Qx (by omega) (by omega) (by omega) rfl⟩,⟨_,s7,by simp[i64],WM rfl⟩,⟨_,s8,by simp[i64],WM rfl⟩,trivial⟩
 . intro k hk
   have hk1:IntKind.wrap IntKind.i64 (Int.ofNat k+Int.ofNat 1)=Int.ofNat (k+1):=by rw[XG _ (by simp;omega) (by simp;omega)];rfl
   refine(?_:(∃p r,Oj prog a h (YH a k) k p=some r/\_)->_) (anRd a h (YH a k) k (fun r=>ZZ r.2.2.2.2.2.1/\r.2.2.2.2.2.2=[]/\r.2.2.2.2.1<=100000000000000000000000000000000000000000000000000/\
    ∀ st':St,[0,1,5,7,8].map (fun t=>st'.tm[t]?)=r.2.1->[2000,1000000000000000000000000000000000000000013].map (ZX st'.m)=r.2.2.1->st'.tm.length=r.2.2.2.1->
     ((r.1= .normal/\∃s',s'<=h.toNat/\h.toNat-s'<h.toNat-k/\Wk n 1000000000000000000000000000000000000000000 100000000000000000000000000000000000000000000000000 st'.tm st'.m (ZT 24 (Xh a h (YH a s') s')) [(2000,Us a (YH a s'))])\/
      (r.1≠ .normal/\r.1= .exit 0/\Wk n 100000000000000000000000000000000000000000000000000 100000000000000000000000000000000000000000000000000 st'.tm st'.m (ZT 24 [(5,.c (.sl 2000 0 0 (YH a h.toNat) none))]) [(2000,Us a (YH a h.toNat))]))) ⟨fun c1=>⟨fun c2=>?_,fun c2=>?_⟩,fun c1=>?_⟩)
   . rintro⟨p,⟨e,l,b,len,n1,ob,po⟩,hv,hob,hpo,hn1,hw⟩
     obtain⟨st,v1,v2,v3,v4,v6,v7,v8⟩:=P2 hv;exact⟨p,[],e,n1,st,v1,hn1,⟨by rw[v6];exact hob,by rw[v7];have hpo:po=[]:=hpo;rw[hpo];simp⟩,v8,hw st v2 v3 v4⟩
   . have hlt:(k:Int)<h:=by simpa using c1
     have hin:a+k<=9223372036854775807:=by
      rcases (show a+k<=9223372036854775807\/9223372036854775808<=a+k by omega) with h|h
      . exact h
      . exfalso
        have:=Dk (a+Int.ofNat k) (by simp;omega) (by simp;omega);rw[this] at c2;simp at c2;omega
     have hw:IntKind.wrap .i64 (a+Int.ofNat k)=a+Int.ofNat k:=XG _ (by simp;omega) (by simp;omega);have e1:YH a k=k:=by unfold YH;omega
     have e2:YH a (k+1)=k+1:=by unfold YH;omega
     refine⟨?_,rfl,by dsimp only;omega,fun st' v2 v3 v4=>.inl ⟨rfl,k+1,by omega,by omega,?_⟩⟩
     . simp only[ZZ,List.forall_mem_cons,hw]
       simp only[Int.ofNat_eq_natCast];simp[hlt];omega
     . rw[e2]
       rw[e1] at v2 v3;simp only[List.map_cons,List.map_nil,List.cons.injEq,and_true] at v2 v3;obtain⟨s0,s1,s5,s7,s8⟩:=v2;obtain⟨b22,b1013⟩:=v3;refine V5 (ρ:=fun _=>.inl 1000000000000000000000000000000000000000013) (by omega) (by omega) (by unfold ZQ;omega) v4 ?_ ?_ ?_
       . simp[VA]
       . exact⟨.inr (.inl ⟨by omega,by omega,1000000000000000000000000000000000000000013,_,rfl,b1013,Iv (f:=fun i=>[.int .i64 (a+Int.ofNat i)]) (g:=fun i=>[.int .i64 (a+Int.ofNat i)]) (l:=[.int .i64 (IntKind.wrap IntKind.i64 (a+Int.ofNat k))]) rfl (fun _ _=>rfl) (by simp only[hw]),XT⟩),trivial⟩
       . exact⟨⟨_,s0,by simp[i64,ZN],WM rfl⟩,⟨_,s1,by simp[i64,ZN],WM rfl⟩,⟨_,s5,by simp,WN (by omega) (by omega) (by omega) rfl⟩,⟨_,s7,by simp[i64,ZN],WM rfl⟩,⟨_,s8,by simp,WM (by rw[hk1])⟩,trivial⟩
   . have hlt:(k:Int)<h:=by simpa using c1
     have hout:9223372036854775808<=a+k:=by
      rcases (show a+k<=9223372036854775807\/9223372036854775808<=a+k by omega) with h|h
      . exfalso
        rw[XG _ (by simp;omega) (by simp;omega)] at c2;simp at c2;omega
      . exact h
     have e2:YH a (k+1)=YH a k:=by unfold YH;omega
     refine⟨?_,rfl,by dsimp only;omega,fun st' v2 v3 v4=>.inl ⟨rfl,k+1,by omega,by omega,?_⟩⟩
     . have hwo:IntKind.wrap IntKind.i64 (a+(k:Int))=a+k-18446744073709551616:=Dk _ (by omega) (by omega)
       simp[ZZ,hwo];omega
     . rw[e2]
       simp only[List.map_cons,List.map_nil,List.cons.injEq,and_true] at v2 v3;obtain⟨s0,s1,s5,s7,s8⟩:=v2;obtain⟨b22,b1013⟩:=v3;refine V5 (ρ:=fun _=>.inl 2000) (by omega) (by omega) (by unfold ZQ;omega) v4 ?_ ?_ ?_
       . simp[VA]
       . exact⟨.inr (.inl ⟨by omega,by omega,2000,_,rfl,b22,⟨rfl,rfl,rfl,rfl,.inr (.inl ⟨_,_,_,rfl,rfl,fun _ _=>rfl⟩)⟩,XT⟩),trivial⟩
       . exact⟨⟨_,s0,by simp[i64,ZN],WM rfl⟩,⟨_,s1,by simp[i64,ZN],WM rfl⟩,⟨_,s5,by simp[ZN],WN (by omega) (by omega) (by omega) rfl⟩,⟨_,s7,by simp[i64,ZN],WM rfl⟩,⟨_,s8,by simp,WM (by rw[hk1])⟩,trivial⟩
   . have hlt:¬(k:Int)<h:=by simpa using c1
     obtain rfl:k=h.toNat:=by omega
     refine⟨?_,rfl,by dsimp only;omega,fun st' v2 v3 v4=>.inr ⟨by simp,rfl,?_⟩⟩
     . simp[ZZ];omega
     . simp only[List.map_cons,List.map_nil,List.cons.injEq,and_true] at v2 v3
       obtain⟨s0,s1,s5,s7,s8⟩:=v2;obtain⟨b22,b1013⟩:=v3;refine V5 (ρ:=fun _=>.inl 2000) (by omega) (by omega) (by unfold ZQ;omega) v4 ?_ ?_ ?_
       . simp[VA]
       . exact⟨.inr (.inl ⟨by omega,by omega,2000,_,rfl,b22,⟨rfl,rfl,rfl,rfl,.inr (.inl ⟨_,_,_,rfl,rfl,fun _ _=>rfl⟩)⟩,XT⟩),trivial⟩
       . exact⟨⟨_,s5,by simp[ZN],WN (by omega) (by omega) (by omega) rfl⟩,trivial⟩
def Jm (a h:Int):Zh:=⟨[0,1,5,7,8],[],ZT 24 [(5,.c (.sl 2000 0 0 (YH a h.toNat) none))],[(2000,Us a (YH a h.toNat))],100000000000000000000000000000000000000000000000000,.exit 0⟩
def Bb (P:Program) (a h:Int):Option VF:=ZB [2000] (ZJ (E1 P) (fC (E1 P) 300) 79 [i64 a,i64 h] 10 nSt (Y7 [] [] [some (Jm a h)]))
theorem jjgr (a h:Int):Bb prog a h=
 some (.c (.sl 2000 0 0 (YH a (Int.toNat h)) none),[some (ABlk.mk true true 2 1 (Cs.arr (YH a (Int.toNat h)) fun k=>List.map AC.v ((fun i=>[Value.int .i64 (a+Int.ofNat i)]) k)))],100000000000000000000000000000000000000000000000002,[],[LoopV prog (ZY prog 79 0) [0,1,5,7,8] [] [some (.c (.v (.int .i64 a))),some (.c (.v (.int .i64 h))),some (.c (AC.v (Value.slice none 0 0))),some (.c (.v (.int .i64 h))),some (.c (.v (.int .i64 (Int.ofNat 0))))] [] 24 14 (ZT 24 [(5,.c (.sl 2000 0 0 (YH a (Int.toNat h)) none))]) [(2000,Us a (YH a (Int.toNat h)))] 100000000000000000000000000000000000000000000000000 (Exit.exit 0) none]):=by kernel_rfl
def N8:List (FuncId × Yq):=[(65,PN),(24,Tu),(66,PM)]
theorem jjhs:∀f g,(f,g)∈N8->ZC prog f g:=by
 intro f g h;simp only[N8,List.mem_cons,Prod.mk.injEq,List.not_mem_nil,or_false] at h;rcases h with⟨rfl,rfl⟩|⟨rfl,rfl⟩|⟨rfl,rfl⟩
 . exact E3
 . exact Io
 . exact jji3
def Qa (P:Program):Env:=⟨P,N8⟩
theorem JM:Zz (Qa prog):=Xp jjhs (by kernel_rfl) (by kernel_rfl)
abbrev Tf:List Nat:=[0,3,32]
abbrev myI:List Nat:=Y6++[1000]
abbrev QX (k:Nat):List AV:=[.c (.ptr 5 0 0),.c (.ptr 1000 0 0),i64 (Int.ofNat k)]
def Az (P:Program) (c:Cfg) (nq:Nat) (fq:Nat->Int) (v:Vw) (k:Nat) (path:List Dec):Option VC:=
 view (Tf++[4]) myI (fC (Qa P) 100 (ZY P 25 0) 1000000000000000000000000000000000000000000 nSt (WR 67 Tf myI (QX k) (X2 c nq fq++[Yv v]) path []))
theorem Ja (c:Cfg) (nq:Nat) (fq:Nat->Int) (v:Vw) (k:Nat) (Q:VC->Prop) (H:let zN:=Int.ofNat;let zM:=ABlk.mk;let zD:=Int.toNat;let zz0:=[yF 159 0 (Cs.lit [zI (zN 1),zI (Int.negSucc 0)]),yF 3 1 (yP c),yF 3 1 (yS c),yF 3 1 (yB c),yF 85 3 (yT c),yF 3 1 (Cs.arr nq fun k=>List.map AC.v ((fun i=>[Value.int IntKind.i64 (fq i)]) k)),yF 81 0 (Cs.lit [zI (Cfg.nodes c),AC.sl 0 0 0 (Cfg.np c) none,AC.sl 1 0 0 (Cfg.ns c) none,zI (Cfg.long c),AC.sl 2 0 0 (Cfg.nb c) none,AC.sl 3 0 0 (Cfg.nt c) none,zI (Cfg.miss c),zI (Cfg.good c),zI (Cfg.fresh c),AC.sl 4 0 0 nq none]),yR 32 0 (Cs.lit (ZW v))];let zz1:=(List.getD (ZW v) (8+zD (zN k)*1) ZS);let zz2:=[some (ZN (List.zip Tf (QX k)) 0),some (ZN (List.zip Tf (QX k)) 3),some (ZN (List.zip Tf (QX k)) 32),some (AV.c (zB false))];let zz3:=(List.getD (ZW v) (16+zD (zN k)*1) ZS);let zz4:=(List.getD (ZW v) (24+zD (zN k)*1) ZS);let zz5:=[AV.agg (ZW v),AV.c (zI (zN k))];let zz6:=[some (ZN (List.zip Tf (QX k)) 0),some (ZN (List.zip Tf (QX k)) 3),some (AV.c (zI (IntKind.wrap IntKind.i64 (zN k+zN 1)))),some (ZN (List.zip Tf (QX k)) 4)];let zq0:List Bool:=[YM c nq fq,true,decide (zN k<zN 8)==true];let zq1:List Bool:=true::(SA S6 zz5)::(zu (zt (y3 (((decide (ZE c nq fq (zN k)<zN 0)==true)::zq0)))));let zq2:List Bool:=(ABlk.inb (zM true false 32 0 (Cs.lit (ZW v))) 0 (8+zD (zN k)*1+1))::(Zq (Kd.i .u8) zz1)::(decide (zN 0<=zN k/\zN k<zN 8))::((!HC (ZW v) (zN k))==false)::zq1;let zq3:List Bool:=(ABlk.inb (zM true false 32 0 (Cs.lit (ZW v))) 0 (16+zD (zN k)*1+1))::(Zq (Kd.i .u8) zz3)::(decide (zN 0<=zN k/\zN k<zN 8))::(decide (ZP zz1>zN 100)==false)::zq2;let zq4:List Bool:=(ABlk.inb (zM true false 32 0 (Cs.lit (ZW v))) 0 (24+zD (zN k)*1+1))::(Zq (Kd.i .u16) zz4)::(decide (zN 0<=zN k/\zN k<zN 8))::(decide (ZP zz3>zN 100)==false)::zq3;let zq5:List Bool:=(ABlk.inb (zM true false 32 0 (Cs.lit (ZW v))) 0 (8+zD (zN k)*1+1))::(Zq (Kd.i .u8) zz1)::(decide (zN 0<=zN k/\zN k<zN 8))::(decide (ZE c nq fq (zN k)<zN 0)==false)::zq0;let zq6:List Bool:=(ABlk.inb (zM true false 32 0 (Cs.lit (ZW v))) 0 (16+zD (zN k)*1+1))::(Zq (Kd.i .u8) zz3)::(decide (zN 0<=zN k/\zN k<zN 8))::(decide (ZP zz1>zN 100)==false)::zq5;let zq7:List Bool:=(ABlk.inb (zM true false 32 0 (Cs.lit (ZW v))) 0 (24+zD (zN k)*1+1))::(Zq (Kd.i .u16) zz4)::(decide (zN 0<=zN k/\zN k<zN 8))::(decide (ZP zz3>zN 100)==false)::zq6;(((decide (zN k<zN 8))=true->(((decide (ZE c nq fq (zN k)<zN 0))=true->(((!HC (ZW v) (zN k))=true->Q (Exit.ret,zz2,zz0,67,1000000000000000000000000000000000000000013,(((!HC (ZW v) (zN k))==true)::zq1),[]))/\((!HC (ZW v) (zN k))=false->(((decide (ZP zz1>zN 100))=true->Q (Exit.ret,zz2,zz0,67,1000000000000000000000000000000000000000023,((decide (ZP zz1>zN 100)==true)::zq2),[]))/\((decide (ZP zz1>zN 100))=false->(((decide (ZP zz3>zN 100))=true->Q (Exit.ret,zz2,zz0,67,1000000000000000000000000000000000000000028,((decide (ZP zz3>zN 100)==true)::zq3),[]))/\((decide (ZP zz3>zN 100))=false->(((decide (ZP zz4>zN 1000))=true->Q (Exit.ret,zz2,zz0,67,1000000000000000000000000000000000000000033,((decide (ZP zz4>zN 1000)==true)::zq4),[]))/\((decide (ZP zz4>zN 1000))=false->Q (Exit.normal,zz6,zz0,67,1000000000000000000000000000000000000000034,((decide (ZP zz4>zN 1000)==false)::zq4),[]))))))))))/\((decide (ZE c nq fq (zN k)<zN 0))=false->(((decide (ZP zz1>zN 100))=true->Q (Exit.ret,zz2,zz0,67,1000000000000000000000000000000000000000020,((decide (ZP zz1>zN 100)==true)::zq5),[]))/\((decide (ZP zz1>zN 100))=false->(((decide (ZP zz3>zN 100))=true->Q (Exit.ret,zz2,zz0,67,1000000000000000000000000000000000000000025,((decide (ZP zz3>zN 100)==true)::zq6),[]))/\((decide (ZP zz3>zN 100))=false->(((decide (ZP zz4>zN 1000))=true->Q (Exit.ret,zz2,zz0,67,1000000000000000000000000000000000000000030,((decide (ZP zz4>zN 1000)==true)::zq7),[]))/\((decide (ZP zz4>zN 1000))=false->Q (Exit.normal,zz6,zz0,67,1000000000000000000000000000000000000000031,((decide (ZP zz4>zN 1000)==false)::zq7),[]))))))))))/\((decide (zN k<zN 8))=false->Q (Exit.exit 0,[some (ZN (List.zip Tf (QX k)) 0),some (ZN (List.zip Tf (QX k)) 3),some (ZN (List.zip Tf (QX k)) 32),some (ZN (List.zip Tf (QX k)) 4)],zz0,67,1000000000000000000000000000000000000000001,[decide (zN k<zN 8)==false],[])))):
 ∃p r,Az prog c nq fq v k p=some r/\Q r:=
 ZL H (fun g1=>ZL g1 (fun g2=>ZL g2 (fun g3=>⟨pD 6 247,_,by kernel_rfl,g3⟩) (fun g3=>ZL g3 (fun g4=>⟨pD 17 1219,_,by kernel_rfl,g4⟩) (fun g4=>ZL g4 (fun g5=>⟨pD 17 179095,_,by kernel_rfl,g5⟩) (fun g5=>ZL g5 (fun g6=>⟨pD 17 43402963,_,by kernel_rfl,g6⟩) (fun g6=>⟨pD 17 86449684,_,by kernel_rfl,g6⟩))))) (fun g2=>ZL g2 (fun g3=>⟨pD 17 736,_,by kernel_rfl,g3⟩) (fun g3=>ZL g3 (fun g4=>⟨pD 17 178612,_,by kernel_rfl,g4⟩) (fun g4=>ZL g4 (fun g5=>⟨pD 17 43402480,_,by kernel_rfl,g5⟩) (fun g5=>⟨pD 17 86449201,_,by kernel_rfl,g5⟩))))) (fun g1=>⟨pD 1 2,_,by kernel_rfl,g1⟩)
theorem FF (c:Cfg) (nq:Nat) (fq:Nat->Int) (v:Vw) (Q:VF->Prop) (H:let zN:=Int.ofNat;let zz0:=[yF 159 0 (Cs.lit [zI (zN 1),zI (Int.negSucc 0)]),yF 3 1 (yP c),yF 3 1 (yS c),yF 3 1 (yB c),yF 85 3 (yT c),yF 3 1 (Cs.arr nq fun k=>List.map AC.v ((fun i=>[Value.int IntKind.i64 (fq i)]) k)),yF 81 0 (Cs.lit [zI (Cfg.nodes c),AC.sl 0 0 0 (Cfg.np c) none,AC.sl 1 0 0 (Cfg.ns c) none,zI (Cfg.long c),AC.sl 2 0 0 (Cfg.nb c) none,AC.sl 3 0 0 (Cfg.nt c) none,zI (Cfg.miss c),zI (Cfg.good c),zI (Cfg.fresh c),AC.sl 4 0 0 nq none]),yR 32 0 (Cs.lit (ZW v))];let zz1:=(ZE c nq fq (IntKind.wrap IntKind.i64 (Vw.command v))<zN 0);let zq0:List Bool:=[YM c nq fq,true];let zq1:List Bool:=true::true::((Zg c nq==zN 0)==false)::zq0;let zq2:List Bool:=true::true::(decide (Vw.command v<Int.negSucc 0)==false)::zq1;let zq3:List Bool:=(YM c nq fq)::y3 ((decide (Vw.command v≥zN 0)==true)::zq2);let zq4:List Bool:=true::true::(decide zz1==false)::zq3;let zq5:List Bool:=true::true::(decide (Vw.command v≥zN 0)==false)::zq2;(((Zg c nq==zN 0)=true->Q (.c (zB false),[],1011,(((Zg c nq==zN 0)==true)::zq0),[]))/\((Zg c nq==zN 0)=false->(((decide (Vw.command v<Int.negSucc 0))=true->Q (.c (zB false),[],1014,((decide (Vw.command v<Int.negSucc 0)==true)::zq1),[]))/\((decide (Vw.command v<Int.negSucc 0))=false->(((decide (Vw.command v≥zN 0))=true->(((decide zz1)=true->Q (.c (zB false),[],1024,((decide zz1==true)::zq3),[]))/\((decide zz1)=false->(((decide (Vw.mode v>zN 4))=true->Q (.c (zB false),[],1027,((decide (Vw.mode v>zN 4)==true)::zq4),[]))/\((decide (Vw.mode v>zN 4))=false->Q (.c (zB false),[],100000000000000000000000000000000000000000000000000,((decide (Vw.mode v>zN 4)==false)::zq4),[LoopV prog (ZY prog 25 0) Tf myI [some (.c (.ptr 5 0 0)),some (.c (.ptr 1000 0 0)),some (.c (zI (zN 0)))] zz0 67 1027 (ZT 67 [(4,bo false)]) [] 100000000000000000000000000000000000000000000000000 Exit.ret none]))))))/\((decide (Vw.command v≥zN 0))=false->(((decide (Vw.mode v>zN 4))=true->Q (.c (zB false),[],1022,((decide (Vw.mode v>zN 4)==true)::zq5),[]))/\((decide (Vw.mode v>zN 4))=false->Q (.c (zB false),[],100000000000000000000000000000000000000000000000000,((decide (Vw.mode v>zN 4)==false)::zq5),[LoopV prog (ZY prog 25 0) Tf myI [some (.c (.ptr 5 0 0)),some (.c (.ptr 1000 0 0)),some (.c (zI (zN 0)))] zz0 67 1022 (ZT 67 [(4,bo false)]) [] 100000000000000000000000000000000000000000000000000 Exit.ret none])))))))))):
 ∃p r,QZ (Qa prog) 25 c nq fq v [] p [some ⟨Tf,myI,ZT 67 [(4,bo false)],[],100000000000000000000000000000000000000000000000000,.ret⟩]=some r/\Q r:=
 ZL H (fun g1=>⟨pD 12 1,_,by kernel_rfl,g1⟩) (fun g1=>ZL g1 (fun g2=>⟨pD 12 29,_,by kernel_rfl,g2⟩) (fun g2=>ZL g2 (fun g3=>ZL g3 (fun g4=>⟨pD 18 4785212,_,by kernel_rfl,g4⟩) (fun g4=>ZL g4 (fun g5=>⟨pD 18 138708344,_,by kernel_rfl,g5⟩) (fun g5=>⟨pD 18 267848507,_,by kernel_rfl,g5⟩))) (fun g3=>ZL g3 (fun g4=>⟨pD 18 129144593,_,by kernel_rfl,g4⟩) (fun g4=>⟨pD 18 258284756,_,by kernel_rfl,g4⟩))))
theorem FG (c:Cfg) (nq:Nat) (fq:Nat->Int) (v:Vw) (Q:VF->Prop) (H:let zN:=Int.ofNat;let zz0:=[yF 159 0 (Cs.lit [zI (zN 1),zI (Int.negSucc 0)]),yF 3 1 (yP c),yF 3 1 (yS c),yF 3 1 (yB c),yF 85 3 (yT c),yF 3 1 (Cs.arr nq fun k=>List.map AC.v ((fun i=>[Value.int IntKind.i64 (fq i)]) k)),yF 81 0 (Cs.lit [zI (Cfg.nodes c),AC.sl 0 0 0 (Cfg.np c) none,AC.sl 1 0 0 (Cfg.ns c) none,zI (Cfg.long c),AC.sl 2 0 0 (Cfg.nb c) none,AC.sl 3 0 0 (Cfg.nt c) none,zI (Cfg.miss c),zI (Cfg.good c),zI (Cfg.fresh c),AC.sl 4 0 0 nq none]),yR 32 0 (Cs.lit (ZW v))];let zz1:=(ZE c nq fq (IntKind.wrap IntKind.i64 (Vw.command v))<zN 0);let zq0:List Bool:=[YM c nq fq,true];let zq1:List Bool:=true::true::((Zg c nq==zN 0)==false)::zq0;let zq2:List Bool:=true::true::(decide (Vw.command v<Int.negSucc 0)==false)::zq1;let zq3:List Bool:=(YM c nq fq)::y3 ((decide (Vw.command v≥zN 0)==true)::zq2);let zq4:List Bool:=true::true::(decide zz1==false)::zq3;let zq5:List Bool:=true::true::(decide (Vw.command v≥zN 0)==false)::zq2;(((Zg c nq==zN 0)=true->Q (.c (zB false),[],1011,(((Zg c nq==zN 0)==true)::zq0),[]))/\((Zg c nq==zN 0)=false->(((decide (Vw.command v<Int.negSucc 0))=true->Q (.c (zB false),[],1014,((decide (Vw.command v<Int.negSucc 0)==true)::zq1),[]))/\((decide (Vw.command v<Int.negSucc 0))=false->(((decide (Vw.command v≥zN 0))=true->(((decide zz1)=true->Q (.c (zB false),[],1024,((decide zz1==true)::zq3),[]))/\((decide zz1)=false->(((decide (Vw.mode v>zN 4))=true->Q (.c (zB false),[],1027,((decide (Vw.mode v>zN 4)==true)::zq4),[]))/\((decide (Vw.mode v>zN 4))=false->Q (.c (zB true),[],100000000000000000000000000000000000000000000000001,((decide (Vw.mode v>zN 4)==false)::zq4),[LoopV prog (ZY prog 25 0) Tf myI [some (.c (.ptr 5 0 0)),some (.c (.ptr 1000 0 0)),some (.c (zI (zN 0)))] zz0 67 1027 (ZT 67 []) [] 100000000000000000000000000000000000000000000000000 (Exit.exit 0) none]))))))/\((decide (Vw.command v≥zN 0))=false->(((decide (Vw.mode v>zN 4))=true->Q (.c (zB false),[],1022,((decide (Vw.mode v>zN 4)==true)::zq5),[]))/\((decide (Vw.mode v>zN 4))=false->Q (.c (zB true),[],100000000000000000000000000000000000000000000000001,((decide (Vw.mode v>zN 4)==false)::zq5),[LoopV prog (ZY prog 25 0) Tf myI [some (.c (.ptr 5 0 0)),some (.c (.ptr 1000 0 0)),some (.c (zI (zN 0)))] zz0 67 1022 (ZT 67 []) [] 100000000000000000000000000000000000000000000000000 (Exit.exit 0) none])))))))))):
 ∃p r,QZ (Qa prog) 25 c nq fq v [] p [some ⟨Tf,myI,ZT 67 [],[],100000000000000000000000000000000000000000000000000,.exit 0⟩]=some r/\Q r:=
 ZL H (fun g1=>⟨pD 12 1,_,by kernel_rfl,g1⟩) (fun g1=>ZL g1 (fun g2=>⟨pD 12 29,_,by kernel_rfl,g2⟩) (fun g2=>ZL g2 (fun g3=>ZL g3 (fun g4=>⟨pD 18 4785212,_,by kernel_rfl,g4⟩) (fun g4=>ZL g4 (fun g5=>⟨pD 18 138708344,_,by kernel_rfl,g5⟩) (fun g5=>⟨pD 18 267848507,_,by kernel_rfl,g5⟩))) (fun g3=>ZL g3 (fun g4=>⟨pD 18 129144593,_,by kernel_rfl,g4⟩) (fun g4=>⟨pD 18 258284756,_,by kernel_rfl,g4⟩))))
theorem Lv (t:Nat->Bool) (v:Vw) (k:Nat):V7 t v k=((t k||Xd v k)&&(decide (v.miss k<=100)&&(decide (v.good k<=100)&&decide (v.score k<=1000)))):=rfl
theorem JS (c:Cfg) (nq:Nat) (fq:Nat->Int) (v:Vw) (N:Nat) (hN:1010<=N) (hN2:N<=1000000000000000000000000000000000000000000) (hk:myI.all (Zb N 100000000000000000000000000000000000000000000000000)=true) (hv:∀k,(QX k).all (US N)=true) (j:Nat) (hj:j<=8) (hmin:∀i,i<j->V7 (YG c nq fq) v i=true) (hyes:j<8->V7 (YG c nq fq) v j=false) {e:Exit} {out:List (Nat × AV)}
 (hF:(j<8->e= .ret/\out=[(4,bo false)])/\(j=8->e= .exit 0/\out=[])):
 LoopV prog (ZY prog 25 0) Tf myI ((QX 0).map some) ((X2 c nq fq++[Yv v]).map some) 67 N (ZT 67 out) [] 100000000000000000000000000000000000000000000000000 e none:=by
 refine UH JM (fuel:=100) (str:=nSt) (nh:=1000000000000000000000000000000000000000000) Tf [4] myI QX (X2 c nq fq++[Yv v]) j hN2 (by decide) (by unfold ZQ;omega) ?_ (fun _=>⟨rfl,rfl⟩) hk (fun k _=>hv k) ?_ ?_ ?_
 . rcases Nat.lt_or_ge j 8 with h|h
   . rw[(hF.1 h).1];simp
   . rw[(hF.2 (by omega)).1];simp
 . intro b hb
   rcases List.mem_append.1 hb with h|h
   . exact Dv (by omega) b h
   . rw[List.mem_singleton.1 h];exact WA
 . intro k hkj
   have hm:=hmin k hkj;have hk8:k<8:=by omega
   refine Ja c nq fq v k _ ?_;rw[Lv] at hm;clear hmin hyes hF hv hk;have w1:IntKind.wrap IntKind.i64 (Int.ofNat k+Int.ofNat 1)=Int.ofNat (k+1):=by rw[XG _ (by simp;omega) (by simp;omega)];rfl
   rw[show YG c nq fq k=decide (0<=ZE c nq fq (Int.ofNat k)) from rfl] at hm;obtain⟨b0,hb0⟩:∃b,Xd v k=b:=⟨_,rfl⟩
   rw[hb0] at hm;simp only[J7 hk8,(UF v k hk8).1,(UG v k hk8).1,(SJ v k hk8).1,(UF v k hk8).2,(UG v k hk8).2,(SJ v k hk8).2,List.headD_cons,w1,hb0];clear hb0;cases b0
   all_goals (simp only[Bool.or_true,Bool.or_false,Bool.true_and,Bool.and_eq_true,Bool.and_eq_false_iff,decide_eq_true_eq,decide_eq_false_iff_not] at hm)
   all_goals (repeat' (first|refine⟨fun h=>?_,fun h=>?_⟩|fail))
   all_goals (first|contradiction|(exfalso;have hx:= ‹(!true)=true›;cases hx;done)|(exfalso;have hx:= ‹(!false)=false›;cases hx;done)|(exfalso;simp only[decide_eq_true_eq,decide_eq_false_iff_not,Int.ofNat_eq_natCast,Int.cast_ofNat_Int,gt_iff_lt] at *;omega)|skip)
   all_goals (refine⟨⟨?_,rfl,by dsimp only;omega,rfl⟩,rfl,rfl,BL.refl _⟩)
   all_goals first
    |(simp_all[ZZ,YZ,YU,YT,YO,YE,YF,Yk,Vw.len,WT,SA,S6];done)
    |(simp_all[ZZ,YZ,YU,YT,YO,YE,YF,Yk,Vw.len,WT,SA,S6];omega)
    |(simp_all[ZZ,YZ,YU,YT,YO,YE,YF,Yk,Vw.len,WT,SA,S6];omega)
 . rcases Nat.lt_or_ge j 8 with hk8|hge
   . obtain⟨rfl,rfl⟩:=hF.1 hk8
     have hm:=hyes hk8;clear hmin hyes hF hv hk;rw[Lv] at hm;refine Ja c nq fq v j _ ?_;rw[show YG c nq fq j=decide (0<=ZE c nq fq (Int.ofNat j)) from rfl] at hm;obtain⟨b0,hb0⟩:∃b,Xd v j=b:=⟨_,rfl⟩
     rw[hb0] at hm;simp only[J7 hk8,(UF v j hk8).1,(UG v j hk8).1,(SJ v j hk8).1,(UF v j hk8).2,(UG v j hk8).2,(SJ v j hk8).2,List.headD_cons,hb0];clear hb0;cases b0
     all_goals (simp only[Bool.or_true,Bool.or_false,Bool.true_and,Bool.and_eq_true,Bool.and_eq_false_iff,decide_eq_true_eq,decide_eq_false_iff_not] at hm)
     all_goals (repeat' (first|refine⟨fun h=>?_,fun h=>?_⟩|fail))
     all_goals (first|contradiction|(exfalso;have hx:= ‹(!true)=true›;cases hx;done)|(exfalso;have hx:= ‹(!false)=false›;cases hx;done)|(exfalso;simp only[decide_eq_true_eq,decide_eq_false_iff_not,Int.ofNat_eq_natCast,Int.cast_ofNat_Int,gt_iff_lt] at *;omega)|skip)
     all_goals (refine Ry ⟨?_,rfl,by dsimp only;omega,rfl⟩ rfl rfl ?_)
     all_goals first
      |(simp[bo];done)
      |(simp_all[ZZ,YZ,YU,YT,YO,YE,YF,Yk,Vw.len,WT,SA,S6];done)
      |(simp_all[ZZ,YZ,YU,YT,YO,YE,YF,Yk,Vw.len,WT,SA,S6];omega)
      |(simp_all[ZZ,YZ,YU,YT,YO,YE,YF,Yk,Vw.len,WT,SA,S6];omega)
   . obtain⟨rfl,rfl⟩:=hF.2 (by omega)
     refine Ja c nq fq v j _ ?_;refine⟨fun h1=>?_,fun h1=>?_⟩
     . exfalso;simp at h1;omega
     . refine Rq ⟨?_,rfl,by dsimp only;omega,rfl⟩ rfl
       simp[ZZ];omega
def QC (c:Cfg) (nq:Nat) (fq:Nat->Int) (cmd mode:Int):Bool:=decide (Zg c nq≠0)&&(decide (-1<=cmd)&&((decide (cmd<0)||decide (0<=ZE c nq fq (IntKind.wrap .i64 cmd)))&&decide (mode<=4)))
def UK (c:Cfg) (nq:Nat) (fq:Nat->Int) (l:List AC):Bool:=QC c nq fq (ZP (l.getD 40 ZS)) (ZP (l.getD 41 ZS))&&Vt (YG c nq fq) l
theorem jjk0 (c:Cfg) (nq:Nat) (fq:Nat->Int) (v:Vw):UK c nq fq (ZW v)=(QC c nq fq v.command v.mode&&Vt (YG c nq fq) (ZW v)):=rfl
def FE (c:Cfg) (nq:Nat) (fq:Nat->Int) (l:List AC) (_:List AV):AV:=bo (UK c nq fq l)
def Jz:Yq:=Z9 netRd (rV FE) (pV fun _ r=>r.isEmpty)
theorem Ag:ZC prog 25 Jz:=by
 refine IQ (E:=Qa prog) JM ⟨_,_,Tryz.func25,rfl⟩ (fun _ _ _ _ _=>rfl) fun c nq fq v r hr=>?_
 obtain rfl:=List.isEmpty_iff.1 hr;have hR:FE c nq fq (ZW v) []=bo (QC c nq fq v.command v.mode&&Vt (YG c nq fq) (ZW v)):=rfl;rw[hR];obtain⟨j,hj,hmin,hyes⟩:=Se 8 fun p=>!V7 (YG c nq fq) v p
 have hmin:∀i,i<j->V7 (YG c nq fq) v i=true:=fun i hi=>by simpa using hmin i hi
 have hyes:j<8->V7 (YG c nq fq) v j=false:=fun h=>by simpa using hyes h
 rcases Nat.lt_or_ge j 8 with h8|h8
 . have hL:Vt (YG c nq fq) (ZW v)=false:=by
    cases h:Vt (YG c nq fq) (ZW v) with
    |false=>rfl
    |true=>rw[(Lg _ _).1 h j h8] at hyes;exact absurd (hyes h8) (by simp)
   rw[hL,Bool.and_false];refine(?_:(∃p q,QZ (Qa prog) 25 c nq fq v [] p [some ⟨Tf,myI,ZT 67 [(4,bo false)],[],100000000000000000000000000000000000000000000000000,.ret⟩]=some q/\Zp (bo false) q)->_) (FF c nq fq v _ ?_)
   . rintro⟨p,q,h1,h2⟩
     exact⟨p,_,q,h1,h2⟩
   . have hs:∀N,1010<=N->N<=1000000000000000000000000000000000000000000->myI.all (Zb N 100000000000000000000000000000000000000000000000000)=true->(∀k,(QX k).all (US N)=true)->_:=fun N a b d f=>JS c nq fq v N a b d f j hj hmin hyes (e:=.ret) (out:=[(4,bo false)]) ⟨fun _=>⟨rfl,rfl⟩,fun h=>by omega⟩
     (repeat' (first|refine⟨fun h=>?_,fun h=>?_⟩|fail))
     all_goals (refine⟨rfl,(by first|(unfold ZQ;omega)|(dsimp only;unfold ZQ;omega)),?_,fun q hq=>?_⟩)
     all_goals first
      |(cases hq;done)
      |(rw[List.mem_singleton.1 hq];exact hs _ (by omega) (by omega) (by kernel_rfl) (fun _=>rfl))
      |(simp_all[ZZ,YZ,YU,YT,YO,YE,YF,WT];done)
      |(simp_all[ZZ,YZ,YU,YT,YO,YE,YF,WT];omega)
 . obtain rfl:j=8:=by omega
   have hL:Vt (YG c nq fq) (ZW v)=true:=(Lg _ _).2 hmin;rw[hL,Bool.and_true];refine(?_:(∃p q,QZ (Qa prog) 25 c nq fq v [] p [some ⟨Tf,myI,ZT 67 [],[],100000000000000000000000000000000000000000000000000,.exit 0⟩]=some q/\Zp (bo (QC c nq fq v.command v.mode)) q)->_) (FG c nq fq v _ ?_)
   . rintro⟨p,q,h1,h2⟩
     exact⟨p,_,q,h1,h2⟩
   . have hs:∀N,1010<=N->N<=1000000000000000000000000000000000000000000->myI.all (Zb N 100000000000000000000000000000000000000000000000000)=true->(∀k,(QX k).all (US N)=true)->_:=fun N a b d f=>JS c nq fq v N a b d f 8 hj hmin hyes (e:=.exit 0) (out:=[]) ⟨fun h=>by omega,fun _=>⟨rfl,rfl⟩⟩
     (repeat' (first|refine⟨fun h=>?_,fun h=>?_⟩|fail))
     all_goals (refine⟨?_,(by first|(unfold ZQ;omega)|(dsimp only;unfold ZQ;omega)),?_,fun q hq=>?_⟩)
     all_goals first
      |(cases hq;done)
      |(rw[List.mem_singleton.1 hq];exact hs _ (by omega) (by omega) (by kernel_rfl) (fun _=>rfl))
      |(simp_all[QC,bo];done)
      |(simp_all[QC,bo];omega)
      |(simp_all[ZZ,YZ,YU,YT,YO,YE,YF,WT];done)
      |(simp_all[ZZ,YZ,YU,YT,YO,YE,YF,WT];omega)
abbrev SR:List Nat:=[2,3,5]
abbrev Mz:List Nat:=[1000,1001]
abbrev PA (k:Nat):List AV:=[.c (.ptr 1000 0 0),.c (.ptr 1001 0 0),i64 (Int.ofNat k)]
abbrev GU:List (Nat × AV):=[(2,.c (.ptr 1000 0 0)),(3,.c (.ptr 1001 0 0))]
abbrev GT (c:Cfg) (v:Vw):AMem:=[(1000,Zr c),(1001,Yv v)]
def rmR (P:Program) (c:Cfg) (v:Vw) (k:Nat) (path:List Dec):Option VC:=
 view (SR++[4]) Mz (fC (E1 P) 100 (ZY P 27 0) 1000000000000000000000000000000000000000000 nSt (WR 84 SR Mz (PA k) [Zr c,Yv v] path []))
theorem Bl (c:Cfg) (v:Vw) (k:Nat) (Q:VC->Prop) (H:let zN:=Int.ofNat;let zM:=ABlk.mk;let zD:=Int.toNat;let zz0:=[some (Zr c),yR 32 0 (Cs.lit (ZW v))];let zz1:=(List.getD (ZW v) (8+zD (zN k)*1) ZS);let zz2:=(List.getD (ZW v) (16+zD (zN k)*1) ZS);let zz3:=[some (ZN (List.zip SR (PA k)) 2),some (ZN (List.zip SR (PA k)) 3),some (ZN (List.zip SR (PA k)) 5),some (AV.c (zB false))];let zz4:=(List.getD (ZW v) (24+zD (zN k)*1) ZS);let zz5:=(List.getD (ZW v) (0+zD (zN k)*1) ZS);let zz6:=(List.getD (ZW v) (32+zD (zN k)*1) ZS);let zz7:=[some (ZN (List.zip SR (PA k)) 2),some (ZN (List.zip SR (PA k)) 3),some (AV.c (zI (IntKind.wrap IntKind.i64 (zN k+zN 1)))),some (ZN (List.zip SR (PA k)) 4)];let zq0:List Bool:=[true,decide (zN k<zN 8)==true];let zq1:List Bool:=(ABlk.inb (zM true false 32 0 (Cs.lit (ZW v))) 0 (0+zD (zN k)*1+1))::(Zq Kd.b zz5)::(decide (zN 0<=zN k/\zN k<zN 8))::(decide (zN k≥ ↑(c.np))==true)::zq0;let zq2:List Bool:=(ABlk.inb (zM true false 32 0 (Cs.lit (ZW v))) 0 (32+zD (zN k)*1+1))::(Zq Kd.b zz6)::(decide (zN 0<=zN k/\zN k<zN 8))::(Zv zz5==false)::zq1;let zq3:List Bool:=(ABlk.inb (zM true false 32 0 (Cs.lit (ZW v))) 0 (8+zD (zN k)*1+1))::(Zq (Kd.i .u8) zz1)::(decide (zN 0<=zN k/\zN k<zN 8))::(Zv zz6==false)::zq2;let zq4:List Bool:=(ABlk.inb (zM true false 32 0 (Cs.lit (ZW v))) 0 (16+zD (zN k)*1+1))::(Zq (Kd.i .u8) zz2)::(decide (zN 0<=zN k/\zN k<zN 8))::(decide (ZP zz1>zN 0)==false)::zq3;let zq5:List Bool:=(ABlk.inb (zM true false 32 0 (Cs.lit (ZW v))) 0 (24+zD (zN k)*1+1))::(Zq (Kd.i .u16) zz4)::(decide (zN 0<=zN k/\zN k<zN 8))::(decide (ZP zz2>zN 0)==false)::zq4;let zq6:List Bool:=(ABlk.inb (zM true false 32 0 (Cs.lit (ZW v))) 0 (8+zD (zN k)*1+1))::(Zq (Kd.i .u8) zz1)::(decide (zN 0<=zN k/\zN k<zN 8))::(decide (ZP zz4>zN 0)==false)::zq5;let zq7:List Bool:=(ABlk.inb (zM true false 32 0 (Cs.lit (ZW v))) 0 (16+zD (zN k)*1+1))::(Zq (Kd.i .u8) zz2)::(decide (zN 0<=zN k/\zN k<zN 8))::(decide (ZP zz1>zN 100)==false)::zq6;let zq8:List Bool:=(ABlk.inb (zM true false 32 0 (Cs.lit (ZW v))) 0 (24+zD (zN k)*1+1))::(Zq (Kd.i .u16) zz4)::(decide (zN 0<=zN k/\zN k<zN 8))::(decide (ZP zz2>zN 100)==false)::zq7;let zq9:List Bool:=(ABlk.inb (zM true false 32 0 (Cs.lit (ZW v))) 0 (8+zD (zN k)*1+1))::(Zq (Kd.i .u8) zz1)::(decide (zN 0<=zN k/\zN k<zN 8))::(decide (zN k≥ ↑(c.np))==false)::zq0;let zq10:List Bool:=(ABlk.inb (zM true false 32 0 (Cs.lit (ZW v))) 0 (16+zD (zN k)*1+1))::(Zq (Kd.i .u8) zz2)::(decide (zN 0<=zN k/\zN k<zN 8))::(decide (ZP zz1>zN 100)==false)::zq9;let zq11:List Bool:=(ABlk.inb (zM true false 32 0 (Cs.lit (ZW v))) 0 (24+zD (zN k)*1+1))::(Zq (Kd.i .u16) zz4)::(decide (zN 0<=zN k/\zN k<zN 8))::(decide (ZP zz2>zN 100)==false)::zq10;(((decide (zN k<zN 8))=true->(((decide (zN k≥ ↑(c.np)))=true->(((Zv zz5)=true->Q (Exit.ret,zz3,zz0,84,1000000000000000000000000000000000000000022,((Zv zz5==true)::zq1),[]))/\((Zv zz5)=false->(((Zv zz6)=true->Q (Exit.ret,zz3,zz0,84,1000000000000000000000000000000000000000026,((Zv zz6==true)::zq2),[]))/\((Zv zz6)=false->(((decide (ZP zz1>zN 0))=true->Q (Exit.ret,zz3,zz0,84,1000000000000000000000000000000000000000031,((decide (ZP zz1>zN 0)==true)::zq3),[]))/\((decide (ZP zz1>zN 0))=false->(((decide (ZP zz2>zN 0))=true->Q (Exit.ret,zz3,zz0,84,1000000000000000000000000000000000000000036,((decide (ZP zz2>zN 0)==true)::zq4),[]))/\((decide (ZP zz2>zN 0))=false->(((decide (ZP zz4>zN 0))=true->Q (Exit.ret,zz3,zz0,84,1000000000000000000000000000000000000000041,((decide (ZP zz4>zN 0)==true)::zq5),[]))/\((decide (ZP zz4>zN 0))=false->(((decide (ZP zz1>zN 100))=true->Q (Exit.ret,zz3,zz0,84,1000000000000000000000000000000000000000050,((decide (ZP zz1>zN 100)==true)::zq6),[]))/\((decide (ZP zz1>zN 100))=false->(((decide (ZP zz2>zN 100))=true->Q (Exit.ret,zz3,zz0,84,1000000000000000000000000000000000000000055,((decide (ZP zz2>zN 100)==true)::zq7),[]))/\((decide (ZP zz2>zN 100))=false->(((decide (ZP zz4>zN 1000))=true->Q (Exit.ret,zz3,zz0,84,1000000000000000000000000000000000000000060,((decide (ZP zz4>zN 1000)==true)::zq8),[]))/\((decide (ZP zz4>zN 1000))=false->Q (Exit.normal,zz7,zz0,84,1000000000000000000000000000000000000000062,((decide (ZP zz4>zN 1000)==false)::zq8),[]))))))))))))))))))/\((decide (zN k≥ ↑(c.np)))=false->(((decide (ZP zz1>zN 100))=true->Q (Exit.ret,zz3,zz0,84,1000000000000000000000000000000000000000019,((decide (ZP zz1>zN 100)==true)::zq9),[]))/\((decide (ZP zz1>zN 100))=false->(((decide (ZP zz2>zN 100))=true->Q (Exit.ret,zz3,zz0,84,1000000000000000000000000000000000000000024,((decide (ZP zz2>zN 100)==true)::zq10),[]))/\((decide (ZP zz2>zN 100))=false->(((decide (ZP zz4>zN 1000))=true->Q (Exit.ret,zz3,zz0,84,1000000000000000000000000000000000000000029,((decide (ZP zz4>zN 1000)==true)::zq11),[]))/\((decide (ZP zz4>zN 1000))=false->Q (Exit.normal,zz7,zz0,84,1000000000000000000000000000000000000000031,((decide (ZP zz4>zN 1000)==false)::zq11),[]))))))))))/\((decide (zN k<zN 8))=false->Q (Exit.exit 0,[some (ZN (List.zip SR (PA k)) 2),some (ZN (List.zip SR (PA k)) 3),some (ZN (List.zip SR (PA k)) 5),some (ZN (List.zip SR (PA k)) 4)],zz0,84,1000000000000000000000000000000000000000002,[decide (zN k<zN 8)==false],[])))):
 ∃p r,rmR prog c v k p=some r/\Q r:=
 ZL H (fun g1=>ZL g1 (fun g2=>ZL g2 (fun g3=>⟨pD 33 733,_,by kernel_rfl,g3⟩) (fun g3=>ZL g3 (fun g4=>⟨pD 33 532903,_,by kernel_rfl,g4⟩) (fun g4=>ZL g4 (fun g5=>⟨pD 33 1163325811,_,by kernel_rfl,g5⟩) (fun g5=>ZL g5 (fun g6=>⟨pD 33 2544191415607,_,by kernel_rfl,g6⟩) (fun g6=>ZL g6 (fun g7=>⟨pD 33 1858106246095777,_,by kernel_rfl,g7⟩) (fun g7=>ZL g7 (fun g8=>⟨pD 44 9270187001503141,_,by kernel_rfl,g8⟩) (fun g8=>ZL g8 (fun g9=>⟨pD 44 1365680965241050753,_,by kernel_rfl,g9⟩) (fun g9=>ZL g9 (fun g10=>⟨pD 44 330973500077451120469,_,by kernel_rfl,g10⟩) (fun g10=>⟨pD 44 659230467471988198096,_,by kernel_rfl,g10⟩))))))))) (fun g2=>ZL g2 (fun g3=>⟨pD 25 4782976,_,by kernel_rfl,g3⟩) (fun g3=>ZL g3 (fun g4=>⟨pD 25 1171827412,_,by kernel_rfl,g4⟩) (fun g4=>ZL g4 (fun g5=>⟨pD 25 284763625360,_,by kernel_rfl,g5⟩) (fun g5=>⟨pD 25 567193161841,_,by kernel_rfl,g5⟩))))) (fun g1=>⟨pD 1 2,_,by kernel_rfl,g1⟩)
theorem rmN (c:Cfg) (v:Vw) (Q:VF->Prop) (H:Q (.c (zB false),[],100000000000000000000000000000000000000000000000000,[],[LoopV prog (ZY prog 27 0) SR Mz [some (.c (.ptr 1000 0 0)),some (.c (.ptr 1001 0 0)),some (.c (zI (Int.ofNat 0)))] [yR 25 0 (Cs.lit [zI c.nodes,AC.sl 0 0 0 c.np none,AC.sl 1 0 0 c.ns none,zI c.long,AC.sl 2 0 0 c.nb none,AC.sl 3 0 0 c.nt none,zI c.miss,zI c.good,zI c.fresh]),yR 32 0 (Cs.lit (ZW v))] 84 1004 (ZT 84 [(4,bo false)]) [] 100000000000000000000000000000000000000000000000000 Exit.ret none])):
 ∃p r,Ot (E1 prog) 27 c [.agg (ZW v)] p [some ⟨SR,Mz,ZT 84 [(4,bo false)],[],100000000000000000000000000000000000000000000000000,.ret⟩]=some r/\Q r:=
 ⟨pD 0 0,_,by kernel_rfl,H⟩
theorem rmY (c:Cfg) (v:Vw) (Q:VF->Prop) (H:let zz0:=[LoopV prog (ZY prog 27 0) SR Mz [some (AV.c (AC.ptr 1000 0 0)),some (AV.c (AC.ptr 1001 0 0)),some (AV.c (zI (Int.ofNat 0)))] [some (Zr c),yR 32 0 (Cs.lit (ZW v))] 84 1004 (ZT 84 GU) (GT c v) 100000000000000000000000000000000000000000000000000 (Exit.exit 0) none];(((decide (Vw.command v≥Int.negSucc 0))=true->(((decide (IntKind.wrap .i64 (Vw.command v) < ↑(c.np)))=true->Q (.c (zB (decide (Vw.mode v<=Int.ofNat 4))),[],100000000000000000000000000000000000000000000000018,[true,true,decide (IntKind.wrap .i64 (Vw.command v) < ↑(c.np))==true,true,true,true,decide (Vw.command v≥Int.negSucc 0)==true,true,true],zz0))/\((decide (IntKind.wrap .i64 (Vw.command v) < ↑(c.np)))=false->Q (.c (zB false),[],100000000000000000000000000000000000000000000000015,[decide (IntKind.wrap .i64 (Vw.command v) < ↑(c.np))==false,true,true,true,decide (Vw.command v≥Int.negSucc 0)==true,true,true],zz0))))/\((decide (Vw.command v≥Int.negSucc 0))=false->Q (.c (zB false),[],100000000000000000000000000000000000000000000000008,[decide (Vw.command v≥Int.negSucc 0)==false,true,true],zz0)))):
 ∃p r,Ot (E1 prog) 27 c [.agg (ZW v)] p [some ⟨SR,Mz,ZT 84 GU,GT c v,100000000000000000000000000000000000000000000000000,.exit 0⟩]=some r/\Q r:=
 ZL H (fun g1=>ZL g1 (fun g2=>⟨pD 10 2188,_,by kernel_rfl,g2⟩) (fun g2=>⟨pD 10 4375,_,by kernel_rfl,g2⟩)) (fun g1=>⟨pD 10 2,_,by kernel_rfl,g1⟩)
theorem Ki (c:Cfg) (v:Vw) (h8:c.np<=8) (hp:Ub v) (j:Nat) (hj:j<=8) (hmin:∀i,i<j->V7 (QE c.np) v i=true) (hyes:j<8->V7 (QE c.np) v j=false) {e:Exit} {out:List (Nat × AV)} {mF:AMem}
 (hF:(j<8->e= .ret/\out=[(4,bo false)]/\mF=[])/\(j=8->e= .exit 0/\out=GU/\mF=GT c v)):
 LoopV prog (ZY prog 27 0) SR Mz ((PA 0).map some) ([Zr c,Yv v].map some) 84 1004 (ZT 84 out) mF 100000000000000000000000000000000000000000000000000 e none:=by
 have hlow:∀b∈[Zr c,Yv v],Zc 1004 b:=by
  intro b hb;simp only[List.mem_cons,List.not_mem_nil,or_false] at hb;rcases hb with rfl|rfl
  . exact VN (by omega)
  . exact WA
 refine UH Xk (fuel:=100) (str:=nSt) (nh:=1000000000000000000000000000000000000000000) SR [4] Mz PA [Zr c,Yv v] j (by omega) (by decide) (by unfold ZQ;omega) ?_ (fun _=>⟨rfl,rfl⟩) (by kernel_rfl) (fun k _=>rfl) hlow ?_ ?_
 . rcases Nat.lt_or_ge j 8 with h|h
   . rw[(hF.1 h).1];simp
   . rw[(hF.2 (by omega)).1];simp
 . intro k hkj
   have hm:=hmin k hkj;have hk8:k<8:=by omega
   obtain⟨p1,p2,p3⟩:=hp k hk8;refine Bl c v k _ ?_;rw[Lv] at hm;clear hmin hyes hF hp;have w1:IntKind.wrap IntKind.i64 (Int.ofNat k+Int.ofNat 1)=Int.ofNat (k+1):=by rw[XG _ (by simp;omega) (by simp;omega)];rfl
   unfold QE Xd at hm;simp only[Wc v k hk8,TJ v k hk8,(Qt v k hk8).1,(UF v k hk8).1,(UG v k hk8).1,(SJ v k hk8).1,(Qt v k hk8).2,(UF v k hk8).2,(UG v k hk8).2,(SJ v k hk8).2,w1];simp only[Bool.and_eq_true,Bool.or_eq_true,decide_eq_true_eq,Bool.not_eq_true'] at hm
   (repeat' (first|refine⟨fun h=>?_,fun h=>?_⟩|fail))
   all_goals (first|contradiction|(exfalso;simp only[decide_eq_true_eq,decide_eq_false_iff_not,Int.ofNat_eq_natCast,Int.cast_ofNat_Int,gt_iff_lt,ge_iff_le] at *;simp_all;done)|(exfalso;simp only[decide_eq_true_eq,decide_eq_false_iff_not,Int.ofNat_eq_natCast,Int.cast_ofNat_Int,gt_iff_lt,ge_iff_le] at *;simp_all;omega)|skip)
   all_goals (refine⟨⟨?_,rfl,by dsimp only;omega,rfl⟩,rfl,rfl,BL.refl _⟩)
   all_goals first
    |(simp_all[ZZ,YZ,YU,YT,YO,YE,YF,Yk,Vw.len];done)
    |(simp_all[ZZ,YZ,YU,YT,YO,YE,YF,Yk,Vw.len];omega)
 . rcases Nat.lt_or_ge j 8 with hk8|hge
   . obtain ⟨rfl,rfl,rfl⟩:=hF.1 hk8
     have hm:=hyes hk8;obtain⟨p1,p2,p3⟩:=hp j hk8;clear hmin hyes hF hp;rw[Lv] at hm;refine Bl c v j _ ?_;unfold QE Xd at hm;simp only[Wc v j hk8,TJ v j hk8,(Qt v j hk8).1,(UF v j hk8).1,(UG v j hk8).1,(SJ v j hk8).1,(Qt v j hk8).2,(UF v j hk8).2,(UG v j hk8).2,(SJ v j hk8).2]
     (repeat' (first|refine⟨fun h=>?_,fun h=>?_⟩|fail))
     all_goals (first|contradiction|(exfalso;simp only[decide_eq_true_eq,decide_eq_false_iff_not,Int.ofNat_eq_natCast,Int.cast_ofNat_Int,gt_iff_lt,ge_iff_le] at *;omega)|skip)
     all_goals (first
      | (refine Ry ⟨?_,rfl,by dsimp only;omega,rfl⟩ rfl rfl ?_
         . first
            |(simp_all[ZZ,YZ,YU,YT,YO,YE,YF,Yk,Vw.len];done)
            |(simp_all[ZZ,YZ,YU,YT,YO,YE,YF,Yk,Vw.len];omega)
         . simp[bo])
      |(exfalso;simp only[decide_eq_true_eq,decide_eq_false_iff_not,Int.ofNat_eq_natCast,Int.cast_ofNat_Int,gt_iff_lt,ge_iff_le] at *;simp_all;done)
      |(exfalso;simp only[decide_eq_true_eq,decide_eq_false_iff_not,Int.ofNat_eq_natCast,Int.cast_ofNat_Int,gt_iff_lt,ge_iff_le] at *;simp_all;omega))
   . obtain⟨rfl,rfl,rfl⟩:=hF.2 (by omega)
     have hj8:j=8:=by omega
     refine Bl c v j _ ?_;refine⟨fun h1=>?_,fun h1=>?_⟩
     . exfalso;simp at h1;omega
     . refine⟨⟨by simp_all[ZZ],rfl,by dsimp only;omega,rfl⟩,rfl,fun q hq=>?_,fun p hpp=>?_⟩
       . simp only[List.mem_cons,List.not_mem_nil,or_false] at hq
         rcases hq with rfl|rfl
         . exact⟨rfl,.head _⟩
         . exact⟨rfl,.tail _ (.head _)⟩
       . simp only[List.mem_cons,List.not_mem_nil,or_false] at hpp
         rcases hpp with rfl|rfl
         . exact⟨by kernel_rfl,VN (by omega),Zr c,.head _,BEq.refl _⟩
         . exact⟨by kernel_rfl,WA,Yv v,.tail _ (.head _),BEq.refl _⟩
def SS (np:Nat) (cmd mode:Int):Bool:=decide (-1<=cmd)&&(decide (IntKind.wrap .i64 cmd<np)&&decide (mode<=4))
def X4 (np:Nat) (l:List AC):Bool:=SS np (ZP (l.getD 40 ZS)) (ZP (l.getD 41 ZS))&&Vt (QE np) l
def Hz:Yq:=Z9 Z7 (fun|⟨c,[.agg l]⟩=>bo (X4 c.np l)|_=>bo false) (fun|⟨c,[.agg l]⟩=>Yx l&&(Vy l&&decide (c.np<=8))|_=>false)
theorem jjl4:ZC prog 27 Hz:=by
 refine Te (E:=E1 prog) Xk Z7 (fuel:=300) (str:=nSt) ⟨_,_,Tryz.func27,rfl⟩ (fun s=>by split<;>rfl) fun s hs=>?_
 split at hs
 . rename_i c l
   simp only[Bool.and_eq_true,decide_eq_true_eq] at hs;obtain⟨hl,hp,h8⟩:=hs;have e:=UJ hl;generalize Zk l=v at e;subst e;have hp:=(Rj v).1 hp;have hR:X4 c.np (ZW v)=(SS c.np v.command v.mode&&Vt (QE c.np) (ZW v)):=rfl;simp only[hR];obtain⟨j,hj,hmin,hyes⟩:=Se 8 fun p=>!V7 (QE c.np) v p
   have hmin:∀i,i<j->V7 (QE c.np) v i=true:=fun i hi=>by simpa using hmin i hi
   have hyes:j<8->V7 (QE c.np) v j=false:=fun h=>by simpa using hyes h
   rcases Nat.lt_or_ge j 8 with h8'|h8'
   . have hL:Vt (QE c.np) (ZW v)=false:=by
      cases h:Vt (QE c.np) (ZW v) with
      |false=>rfl
      |true=>rw[(Lg _ _).1 h j h8'] at hyes;exact absurd (hyes h8') (by simp)
     rw[hL,Bool.and_false];refine(?_:(∃p q,Ot (E1 prog) 27 c [.agg (ZW v)] p [some ⟨SR,Mz,ZT 84 [(4,bo false)],[],100000000000000000000000000000000000000000000000000,.ret⟩]=some q/\Zp (bo false) q)->_) (rmN c v _ ?_)
     . rintro⟨p,q,h1,h2⟩
       exact⟨p,_,q,h1,h2⟩
     . have hs:=Ki c v h8 hp j hj hmin hyes (e:=.ret) (out:=[(4,bo false)]) (mF:=[]) ⟨fun _=>⟨rfl,rfl,rfl⟩,fun h=>by omega⟩
       refine⟨rfl,(by first|(unfold ZQ;omega)|(dsimp only;unfold ZQ;omega)),by simp[ZZ,YZ,YU,YT,YO,YE,YF],fun q hq=>?_⟩;rw[List.mem_singleton.1 hq];exact hs
   . obtain rfl:j=8:=by omega
     have hL:Vt (QE c.np) (ZW v)=true:=(Lg _ _).2 hmin;rw[hL,Bool.and_true];refine(?_:(∃p q,Ot (E1 prog) 27 c [.agg (ZW v)] p [some ⟨SR,Mz,ZT 84 GU,GT c v,100000000000000000000000000000000000000000000000000,.exit 0⟩]=some q/\Zp (bo (SS c.np v.command v.mode)) q)->_) (rmY c v _ ?_)
     . rintro⟨p,q,h1,h2⟩
       exact⟨p,_,q,h1,h2⟩
     . have hs:=Ki c v h8 hp 8 hj hmin hyes (e:=.exit 0) (out:=GU) (mF:=GT c v) ⟨fun h=>by omega,fun _=>⟨rfl,rfl,rfl⟩⟩
       unfold SS
       (repeat' (first|refine⟨fun h=>?_,fun h=>?_⟩|fail))
       all_goals (refine⟨?_,(by first|(unfold ZQ;omega)|(dsimp only;unfold ZQ;omega)),?_,fun q hq=>?_⟩)
       all_goals first
        |(rw[List.mem_singleton.1 hq];exact hs)
        |(simp_all[bo];done)
        |(simp_all[bo];intros;omega)
        |(simp_all[ZZ,YZ,YU,YT,YO,YE,YF,Yk,Vw.len];done)
 . cases hs
def C4 (P:Program) (f:FuncId) (c:Cfg) (z:Int) (path:List Dec):Option VF:=ZB [] (ZJ (E1 P) (fC (E1 P) 300) f [.agg (Yi c),i64 z] 1000 nSt (Y7 (Xl c) path []))
theorem asOw (c:Cfg) (z:Int) (Q:VF->Prop) (H:(((decide (z<Int.ofNat 0))=true->Q (.c (zI (Int.negSucc 0)),[],1007,[decide (z<Int.ofNat 0)==true],[]))/\((decide (z<Int.ofNat 0))=false->(((decide (z≥ ↑(c.ns)))=true->Q (.c (zI (Int.negSucc 0)),[],1012,[decide (z≥ ↑(c.ns))==true,true,decide (z<Int.ofNat 0)==false],[]))/\((decide (z≥ ↑(c.ns)))=false->Q (.c (zI (c.fs (0+Int.toNat z))),[],1017,[ABlk.inb (ABlk.mk false false 3 1 (yS c)) (0+Int.toNat z) 1,true,decide (Int.ofNat 0<=z/\z < ↑(c.ns)),true,decide (z≥ ↑(c.ns))==false,true,decide (z<Int.ofNat 0)==false],[])))))):
 ∃p r,C4 prog 35 c z p=some r/\Q r:=
 ZL H (fun g1=>⟨pD 6 1,_,by kernel_rfl,g1⟩) (fun g1=>ZL g1 (fun g2=>⟨pD 6 245,_,by kernel_rfl,g2⟩) (fun g2=>⟨pD 6 488,_,by kernel_rfl,g2⟩))
def Hu:Zf->Bool
 |⟨_,[.c (.v (.int .i64 _))]⟩=>true
 |_=>false
def MO:Zf->AV
 |⟨c,[.c (.v (.int .i64 z))]⟩=>i64 (U7 c.fs c.ns z)
 |_=>i64 0
theorem jjld:ZC prog 35 (Z9 Z7 MO Hu):=by
 refine Te (E:=E1 prog) Xk Z7 (fuel:=300) (str:=nSt) ⟨_,_,Tryz.func35,rfl⟩ (fun s=>by unfold MO;split<;>rfl) fun s hs=>?_
 unfold Hu at hs;split at hs
 . rename_i c z
   refine(?_:(∃p q,C4 prog 35 c z p=some q/\Zp (i64 (U7 c.fs c.ns z)) q)->_) (asOw c z _ ?_)
   . rintro⟨p,q,h1,h2⟩
     exact⟨p,[],q,h1,h2⟩
   . refine⟨fun h1=>?_,fun h1=>⟨fun h2=>?_,fun h2=>?_⟩⟩
     . have:z<0:=by simpa using h1
       exact⟨by show i64 _=_;unfold U7;rw[if_neg (by omega)];rfl,(by first|(unfold ZQ;omega)|(dsimp only;unfold ZQ;omega)),by simp only[ZZ,List.forall_mem_cons,h1];simp,by simp⟩
     . have:(c.ns:Int)<=z:=by simpa using h2
       exact⟨by show i64 _=_;unfold U7;rw[if_neg (by omega)];rfl,(by first|(unfold ZQ;omega)|(dsimp only;unfold ZQ;omega)),by simp only[ZZ,List.forall_mem_cons,h1,h2];simp,by simp⟩
     . have g1:¬z<0:=by simpa using h1
       have g2:¬(c.ns:Int)<=z:=by simpa using h2
       refine⟨by show i64 _=_;unfold U7;rw[if_pos (by omega),Nat.zero_add],(by first|(unfold ZQ;omega)|(dsimp only;unfold ZQ;omega)),?_,by simp⟩;simp only[ZZ,List.forall_mem_cons,h1,h2];simp[Z6];omega
 . cases hs
structure ZO where
 any:Bool
 seq:Int
 val:Int
 rnd:Int
def ZO.cells (x:ZO):List Value:=[.bool x.any,.int .u32 x.seq,.int .u32 x.val,.int .i64 x.rnd]
def VV (F:Nat->List AC) (i:Nat):ZO:=⟨Zv ((F i).getD 0 ZS),ZP ((F i).getD 1 ZS),ZP ((F i).getD 2 ZS),ZP ((F i).getD 3 ZS)⟩
def CG:List AC->Bool
 | [.v (.bool _),.v (.int .u32 _),.v (.int .u32 _),.v (.int .i64 _)]=>true
 |_=>false
def RP (n:Nat) (F:Nat->List AC):Bool:=(List.range n).all fun k=>CG (F k)
theorem jjir {n:Nat} {F:Nat->List AC} (h:RP n F=true):∀i,i<n->F i=((fun i=>(VV F i).cells) i).map .v:=fun i hi=>by
 have h1:=List.all_eq_true.1 h i (by simpa using hi);unfold CG at h1;split at h1
 . rename_i a b d e hf
   unfold VV;simp only[hf];rfl
 . cases h1
abbrev Ux (n:Nat) (f:Nat->ZO):ABlk:=XH 54 4 n fun i=>[.bool (f i).any,.int .u32 (f i).seq,.int .u32 (f i).val,.int .i64 (f i).rnd]
abbrev WH (n:Nat) (f:Nat->ZO):ABlk:=XD 54 4 n fun i=>[.bool (f i).any,.int .u32 (f i).seq,.int .u32 (f i).val,.int .i64 (f i).rnd]
def OL (P:Program) (a:AV) (m:AMem) (path:List Dec):Option VF:=ZB [1003,1005] (ZJ (E1 P) (fC (E1 P) 300) 26 [a] 1000 nSt (Y7 m path []))
theorem cwAs (f:Nat->ZO) (n:Nat) (Q:VF->Prop) (H:Q (.c (.sl 1005 0 0 (0+n) none),[none,yO 54 4 (Cs.arr (0+n) fun i=>if i<0 then[] else Z8 (ABlk.mk false false 54 4 (Cs.arr n fun k=>List.map AC.v ((fun i=>[Value.bool (ZO.any (f i)),Value.int .u32 (ZO.seq (f i)),Value.int .u32 (ZO.val (f i)),Value.int .i64 (ZO.rnd (f i))]) k))) 0 0 4 (i-0))],1007,[decide (0+n<=n),true,true,decide ((0+n)*24<=140737488355328),ABlk.inb (ABlk.mk false false 54 4 (Cs.arr n fun k=>List.map AC.v ((fun i=>[Value.bool (ZO.any (f i)),Value.int .u32 (ZO.seq (f i)),Value.int .u32 (ZO.val (f i)),Value.int .i64 (ZO.rnd (f i))]) k))) 0 1],[])):
 ∃p r,OL prog (.c (.sl 0 0 0 n none)) [(0,Ux n f)] p=some r/\Q r:=
 ⟨pD 1 0,_,by kernel_rfl,H⟩
theorem cwBs (Q:VF->Prop) (H:Q (.c (AC.v (Value.slice none 0 0)),[none,none],1004,[],[])):
 ∃p r,OL prog (.c (.v (.slice none 0 0))) [] p=some r/\Q r:=
 ⟨pD 1 0,_,by kernel_rfl,H⟩
theorem cwCs (b o cc:Nat) (Q:VF->Prop) (H:Q (.c (.sl 1003 0 0 0 none),[yO 54 4 (Cs.arr 0 fun x=>[]),none],1007,[true,true,true],[])):
 ∃p r,OL prog (.c (.v (.slice (some ⟨b,o,none⟩) 0 cc))) [] p=some r/\Q r:=
 ⟨pD 1 0,_,by kernel_rfl,H⟩
def Qf:Yq
 | [.c a],m,ib=>match XB 4 m a with|some (n,F,b)=>some (.c (.sl ib 0 0 n none),[(ib,WH n (VV F))],1,[b,decide (n<=1000000),RP n F])|none=>none
 |_,_,_=>none
theorem jjlb :ZC prog 26 Qf:=by
 refine⟨⟨_,_,Tryz.func26,rfl⟩,fun C β m m2 w args ib r news k' ob vs hct ho hs hr hfree hlim hv=>?_⟩;unfold Qf at hct;split at hct
 . rename_i a
   split at hct
   . rename_i n F b hsl
     simp only[Option.some.injEq,Prod.mk.injEq] at hct;obtain⟨rfl,rfl,rfl,rfl⟩:=hct;simp only[ZZ,List.forall_mem_cons,decide_eq_true_eq] at ho;obtain⟨rfl,o2,o3,_⟩:=ho;simp only[γt] at hv;split at hv
     . rename_i v0 us hv0 hus
       cases hus;cases hv;have hid:β ib=none:=hfree ib (Nat.le_refl _) (by omega)
       have hmid:ZX m2 ib=none:=by
        cases e:ZX m2 ib with
        |none=>rfl
        |some x=>obtain⟨L,hL,_⟩:=hr.blk ib x e;rw[hid] at hL;cases hL
       obtain⟨L,hk,hL2⟩:=UD hr (by omega:0<4) (V4 hs hsl) hv0 54 (jjir o3) (fun _=>rfl) (Zx w) (fun _=>none) rfl;have hL3:=hL2 (ZR (fun _=>none) 0 L) 0 Wd;have hrel:=(PV (Sn w) (fun _ _ h=>by cases h) (id:=0) rfl (fun g=>by unfold YR;omega) rfl rfl hk).1;rcases Nat.eq_zero_or_pos n with rfl|hpos
       . cases hnil:L.nil with
         |true=>
          simp only[γc,Wd,hnil,if_true] at hL3;have hv1:v0= .slice none 0 0:=by simpa using hL3.symm
          subst hv1;obtain⟨p,⟨v,b',n',ob,po⟩,hrun,hvr,hn,hob,hpo⟩:∃p r,OL prog (.c (.v (.slice none 0 0))) [] p=some r/\(r.1= .c (.v (.slice none 0 0))/\r.2.2.1<=ZQ/\ZZ r.2.2.2.1/\∀q∈r.2.2.2.2,q):=cwBs _ ⟨rfl,by dsimp only;unfold ZQ;omega,by simp[ZZ],by simp⟩
          obtain⟨s',r1,r2,r3,r4⟩:=Td hrun;refine(X8 Xk r1 ⟨by rw[r3];exact hob,by rw[r4];exact hpo⟩ (C:=Zx w) (β:=fun _=>none) (w:=w) (vs:=[.slice none 0 0]) rfl (Sn w) (fun _ _ _=>rfl)).mono ?_;rintro e w' ⟨β',u,rfl,_,_,hu,hr'⟩;simp only at hvr;subst hvr;cases hu;refine⟨ZR β ib ⟨0,0,4,0,true⟩,_,rfl,Wq hid,fun id h=>by unfold ZR;rw[if_neg (by omega)],?_,D6 (y:=WH 0 (VV F)) (hr.below (Sr hr')) hid (Wb (by omega)) rfl⟩;simp[γ,γ1,γc,Wd]
         |false=>
          simp only[γc,Wd,hnil,Bool.false_eq_true,if_false,Option.some.injEq] at hL3;subst hL3;obtain⟨p,⟨v,b',n',ob,po⟩,hrun,hvr,hbl,hn,hob,hpo⟩:∃p r,OL prog (.c (.v (.slice (some ⟨L.b,L.o+(0*L.s+0),none⟩) 0 ((none:Option Nat).getD (L.cap-0))))) [] p=some r/\(r.1= .c (.sl 1003 0 0 0 none)/\r.2.1=[some ⟨true,true,54,4,.arr 0 fun _=>[]⟩,none]/\r.2.2.1<=ZQ/\ZZ r.2.2.2.1/\∀q∈r.2.2.2.2,q):=cwCs _ _ _ _ ⟨rfl,rfl,by dsimp only;unfold ZQ;omega,by simp[ZZ],by simp⟩
          obtain⟨s',r1,r2,r3,r4⟩:=Td hrun;have hn:n'<=ZQ:=hn;simp only at hvr hbl;subst hvr;subst hbl;refine(X8 Xk r1 ⟨by rw[r3];exact hob,by rw[r4];exact hpo⟩ (C:=Zx w) (β:=fun _=>none) (w:=w) (vs:=[_]) rfl (Sn w) (fun _ _ _=>rfl)).mono ?_;rintro e w' ⟨β',u,rfl,_,_,hu,hr'⟩;simp only[List.map_cons,List.map_nil,List.cons.injEq,and_true] at r2;obtain⟨r2,_⟩:=r2;obtain⟨L',hL',hb'⟩:=hr'.blk 1003 _ r2;refine⟨ZR β ib L',u,rfl,Wq hid,fun id h=>by unfold ZR;rw[if_neg (by omega)],?_,?_⟩
          . simp only[γ,γ1,γc,hL'] at hu
            simp only[γ,γ1,γc,Wd];exact hu
          . exact Dq (Sh hr (Sr hr') hid (Wb (by omega)) hr' r2 rfl rfl (fun k j hi=>by simp[ABlk.inb] at hi) hL') hmid rfl rfl
       . have hnil:L.nil=false:=(hk.cells 0 0 (by simp[XH,ABlk.inb,hpos])).1
         obtain⟨p,⟨v,b',n',ob,po⟩,hrun,hvr,hbl,hn,hob,hpo⟩:∃p r,OL prog (.c (.sl 0 0 0 n none)) [(0,Ux n (VV F))] p=some r/\(r.1= .c (.sl 1005 0 0 n none)/\r.2.1=[none,some (WH n (VV F))]/\r.2.2.1<=ZQ/\ZZ r.2.2.2.1/\∀q∈r.2.2.2.2,q):=by
          refine cwAs _ _ _ ?_;simp only[Nat.zero_add];refine⟨?_,?_,(by first|(unfold ZQ;omega)|(dsimp only;unfold ZQ;omega)),?_,by simp⟩
          . first|trivial|rfl
          . simp[Z8,XD]
          . simp[ZZ,Z6,hpos];omega
         obtain⟨s',r1,r2,r3,r4⟩:=Td hrun;have hn:n'<=ZQ:=hn;simp only at hvr hbl;subst hvr;subst hbl;refine(X8 Xk r1 ⟨by rw[r3];exact hob,by rw[r4];exact hpo⟩ (C:=Zx w) (β:=ZR (fun _=>none) 0 L) (w:=w) (vs:=[v0]) ?_ hrel (fun id h1 _=>by unfold ZR;rw[if_neg (by omega)])).mono ?_
         . simp only[γt,γ1,hL3]
         . rintro e w' ⟨β',u,rfl,_,_,hu,hr'⟩
           simp only[List.map_cons,List.map_nil,List.cons.injEq,and_true] at r2;obtain⟨_,r2⟩:=r2;obtain⟨L',hL',hb'⟩:=hr'.blk 1005 _ r2;refine⟨ZR β ib L',u,rfl,Wq hid,fun id h=>by unfold ZR;rw[if_neg (by omega)],?_,?_⟩
           . simp only[γ,γ1,γc,hL'] at hu
             simp only[γ,γ1,γc,Wd];exact hu
           . refine Sh hr (Sr hr') hid (Wb (by omega)) hr' r2 rfl rfl (fun k j _=>?_) hL'
             match j with
             |0=>exact⟨_,rfl⟩
             |1=>exact⟨_,rfl⟩
             |2=>exact⟨_,rfl⟩
             |3=>exact⟨_,rfl⟩
             |j+4=>exact⟨_,rfl⟩
     . cases hv
   . cases hct
 . cases hct
end Go.Proofs.YtodpbgbpifiniaaGreatDoor
end
