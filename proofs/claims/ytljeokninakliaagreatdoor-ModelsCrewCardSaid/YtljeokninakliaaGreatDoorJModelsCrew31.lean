/- Parts, one behind the other. Parts of a proof. -/
import Derived.Test.YtljeokninakliaaGreatDoorJModelsCrew30
import Derived.Test.YtljeokninakliaaGreatDoorJModelsCrew9
set_option linter.unusedSimpArgs false
set_option linter.unusedVariables false
set_option maxRecDepth 1000000
set_option maxHeartbeats 4000000
section
namespace Go.Proofs.YtljeokninakliaaGreatDoor
open Go.RowKit Tryz
theorem DM {N o:Nat} {ty n:Nat} {x:Int} {d:Said} {w:Vw} (ho:Nat.blt o N=true):Zd N (J7 ty o x d w n):=by
 refine Yg ?_;rw[List.all_append,List.all_cons,List.all_append,Rm];simp[YI,ho]
theorem Ey {N:Nat} (hN:1000000000000000000000000000000000000000000<=N) {c:Cfg} {u:Vw} {x la:Int} {S:Nat->ZJ} {m:Nat} {σ:Nat->Nat} {T:Nat->ZJ} {q:List AC} (h:KpOk q) {k:Nat} {F:Nat->RunV}:∀b∈TB c u x la S m σ T q k F,Zd N b:=by
 intro b hb;simp only[List.mem_cons,List.not_mem_nil,or_false] at hb;rcases hb with rfl|rfl|rfl|rfl|rfl|rfl|rfl|rfl|rfl|rfl|rfl|rfl|rfl|rfl|rfl|rfl
 . exact Yg rfl
 . exact Yg rfl
 . exact Vt
 . exact Vt
 . exact P8 (by omega)
 . exact Hx hN
 . exact Y8
 . exact Y8
 . exact Y8
 . exact Y8
 . exact Y8
 . refine Yg ?_
   rw[List.all_append,List.all_append,Rm];simp[YI,V2 hN 23 rfl,V2 hN FH rfl]
 . exact Y8
 . exact Ie hN h
 . exact DZ hN
 . exact Y8
theorem Ew {c:Cfg} {w:Vw} {x y:Int} {d:Said} {S:Nat->ZJ} {g:Nat->Int} {m:Nat} {σ:Nat->Nat} {T:Nat->ZJ} {q:List AC} (h:KpOk q) {g2:Nat->Int} {k:Nat} {F:Nat->RunV}:∀b∈UD c w x y d S g m σ T q g2 k F,Zd J9 b:=by
 intro b hb;rcases List.mem_append.1 hb with hb|hb
 . simp only[List.mem_cons,List.not_mem_nil,or_false] at hb
   rcases hb with rfl|rfl|rfl|rfl
   . exact DM rfl
   . exact DM rfl
   . exact Y8
   . exact Y8
 . exact Ey (by decide) h b hb
def XR (c:Cfg) (me:Int) (s:Nat):Bool:=decide ((c.ft s).node=me)
theorem jjq8 (c:Cfg) (w:Vw) (x y:Int) (d:Said) (S:Nat->ZJ) (g:Nat->Int) (T:Nat->ZJ) {q:List AC} (hq:KpOk q) (g2:Nat->Int) (k:Nat) (F:Nat->RunV) (me:Int) (i:Nat) (hn:c.nt<=8) (hg:∀j,j<XN (XR c me) c.nt->g2 j=g (Va (XR c me) c.nt j)) {eb:List (Option ABlk)} (hL:BL (UD c w x y d S g (XN (XR c me) c.nt) (Va (XR c me) c.nt) T q g2 k F) eb):
 LoopV prog (ZW prog 3 1) WF mjI ((Wh k me i 0 0).map some) eb 225 J9 (ZQ 225 (VM k me i (XN (XR c me) c.nt))) (mjI.zip (UD c w x y d S g (XN (XR c me) c.nt) (Va (XR c me) c.nt) T q g2 k F)) QG (.exit 2) none:=by
 obtain⟨m,hm⟩:∃m,XN (XR c me) c.nt=m:=⟨_,rfl⟩
 obtain⟨σ,hσ⟩:∃σ,Va (XR c me) c.nt=σ:=⟨_,rfl⟩
 have hat:∀s,XR c me s=true->s<c.nt->σ (XN (XR c me) s)=s/\XN (XR c me) s<m:=fun s h1 h2=>by
  rw[<- hm,<- hσ];exact F7 h1 h2
 have hml:m<=c.nt:=by rw[<- hm];exact NM _ _
 have hle:∀s,XN (XR c me) s<=s:=NM _
 have z0:XN (XR c me) 0=0:=rfl;rw[hm,hσ] at hg hL ⊢;refine Pn ST (fuel:=100) (str:=nSt) (nh:=Ja) (S:=Nat) (fun s=>s<=c.nt) (fun s=>c.nt-s) WF [] mjI (fun s=>Wh k me i (XN (XR c me) s) s) (fun _=>UD c w x y d S g m σ T q g2 k F) (by decide) (by decide) (by decide) (s0:=0) (Nat.zero_le _) (fun _=>⟨rfl,rfl⟩) (by kernel_rfl) hL (fun s _=>⟨rfl,Ew hq⟩) ?_;intro s hs;obtain⟨a,ha⟩:∃a,XN (XR c me) s=a:=⟨_,rfl⟩
 have hal:a<=s:=by rw[<- ha];exact hle s
 have goal:∀r,XA J9 QG 225 WF [] mjI (fun s=>s<=c.nt) (fun s=>c.nt-s) (fun s=>Wh k me i (XN (XR c me) s) s) (fun _=>UD c w x y d S g m σ T q g2 k F) (.exit 2) (VM k me i m) (mjI.zip (UD c w x y d S g m σ T q g2 k F)) s r->XA J9 QG 225 WF [] mjI (fun s=>s<=c.nt) (fun s=>c.nt-s) (fun s=>Wh k me i (XN (XR c me) s) s) (fun _=>UD c w x y d S g m σ T q g2 k F) (.exit 2) (VM k me i m) (mjI.zip (UD c w x y d S g m σ T q g2 k F)) s r:=fun _ h=>h
 have use:(∃p r,AY prog c w x y d S g m σ T q g2 k F me i a s p=some r/\XA J9 QG 225 WF [] mjI (fun s=>s<=c.nt) (fun s=>c.nt-s) (fun s=>Wh k me i (XN (XR c me) s) s) (fun _=>UD c w x y d S g m σ T q g2 k F) (.exit 2) (VM k me i m) (mjI.zip (UD c w x y d S g m σ T q g2 k F)) s r)->∃p lp r,view (WF++[]) mjI (fC (VG prog) 100 (ZW prog 3 1) Ja nSt (Wi 225 WF mjI (Wh k me i (XN (XR c me) s) s) (UD c w x y d S g m σ T q g2 k F) p lp))=some r/\XA J9 QG 225 WF [] mjI (fun s=>s<=c.nt) (fun s=>c.nt-s) (fun s=>Wh k me i (XN (XR c me) s) s) (fun _=>UD c w x y d S g m σ T q g2 k F) (.exit 2) (VM k me i m) (mjI.zip (UD c w x y d S g m σ T q g2 k F)) s r:=by
  rintro⟨p,r,h1,h2⟩;exact⟨p,[],r,by rw[ha];exact h1,h2⟩
 refine use ?_;clear use goal;rcases Nat.lt_or_ge s c.nt with hlt|hge
 . have w1:=Sn (show s<9223372036854775807 by omega)
   have d0:(decide (Int.ofNat s<(c.nt:Int))==true)=true:=by simp;omega
   have d1:decide (Int.ofNat 0<=Int.ofNat s/\Int.ofNat s<(c.nt:Int))=true:=by simp;omega
   cases hp:XR c me s with
   |false=>
    have hne:(c.ft s).node≠me:=of_decide_eq_false hp;have d2:((Station.node (c.ft s) !=me)==true)=true:=by simp[hne]
    have e:XN (XR c me) (s+1)=a:=by rw[IN hp,ha]
    refine mjA c w x y d S g m σ T q g2 k F me i a s _ ?_;refine⟨?_,rfl,by dsimp only;decide,rfl,.inl ⟨rfl,s+1,hlt,by show c.nt-(s+1)<c.nt-s;omega,?_,BL.refl (UD c w x y d S g m σ T q g2 k F)⟩⟩
    . simp only[ZZ,List.forall_mem_cons,List.not_mem_nil,false_implies,implies_true,and_true,true_and,Xs]
      repeat' apply And.intro
      all_goals first|exact d0|exact d1|exact d2|rfl|(simp[YK,Xt,Xu];done)|(simp[YK,Xt,Xu];omega)
    . dsimp only;rw[w1,e];rfl
   |true=>
    have heq:(c.ft s).node=me:=of_decide_eq_true hp;obtain⟨q1,q2⟩:=hat s hp hlt;rw[ha] at q1 q2;have e:XN (XR c me) (s+1)=a+1:=by rw[LI hp,ha]
    have w2:=Sn (show a<9223372036854775807 by omega);have d2:((Station.node (c.ft s) !=me)==false)=true:=by simp[heq]
    have d3:(decide (Int.ofNat a≥(m:Int))==false)=true:=by simp;omega
    have d4:(decide (Int.ofNat s≥(c.nt:Int))==false)=true:=by simp;omega
    have d5:((g2 a !=g s)==false)=true:=by rw[hg a q2,q1];simp
    have d6:decide (Int.ofNat 0<=Int.ofNat a/\Int.ofNat a<(m:Int))=true:=by simp;omega
    refine mjB c w x y d S g m σ T q g2 k F me i a s _ ?_;refine⟨?_,rfl,by dsimp only;decide,rfl,.inl ⟨rfl,s+1,hlt,by show c.nt-(s+1)<c.nt-s;omega,?_,BL.refl (UD c w x y d S g m σ T q g2 k F)⟩⟩
    . simp only[ZZ,List.forall_mem_cons,List.not_mem_nil,false_implies,implies_true,and_true,true_and,Xs]
      repeat' apply And.intro
      all_goals first|exact d0|exact d1|exact d2|exact d3|exact d4|exact d5|exact d6|rfl|(simp[YK,Xt,Xu];done)|(simp[YK,Xt,Xu];omega)
    . dsimp only;rw[w1,w2,e];rfl
 . obtain rfl:s=c.nt:=Nat.le_antisymm hs hge
   have ham:a=m:=by rw[<- ha,hm]
   subst ham;have d0:(decide (Int.ofNat c.nt<(c.nt:Int))==false)=true:=by simp
   refine mjC c w x y d S g a σ T q g2 k F me i a c.nt _ ?_;refine⟨by simp only[ZZ,List.forall_mem_cons,d0];simp,rfl,by dsimp only;decide,rfl,.inr ⟨by simp,rfl,fun p hp=>?_,Pi (by kernel_rfl) (Ew hq) rfl⟩⟩;simp only[VM,mcH,TD,List.zip_cons_cons,List.zip_nil_right,List.cons_append,List.nil_append,List.mem_cons,List.not_mem_nil,or_false] at hp;rcases hp with rfl|rfl|rfl|rfl|rfl|rfl|rfl|rfl
   . exact⟨rfl,.head _⟩
   . exact⟨rfl,.tail _ (.head _)⟩
   . exact⟨rfl,.tail _ (.tail _ (.head _))⟩
   . exact⟨rfl,.tail _ (.tail _ (.tail _ (.head _)))⟩
   . exact⟨rfl,.tail _ (.tail _ (.tail _ (.tail _ (.head _))))⟩
   . exact⟨rfl,.tail _ (.tail _ (.tail _ (.tail _ (.tail _ (.head _)))))⟩
   . exact⟨rfl,.tail _ (.tail _ (.tail _ (.tail _ (.tail _ (.tail _ (.tail _ (.head _)))))))⟩
   . exact⟨rfl,.tail _ (.tail _ (.tail _ (.tail _ (.tail _ (.tail _ (.tail _ (.tail _ (.head _))))))))⟩
theorem jjnq {n nh n':Nat} {ρ:Rn} {l:List AC} {x y:AC} (hl:l.all (YI n)=true) (hx:CW n nh n' ρ x y):∀j,CW n nh n' ρ ((l++[x]).getD j ZV) ((l++[y]).getD j ZV):=by
 intro j;rw[List.getD_eq_getElem?_getD,List.getD_eq_getElem?_getD];rcases Nat.lt_trichotomy j l.length with h|h|h
 . rw[List.getElem?_append_left h,List.getElem?_append_left h,List.getElem?_eq_getElem h]
   exact Fx (List.all_eq_true.1 hl _ (List.getElem_mem h))
 . subst h
   rw[List.getElem?_append_right (Nat.le_refl _),List.getElem?_append_right (Nat.le_refl _)];simpa using hx
 . rw[List.getElem?_eq_none (by simp;omega),List.getElem?_eq_none (by simp;omega)]
   exact Fx rfl
theorem jjm6 {c:Cfg} {u:Vw}:(GI c u).all (YI Oh)=true:=by
 rw[List.all_append,Rm];rfl
theorem LM {c:Cfg} {v:Vw} {k:Nat} {F:Nat->RunV}:∀b∈QM c v k F,Zd Oh b:=by
 intro b hb;simp only[List.mem_cons,List.not_mem_nil,or_false] at hb;rcases hb with rfl|rfl|rfl|rfl|rfl|rfl|rfl|rfl|rfl|rfl|rfl|rfl|rfl|rfl|rfl|rfl
 . exact Yg rfl
 . exact Yg rfl
 . exact Vt
 . exact Vt
 . exact P8 (by decide)
 . exact Tu
 . exact Yg rfl
 . exact Y8
 . exact Y8
 . exact Y8
 . exact Y8
 . exact Y8
 . refine Yg ?_
   rw[List.all_append,List.all_append,Rm];rfl
 . exact Y8
 . exact Yg rfl
 . exact Y8
theorem M4 {nh n':Nat} {ρ:Rn} {mv:List (Nat × Option ABlk)} {c:Cfg} {u:Vw} {x:AC} {m:Nat} (hm:(Yz,some (ABlk.mk true false 97 0 (.lit (GI c u++[x]))))∈mv) (hx:CW Oh nh n' ρ x (.sl Wm 0 0 m none)):MK Oh nh n' ρ mv Yz (Xd c u (Int.negSucc 0) m):=
 .inr (.inr (.inr ⟨.inl (show Yz<Oh by decide),_,hm,rfl,rfl,rfl,rfl,GI c u++[x],GI c u++[.sl Wm 0 0 m none],rfl,rfl,by simp,jjnq jjm6 hx⟩))
abbrev V7 (c:Cfg) (u:Vw) (me:Int) (i:Nat):List ABlk:=[WW (XN (XR c me) i) (Va (XR c me) c.nt) fun _=>Wd,Xd c u (Int.negSucc 0) (XN (XR c me) i)]
theorem jjpm (c : Cfg) (v u : Vw) (k:Nat) (F:Nat->RunV) (me:Int) (hn:c.nt<=8) {eb:List (Option ABlk)} (hL:BL (QM c v k F) eb):
 LoopV prog (ZW prog 8 0) qwH (Yz::qwI) ((Px c me 0).map some) (some (ABlk.mk true false 97 0 (.lit (GI c u++[.v (.slice none 0 0)])))::eb) 56 Oh (ZQ 56 [(6,.c (.ptr Yz 0 0))]) ([Wm,Yz].zip (V7 c u me c.nt)++qwI.zip (QM c v k F)) Jf (.exit 0) none:=by
 refine jje0 ST (fuel:=100) (str:=nSt) (nh:=Je) (S:=Nat) (fun i=>i<=c.nt) (fun i=>c.nt-i) qwH ([Wm,Ka,Yz]++qwI) [Wm,Yz] qwI (Yz::qwI) (fun i=>Px c me i) (fun i=>V7 c u me i) (fun _=>QM c v k F) (by decide) (by decide) (by decide) (s0:=0) (Nat.zero_le _) ⟨fun _=>.inr 5,?_⟩ ?_
 . refine Sj (A:=[(Yz,some (ABlk.mk true false 97 0 (.lit (GI c u++[.v (.slice none 0 0)]))))]) (kb:=eb) rfl (by kernel_rfl) ?_ ?_ (by kernel_rfl) LM hL
   . exact WY (.head _) (fun h=>(by cases h)) (Yp rfl) (WY (.tail _ (.head _)) (fun h=>(by cases h)) (Yp rfl) (WY (.tail _ (.tail _ (.head _))) (fun h=>(by cases h)) (Yp rfl) (WY (.tail _ (.tail _ (.tail _ (.head _)))) (fun h=>(by cases h)) (Yp rfl) (WY (.tail _ (.tail _ (.tail _ (.tail _ (.head _))))) (fun h=>(by cases h)) (Yp rfl) Sm))))
   . exact Tv (jjq6 rfl rfl rfl rfl ⟨_,rfl⟩) (Tv (M4 (.head _) (Pk (M3 (show Oh<=Wm by decide) (by decide) (by decide) rfl))) Sk)
 . intro i hi
   obtain⟨m,hm⟩:∃m,XN (XR c me) i=m:=⟨_,rfl⟩
   have hml:m<=i:=by rw[<- hm];exact NM _ _
   obtain⟨σ,hσ⟩:∃σ,Va (XR c me) c.nt=σ:=⟨_,rfl⟩
   refine(?_:(∃p r,qwR prog c v u k F me m σ i p=some r/\_)->_) (qwZ c v u k F me m σ i (Jr Oh Je Jf 56 qwH ([Wm,Ka,Yz]++qwI) [Wm,Yz] qwI (fun i:Nat=>i<=c.nt) (fun i=>c.nt-i) (fun i=>Px c me i) (fun i=>V7 c u me i) (fun _=>QM c v k F) (.exit 0) [(6,.c (.ptr Yz 0 0))] ([Wm,Yz].zip (V7 c u me c.nt)++qwI.zip (QM c v k F)) i) ?_)
   . rintro⟨p,r,h1,h2⟩
     refine⟨p,[],r,?_,h2⟩;unfold V7;rw[hm,hσ];exact h1
   . refine ⟨fun c1=>?_,fun c1=>?_⟩
     . have hlt:i<c.nt:=by simpa using c1
       have w:=Sn (show i<9223372036854775807 by omega);have d0:(decide (Int.ofNat i<(c.nt:Int))==true)=true:=by simp;omega
       have d1:decide (Int.ofNat 0<=Int.ofNat i/\Int.ofNat i<(c.nt:Int))=true:=by simp;omega
       refine⟨fun c2=>?_,fun c2=>?_⟩
       . have hp:XR c me i=true:=decide_eq_true (by simpa[Xs] using c2)
         have e:XN (XR c me) (i+1)=m+1:=by rw[LI hp,hm]
         have hat:σ m=i:=by
          have:=(F7 hp hlt).1;rw[hm,hσ] at this;exact this
         refine⟨?_,(fun q hq=>by cases hq),by dsimp only;decide,rfl,.inl ⟨rfl,i+1,hlt,by show c.nt-(i+1)<c.nt-i;omega,fun _=>.inl Ka,?_⟩⟩
         . simp only[ZZ,List.forall_mem_cons,List.not_mem_nil,false_implies,implies_true,and_true,true_and]
           repeat' apply And.intro
           all_goals first|exact d0|exact d1|rfl|(rw[c2];rfl)|(simp[Xs,YK,Xt,Xu];done)|(simp[Xs,YK,Xt,Xu];omega)
         . show Mt _ _ _ _ _ _ _ ([Wm,Yz].zip (V7 c u me (i+1))++qwI.zip (QM c v k F))
           have eg:V7 c u me (i+1)=[WW (m+1) σ (fun _=>Wd),Xd c u (Int.negSucc 0) (m+1)]:=by unfold V7;rw[e,hσ]
           rw[eg];refine Sj (A:=[(Wm,none),(Ka,_),(Yz,_)]) (kb:=(QM c v k F).map some) rfl (by kernel_rfl) ?_ ?_ (by kernel_rfl) LM (BL.refl _)
           . exact WY (.head _) (fun h=>(by cases h)) (Yp rfl) (WY (.tail _ (.head _)) (fun h=>(by cases h)) (Yp rfl) (WY (.tail _ (.tail _ (.head _))) (fun h=>(by cases h)) (Yp rfl) (WY (.tail _ (.tail _ (.tail _ (.head _)))) (fun h=>(by cases h)) (Yp rfl) (WY (.tail _ (.tail _ (.tail _ (.tail _ (.head _))))) (fun h=>(by cases h)) (by rw[w];exact Yp rfl) Sm))))
           . refine Tv (Ph (o:=Ka) rfl rfl rfl (.tail _ (.head _)) ⟨rfl,rfl,rfl,rfl,.inr (.inl ⟨_,_,_,rfl,rfl,fun j hj=>?_⟩)⟩ Y8) (Tv (M4 (.tail _ (.tail _ (.head _))) (Pk (Vs (show Oh<=Wm by decide) (by decide) (by decide) rfl))) Sk)
             dsimp only;by_cases h:j<m
             . rw[if_pos h]
             . obtain rfl:j=m:=by omega
               rw[if_neg h,hat];simp[YW,Xs]
       . have hp:XR c me i=false:=decide_eq_false (by simpa[Xs] using c2)
         have e:XN (XR c me) (i+1)=m:=by rw[IN hp,hm]
         refine⟨?_,(fun q hq=>by cases hq),by dsimp only;decide,rfl,.inl ⟨rfl,i+1,hlt,by show c.nt-(i+1)<c.nt-i;omega,fun _=>.inl Wm,?_⟩⟩
         . simp only[ZZ,List.forall_mem_cons,List.not_mem_nil,false_implies,implies_true,and_true,true_and]
           repeat' apply And.intro
           all_goals first|exact d0|exact d1|rfl|(rw[c2];rfl)|(simp[Xs,YK,Xt,Xu];done)|(simp[Xs,YK,Xt,Xu];omega)
         . show Mt _ _ _ _ _ _ _ ([Wm,Yz].zip (V7 c u me (i+1))++qwI.zip (QM c v k F))
           have eg:V7 c u me (i+1)=[WW m σ (fun _=>Wd),Xd c u (Int.negSucc 0) m]:=by unfold V7;rw[e,hσ]
           rw[eg];refine Sj (A:=[(Wm,_),(Ka,none),(Yz,_)]) (kb:=(QM c v k F).map some) rfl (by kernel_rfl) ?_ ?_ (by kernel_rfl) LM (BL.refl _)
           . exact WY (.head _) (fun h=>(by cases h)) (Yp rfl) (WY (.tail _ (.head _)) (fun h=>(by cases h)) (Yp rfl) (WY (.tail _ (.tail _ (.head _))) (fun h=>(by cases h)) (Yp rfl) (WY (.tail _ (.tail _ (.tail _ (.head _)))) (fun h=>(by cases h)) (Yp rfl) (WY (.tail _ (.tail _ (.tail _ (.tail _ (.head _))))) (fun h=>(by cases h)) (by rw[w];exact Yp rfl) Sm))))
           . exact Tv (Ph (o:=Wm) rfl rfl rfl (.head _) (BEq.refl _) Y8) (Tv (M4 (.tail _ (.tail _ (.head _))) (Pk (Vs (show Oh<=Wm by decide) (by decide) (by decide) rfl))) Sk)
     . obtain rfl : i = c.nt := by have:¬i<c.nt:=by simpa using c1
                                   omega
       refine⟨by simp only[ZZ,List.forall_mem_cons,c1];simp,(fun q hq=>by cases hq),by dsimp only;decide,rfl,.inr ⟨by simp,rfl,fun g=>.inl g,?_⟩⟩;show Mt _ _ _ _ _ _ _ ([Wm,Yz].zip (V7 c u me c.nt)++qwI.zip (QM c v k F));have eg:V7 c u me c.nt=[WW m σ (fun _=>Wd),Xd c u (Int.negSucc 0) m]:=by unfold V7;rw[hm,hσ]
       rw[eg];refine Sj (hs:=[6]) (vals:=[.c (.ptr Yz 0 0)]) (A:=[(Wm,_),(Ka,none),(Yz,_)]) (kb:=(QM c v k F).map some) rfl (by kernel_rfl) ?_ ?_ (by kernel_rfl) LM (BL.refl _)
       . exact WY (.tail _ (.head _)) (fun h=>(by cases h)) (Yp rfl) Sm
       . exact Tv (Ph (o:=Wm) rfl rfl rfl (.head _) (BEq.refl _) Y8) (Tv (M4 (.tail _ (.tail _ (.head _))) (Pk (Vs (show Oh<=Wm by decide) (by decide) (by decide) rfl))) Sk)
theorem A9 (c:Cfg) (u w:Vw) (x y:Int) (S S2:Nat->ZJ) (g:Nat->Int) (d:Said) (m:Nat) (σ:Nat->Nat) (T T2:Nat->ZJ) (q q2:List AC) (g2:Nat->Int) (k:Nat) (F:Nat->RunV) (me:Int) (i:Nat) (Q:VC->Prop) (H:let zN:=Int.ofNat;let zD:=Int.toNat;let zz0:=(Said.p (RunV.s (F (0+zD (zN i)))));let zz1:=[zB (Said.is d),zI (Said.at_ d),zU (Payload.kind (Said.p d)),zU (Payload.st (Said.p d)),zW (Payload.seq (Said.p d)),zW (Payload.val (Said.p d))];Q (Exit.normal,[some (ZO (VM k me i m) 2),some (ZO (VM k me i m) 3),some (ZO (VM k me i m) 9),some (ZO (VM k me i m) 10),some (ZO (VM k me i m) 12),some (.c (zI (IntKind.wrap .i64 (zN i+zN 1))))],((TB c w y y S2 m σ T2 q2 k F).map some),225,10000000000000000000000000000000000000000000000000008,(((zN m != ↑m)==false)::true::((!Vh Ud (ZX w) (ZX w))==false)::(zu (zu (zu (zu (zu (zt (true::true::(((!Vh [none,some .i64,some .u8,some .u8,some .u32,some .u32] zz1 zz1)==false)::(zt (zt (zt (true::true::(((x !=x)==false)::y3 (y3 ((Zn Held.ks (YC (RunV.h (F (0+zD (zN i))))))::(decide (zN 1<=c.nodes))::(decide (c.nodes<=zN 1000))::(zu (zu (zu (zu (zu (y3 (y3 (true::(((!Said.is (RunV.s (F (0+zD (zN i)))))==false)::y3 ((ABlk.inb (RK k F) (0+zD (zN i)) 62)::(zu (zt (zt (zt ((decide (zN 0<=zN i/\zN i < ↑k))::((!Said.is (RunV.s (F (0+zD (zN i)))))==false)::true::true::((Payload.kind zz0 !=zN 1)==false)::y3 (true::(ABlk.inb (RK k F) (0+zD (zN i)) 6)::y3 (y3 ((decide (zN 0<=zN i/\zN i < ↑k))::(decide (zN i < ↑k)==true)::[])))))))))))))))))))))))))))))))))),[FG prog c w x y d S2 g m σ T2 q2 g2 k F me i,CallV prog 9 [.c (.ptr Yz 0 0),.c (zI (IntKind.wrap .i64 (zN i+zN 1))),.c (.sl SR 0 0 (zD c.nodes) none)] (SR::cqI) (some (We (zD c.nodes) (Wj (zD (Int.tmod (zN i) c.nodes)) (Ul (YC (RunV.h (F (0+zD (zN i)))))) (Zi (ZX u)) (Said.mk (Said.is (RunV.s (F (0+zD (zN i))))) (zN i) (Payload.mk (Payload.kind zz0) (Payload.st zz0) (Payload.seq zz0) (Payload.val zz0)))))::(XP c u x m σ T q).map some) XE (.tup [AV.agg (zI x::(UJ d++ZX w)++[AC.sl XE 0 0 m none]),.c (zI (zN 0))]) (List.zip [XE] [Zg m g2]++List.zip cqI (XP c w y m σ T2 q2)) 100000000105000000000000000000000000000000000000000,CallV prog 12 [.c (.ptr M7 0 0),.agg [zB (Said.is (RunV.s (F (0+zD (zN i))))),zI (zN i),zU (Payload.kind zz0),zU (Payload.st zz0),zW (Payload.seq zz0),zW (Payload.val zz0)]] plI ((Wc c u x S).map some) 1000000000000000000000000000000000000000000035 (.tup [AV.agg (zI x::(UJ d++ZX w)++[AC.sl YQ 0 0 c.nt none]),.c (zI (zN 0))]) (List.zip [YQ] [Zg c.nt g]++List.zip plI (Wc c w y S2)) 100000000000000000000000000000000000000000000000000])):
 ∃p r,Pp prog c u x x S m σ T q k F me i p [some (MB c x y d w S2 g),some (MC c x y d w m σ T2 q2 g2),some (MA c w x y d S2 g m σ T2 q2 g2 k F me i)]=some r/\Q r:=
 ⟨pD 33 4946491822640479,_,by kernel_rfl,H⟩
theorem Aa (c:Cfg) (u w:Vw) (x y:Int) (S S2:Nat->ZJ) (g:Nat->Int) (d:Said) (m:Nat) (σ:Nat->Nat) (T T2:Nat->ZJ) (q q2:List AC) (g2:Nat->Int) (k:Nat) (F:Nat->RunV) (me:Int) (i:Nat) (Q:VC->Prop) (H:let zN:=Int.ofNat;let zD:=Int.toNat;let zz0:=(Said.p (RunV.s (F (0+zD (zN i)))));let zz1:=[zB (Said.is d),zI (Said.at_ d),zU (Payload.kind (Said.p d)),zU (Payload.st (Said.p d)),zW (Payload.seq (Said.p d)),zW (Payload.val (Said.p d))];Q (Exit.normal,[some (ZO (VM k me i m) 2),some (ZO (VM k me i m) 3),some (ZO (VM k me i m) 9),some (ZO (VM k me i m) 10),some (ZO (VM k me i m) 12),some (.c (zI (IntKind.wrap .i64 (zN i+zN 1))))],((TB c w y y S2 m σ T2 q2 k F).map some),225,10000000000000000000000000000000000000000000000000008,(((zN m != ↑m)==false)::true::((!Vh Ud (ZX w) (ZX w))==false)::(zu (zu (zu (zu (zu (zt (true::true::(((!Vh [none,some .i64,some .u8,some .u8,some .u32,some .u32] zz1 zz1)==false)::(zt (zt (zt (true::true::(((x !=x)==false)::y3 (y3 ((Zn Held.ks (YC (RunV.h (F (0+zD (zN i))))))::(decide (zN 1<=c.nodes))::(decide (c.nodes<=zN 1000))::(zu (zu (zu (zu (zu (y3 (y3 (true::(((!Said.is (RunV.s (F (0+zD (zN i)))))==false)::y3 ((ABlk.inb (RK k F) (0+zD (zN i)) 62)::(zu (zt (zt (zt ((decide (zN 0<=zN i/\zN i < ↑k))::((!Said.is (RunV.s (F (0+zD (zN i)))))==false)::true::true::((Payload.kind zz0 !=zN 2)==false)::true::true::((Payload.kind zz0 !=zN 1)==true)::y3 (true::(ABlk.inb (RK k F) (0+zD (zN i)) 6)::y3 (y3 ((decide (zN 0<=zN i/\zN i < ↑k))::(decide (zN i < ↑k)==true)::[])))))))))))))))))))))))))))))))))),[FG prog c w x y d S2 g m σ T2 q2 g2 k F me i,CallV prog 9 [.c (.ptr Yz 0 0),.c (zI (IntKind.wrap .i64 (zN i+zN 1))),.c (.sl SR 0 0 (zD c.nodes) none)] (SR::cqI) (some (We (zD c.nodes) (Wj (zD (Int.tmod (zN i) c.nodes)) (Ul (YC (RunV.h (F (0+zD (zN i)))))) (Zi (ZX u)) (Said.mk (Said.is (RunV.s (F (0+zD (zN i))))) (zN i) (Payload.mk (Payload.kind zz0) (Payload.st zz0) (Payload.seq zz0) (Payload.val zz0)))))::(XP c u x m σ T q).map some) XE (.tup [AV.agg (zI x::(UJ d++ZX w)++[AC.sl XE 0 0 m none]),.c (zI (zN 0))]) (List.zip [XE] [Zg m g2]++List.zip cqI (XP c w y m σ T2 q2)) 100000000105000000000000000000000000000000000000000,CallV prog 12 [.c (.ptr M7 0 0),.agg [zB (Said.is (RunV.s (F (0+zD (zN i))))),zI (zN i),zU (Payload.kind zz0),zU (Payload.st zz0),zW (Payload.seq zz0),zW (Payload.val zz0)]] plI ((Wc c u x S).map some) 1000000000000000000000000000000000000000000039 (.tup [AV.agg (zI x::(UJ d++ZX w)++[AC.sl YQ 0 0 c.nt none]),.c (zI (zN 0))]) (List.zip [YQ] [Zg c.nt g]++List.zip plI (Wc c w y S2)) 100000000000000000000000000000000000000000000000000])):
 ∃p r,Pp prog c u x x S m σ T q k F me i p [some (MB c x y d w S2 g),some (MC c x y d w m σ T2 q2 g2),some (MA c w x y d S2 g m σ T2 q2 g2 k F me i)]=some r/\Q r:=
 ⟨pD 33 4946491822640962,_,by kernel_rfl,H⟩
theorem A6 (c:Cfg) (u w:Vw) (x y:Int) (S S2:Nat->ZJ) (g:Nat->Int) (d:Said) (m:Nat) (σ:Nat->Nat) (T T2:Nat->ZJ) (q q2:List AC) (g2:Nat->Int) (k:Nat) (F:Nat->RunV) (me:Int) (i:Nat) (Q:VC->Prop) (H:let zN:=Int.ofNat;let zD:=Int.toNat;let zz0:=[zB (Said.is d),zI (Said.at_ d),zU (Payload.kind (Said.p d)),zU (Payload.st (Said.p d)),zW (Payload.seq (Said.p d)),zW (Payload.val (Said.p d))];Q (Exit.normal,[some (ZO (VM k me i m) 2),some (ZO (VM k me i m) 3),some (ZO (VM k me i m) 9),some (ZO (VM k me i m) 10),some (ZO (VM k me i m) 12),some (.c (zI (IntKind.wrap .i64 (zN i+zN 1))))],((TB c w y y S2 m σ T2 q2 k F).map some),225,10000000000000000000000000000000000000000000000000008,(((zN m != ↑m)==false)::true::((!Vh Ud (ZX w) (ZX w))==false)::(zu (zu (zu (zu (zu (zt (true::true::(((!Vh [none,some .i64,some .u8,some .u8,some .u32,some .u32] zz0 zz0)==false)::(zt (zt (zt (true::true::(((x !=x)==false)::y3 (y3 ((Zn Held.ks ((YC {(RunV.h (F (0+zD (zN i)))) with ra:=zN i})))::(decide (zN 1<=c.nodes))::(decide (c.nodes<=zN 1000))::(zu (zu (zu (zu (zu (zt (y3 (((ABlk.inb (RK k F) (0+zD (zN i)) 62)::(zu (zt (zt (zt ((decide (zN 0<=zN i/\zN i < ↑k))::true::((!Said.is (RunV.s (F (0+zD (zN i)))))==true)::true::true::((Payload.kind (Said.p (RunV.s (F (0+zD (zN i))))) !=zN 1)==false)::y3 (true::(ABlk.inb (RK k F) (0+zD (zN i)) 6)::y3 (y3 ((decide (zN 0<=zN i/\zN i < ↑k))::(decide (zN i < ↑k)==true)::[]))))))))))))))))))))))))))))))))),[FG prog c w x y d S2 g m σ T2 q2 g2 k F me i,CallV prog 9 [.c (.ptr Yz 0 0),.c (zI (IntKind.wrap .i64 (zN i+zN 1))),.c (.sl SR 0 0 (zD c.nodes) none)] (SR::cqI) (some (We (zD c.nodes) (Wj (zD (Int.tmod (zN i) c.nodes)) (Ul ((YC {(RunV.h (F (0+zD (zN i)))) with ra:=zN i}))) (Zi (ZX u)) (Said.mk false (zN 0) (Payload.mk (zN 0) (zN 0) (zN 0) (zN 0)))))::(XP c u x m σ T q).map some) XE (.tup [AV.agg (zI x::(UJ d++ZX w)++[AC.sl XE 0 0 m none]),.c (zI (zN 0))]) (List.zip [XE] [Zg m g2]++List.zip cqI (XP c w y m σ T2 q2)) 100000000105000000000000000000000000000000000000000,CallV prog 12 [.c (.ptr M7 0 0),.agg [zB false,zI (zN 0),zU (zN 0),zU (zN 0),zW (zN 0),zW (zN 0)]] plI ((Wc c u x S).map some) 1000000000000000000000000000000000000000000042 (.tup [AV.agg (zI x::(UJ d++ZX w)++[AC.sl YQ 0 0 c.nt none]),.c (zI (zN 0))]) (List.zip [YQ] [Zg c.nt g]++List.zip plI (Wc c w y S2)) 100000000000000000000000000000000000000000000000000])):
 ∃p r,Pp prog c u x x S m σ T q k F me i p [some (MB c x y d w S2 g),some (MC c x y d w m σ T2 q2 g2),some (MA c w x y d S2 g m σ T2 q2 g2 k F me i)]=some r/\Q r:=
 ⟨pD 33 4946491822635376,_,by kernel_rfl,H⟩
theorem A7 (c:Cfg) (u w:Vw) (x y:Int) (S S2:Nat->ZJ) (g:Nat->Int) (d:Said) (m:Nat) (σ:Nat->Nat) (T T2:Nat->ZJ) (q q2:List AC) (g2:Nat->Int) (k:Nat) (F:Nat->RunV) (me:Int) (i:Nat) (Q:VC->Prop) (H:let zN:=Int.ofNat;let zD:=Int.toNat;let zz0:=[zB (Said.is d),zI (Said.at_ d),zU (Payload.kind (Said.p d)),zU (Payload.st (Said.p d)),zW (Payload.seq (Said.p d)),zW (Payload.val (Said.p d))];Q (Exit.normal,[some (ZO (VM k me i m) 2),some (ZO (VM k me i m) 3),some (ZO (VM k me i m) 9),some (ZO (VM k me i m) 10),some (ZO (VM k me i m) 12),some (.c (zI (IntKind.wrap .i64 (zN i+zN 1))))],((TB c w y y S2 m σ T2 q2 k F).map some),225,10000000000000000000000000000000000000000000000000008,(((zN m != ↑m)==false)::true::((!Vh Ud (ZX w) (ZX w))==false)::(zu (zu (zu (zu (zu (zt (true::true::(((!Vh [none,some .i64,some .u8,some .u8,some .u32,some .u32] zz0 zz0)==false)::(zt (zt (zt (true::true::(((x !=x)==false)::y3 (y3 ((Zn Held.ks ((YC {(RunV.h (F (0+zD (zN i)))) with ra:=zN i})))::(decide (zN 1<=c.nodes))::(decide (c.nodes<=zN 1000))::(zu (zu (zu (zu (zu (zt (y3 (((ABlk.inb (RK k F) (0+zD (zN i)) 62)::(zu (zt (zt (zt ((decide (zN 0<=zN i/\zN i < ↑k))::true::((!Said.is (RunV.s (F (0+zD (zN i)))))==true)::true::true::((Payload.kind (Said.p (RunV.s (F (0+zD (zN i))))) !=zN 2)==false)::true::true::((Payload.kind (Said.p (RunV.s (F (0+zD (zN i))))) !=zN 1)==true)::y3 (true::(ABlk.inb (RK k F) (0+zD (zN i)) 6)::y3 (y3 ((decide (zN 0<=zN i/\zN i < ↑k))::(decide (zN i < ↑k)==true)::[]))))))))))))))))))))))))))))))))),[FG prog c w x y d S2 g m σ T2 q2 g2 k F me i,CallV prog 9 [.c (.ptr Yz 0 0),.c (zI (IntKind.wrap .i64 (zN i+zN 1))),.c (.sl SR 0 0 (zD c.nodes) none)] (SR::cqI) (some (We (zD c.nodes) (Wj (zD (Int.tmod (zN i) c.nodes)) (Ul ((YC {(RunV.h (F (0+zD (zN i)))) with ra:=zN i}))) (Zi (ZX u)) (Said.mk false (zN 0) (Payload.mk (zN 0) (zN 0) (zN 0) (zN 0)))))::(XP c u x m σ T q).map some) XE (.tup [AV.agg (zI x::(UJ d++ZX w)++[AC.sl XE 0 0 m none]),.c (zI (zN 0))]) (List.zip [XE] [Zg m g2]++List.zip cqI (XP c w y m σ T2 q2)) 100000000105000000000000000000000000000000000000000,CallV prog 12 [.c (.ptr M7 0 0),.agg [zB false,zI (zN 0),zU (zN 0),zU (zN 0),zW (zN 0),zW (zN 0)]] plI ((Wc c u x S).map some) 1000000000000000000000000000000000000000000046 (.tup [AV.agg (zI x::(UJ d++ZX w)++[AC.sl YQ 0 0 c.nt none]),.c (zI (zN 0))]) (List.zip [YQ] [Zg c.nt g]++List.zip plI (Wc c w y S2)) 100000000000000000000000000000000000000000000000000])):
 ∃p r,Pp prog c u x x S m σ T q k F me i p [some (MB c x y d w S2 g),some (MC c x y d w m σ T2 q2 g2),some (MA c w x y d S2 g m σ T2 q2 g2 k F me i)]=some r/\Q r:=
 ⟨pD 33 4946491822635859,_,by kernel_rfl,H⟩
theorem A8 (c:Cfg) (u w:Vw) (x y:Int) (S S2:Nat->ZJ) (g:Nat->Int) (d:Said) (m:Nat) (σ:Nat->Nat) (T T2:Nat->ZJ) (q q2:List AC) (g2:Nat->Int) (k:Nat) (F:Nat->RunV) (me:Int) (i:Nat) (Q:VC->Prop) (H:let zN:=Int.ofNat;let zD:=Int.toNat;let zz0:=[zB (Said.is d),zI (Said.at_ d),zU (Payload.kind (Said.p d)),zU (Payload.st (Said.p d)),zW (Payload.seq (Said.p d)),zW (Payload.val (Said.p d))];Q (Exit.normal,[some (ZO (VM k me i m) 2),some (ZO (VM k me i m) 3),some (ZO (VM k me i m) 9),some (ZO (VM k me i m) 10),some (ZO (VM k me i m) 12),some (.c (zI (IntKind.wrap .i64 (zN i+zN 1))))],((TB c w y y S2 m σ T2 q2 k F).map some),225,10000000000000000000000000000000000000000000000000008,(((zN m != ↑m)==false)::true::((!Vh Ud (ZX w) (ZX w))==false)::(zu (zu (zu (zu (zu (zt (true::true::(((!Vh [none,some .i64,some .u8,some .u8,some .u32,some .u32] zz0 zz0)==false)::(zt (zt (zt (true::true::(((x !=x)==false)::y3 (y3 ((Zn Held.ks ((YC {(RunV.h (F (0+zD (zN i)))) with ra:=zN i})))::(decide (zN 1<=c.nodes))::(decide (c.nodes<=zN 1000))::(zu (zu (zu (zu (zu (zt (y3 (((ABlk.inb (RK k F) (0+zD (zN i)) 62)::(zu (zt (zt (zt ((decide (zN 0<=zN i/\zN i < ↑k))::y3 (true::((Payload.kind (Said.p (RunV.s (F (0+zD (zN i))))) !=zN 2)==true)::true::true::((Payload.kind (Said.p (RunV.s (F (0+zD (zN i))))) !=zN 1)==true)::y3 (true::(ABlk.inb (RK k F) (0+zD (zN i)) 6)::y3 (y3 ((decide (zN 0<=zN i/\zN i < ↑k))::(decide (zN i < ↑k)==true)::[])))))))))))))))))))))))))))))))))),[FG prog c w x y d S2 g m σ T2 q2 g2 k F me i,CallV prog 9 [.c (.ptr Yz 0 0),.c (zI (IntKind.wrap .i64 (zN i+zN 1))),.c (.sl SR 0 0 (zD c.nodes) none)] (SR::cqI) (some (We (zD c.nodes) (Wj (zD (Int.tmod (zN i) c.nodes)) (Ul ((YC {(RunV.h (F (0+zD (zN i)))) with ra:=zN i}))) (Zi (ZX u)) (Said.mk false (zN 0) (Payload.mk (zN 0) (zN 0) (zN 0) (zN 0)))))::(XP c u x m σ T q).map some) XE (.tup [AV.agg (zI x::(UJ d++ZX w)++[AC.sl XE 0 0 m none]),.c (zI (zN 0))]) (List.zip [XE] [Zg m g2]++List.zip cqI (XP c w y m σ T2 q2)) 100000000105000000000000000000000000000000000000000,CallV prog 12 [.c (.ptr M7 0 0),.agg [zB false,zI (zN 0),zU (zN 0),zU (zN 0),zW (zN 0),zW (zN 0)]] plI ((Wc c u x S).map some) 1000000000000000000000000000000000000000000048 (.tup [AV.agg (zI x::(UJ d++ZX w)++[AC.sl YQ 0 0 c.nt none]),.c (zI (zN 0))]) (List.zip [YQ] [Zg c.nt g]++List.zip plI (Wc c w y S2)) 100000000000000000000000000000000000000000000000000])):
 ∃p r,Pp prog c u x x S m σ T q k F me i p [some (MB c x y d w S2 g),some (MC c x y d w m σ T2 q2 g2),some (MA c w x y d S2 g m σ T2 q2 g2 k F me i)]=some r/\Q r:=
 ⟨pD 33 4946491822634887,_,by kernel_rfl,H⟩
theorem mxE (c:Cfg) (u:Vw) (x:Int) (S:Nat->ZJ) (m:Nat) (σ:Nat->Nat) (T:Nat->ZJ) (q:List AC) (k:Nat) (F:Nat->RunV) (me:Int) (i:Nat) (Q:VC->Prop) (H:Q (Exit.exit 0,[some (ZO (List.zip mcH (TD k me i)) 2),some (ZO (List.zip mcH (TD k me i)) 3),some (ZO (List.zip mcH (TD k me i)) 9),some (ZO (List.zip mcH (TD k me i)) 10),some (ZO (List.zip mcH (TD k me i)) 12),some (ZO (List.zip mcH (TD k me i)) 15)],((TB c u x x S m σ T q k F).map some),225,1000000000000000000000000000000000000000000004,[decide (Int.ofNat i < ↑k)==false],[])):
 ∃p r,Pp prog c u x x S m σ T q k F me i p []=some r/\Q r:=
 ⟨pD 1 2,_,by kernel_rfl,H⟩
theorem Ry:∀(ks:List (Option IntKind)) (xs:List AC),Vh ks xs xs=true
 |none::ks,x::xs=>by simp[Vh,Ry ks xs]
 |some _::ks,x::xs=>by simp[Vh,Ry ks xs]
 | [],_=>by simp[Vh]
 |none::_,[]=>by simp[Vh]
 |some _::_,[]=>by simp[Vh]
def Yu (c:Cfg) (F:Nat->RunV) (s:T6):Nat->T6
 |0=>s
 |i+1=>Mc c (Yu c F s i) (QV i (F i).s)
theorem DL {c:Cfg} (f:PxC c) (F:Nat->RunV) {s:T6} (h:TZ s) (hm:QK c s.u=true) (hx:s.x=0):∀i,i<=60->TZ (Yu c F s i)/\QK c (Yu c F s i).u=true/\(Yu c F s i).x=Int.ofNat i
 |0,_=>⟨h,hm,hx⟩
 |i+1,hi=>by
  obtain⟨h1,h2,h3⟩:=DL f F h hm hx i (by omega);have hlt:(Yu c F s i).x<1099511627776:=by rw[h3];simp;omega
  have e:Mc c (Yu c F s i) (QV i (F i).s)=⟨RF c (Yu c F s i) (QV i (F i).s),XU (Yu c F s i).x,Pw c (Yu c F s i) (QV i (F i).s)⟩:=if_pos hlt;refine⟨jjmc f h1 _,?_,?_⟩
  . show QK c (Mc c (Yu c F s i) (QV i (F i).s)).u=true
    rw[e];exact jjm9 f h1 h2 _
  . show (Mc c (Yu c F s i) (QV i (F i).s)).x=_
    rw[e];show XU (Yu c F s i).x=_;rw[h3];exact Sn (show i<9223372036854775807 by omega)
theorem jjqd (i:Nat) (s:Said):QV i s=GH (Int.ofNat i) (QV i s):=by
 unfold QV;split
 . rfl
 . rfl
structure McF (k:Nat) (F:Nat->RunV):Prop where
 k:k<=60
 s:∀i,(F i).s.Ok
 h:∀i,Zn Held.ks (YC (F i).h)=true
theorem Gv (b:Nat) (o:Hq) (u:Vw) (d:Said) (k:Nat):YC (Wj b (Ul (YC o)) (Zi (ZX u)) d k)=YC (Wj b o u d k):=by
 unfold Wj;split<;>rfl
theorem Pg {n b b':Nat} {o:Hq} {u:Vw} {d d':Said} (hb:b'=b) (hd:d'=d):BEq (We n (Wj b' (Ul (YC o)) (Zi (ZX u)) d')) (RV n fun k=>YC (Wj b o u d k)):=by
 subst hb;subst hd;exact⟨rfl,rfl,rfl,rfl,.inr (.inl ⟨_,_,_,rfl,rfl,fun k _=>Gv b' o u d' k⟩)⟩
abbrev AW:Nat:=100080000000000000000000000000000000000000007
abbrev TC:Nat:=100000000000000000000000000000000000000000000000000000
abbrev UC (c:Cfg) (k:Nat) (F:Nat->RunV) (me:Int) (s:T6) (q:List AC):List ABlk:=TB c s.u s.x s.x s.S (XN (XR c me) c.nt) (Va (XR c me) c.nt) (fun j=>s.S (Va (XR c me) c.nt j)) q k F
theorem jjqa {c:Cfg} (f:PxC c) {s:T6} (h:TZ s) (hm:QK c s.u=true) (hx0:s.x=0) {k:Nat} {F:Nat->RunV} (w:McF k F) (me:Int) {q:List AC} (hq:KpOk q) {eb:List (Option ABlk)} (hL:BL (UC c k F me s q) eb):
 LoopV prog (ZW prog 3 0) mcH mcI ((TD k me 0).map some) eb 225 AW (ZQ 225 []) SH TC (.exit 0) none:=by
 refine CJ hEMy (fuel:=100) (str:=nSt) (nh:=J8) (S:=Nat × List AC) (fun z=>z.1<=k/\KpOk z.2) (fun z=>k-z.1) mcH [] mcI (fun z=>TD k me z.1) (fun z=>UC c k F me (Yu c F s z.1) z.2) (by decide) (by decide) (by decide) (s0:=(0,q)) ⟨Nat.zero_le _,hq⟩ (fun _=>⟨rfl,rfl⟩) (by kernel_rfl) hL (fun z hz=>⟨rfl,Ey (by decide) hz.2⟩) ?_;rintro⟨i,q1⟩ ⟨hi,hq1⟩;dsimp only at hi hq1;have hk:=w.k;obtain⟨ho,hmay,hx⟩:=DL f F h hm hx0 i (by omega);obtain⟨z,hz⟩:∃z,Yu c F s i=z:=⟨_,rfl⟩
 have hs:Yu c F s (i+1)=Mc c z (QV i (F i).s):=by show Mc c (Yu c F s i) _=_;rw[hz]
 rw[hz] at ho hmay hx;have g:=f.g;have n4:=g.n4;have n16:=g.n16;have hnt:=g.nt;obtain⟨m,hmm⟩:∃m,XN (XR c me) c.nt=m:=⟨_,rfl⟩
 obtain⟨σ,hσ⟩:∃σ,Va (XR c me) c.nt=σ:=⟨_,rfl⟩
 have hml:m<=8:=by rw[<- hmm];exact Nat.le_trans (NM _ _) hnt
 have hσl:∀j,j<m->σ j<c.nt:=fun j hj=>by
  rw[<- hmm] at hj;rw[<- hσ];exact(jjll hj).1
 have wo:=w.s i;have wh:=w.h i;rcases Nat.lt_or_ge i k with hlt|hge
 . have w1 :=Sn (show i<9223372036854775807 by omega)
   have hxl:z.x<1099511627776:=by rw[hx];simp;omega
   obtain⟨y1,y2⟩:=BD ho.x0 hxl;have hpy:XU z.x=Int.ofNat (i+1):=by rw[y1,hx];rfl
   obtain⟨D,hD⟩:∃D,QV i (F i).s=D:=⟨_,rfl⟩
   obtain⟨O,hO⟩:∃O,mcO i (F i).s (F i).h=O:=⟨_,rfl⟩
   have Dx:D=GH z.x D:=by rw[hx,<- hD];exact jjqd i _
   have Dok:D.Ok:=by rw[<- hD];exact jjqe (by omega) wo
   have Ook:Zn Held.ks (YC O)=true:=by rw[<- hO];exact jjqc (by omega) _ wh
   have b0:0<=Int.tmod (Int.ofNat i) c.nodes:=Int.tmod_nonneg _ (by simp);have b1:Int.tmod (Int.ofNat i) c.nodes<c.nodes:=Int.tmod_lt_of_pos _ (by omega);have hbn:(Int.tmod (Int.ofNat i) c.nodes).toNat<c.nodes.toNat:=by omega
   have hnn:((c.nodes.toNat:Nat):Int)=c.nodes:=Int.toNat_of_nonneg (by omega)
   have hF:CqF c z.u z.x D (fun j=>YC (Wj (Int.tmod (Int.ofNat i) c.nodes).toNat O z.u D j)):=by
    refine⟨LW Ook ho.v Dok _,Eh Ook ho.v Dok (by omega) hmay,?_,F6 Ook ho.v Dok (by omega) hmay⟩;have:=jjqb (show i<=60 by omega) (F i).s (b:=(Int.tmod (Int.ofNat i) c.nodes).toNat) (n:=c.nodes.toNat) (o:=O) (u:=z.u) hbn (by omega) (by omega);rw[hD,hnn] at this;rw[hx];exact this
   obtain⟨q2,hq2,cr⟩:=jjkp f ho hxl m hml σ hσl hq1 D Dx _ hF;have ca:=fun {eb}=>jjme f ho hxl D (eb:=eb)
   rw[<- Dx] at ca;have hn:Mc c z D=⟨RF c z D,XU z.x,Pw c z D⟩:=if_pos hxl;rw[hD] at hs;obtain⟨W,hW⟩:∃W,RF c z D=W:=⟨_,rfl⟩
   obtain⟨S2,hS2⟩:∃S2,Pw c z D=S2:=⟨_,rfl⟩
   rw[hW,hS2] at ca cr hn;obtain⟨G,hG⟩:∃G,TX c z.x S2=G:=⟨_,rfl⟩
   rw[hG] at ca cr;obtain⟨y,hy⟩:∃y,XU z.x=y:=⟨_,rfl⟩
   rw[hy] at ca cr hn hpy;obtain⟨x,hxx⟩:∃x,z.x=x:=⟨_,rfl⟩
   have mj:=fun {eb}=>jjq8 c W x y D S2 G (fun j=>S2 (σ j)) hq2 (fun j=>G (σ j)) k F me i hnt (fun j hj=>by rw[hσ]) (eb:=eb)
   rw[hmm,hσ] at mj;rw[hxx] at ca cr hx;have d0:(decide (Int.ofNat i<(k:Int))==true)=true:=by simp;omega
   have d1:decide (Int.ofNat 0<=Int.ofNat i/\Int.ofNat i<(k:Int))=true:=by simp;omega
   have dx:((x !=x)==false)=true:=by simp
   have dm:((Int.ofNat m !=(m:Int))==false)=true:=by simp
   have dn1:decide (Int.ofNat 1<=c.nodes)=true:=decide_eq_true (by simp;omega);have dn2:decide (c.nodes<=Int.ofNat 1000)=true:=decide_eq_true (by simp;omega)
   have fin:∀r:VC,(ZZ r.2.2.2.2.2.1/\(∀p∈r.2.2.2.2.2.2,p)/\r.2.2.2.2.1<=TC/\r.2.2.2.1=225/\r.1= .normal/\List.take mcH.length r.2.1=(TD k me (i+1)).map some/\BL (TB c W y y S2 m σ (fun j=>S2 (σ j)) q2 k F) r.2.2.1)->R1 AW TC 225 mcH [] mcI (fun z:Nat × List AC=>z.1<=k/\KpOk z.2) (fun z=>k-z.1) (fun z=>TD k me z.1) (fun z=>UC c k F me (Yu c F s z.1) z.2) (.exit 0) [] SH (i,q1) r:=by
    rintro r ⟨r1,r2,r3,r4,r5,r6,r7⟩;refine⟨r1,r2,r3,r4,.inl ⟨r5,(i+1,q2),⟨hlt,hq2⟩,by show k-(i+1)<k-i;omega,r6,?_⟩⟩;show BL (UC c k F me (Yu c F s (i+1)) q2) _;rw[hs,hn];unfold UC;rw[hmm,hσ];exact r7
   have pre:UC c k F me (Yu c F s i) q1=TB c z.u x x z.S m σ (fun j=>z.S (σ j)) q1 k F:=by
    unfold UC;rw[hz,hmm,hσ,hxx]
   have run:(∃p lp r,Pp prog c z.u x x z.S m σ (fun j=>z.S (σ j)) q1 k F me i p lp=some r/\(ZZ r.2.2.2.2.2.1/\(∀p∈r.2.2.2.2.2.2,p)/\r.2.2.2.2.1<=TC/\r.2.2.2.1=225/\r.1= .normal/\List.take mcH.length r.2.1=(TD k me (i+1)).map some/\BL (TB c W y y S2 m σ (fun j=>S2 (σ j)) q2 k F) r.2.2.1))->∃p lp r,view (mcH++[]) mcI (fC (EMy prog) 100 (ZW prog 3 0) J8 nSt ⟨ZQ 225 (mcH.zip (TD k me i)),mcI.zip (UC c k F me (Yu c F s i) q1),0,0,false,p,[],[],[],none,lp⟩)=some r/\R1 AW TC 225 mcH [] mcI (fun z:Nat × List AC=>z.1<=k/\KpOk z.2) (fun z=>k-z.1) (fun z=>TD k me z.1) (fun z=>UC c k F me (Yu c F s z.1) z.2) (.exit 0) [] SH (i,q1) r:=by
    rintro⟨p,lp,r,h1,h2⟩;exact⟨p,lp,r,by rw[pre];exact h1,fin r h2⟩
   refine run ?_;clear run fin pre;have e0:(F (0+Int.toNat (Int.ofNat i)))=F i:=by rw[Xs]
   cases hy1:decide ((F i).s.p.kind=1) with
   | true=>
    have K1:(F i).s.p.kind=1:=of_decide_eq_true hy1;have k1:((Payload.kind (Said.p (RunV.s (F i))) !=Int.ofNat 1)==false)=true:=by rw[K1];rfl
    cases his:(F i).s.is with
    | true =>
     have ki:((!Said.is (RunV.s (F i)))==false)=true:=by rw[his];rfl
     have eD:D=⟨true,Int.ofNat i,(F i).s.p⟩:=by rw[<- hD];exact if_pos ⟨his,.inl K1⟩
     have eO:O=(F i).h:=by rw[<- hO];exact if_pos ⟨his,.inl K1⟩
     refine(?_:(∃p r,Pp prog c z.u x x z.S m σ (fun j=>z.S (σ j)) q1 k F me i p [some (MB c x y D W S2 G),some (MC c x y D W m σ (fun j=>S2 (σ j)) q2 fun j=>G (σ j)),some (MA c W x y D S2 G m σ (fun j=>S2 (σ j)) q2 (fun j=>G (σ j)) k F me i)]=some r/\_)->_) (A9 c z.u W x y z.S S2 G D m σ (fun j=>z.S (σ j)) (fun j=>S2 (σ j)) q1 q2 (fun j=>G (σ j)) k F me i (fun r=>ZZ r.2.2.2.2.2.1/\(∀p∈r.2.2.2.2.2.2,p)/\r.2.2.2.2.1<=TC/\r.2.2.2.1=225/\r.1= .normal/\List.take mcH.length r.2.1=(TD k me (i+1)).map some/\BL (TB c W y y S2 m σ (fun j=>S2 (σ j)) q2 k F) r.2.2.1) ?_)
     . rintro⟨p,r,h1,h2⟩
       exact⟨p,_,r,h1,h2⟩
     . refine⟨?_,?_,by dsimp only;decide,rfl,rfl,?_,BL.refl (TB c W y y S2 m σ (fun j=>S2 (σ j)) q2 k F)⟩
       . simp only[ZZ,List.forall_mem_cons,List.not_mem_nil,false_implies,implies_true,and_true,true_and,e0]
         have fo:Zn Held.ks (YC O)=true:=Ook;rw[eO] at fo
         repeat' apply And.intro
         all_goals first|exact d0|exact d1|exact dx|exact dm|exact dn1|exact dn2|exact k1|exact ki|exact fo|rfl|(rw[Ry];rfl)|(simp[YK,Xt,Xu];done)|(simp[YK,Xt,Xu];omega)
       . simp only[List.forall_mem_cons,List.not_mem_nil,false_implies,implies_true,and_true,e0,his]
         refine⟨mj (BL.refl (UD c W x y D S2 G m σ (fun j=>S2 (σ j)) q2 (fun j=>G (σ j)) k F)),?_,?_⟩
         . have hh:=cr (eb:=some (We c.nodes.toNat (Wj (Int.tmod (Int.ofNat i) c.nodes).toNat (Ul (YC O)) (Zi (ZX z.u)) D))::(XP c z.u x m σ (fun j=>z.S (σ j)) q1).map some) ⟨Pg rfl rfl,BL.refl _⟩
           rw[hpy] at hh ⊢;rw[w1];rw[eO,eD] at hh;rw[eD];exact hh
         . have hh:=(ca (BL.refl (Wc c z.u x z.S))).mono (show 1000000000000000000000000000000000000000000035<=YQ by decide)
           rw[eD] at hh ⊢;exact hh
       . dsimp only;rw[w1];rfl
    |false=>
     have ki:((!Said.is (RunV.s (F i)))==true)=true:=by rw[his];rfl
     have hno:¬((F i).s.is=true/\((F i).s.p.kind=1\/(F i).s.p.kind=2)):=fun hh=>by rw[his] at hh;exact absurd hh.1 Bool.false_ne_true
     have eD:D=Said.zero:=by rw[<- hD];exact if_neg hno
     have eO:O= {(F i).h with ra:=Int.ofNat i}:=by rw[<- hO];exact if_neg hno
     refine(?_:(∃p r,Pp prog c z.u x x z.S m σ (fun j=>z.S (σ j)) q1 k F me i p [some (MB c x y D W S2 G),some (MC c x y D W m σ (fun j=>S2 (σ j)) q2 fun j=>G (σ j)),some (MA c W x y D S2 G m σ (fun j=>S2 (σ j)) q2 (fun j=>G (σ j)) k F me i)]=some r/\_)->_) (A6 c z.u W x y z.S S2 G D m σ (fun j=>z.S (σ j)) (fun j=>S2 (σ j)) q1 q2 (fun j=>G (σ j)) k F me i (fun r=>ZZ r.2.2.2.2.2.1/\(∀p∈r.2.2.2.2.2.2,p)/\r.2.2.2.2.1<=TC/\r.2.2.2.1=225/\r.1= .normal/\List.take mcH.length r.2.1=(TD k me (i+1)).map some/\BL (TB c W y y S2 m σ (fun j=>S2 (σ j)) q2 k F) r.2.2.1) ?_)
     . rintro⟨p,r,h1,h2⟩
       exact⟨p,_,r,h1,h2⟩
     . refine⟨?_,?_,by dsimp only;decide,rfl,rfl,?_,BL.refl (TB c W y y S2 m σ (fun j=>S2 (σ j)) q2 k F)⟩
       . simp only[ZZ,List.forall_mem_cons,List.not_mem_nil,false_implies,implies_true,and_true,true_and,e0]
         have fo:Zn Held.ks (YC O)=true:=Ook;rw[eO] at fo
         repeat' apply And.intro
         all_goals first|exact d0|exact d1|exact dx|exact dm|exact dn1|exact dn2|exact k1|exact ki|exact fo|rfl|(rw[Ry];rfl)|(simp[YK,Xt,Xu];done)|(simp[YK,Xt,Xu];omega)
       . simp only[List.forall_mem_cons,List.not_mem_nil,false_implies,implies_true,and_true,e0]
         refine⟨mj (BL.refl (UD c W x y D S2 G m σ (fun j=>S2 (σ j)) q2 (fun j=>G (σ j)) k F)),?_,?_⟩
         . have hh:=cr (eb:=some (We c.nodes.toNat (Wj (Int.tmod (Int.ofNat i) c.nodes).toNat (Ul (YC O)) (Zi (ZX z.u)) D))::(XP c z.u x m σ (fun j=>z.S (σ j)) q1).map some) ⟨Pg rfl rfl,BL.refl _⟩
           rw[hpy] at hh ⊢;rw[w1];rw[eO,eD] at hh;rw[eD];exact hh
         . have hh:=(ca (BL.refl (Wc c z.u x z.S))).mono (show 1000000000000000000000000000000000000000000042<=YQ by decide)
           rw[eD] at hh ⊢;exact hh
       . dsimp only;rw[w1];rfl
   | false =>
    have K1:(F i).s.p.kind≠1:=of_decide_eq_false hy1;have k1:((Payload.kind (Said.p (RunV.s (F i))) !=Int.ofNat 1)==true)=true:=by simp[K1]
    cases hy2:decide ((F i).s.p.kind=2) with
    | true=>
     have K2:(F i).s.p.kind=2:=of_decide_eq_true hy2;have k2:((Payload.kind (Said.p (RunV.s (F i))) !=Int.ofNat 2)==false)=true:=by rw[K2];rfl
     cases his:(F i).s.is with
     | true =>
      have ki:((!Said.is (RunV.s (F i)))==false)=true:=by rw[his];rfl
      have eD:D=⟨true,Int.ofNat i,(F i).s.p⟩:=by rw[<- hD];exact if_pos ⟨his,.inr K2⟩
      have eO:O=(F i).h:=by rw[<- hO];exact if_pos ⟨his,.inr K2⟩
      refine(?_:(∃p r,Pp prog c z.u x x z.S m σ (fun j=>z.S (σ j)) q1 k F me i p [some (MB c x y D W S2 G),some (MC c x y D W m σ (fun j=>S2 (σ j)) q2 fun j=>G (σ j)),some (MA c W x y D S2 G m σ (fun j=>S2 (σ j)) q2 (fun j=>G (σ j)) k F me i)]=some r/\_)->_) (Aa c z.u W x y z.S S2 G D m σ (fun j=>z.S (σ j)) (fun j=>S2 (σ j)) q1 q2 (fun j=>G (σ j)) k F me i (fun r=>ZZ r.2.2.2.2.2.1/\(∀p∈r.2.2.2.2.2.2,p)/\r.2.2.2.2.1<=TC/\r.2.2.2.1=225/\r.1= .normal/\List.take mcH.length r.2.1=(TD k me (i+1)).map some/\BL (TB c W y y S2 m σ (fun j=>S2 (σ j)) q2 k F) r.2.2.1) ?_)
      . rintro⟨p,r,h1,h2⟩
        exact⟨p,_,r,h1,h2⟩
      . refine⟨?_,?_,by dsimp only;decide,rfl,rfl,?_,BL.refl (TB c W y y S2 m σ (fun j=>S2 (σ j)) q2 k F)⟩
        . simp only[ZZ,List.forall_mem_cons,List.not_mem_nil,false_implies,implies_true,and_true,true_and,e0]
          have fo:Zn Held.ks (YC O)=true:=Ook;rw[eO] at fo
          repeat' apply And.intro
          all_goals first|exact d0|exact d1|exact dx|exact dm|exact dn1|exact dn2|exact k1|exact k2|exact ki|exact fo|rfl|(rw[Ry];rfl)|(simp[YK,Xt,Xu];done)|(simp[YK,Xt,Xu];omega)
        . simp only[List.forall_mem_cons,List.not_mem_nil,false_implies,implies_true,and_true,e0,his]
          refine⟨mj (BL.refl (UD c W x y D S2 G m σ (fun j=>S2 (σ j)) q2 (fun j=>G (σ j)) k F)),?_,?_⟩
          . have hh:=cr (eb:=some (We c.nodes.toNat (Wj (Int.tmod (Int.ofNat i) c.nodes).toNat (Ul (YC O)) (Zi (ZX z.u)) D))::(XP c z.u x m σ (fun j=>z.S (σ j)) q1).map some) ⟨Pg rfl rfl,BL.refl _⟩
            rw[hpy] at hh ⊢;rw[w1];rw[eO,eD] at hh;rw[eD];exact hh
          . have hh:=(ca (BL.refl (Wc c z.u x z.S))).mono (show 1000000000000000000000000000000000000000000039<=YQ by decide)
            rw[eD] at hh ⊢;exact hh
        . dsimp only;rw[w1];rfl
     |false=>
      have ki:((!Said.is (RunV.s (F i)))==true)=true:=by rw[his];rfl
      have hno:¬((F i).s.is=true/\((F i).s.p.kind=1\/(F i).s.p.kind=2)):=fun hh=>by rw[his] at hh;exact absurd hh.1 Bool.false_ne_true
      have eD:D=Said.zero:=by rw[<- hD];exact if_neg hno
      have eO:O= {(F i).h with ra:=Int.ofNat i}:=by rw[<- hO];exact if_neg hno
      refine(?_:(∃p r,Pp prog c z.u x x z.S m σ (fun j=>z.S (σ j)) q1 k F me i p [some (MB c x y D W S2 G),some (MC c x y D W m σ (fun j=>S2 (σ j)) q2 fun j=>G (σ j)),some (MA c W x y D S2 G m σ (fun j=>S2 (σ j)) q2 (fun j=>G (σ j)) k F me i)]=some r/\_)->_) (A7 c z.u W x y z.S S2 G D m σ (fun j=>z.S (σ j)) (fun j=>S2 (σ j)) q1 q2 (fun j=>G (σ j)) k F me i (fun r=>ZZ r.2.2.2.2.2.1/\(∀p∈r.2.2.2.2.2.2,p)/\r.2.2.2.2.1<=TC/\r.2.2.2.1=225/\r.1= .normal/\List.take mcH.length r.2.1=(TD k me (i+1)).map some/\BL (TB c W y y S2 m σ (fun j=>S2 (σ j)) q2 k F) r.2.2.1) ?_)
      . rintro⟨p,r,h1,h2⟩
        exact⟨p,_,r,h1,h2⟩
      . refine⟨?_,?_,by dsimp only;decide,rfl,rfl,?_,BL.refl (TB c W y y S2 m σ (fun j=>S2 (σ j)) q2 k F)⟩
        . simp only[ZZ,List.forall_mem_cons,List.not_mem_nil,false_implies,implies_true,and_true,true_and,e0]
          have fo:Zn Held.ks (YC O)=true:=Ook;rw[eO] at fo
          repeat' apply And.intro
          all_goals first|exact d0|exact d1|exact dx|exact dm|exact dn1|exact dn2|exact k1|exact k2|exact ki|exact fo|rfl|(rw[Ry];rfl)|(simp[YK,Xt,Xu];done)|(simp[YK,Xt,Xu];omega)
        . simp only[List.forall_mem_cons,List.not_mem_nil,false_implies,implies_true,and_true,e0]
          refine⟨mj (BL.refl (UD c W x y D S2 G m σ (fun j=>S2 (σ j)) q2 (fun j=>G (σ j)) k F)),?_,?_⟩
          . have hh:=cr (eb:=some (We c.nodes.toNat (Wj (Int.tmod (Int.ofNat i) c.nodes).toNat (Ul (YC O)) (Zi (ZX z.u)) D))::(XP c z.u x m σ (fun j=>z.S (σ j)) q1).map some) ⟨Pg rfl rfl,BL.refl _⟩
            rw[hpy] at hh ⊢;rw[w1];rw[eO,eD] at hh;rw[eD];exact hh
          . have hh:=(ca (BL.refl (Wc c z.u x z.S))).mono (show 1000000000000000000000000000000000000000000046<=YQ by decide)
            rw[eD] at hh ⊢;exact hh
        . dsimp only;rw[w1];rfl
    |false=>
     have K2:(F i).s.p.kind≠2:=of_decide_eq_false hy2;have k2:((Payload.kind (Said.p (RunV.s (F i))) !=Int.ofNat 2)==true)=true:=by simp[K2]
     have hno:¬((F i).s.is=true/\((F i).s.p.kind=1\/(F i).s.p.kind=2)):=fun hh=>hh.2.elim K1 K2
     have eD:D=Said.zero:=by rw[<- hD];exact if_neg hno
     have eO:O= {(F i).h with ra:=Int.ofNat i}:=by rw[<- hO];exact if_neg hno
     refine(?_:(∃p r,Pp prog c z.u x x z.S m σ (fun j=>z.S (σ j)) q1 k F me i p [some (MB c x y D W S2 G),some (MC c x y D W m σ (fun j=>S2 (σ j)) q2 fun j=>G (σ j)),some (MA c W x y D S2 G m σ (fun j=>S2 (σ j)) q2 (fun j=>G (σ j)) k F me i)]=some r/\_)->_) (A8 c z.u W x y z.S S2 G D m σ (fun j=>z.S (σ j)) (fun j=>S2 (σ j)) q1 q2 (fun j=>G (σ j)) k F me i (fun r=>ZZ r.2.2.2.2.2.1/\(∀p∈r.2.2.2.2.2.2,p)/\r.2.2.2.2.1<=TC/\r.2.2.2.1=225/\r.1= .normal/\List.take mcH.length r.2.1=(TD k me (i+1)).map some/\BL (TB c W y y S2 m σ (fun j=>S2 (σ j)) q2 k F) r.2.2.1) ?_)
     . rintro⟨p,r,h1,h2⟩
       exact⟨p,_,r,h1,h2⟩
     . refine⟨?_,?_,by dsimp only;decide,rfl,rfl,?_,BL.refl (TB c W y y S2 m σ (fun j=>S2 (σ j)) q2 k F)⟩
       . simp only[ZZ,List.forall_mem_cons,List.not_mem_nil,false_implies,implies_true,and_true,true_and,e0]
         have fo:Zn Held.ks (YC O)=true:=Ook;rw[eO] at fo
         repeat' apply And.intro
         all_goals first|exact d0|exact d1|exact dx|exact dm|exact dn1|exact dn2|exact k1|exact k2|exact fo|rfl|(rw[Ry];rfl)|(simp[YK,Xt,Xu];done)|(simp[YK,Xt,Xu];omega)
       . simp only[List.forall_mem_cons,List.not_mem_nil,false_implies,implies_true,and_true,e0]
         refine⟨mj (BL.refl (UD c W x y D S2 G m σ (fun j=>S2 (σ j)) q2 (fun j=>G (σ j)) k F)),?_,?_⟩
         . have hh:=cr (eb:=some (We c.nodes.toNat (Wj (Int.tmod (Int.ofNat i) c.nodes).toNat (Ul (YC O)) (Zi (ZX z.u)) D))::(XP c z.u x m σ (fun j=>z.S (σ j)) q1).map some) ⟨Pg rfl rfl,BL.refl _⟩
           rw[hpy] at hh ⊢;rw[w1];rw[eO,eD] at hh;rw[eD];exact hh
         . have hh:=(ca (BL.refl (Wc c z.u x z.S))).mono (show 1000000000000000000000000000000000000000000048<=YQ by decide)
           rw[eD] at hh ⊢;exact hh
       . dsimp only;rw[w1];rfl
 . obtain rfl:i=k:=Nat.le_antisymm hi hge
   refine(?_:(∃p r,Pp prog c z.u z.x z.x z.S (XN (XR c me) c.nt) (Va (XR c me) c.nt) (fun j=>z.S (Va (XR c me) c.nt j)) q1 i F me i p []=some r/\_)->_) (mxE c z.u z.x z.S (XN (XR c me) c.nt) (Va (XR c me) c.nt) (fun j=>z.S (Va (XR c me) c.nt j)) q1 i F me i (R1 AW TC 225 mcH [] mcI (fun z:Nat × List AC=>z.1<=i/\KpOk z.2) (fun z=>i-z.1) (fun z=>TD i me z.1) (fun z=>UC c i F me (Yu c F s z.1) z.2) (.exit 0) [] SH (i,q1)) ?_)
   . rintro⟨p,r,h1,h2⟩
     refine⟨p,[],r,?_,h2⟩;show view _ _ (fC _ _ _ _ _ ⟨_,mcI.zip (UC c i F me (Yu c F s i) q1),_,_,_,_,_,_,_,_,_⟩)=_;unfold UC;rw[hz];exact h1
   . have d0:(decide (Int.ofNat i<(i:Int))==false)=true:=by simp
     refine⟨by simp only[ZZ,List.forall_mem_cons,d0];simp,(fun q hq=>by cases hq),by dsimp only;decide,rfl,.inr ⟨by simp,rfl,(fun q hq=>by cases hq),fun p hp=>?_⟩⟩;simp only[SH,mS,mE,List.cons_append,List.nil_append,List.mem_cons,List.not_mem_nil,or_false] at hp;rcases hp with rfl|rfl
     . exact⟨rfl,Yg rfl,_,.head _,BEq.refl _⟩
     . exact⟨rfl,Yg rfl,_,.tail _ (.head _),BEq.refl _⟩
theorem jjo6 {c:Cfg} (f:PxC c) (u v:Vw) (m:Nat) (hm:m<=8) (σ:Nat->Nat) (T:Nat->ZJ) (hT:∀j,YO (T j).rnd=true) {q:List AC} (hq:KpOk q) (F:Nat->List AC) (hF:YS c.nodes.toNat F=true) (hb:ZX (OG c c.nodes.toNat (ZT c (2*c.np)) c.nodes.toNat F)=ZX v) (ht:V5 (Zx (XQ c c.nodes.toNat (ZT c (2*c.np))) (ZX (Xr c c.nodes.toNat (ZT c (2*c.np)))) (min c.nodes.toNat c.nodes.toNat) F)=true):
 ∃g,∀{eb:List (Option ABlk)},BL (RV c.nodes.toNat F::XP c u (Int.negSucc 0) m σ T q) eb->CallV prog 9 [.c (.ptr Yz 0 0),i64 (Int.ofNat 0),.c (.sl My 0 0 c.nodes.toNat none)] (My::cqI) eb Mx (Jw (Int.negSucc 0) Said.zero v Mx m) (MQ Mx c v (Int.ofNat 0) m σ T q g) AS:=by
 have g:=f.g;have n4:=g.n4;have n16:=g.n16;have hv:YO (IntKind.wrap .i64 (Int.tdiv (Int.ofNat 0) c.ns))=true:=NN _
 have ns:decide ((c.ns:Int)≠Int.ofNat 0)=true:=by
  have:=g.s1;exact decide_eq_true (by simp;omega)
 have c1:decide (c.nodes.toNat<=c.nodes.toNat)=true:=decide_eq_true (Nat.le_refl _);have c2:decide (c.nodes.toNat<=1000000)=true:=decide_eq_true (by omega);have sb:Y5 (ZX (OG c c.nodes.toNat (ZT c (2*c.np)) c.nodes.toNat F)) (ZX v)=true:=by rw[hb];exact DD v
 have sp:GC ⟨c,c.nodes.toNat,ZT c (2*c.np),c.nodes.toNat,F⟩=true:=by
  have hr:Zq c c.nodes.toNat≠0:=by have:=NU g;simpa using this
  show (decide (Zq c c.nodes.toNat≠0)&&(WN c c.nodes.toNat&&(decide (0<=c.nodes)&&(decide (c.nodes.toNat<=1000000)&&(YS c.nodes.toNat F&&V5 _)))))=true;rw[J3 g,hF,ht,c2,decide_eq_true hr,decide_eq_true (show 0<=c.nodes by omega)];rfl
 have cn:(Zf c c.nodes.toNat (ZT c (2*c.np))&&(decide (c.nodes.toNat<=c.nodes.toNat)&&(Nat.beq 56 56&&YS c.nodes.toNat F)))=true:=by rw[YN,c1,hF];rfl
 have z0:(Int.tmod (Int.ofNat 0) (c.ns:Int)==Int.ofNat 0)=true:=by simp
 obtain⟨g0,hg0⟩:∃g0,Tl c σ T (IntKind.wrap .i64 (Int.tdiv (Int.ofNat 0) c.ns)) m=g0:=⟨_,rfl⟩
 refine⟨g0,fun hE=>?_⟩;refine IX (ZX v) [] c u v (Int.negSucc 0) (Int.ofNat 0) (Int.negSucc 0) Said.zero m σ T T T q hq F g0 g0 My Xq Mx AS (by decide) rfl (by decide) (by decide) (by kernel_rfl) (fun _ _=>rfl) (fun _ _=>rfl) (by kernel_rfl) (by kernel_rfl) ?_ hE;refine(?_:(∃p r,BI prog (Xq::My::cqI) (ZX v) c u m σ T q F p [some (Bw c v 0 m σ T q g0)]=some r/\_)->_) (csZ c u v m σ T q F g0 (fun z=>z.1=Jw (Int.negSucc 0) Said.zero v Xq m/\(∃x,z.2.1=some (Zg m g0)::x::(XP c v (Int.ofNat 0) m σ T q).map some)/\z.2.2.1<=AS/\ZZ z.2.2.2.1/\∀e∈z.2.2.2.2,e) ?_)
 . rintro⟨p,r,h1,h2⟩
   exact⟨p,_,r,h1,h2⟩
 . refine⟨rfl,⟨_,rfl⟩,by dsimp only;decide,?_,?_⟩
   . simp only[ZZ,List.forall_mem_cons,List.not_mem_nil,false_implies,implies_true,and_true,true_and]
     repeat' apply And.intro
     all_goals first|exact ns|exact c1|exact c2|exact sb|exact sp|exact cn|exact YN _ _ _|rfl|(rw[z0];rfl)
   . simp only[List.forall_mem_cons,List.not_mem_nil,false_implies,implies_true,and_true]
     rw[<- hg0];have hh:=jjks c v (Int.ofNat 0) m σ T hq (IntKind.wrap .i64 (Int.tdiv (Int.ofNat 0) c.ns)) hm f.st f.hh hv hT (BL.refl (Zs c v (Int.ofNat 0) m σ T q));exact hh.mono (by decide)
abbrev AX (c:Cfg) (v:Vw) (k:Nat) (F:Nat->RunV):Prop:=∃p lp r,JT prog Zu c v k F p lp=some r/\Z6 (bo true) r
theorem jjmq (c:Cfg) (v:Vw) (k:Nat) (F:Nat->RunV) (h0:Zu c≠0) (hb:c.nb<=9223372036854775807):∃p r,NZ prog Zu c v k F p []=some r/\Z6 (bo true) r:=by
 refine mgN Zu c v k F _ ?_
 (repeat' (first|refine⟨fun h=>?_,fun h=>?_⟩|fail))
 all_goals (refine⟨rfl,(by first|(unfold ZR;omega)|(dsimp only;unfold ZR;omega)),?_,by simp⟩)
 all_goals (simp only[decide_eq_true_eq,decide_eq_false_iff_not] at *)
 all_goals first
  |(simp_all[ZZ,Yb,YN,Yi,Ya,XZ,Y0,h0,hb];done)
  |(simp_all[ZZ,Yb,YN,Yi,Ya,XZ,Y0,h0,hb];omega)
theorem mg_a (c:Cfg) (v:Vw) (k:Nat) (F:Nat->RunV) (hk:60<k):AX c v k F:=by
 refine(?_:(∃p r,JT prog Zu c v k F p []=some r/\Z6 (bo true) r)->_) (mgA Zu c v k F _ ?_)
 . rintro⟨p,r,h1,h2⟩
   exact⟨p,_,r,h1,h2⟩
 . refine⟨rfl,(by first|(unfold ZR;omega)|(dsimp only;unfold ZR;omega)),?_,by simp⟩
   simp[ZZ];omega
theorem mg_b (c:Cfg) (v:Vw) (k:Nat) (F:Nat->RunV) (f:PxC c) (hk:k<=60) (hy:QK c v=false):AX c v k F:=by
 have g:=f.g;have h0:=f.e0;have np:=g.p8;have p2:=g.p2;have n4:=g.n4;have n16:=g.n16;have s1:=g.s1;have s16:=g.s16;have nt:=g.nt;have nb:=g.nb;refine(?_:(∃p r,JT prog Zu c v k F p []=some r/\Z6 (bo true) r)->_) (mgB Zu c v k F _ ?_)
 . rintro⟨p,r,h1,h2⟩
   exact⟨p,_,r,h1,h2⟩
 . refine⟨rfl,(by first|(unfold ZR;omega)|(dsimp only;unfold ZR;omega)),?_,by simp⟩
   have a1:((!XQ c c.nodes.toNat (ZT c (2*c.np)) (ZX v))==true)=true:=by rw[show XQ c c.nodes.toNat (ZT c (2*c.np)) (ZX v)=false from hy];rfl
   have a6:decide (Zu c=Int.ofNat 0)=true:=decide_eq_true h0;simp only[ZZ,List.forall_mem_cons,List.not_mem_nil,false_implies,implies_true,and_true,true_and]
   repeat' apply And.intro
   all_goals first
    |rfl
    |exact YN _ _ _
    |exact Yb _
    |exact a1
    |exact a6
    |(simp[Yb,YN,Yi,Ya,XZ,Y0];done)
    |(simp[Yb,YN,Yi,Ya,XZ,Y0]<;>omega)
abbrev hqZ:Hq:=⟨false,0,false,0,0,0,0,0,false,0,0,0,0,0,⟨fun _=>false,fun _=>0,fun _=>0,fun _=>0,fun _=>false,0,0⟩⟩
theorem Fu:KpOk GD:=by
 refine⟨rfl,fun x hx=>?_,fun i hi=>?_,fun i hi=>?_⟩
 . simp only[List.mem_cons,List.not_mem_nil,or_false] at hx
   repeat' (rcases hx with rfl|hx)
   all_goals first|exact⟨_,rfl⟩|(subst hx;exact⟨_,rfl⟩)
 . match i,hi with
   |0,_|1,_|2,_|3,_|4,_|5,_|6,_|7,_=>rfl
 . match i,hi with
   |0,_|1,_|2,_|3,_|4,_|5,_|6,_|7,_=>rfl
theorem A0 (c:Cfg) (v:Vw) (k:Nat) (F:Nat->RunV) (f:PxC c) (hv:v.Ok) (w:McF k F) (hy:QK c v=true):AX c v k F:=by
 have hk:=w.k;have g:=f.g;have h0:=f.e0;have np:=g.p8;have p2:=g.p2;have n4:=g.n4;have n16:=g.n16;have s1:=g.s1;have s16:=g.s16;have nt:=g.nt;have nb:=g.nb;have e0:∀z:Int,z-Int.ofNat 0=z:=Int.sub_zero
 obtain⟨me,hme⟩:∃me,Int.tmod (k:Int) c.nodes=me:=⟨_,rfl⟩
 have m0:0<=me:=by rw[<- hme];exact Int.tmod_nonneg _ (by simp)
 have m1:me<c.nodes:=by rw[<- hme];exact Int.tmod_lt_of_pos _ (by omega)
 have hml:XN (XR c me) c.nt<=8:=Nat.le_trans (NM _ _) nt;have zok:Zn Held.ks (YC hqZ)=true:=rfl;have sok:Said.zero.Ok:=⟨⟨by decide,by decide⟩,⟨by decide,by decide⟩,⟨by decide,by decide⟩,⟨by decide,by decide⟩,⟨by decide,by decide⟩⟩
 have zi:∀j:Nat,YO ((fun _:Nat=>Wd) j).rnd=true:=fun _=>rfl
 have po0:TZ ⟨v,0,fun _=>Wd⟩:=⟨hv,Int.le_refl 0,(show (0:Int)<=1099511627776 by decide),zi⟩
 obtain⟨gz,hz⟩:=jjo6 f (Xr c c.nodes.toNat (ZT c (2*c.np))) v (XN (XR c me) c.nt) hml (Va (XR c me) c.nt) (fun _=>Wd) zi Fu (fun j=>YC (Wj (Int.tmod (Int.ofNat 0) c.nodes).toNat hqZ v Said.zero j)) (LW zok hv sok _) (Eh zok hv sok (by omega) hy) (F6 zok hv sok (by omega) hy);refine(?_:(∃p r,JT prog Zu c v k F p [none,none,none,some (qwS c v (Xr c c.nodes.toNat (ZT c (2*c.np))) k F (XN (XR c me) c.nt) (Va (XR c me) c.nt)),some (crZ c v (XN (XR c me) c.nt) (Va (XR c me) c.nt) gz),some mcS]=some r/\Z6 (bo true) r)->_) (mgM Zu c v (Xr c c.nodes.toNat (ZT c (2*c.np))) k F (XN (XR c me) c.nt) (Va (XR c me) c.nt) gz _ ?_)
 . rintro⟨p,r,h1,h2⟩
   exact⟨p,_,r,h1,h2⟩
 refine⟨rfl,(by first|(unfold ZR;omega)|(dsimp only;unfold ZR;omega)),?_,?_⟩
 . have hrn:((Zq c c.nodes.toNat==Int.ofNat 0)==false)=true:=by rw[NU g];rfl
   have a1:((!XQ c c.nodes.toNat (ZT c (2*c.np)) (ZX v))==false)=true:=by rw[show XQ c c.nodes.toNat (ZT c (2*c.np)) (ZX v)=true from hy];rfl
   have a6:decide (Zu c=Int.ofNat 0)=true:=decide_eq_true h0;have a7:(((Int.ofNat c.nt) !=(c.nt:Int))==false)=true:=by simp
   have a8:(decide (Int.tmod (k:Int) c.nodes<Int.ofNat 0)==false)=true:=by rw[hme];simp;omega
   have a9:(decide (Int.tmod (k:Int) c.nodes≥c.nodes)==false)=true:=by rw[hme];simp;omega
   simp only[ZZ,List.forall_mem_cons,List.not_mem_nil,false_implies,implies_true,and_true,true_and];simp only[Nat.zero_add,Option.getD_some,e0,Int.toNat_natCast];clear hv po0 hz
   repeat' apply And.intro
   all_goals first
    |rfl
    |exact YN _ _ _
    |exact Yb _
    |exact hrn
    |exact a1
    |exact a6
    |exact a7
    |exact a8
    |exact a9
    |(rw[Ry];rfl)
    |(simp[Yb,YN,Yi,Ya,XZ,Y0,YR,Zt,YK,Xt,Xu];done)
    |(simp[Yb,YN,Yi,Ya,XZ,Y0,YR,Zt,YK,Xt,Xu]<;>omega)
    |(unfold zsOk;refine List.all_eq_true.2 fun k hk=>?_;rfl)
    |(unfold Mm;refine List.all_eq_true.2 fun k hk=>?_;rfl)
    |fail
 . simp only[List.forall_mem_cons,List.not_mem_nil,false_implies,implies_true,and_true]
   simp only[Nat.zero_add,Option.getD_some,e0,Int.toNat_natCast,hme];refine⟨jjqa f po0 hy rfl w me Fu (BL.refl (UC c k F me ⟨v,0,fun _=>Wd⟩ GD)),?_,?_⟩
   . have hh:=hz (eb:=some (We c.nodes.toNat (Wj (Int.tmod (Int.ofNat 0) c.nodes).toNat (Ul (YC hqZ)) (Zi (ZX v)) Said.zero))::(XP c (Xr c c.nodes.toNat (ZT c (2*c.np))) (Int.negSucc 0) (XN (XR c me) c.nt) (Va (XR c me) c.nt) (fun _=>Wd) GD).map some) ⟨Pg rfl rfl,BL.refl _⟩
     exact hh
   . refine jjpm c v (Xr c c.nodes.toNat (ZT c (2*c.np))) k F me nt ?_
     refine⟨BEq.refl _,BEq.refl _,BEq.refl _,BEq.refl _,BEq.refl _,BEq.refl _,BEq.refl _,BEq.refl _,BEq.refl _,BEq.refl _,BEq.refl _,BEq.refl _,BEq.refl _,⟨rfl,rfl,rfl,rfl,.inr (.inl ⟨_,_,_,rfl,rfl,fun i _=>rfl⟩)⟩,BEq.refl _,⟨rfl,rfl,rfl,rfl,.inr (.inl ⟨_,_,_,rfl,rfl,fun i _=>?_⟩)⟩,trivial⟩;rfl
end Go.Proofs.YtljeokninakliaaGreatDoor
end
