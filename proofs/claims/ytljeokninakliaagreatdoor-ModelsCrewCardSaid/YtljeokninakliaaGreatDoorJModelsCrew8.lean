/- Parts, one behind the other. Parts of a proof. -/
import Derived.Test.YtljeokninakliaaGreatDoorJModelsCrew3
import Derived.Test.YtljeokninakliaaGreatDoorJModelsCrew7
set_option linter.unusedSimpArgs false
set_option linter.unusedVariables false
section
namespace Go.Proofs.YtljeokninakliaaGreatDoor
open Go.RowKit
inductive Reach (ops:Array Oper):Nat->Nat->Prop
 |one {i:Nat} {o:Oper} {e:Edge}:ops[i]? =some o->e∈o.after.toList->Region.binds .any e=true->Reach ops i e.on
 |step {i j:Nat} {o:Oper} {e:Edge}:ops[i]? =some o->e∈o.after.toList->Region.binds .any e=true->Reach ops e.on j->Reach ops i j
theorem Is:∀(l q:List Bool) (j:Nat),(K3 l q).getD j false=true->l.getD j false=true\/q.getD j false=true
 | [],q,j,h=>.inr (by simpa[K3] using h)
 |x::r,[],j,h=>.inl (by simpa[K3] using h)
 |x::r,y::q,0,h=>by simpa[K3] using h
 |x::r,y::q,j+1,h=>by
  simp only[K3,List.getD_cons_succ] at h ⊢;exact Is r q j h
theorem CX:∀(n j:Nat),(SP n).getD j false=true->j=n
 |0,0,_=>rfl
 |0,j+1,h=>by simp[SP] at h
 |n+1,0,h=>by simp[SP] at h
 |n+1,j+1,h=>by
  simp only[SP,List.getD_cons_succ] at h;rw[CX n j h]
theorem If {acc:List (List Bool)} {j:Nat}:∀{l:List Edge},(RU acc l).getD j false=true->∃e∈l,Region.binds .any e=true/\(e.on=j\/(acc.getD e.on []).getD j false=true)
 | [],h=>by simp[RU] at h
 | e :: r,h=>by
  simp only[RU] at h;split at h
  . rename_i hb
    rcases Is _ _ _ h with h|h
    . exact⟨e,by simp,hb,.inl (CX _ _ h).symm⟩
    . rcases Is _ _ _ h with h|h
      . exact⟨e,by simp,hb,.inr h⟩
      . obtain⟨e',he,h1⟩:=If h
        exact⟨e',by simp[he],h1⟩
  . obtain⟨e',he,h1⟩:=If h
    exact⟨e',by simp[he],h1⟩
theorem Dn (ops:Array Oper):∀(l:List Oper) (acc:List (List Bool)),(∀j,l[j]? =ops[acc.length+j]?)->(∀i j,(acc.getD i []).getD j false=true->Reach ops i j)->
 ∀i j,((clo l acc).getD i []).getD j false=true->Reach ops i j
 | [],acc,_,h,i,j,hj=>h i j hj
 | o :: r,acc,hl,h,i,j,hj=>by
  have ho:ops[acc.length]? =some o:=by simpa using (hl 0).symm
  refine Dn ops r (acc++[RU acc o.after.toList]) (fun q=>?_) (fun i' j' h'=>?_) i j hj
  . have:=hl (q+1)
    simp only[List.getElem?_cons_succ] at this;rw[this,List.length_append];congr 1;simp;omega
  . by_cases hi:i'<acc.length
    . refine h i' j' ?_
      simp only[List.getD] at h' ⊢
      rwa[List.getElem?_append_left hi] at h'
    . by_cases he:i'=acc.length
      . subst he
        have h2:(RU acc o.after.toList).getD j' false=true:=by simpa[List.getD] using h'
        obtain⟨e,hm,hb,hc⟩:=If h2;rcases hc with rfl|hc
        . exact .one ho hm hb
        . exact .step ho hm hb (h _ _ hc)
      . have h2:(acc++[RU acc o.after.toList])[i']? =none:=List.getElem?_eq_none (by simp;omega)
        simp[List.getD,h2] at h'
theorem OV {ops:Array Oper} {i j:Nat} (h:Zv ops i j=true):Reach ops i j:=
 Dn ops ops.toList [] (fun j=>by simp) (fun i j h=>by simp at h) i j h
theorem L7 {ops:Array Oper} {listed:Array Bool} (hc:∀j oj,ops[j]? =some oj->listed.getD j false=true->∀e∈oj.after,Region.binds .any e=true->listed.getD e.on false=true):
 ∀{i j:Nat},Reach ops i j->(∀o,ops[i]? =some o->∀e∈o.after,Region.binds .any e=true->listed.getD e.on false=true)->listed.getD j false=true:=by
 intro i j h
 induction h with
 |one ho he hb=>exact fun h=>h _ ho _ (Array.mem_toList_iff.1 he) hb
 | @step i j o e ho he hb hr ih=>
  intro h;refine ih fun o' ho' e' he' hb'=>?_
  have h1:=h _ ho _ (Array.mem_toList_iff.1 he) hb;exact hc _ _ ho' h1 e' he' hb'
section
variable {P:Program} {C:Ctx} {ops:Array Oper}
def Yh (ops:Array Oper) (V:Nat->AV) (tm:List AV) (listed:Nat->Bool):Nat->List AV
 |0=>tm
 |k+1=>if listed k then WR (Yh ops V tm listed k) ((ops[k]?).bind (·.dst)) (V k) else Yh ops V tm listed k
theorem jjc9 (tm:List AV) (d:Option Tmp) (v:AV):(WR tm d v).length=tm.length:=by cases d<;>simp[WR]
theorem S7 (V:Nat->AV) (tm:List AV) (listed:Nat->Bool):∀k,(Yh ops V tm listed k).length=tm.length
 |0=>rfl
 |k+1=>by
  simp only[Yh];split
  . rw[jjc9,S7 V tm listed k]
  . exact S7 V tm listed k
theorem Lq (tm:List AV) (d:Option Tmp) (v:AV) (t:Nat):(WR tm d v)[t]? =if d=some t then (if t<tm.length then some v else none) else tm[t]?:=by
 cases d with
 |none=>simp[WR]
 |some d=>
  simp only[WR,Option.some.injEq];rw[List.getElem?_set];by_cases e:d=t
  . subst e;simp
  . simp[e]
theorem Ny (V:Nat->AV) (tm:List AV) (l:Nat->Bool) (k t:Nat):(Yh ops V tm l (k+1))[t]? =
 if l k=true/\(ops[k]?).bind (·.dst)=some t then (if t<tm.length then some (V k) else none) else (Yh ops V tm l k)[t]?:=by
 simp only[Yh];split
 . rename_i h
   rw[Lq,S7];simp[h]
 . rename_i h
   rw[if_neg (fun c=>h c.1)]
theorem Qs {V:Nat->AV} {tm:List AV} {l l':Nat->Bool} {t:Nat}:∀k,(∀j,j<k->(ops[j]?).bind (·.dst)=some t->l j=l' j)->(Yh ops V tm l k)[t]? =(Yh ops V tm l' k)[t]?
 |0,_=>rfl
 |k+1,h=>by
  have ih:(Yh ops V tm l k)[t]? =(Yh ops V tm l' k)[t]?:=Qs k fun j hj=>h j (by omega)
  have hk:=h k (by omega);rw[Ny,Ny,ih];by_cases hd:(ops[k]?).bind (·.dst)=some t
  . rw[hk hd]
  . rw[if_neg (fun c=>hd c.2),if_neg (fun c=>hd c.2)]
theorem Iz {V:Nat->AV} {tm:List AV} {l:Nat->Bool} {i:Nat}:∀k,i<k->(∀j,i<j->j<k->l j=true->∀d,(ops[i]?).bind (·.dst)=some d->(ops[j]?).bind (·.dst)≠some d)->l i=false->
 ∀t:Nat,(Yh ops V tm (fun j=>j==i||l j) k)[t]? =(WR (Yh ops V tm l k) ((ops[i]?).bind (·.dst)) (V i))[t]?
 |0,h,_,_,_=>by omega
 | k + 1,hik,hno,hli,t=>by
  rw[Lq,S7,Ny,Ny];by_cases hk:k=i
  . subst hk
    have h1:(Yh ops V tm (fun j=>j==k||l j) k)[t]? =(Yh ops V tm l k)[t]?:=Qs k fun j hj _=>by
     simp[show ¬j=k by omega]
    simp only[beq_self_eq_true,Bool.true_or,true_and,hli,Bool.false_eq_true,false_and,if_false,h1]
  . have ih:=Iz (V:=V) (tm:=tm) (l:=l) (i:=i) k (by omega) (fun j h1 h2=>hno j h1 (by omega)) hli t
    have hbe:(k==i)=false:=by simp[hk]
    rw[Lq,S7] at ih;simp only[hbe,Bool.false_or];by_cases hd:(ops[i]?).bind (·.dst)=some t
    . rw[if_pos hd]
      rw[if_pos hd] at ih;by_cases hc:l k=true/\(ops[k]?).bind (·.dst)=some t
      . exact absurd hc.2 (hno k (by omega) (by omega) hc.1 t hd)
      . rw[if_neg hc];exact ih
    . rw[if_neg hd]
      rw[if_neg hd] at ih;rw[ih]
def T9 (N:Nat->AMem) (l:Nat->Bool):Nat->AMem
 |0=>[]
 |k+1=>T9 N l k++(if l k then N k else[])
def VP (b str j id:Nat):Prop:=b+j*str<=id/\id<b+j*str+str
theorem Nj {b str j j' id:Nat} (h:VP b str j id) (h':VP b str j' id):j=j':=by
 rcases Nat.lt_trichotomy j j' with hlt|rfl|hlt
 . have:=Nat.mul_le_mul_right str (show j+1<=j' by omega)
   rw[Nat.succ_mul] at this;unfold VP at *;omega
 . rfl
 . have:=Nat.mul_le_mul_right str (show j'+1<=j by omega)
   rw[Nat.succ_mul] at this;unfold VP at *;omega
theorem P6 {N:Nat->AMem} {b str:Nat} (hN:∀j id x,ZY (N j) id=some x->VP b str j id) {l:Nat->Bool} {id:Nat} {x:ABlk}:∀k,ZY (T9 N l k) id=some x↔∃j,j<k/\l j=true/\ZY (N j) id=some x
 |0=>by simp[T9,ZY]
 | k + 1=>by
  have ih:=P6 hN (l:=l) (id:=id) (x:=x) k;simp only[T9,TV];constructor
  . intro h
    cases hk:ZY (T9 N l k) id with
    |some y=>
     rw[hk] at h;cases h;obtain⟨j,h1,h2⟩:=ih.1 hk;exact⟨j,by omega,h2⟩
    |none=>
     rw[hk] at h;simp only at h;split at h
     . rename_i hl;exact⟨k,by omega,hl,h⟩
     . simp[ZY] at h
  . rintro⟨j,h1,h2,h3⟩
    by_cases hj:j=k
    . subst hj
      have:ZY (T9 N l j) id=none:=by
       cases hk:ZY (T9 N l j) id with
       |none=>rfl
       |some y=>
        obtain⟨j',g1,g2,g3⟩:=(P6 hN (l:=l) (id:=id) (x:=y) j).1 hk;have:=Nj (hN _ _ _ h3) (hN _ _ _ g3);omega
      rw[this];simp[h2,h3]
    . rw[ih.2 ⟨j,by omega,h2,h3⟩]
def ML (r:Option Nat) (P:Program) (C:Ctx) (ops:Array Oper) (i:Nat) (tmR:List AV) (mi:AMem) (lo hi:Nat) (v:AV) (news:AMem):Prop:=
 ∀(β:Nm) (a:Act) (w:World) (m2:AMem) (K:Act->World->Prop) (Q:Exit->Act->World->Prop),FrOk β tmR a.tmps->Sub mi m2->Rel C β m2 w->(∀id,lo<=id->id<hi->β id=none)->
  (∀β' u w',Ext β β'->(∀id,id<lo\/hi<=id->β' id=β id)->γ β' v=some u->Rel C β' (m2++news) w'->K (a.put ((ops[i]?).bind (·.dst)) u) w')->wpOpIn (FW r) 0 P ops Q i K a w
theorem Lu (ls:List Nat):∀(i:Nat) (tm:List AV) (t:Nat),(Xb ls i tm)[t]? =(tm[t]?).map fun x=>if ls.contains (i+t) then x else .any
 |i,[],t=>by simp[Xb]
 |i,x::r,0=>by simp only[Xb,List.getElem?_cons_zero,Option.map_some,Nat.add_zero];split<;>simp_all
 |i,x::r,t+1=>by
  simp only[Xb,List.getElem?_cons_succ];rw[Lu ls (i+1) r t,show i+1+t=i+(t+1) by omega]
theorem Hp (ls:List Nat):∀(i:Nat) (tm:List AV),(Xb ls i tm).length=tm.length
 |_,[]=>rfl
 |i,_::r=>by simp[Xb,Hp ls (i+1) r]
theorem FrOk.put {β:Nm} {tm:List AV} {a:Act} {d:Option Tmp} {v:AV} {u:Value} (h:FrOk β tm a.tmps) (hv:γ β v=some u):FrOk β (WR tm d v) (a.put d u).tmps:=by
 cases d with
 |none=>exact h
 |some d=>
  refine⟨by simp[WR,Act.put,h.1],fun t av ht=>?_⟩;rw[Lq] at ht;simp only[Act.put];rw[Array.getElem?_setIfInBounds];by_cases e:d=t
  . subst e
    rw[if_pos rfl] at ht;rw[if_pos rfl];split at ht
    . rename_i hlt
      cases ht;exact .inr ⟨u,hv,by rw[if_pos (by rw[h.1];exact hlt)]⟩
    . cases ht
  . rw[if_neg (fun c=>e (by simpa using c))] at ht
    rw[if_neg e];exact h.2 t av ht
structure DInv (C:Ctx) (ops:Array Oper) (V:Nat->AV) (N:Nat->AMem) (tm0:List AV) (m0:AMem) (b str q:Nat) (β0:Nm) (D:List Deferred) (listed:Array Bool) (a:Act) (w:World) (β:Nm):Prop where
 fr:FrOk β (Yh ops V tm0 (fun j=>listed.getD j false) q) a.tmps
 df:a.defers=D
 rel:Rel C β (m0++T9 N (fun j=>listed.getD j false) q) w
 free:∀j,j<q->listed.getD j false=false->∀id,VP b str j id->β id=none
 ext:Ext β0 β
 same:∀id,id<b\/b+q*str<=id->β id=β0 id
theorem Cm (listed:Array Bool) (i j:Nat) (hi:i<listed.size):(listed.setIfInBounds i true).getD j false=(j==i||listed.getD j false):=by
 by_cases h:j=i
 . subst h;simp[hi]
 . have:¬i=j:=fun e=>h e.symm
   simp[h,this,Array.getElem?_setIfInBounds]
theorem jjno {r:Option Nat} {D:List Deferred} {V:Nat->AV} {N:Nat->AMem} {tm0:List AV} {m0:AMem} {b str q:Nat} {β0:Nm} {Q:Exit->Act->World->Prop} {mi:Nat->AMem}
 (hsel:Region.noSelect ops=true) (hdown:SD ops=true) (hap:Tf ops q=true) (hq:q<=ops.size)
 (htail:q=ops.size\/(Region.sinkB .any ops q=true/\Region.chainB .any ops q=true))
 (hN:∀j id x,ZY (N j) id=some x->VP b str j id)
 (hmi:∀i,i<q->∀id x,ZY (mi i) id=some x->ZY m0 id=some x\/(ZY m0 id=none/\∃j,j<i/\Zv ops i j=true/\ZY (N j) id=some x))
 (hstep:∀i,i<q->∀o,ops[i]? =some o->ML r P C ops i (Xb (o.looksAt ops) 0 (Yh ops V tm0 (fun j=>decide (j<i)) q)) (mi i) (b+i*str) (b+i*str+str) (V i) (N i))
 (hQ:∀a w β,FrOk β (Yh ops V tm0 (fun _=>true) q) a.tmps->a.defers=D->Rel C β (m0++T9 N (fun _=>true) q) w->Ext β0 β->(∀id,id<b\/b+q*str<=id->β id=β0 id)->wpAnyIn (FW r) 0 P .any ops Q (ops.size-q) (Vi ops q) a w):
 ∀(f:Nat) (listed:Array Bool) (a:Act) (w:World) (β:Nm),HeadInv .any ops q listed->((List.range q).countP fun j=>!listed.getD j false)=f->DInv C ops V N tm0 m0 b str q β0 D listed a w β->
  wpAnyIn (FW r) 0 P .any ops Q (f+(ops.size-q)) listed a w:=by
 intro f
 induction f with
 | zero=>
  intro listed a w β inv hcnt hd
  have hall:∀j,j<q->listed.getD j false=true:=by
   intro j hj;have:=List.countP_eq_zero.1 hcnt j (List.mem_range.2 hj);simpa using this
  have hl:listed=Vi ops q:=by
   apply Array.ext_getElem?;intro j;by_cases hj:j<ops.size
   . have h1:(Vi ops q)[j]? =some (Nat.blt j q):=by simp[Vi,hj]
     rw[h1];have hjs:j<listed.size:=by rw[inv.size];exact hj
     rw[Array.getElem?_eq_getElem hjs];congr 1;by_cases hjq:j<q
     . have:=hall j hjq
       simp[hjs] at this;rw[this,(show Nat.blt j q=true by rw[Nat.blt_eq];exact hjq)]
     . have:=inv.tail j (by omega) hj
       simp[hjs] at this;rw[this];symm;rw[Bool.eq_false_iff];intro h;rw[Nat.blt_eq] at h;exact hjq h
   . rw[Array.getElem?_eq_none (by rw[inv.size];omega),Array.getElem?_eq_none (by simp[Vi];omega)]
  have e1:Yh ops V tm0 (fun j=>listed.getD j false) q=Yh ops V tm0 (fun _=>true) q:=by
   apply List.ext_getElem?;intro t;exact Qs q fun j hj _=>hall j hj
  have e2:∀k,k<=q->T9 N (fun j=>listed.getD j false) k=T9 N (fun _=>true) k:=by
   intro k
   induction k with
   |zero=>intro _;rfl
   |succ k ih=>intro hk;have hk2:=hall k (by omega);simp only[T9];rw[ih (by omega)];simp only[hk2]
  rw[Nat.zero_add];have hfr:=hd.fr;have hrel:=hd.rel;rw[e1] at hfr;rw[e2 q (Nat.le_refl _)] at hrel;have:=hQ a w β hfr hd.df hrel hd.ext hd.same;rw[<- hl] at this;exact this
 | succ f ih =>
  intro listed a w β inv hcnt hd
  have hex:∃j,j<q/\listed.getD j false=false:=by
   have hpos:0<(List.range q).countP fun j=>!listed.getD j false:=by omega
   obtain⟨j,hj,hl⟩:=List.countP_pos_iff.1 hpos;exact⟨j,List.mem_range.1 hj,by simpa using hl⟩
  have hlt_ready:∀i,i∈Region.ready .any ops listed->i<q:=by
   intro i hi;obtain⟨_,oi,hoi,_⟩:=mem_ready.1 hi;have his:i<ops.size:=(Array.getElem?_eq_some_iff.1 hoi).1;rcases htail with h|⟨h1,h2⟩
   . omega
   . rcases Nat.lt_or_ge i q with h|h
     . exact h
     . obtain⟨j,hj,hl⟩:=hex
       have hjs:j<listed.size:=by rw[inv.size];omega
       exact absurd hi (tail_waits h1 h2 (by omega) inv _ j rfl hj (getD_in hjs hl) i h)
  rw[show f+1+(ops.size-q)=(f+(ops.size-q))+1 by omega];refine⟨fun hnil=>?_,fun i hi=>?_⟩
  . -- the least one that is not done is ready
    exfalso
    have hmin:∀n,(∀j,j<n->j<q->listed.getD j false=true)\/∃j,j<n/\j<q/\listed.getD j false=false/\∀j',j'<j->listed.getD j' false=true:=by
     intro n
     induction n with
     |zero=>exact .inl fun j h=>by omega
     | succ n ihn=>
      rcases ihn with h|⟨j,h1,h2⟩
      . by_cases hn:n<q/\listed.getD n false=false
        . exact .inr ⟨n,by omega,hn.1,hn.2,fun j' hj'=>h j' hj' (by omega)⟩
        . refine .inl fun j hj hjq=>?_
          by_cases e:j=n
          . subst e
            cases hl:listed.getD j false with
            |true=>rfl
            |false=>exact absurd ⟨hjq,hl⟩ hn
          . exact h j (by omega) hjq
      . exact .inr ⟨j,by omega,h2⟩
    obtain⟨j0,hj0,hl0⟩:=hex;rcases hmin q with h|⟨j,_,hjq,hl,hbelow⟩
    . rw[h j0 hj0 hj0] at hl0;cases hl0
    . have hjs:j<ops.size:=by omega
      have hoj:ops[j]? =some ops[j]:=Array.getElem?_eq_getElem hjs
      have hready:j∈Region.ready .any ops listed:=by
       refine mem_ready.2 ⟨getD_in (by rw[inv.size];exact hjs) hl,_,hoj,fun e he hb=>?_⟩;have h1:=List.all_eq_true.1 hdown j (List.mem_range.2 hjs);rw[hoj] at h1;have h2:=List.all_eq_true.1 h1 e (Array.mem_toList_iff.2 he);simp only[hb,Bool.not_true,Bool.false_or] at h2;rw[Nat.blt_eq] at h2;exact hbelow e.on h2
      rw[hnil] at hready;cases hready
  . have hiq :=hlt_ready i hi
    obtain⟨hun,oi,hoi,hpre⟩:=mem_ready.1 hi;have his:i<listed.size:=by rw[inv.size];omega
    have hunf:listed.getD i false=false:=getD_both hun
    have hreach:∀j,Zv ops i j=true->listed.getD j false=true:=fun j hw=>
     L7 inv.closed (OV hw) fun o ho e he hb=>by
      rw[hoi] at ho;cases ho;exact hpre e he hb
    have hback:∀j,Zv ops j i=true->listed.getD j false=false:=by
     intro j hw
     cases hl:listed.getD j false with
     |false=>rfl
     |true=>
      have:=L7 inv.closed (OV hw) fun o ho e he hb=>inv.closed j o ho hl e he hb
      rw[hunf] at this;cases this
    have hpair:∀j,j<q->j<i->∀oj,ops[j]? =some oj->Zv ops i j=true\/oj.apart ops oi=true:=by
     intro j hj hji oj hoj;have h1:=List.all_eq_true.1 hap i (List.mem_range.2 hiq);have h2:=List.all_eq_true.1 h1 j (List.mem_range.2 hji);rw[hoi,hoj] at h2;simpa using h2
    have hpair2:∀j,j<q->i<j->∀oj,ops[j]? =some oj->Zv ops j i=true\/oi.apart ops oj=true:=by
     intro j hj hji oj hoj;have h1:=List.all_eq_true.1 hap j (List.mem_range.2 hj);have h2:=List.all_eq_true.1 h1 i (List.mem_range.2 hji);rw[hoi,hoj] at h2;simpa using h2
    have hop:∀j,j<q->∃oj,ops[j]? =some oj:=fun j hj=>⟨_,Array.getElem?_eq_getElem (by omega:j<ops.size)⟩
    refine hstep i hiq oi hoi β a w (m0++T9 N (fun j=>listed.getD j false) q) _ Q ⟨?_,fun t av ht=>?_⟩ (fun id x hx=>?_) hd.rel (fun id h1 h2=>hd.free i hiq hunf id ⟨h1,h2⟩) ?_
    . rw[Hp,S7,hd.fr.1,S7]
    . rw [Lu] at ht
      rw[Nat.zero_add] at ht;by_cases hlk:(oi.looksAt ops).contains t=true
      . have hag:(Yh ops V tm0 (fun j=>listed.getD j false) q)[t]? =(Yh ops V tm0 (fun j=>decide (j<i)) q)[t]?:=by
         refine Qs q fun j hj hdj=>?_
         obtain⟨oj,hoj⟩:=hop j hj;rw[hoj] at hdj;have hdj:oj.dst=some t:=hdj;have hmem:t∈oi.looksAt ops:=by simpa using hlk
         rcases Nat.lt_trichotomy j i with h|h|h
         . rcases hpair j hj h oj hoj with hw|hp
           . simp only[h,decide_true];exact hreach j hw
           . exact absurd hmem ((Oper.apart_spec hp).1 t hdj)
         . subst h;simp[hunf]
         . rcases hpair2 j hj h oj hoj with hw|hp
           . simp only[show ¬j<i by omega,decide_false];exact hback j hw
           . exact absurd hmem ((Oper.apart_spec hp).2.2 t hdj)
        simp only[hlk,if_true,Option.map_id'] at ht;rw[<- hag] at ht;exact hd.fr.2 t av ht
      . simp only[hlk,if_false] at ht
        cases hx:(Yh ops V tm0 (fun j=>decide (j<i)) q)[t]? with
        |none=>rw[hx] at ht;cases ht
        |some y=>rw[hx] at ht;simp at ht;exact .inl ht.symm
    . rw[TV]
      rcases hmi i hiq id x hx with h|⟨h0,j,hj,hw,hl⟩
      . rw[h]
      . rw[h0]
        exact(P6 hN q).2 ⟨j,by omega,hreach j hw,hl⟩
    . intro β' u w' hext hsame hu hrel
      have hset:∀j,(listed.setIfInBounds i true).getD j false=(j==i||listed.getD j false):=fun j=>Cm listed i j his
      refine ih (listed.setIfInBounds i true) _ w' β' (inv.set hi hiq) ?_ ⟨?_,by cases h:(ops[i]?).bind (·.dst)<;>simp[Act.put,hd.df],?_,?_,hd.ext.trans hext,fun id hid=>?_⟩
      . have hc:((List.range q).countP fun j=>!(listed.setIfInBounds i true).getD j false)+1=(List.range q).countP fun j=>!listed.getD j false:=by
         have e:(fun j=>!(listed.setIfInBounds i true).getD j false)=fun j=>!(j==i)&&!listed.getD j false:=by
          funext j;rw[hset j,Bool.not_or]
         rw[e]
         have gen:∀l:List Nat,l.Nodup->i∈l->(l.countP fun j=>!(j==i)&&!listed.getD j false)+1=l.countP fun j=>!listed.getD j false:=by
          intro l
          induction l with
          |nil=>intro _ h;cases h
          |cons y r ihr=>
           intro hnd hm;simp only[List.nodup_cons] at hnd;rw[List.countP_cons,List.countP_cons];by_cases e:y=i
           . subst e
             have:(r.countP fun j=>!(j==y)&&!listed.getD j false)=r.countP fun j=>!listed.getD j false:=by
              refine List.countP_congr fun j hj=>?_
              have:j≠y:=fun e=>hnd.1 (e ▸ hj)
              simp[this]
             rw[this];simp only[beq_self_eq_true,Bool.not_true,Bool.false_and,Bool.false_eq_true,if_false,Nat.add_zero,hunf,Bool.not_false,if_true]
           . have:=ihr hnd.2 (by rcases List.mem_cons.1 hm with h|h;exact absurd h.symm e;exact h)
             have hyi:(y==i)=false:=by simp[e]
             rw[hyi];simp only[Bool.not_false,Bool.true_and];omega
         exact gen _ List.nodup_range (List.mem_range.2 hiq)
        omega
      . have hfp:∀t:Nat,(Yh ops V tm0 (fun j=>(listed.setIfInBounds i true).getD j false) q)[t]? =(WR (Yh ops V tm0 (fun j=>listed.getD j false) q) ((ops[i]?).bind (·.dst)) (V i))[t]?:=by
         intro t;have e:(fun j=>(listed.setIfInBounds i true).getD j false)=fun j=>j==i||listed.getD j false:=funext hset
         rw[e];refine Iz q hiq (fun j hj hjq hl d hdi hdj=>?_) hunf t;obtain⟨oj,hoj⟩:=hop j hjq;rw[hoi] at hdi;rw[hoj] at hdj;rcases hpair2 j hjq hj oj hoj with hw|hp
         . have:=hback j hw
           rw[hl] at this;cases this
         . exact(Oper.apart_spec hp).2.1 d hdi hdj
        have e:Yh ops V tm0 (fun j=>(listed.setIfInBounds i true).getD j false) q=WR (Yh ops V tm0 (fun j=>listed.getD j false) q) ((ops[i]?).bind (·.dst)) (V i):=List.ext_getElem? hfp;rw[e];exact(hd.fr.ext hext).put hu
      . refine hrel.weaken fun id x hx=>?_
        rw[TV] at hx;rw[TV,TV]
        cases hm:ZY m0 id with
        |some y=>rw[hm] at hx;exact hx
        |none=>
         rw[hm] at hx;simp only at hx ⊢;obtain⟨j,h1,h2,h3⟩:=(P6 hN q).1 hx;by_cases hji:j=i
         . subst hji
           cases hn:ZY (T9 N (fun j=>listed.getD j false) q) id with
           |none=>exact h3
           |some y=>
            obtain⟨j',g1,g2,g3⟩:=(P6 hN q).1 hn;have e:=Nj (hN _ _ _ h3) (hN _ _ _ g3);subst e;simp only[hunf] at g2;cases g2
         . have h2':listed.getD j false=true:=by
            have:=hset j;rw[this] at h2;simpa[hji] using h2
           rw[(P6 hN q).2 ⟨j,h1,h2',h3⟩]
      . intro j hj hl id hr
        have h2:=hset j;rw[hl] at h2;have h2:(j==i)=false/\listed.getD j false=false:=by simpa using h2.symm
        have hne:j≠i:=by simpa using h2.1
        rw [hsame id (by
         rcases Nat.lt_or_ge id (b+i*str) with h|h
         . exact .inl h
         . rcases Nat.lt_or_ge id (b+i*str+str) with h'|h'
           . exact absurd (Nj hr ⟨h,h'⟩) hne
           . exact .inr h')]
        exact hd.free j hj h2.2 id hr
      . rw[hsame id ?_]
        . exact hd.same id hid
        . have h1:i*str+str<=q*str:=by rw[<- Nat.succ_mul];exact Nat.mul_le_mul_right _ hiq
          rcases hid with h|h
          . exact .inl (by omega)
          . exact .inr (by omega)
end
end Go.Proofs.YtljeokninakliaaGreatDoor
end
section
namespace Go.Proofs.YtljeokninakliaaGreatDoor
open Go.RowKit
def Obs (s:St):Prop:=ZZ s.ob/\∀p∈s.po,p
structure Z9 (s s':St):Prop where
 n:s.n<=s'.n
 ob:∀b∈s.ob,b∈s'.ob
 po:∀p∈s.po,p∈s'.po
 str:s'.str=s.str
 rd:s'.rd=s.rd
theorem Z9.refl (s:St):Z9 s s:=⟨Nat.le_refl _,fun _ h=>h,fun _ h=>h,rfl,rfl⟩
theorem Z9.trans {a b c:St} (h:Z9 a b) (k:Z9 b c):Z9 a c:=⟨Nat.le_trans h.n k.n,fun x hx=>k.ob x (h.ob x hx),fun x hx=>k.po x (h.po x hx),k.str.trans h.str,k.rd.trans h.rd⟩
theorem Obs.of {s s':St} (h:Obs s') (g:Z9 s s'):Obs s:=⟨fun b hb=>h.1 b (g.ob b hb),fun p hp=>h.2 p (g.po p hp)⟩
theorem Obs.congr {s s':St} (h:Obs s) (h1:s'.ob=s.ob) (h2:s'.po=s.po):Obs s':=⟨by rw[h1];exact h.1,by rw[h2];exact h.2⟩
theorem Sf {s s':St} {l:List Bool} (h:s.need l=some s'):s'.tm=s.tm/\s'.m=s.m/\s'.n=s.n/\s'.ms=s.ms/\Z9 s s'/\(Obs s'->ZZ l):=by
 unfold St.need at h;split at h
 . split at h
   . rename_i hl
     cases h;exact⟨rfl,rfl,rfl,rfl,Z9.refl s,fun _ b hb=>List.all_eq_true.1 hl b hb⟩
   . cases h
 . cases h
   exact⟨rfl,rfl,rfl,rfl,⟨Nat.le_refl _,fun b hb=>List.mem_append.2 (.inr hb),fun p hp=>hp,rfl,rfl⟩,fun ho b hb=>ho.1 b (List.mem_append.2 (.inl hb))⟩
theorem FrOk.lit {β:Nm} {tm:List AV} {tmps:Array Value} {t:Nat} {b d:Bool} (hf:FrOk β tm tmps) (ht:tm[t]? =some (.c (.v (.bool b)))) (hb:b=d):FrOk β (tm.set t (.c (.v (.bool d)))) tmps:=by
 subst hb;refine⟨by simp[hf.1],fun i av hi=>?_⟩;rw[List.getElem?_set] at hi;split at hi
 . rename_i e
   subst e;split at hi
   . cases hi;exact hf.2 t _ ht
   . cases hi
 . exact hf.2 i av hi
theorem NQ {s s':St} {t:Tmp} {b d:Bool} (h:s.dec t b=some (d,s')) (ht:s.tm[t]? =some (.c (.v (.bool b)))):s'.m=s.m/\s'.n=s.n/\s'.ms=s.ms/\Z9 s s'/\(Obs s'->b=d)/\(s'.tm=s.tm\/(s'.tm=s.tm.set t (.c (.v (.bool d))))):=by
 unfold St.dec at h;split at h
 . cases h
   exact⟨rfl,rfl,rfl,⟨Nat.le_refl _,fun b hb=>List.mem_cons_of_mem _ hb,fun p hp=>hp,rfl,rfl⟩,fun ho=>by simpa using ho.1 _ (List.mem_cons_self ..),.inr rfl⟩
 . split at h<;>cases h<;>exact⟨rfl,rfl,rfl,⟨Nat.le_refl _,fun b hb=>hb,fun p hp=>hp,rfl,rfl⟩,fun _=>rfl,.inl rfl⟩
 . split at h<;>cases h<;>exact⟨rfl,rfl,rfl,Z9.refl s,fun _=>rfl,.inl rfl⟩
theorem Fo {s s':St} {t:Tmp} {b d:Bool} (h:s.dec t b=some (d,s')) (ht:s.tm[t]? =some (.c (.v (.bool b)))) {β:Nm} {tmps:Array Value} (ho:Obs s') (hf:FrOk β s.tm tmps):FrOk β s'.tm tmps:=by
 obtain⟨_,_,_,_,h1,h2⟩:=NQ h ht;rcases h2 with h2|h2
 . rw[h2];exact hf
 . rw[h2];exact hf.lit ht (h1 ho)
theorem Rr {ops:Array Oper} {o:Oper} {s s':St} {d:Bool} (h:Yt ops o s=some (d,s')):s'.m=s.m/\s'.n=s.n/\s'.ms=s.ms/\Z9 s s'/\
 ∀{β:Nm} {tmps:Array Value},Obs s'->FrOk β s.tm tmps->FrOk β s'.tm tmps/\Region.wanted o (yielded ops tmps)=d:=by
 unfold Yt at h;split at h
 . rename_i hg
   cases h;exact⟨rfl,rfl,rfl,Z9.refl s,fun _ hf=>⟨hf,by simp[Region.wanted,hg]⟩⟩
 . rename_i j want hg
   split at h
   . rename_i hd
     cases h;exact⟨rfl,rfl,rfl,Z9.refl s,fun _ hf=>⟨hf,by simp[Region.wanted,hg,yielded,hd]⟩⟩
   . rename_i t hd
     split at h
     . rename_i b hb
       split at h
       . rename_i d' s'' hdec
         cases h;obtain⟨h1,h2,hms,h3,h4,_⟩:=NQ hdec hb;refine⟨h1,h2,hms,h3,fun ho hf=>⟨Fo hdec hb ho hf,?_⟩⟩;rcases hf.2 t _ hb with h5|⟨v,h5,h6⟩
         . cases h5
         . have:=YZ h5
           subst this;simp[Region.wanted,hg,yielded,hd,h6,h4 ho]
       . cases h
     . rename_i vs hb
       cases h;refine⟨rfl,rfl,rfl,Z9.refl s,fun ho hf=>⟨hf,?_⟩⟩;rcases hf.2 t _ hb with h5|⟨v,h5,h6⟩
       . cases h5
       . have:=YZ h5
         subst this;simp[Region.wanted,hg,yielded,hd,h6]
     . cases h
def ZA (P:Program) (f:FuncId) (g:Yk):Prop:=
 (∃(fn:Func) (c:Code),P.funcs[f]? =some fn/\fn.body=some c)/\
 ∀(C:Ctx) (β:Nm) (m m2:AMem) (w:World) (args:List AV) (ib:Nat) (r:AV) (news:AMem) (k:Nat) (ob:List Bool) (vs:List Value),
  g args m ib=some (r,news,k,ob)->ZZ ob->Sub m m2->Rel C β m2 w->(∀id,ib<=id->id<ib+k->β id=none)->ib+k<=ZR->γt β args=some vs->
  Calls P f vs.toArray w (fun e w'=>∃β' v,e= .returned v/\Ext β β'/\(∀id,id<ib\/ib+k<=id->β' id=β id)/\γ β' r=some v/\Rel C β' (m2++news) w')
structure ZC (E:Env):Prop where
 ct:∀f g,(f,g)∈E.ct->ZA E.P f g
 mixed:E.P.follows .mixedOrders=true
 names:∀(f:FuncId) (fn:Func) (c:Code),E.P.funcs[f]? =some fn->fn.body=some c->(fn.name== "runtime.NumGoroutine")=false
theorem P0 {P:Program} {f:FuncId} {fn:Func} {c:Code} (hf:P.funcs[f]? =some fn) (hname:(fn.name== "runtime.NumGoroutine")=false) (hb:fn.body=some c) (args:Array Value) (w:World):
 (callFunc f args).run P w= .ok (.enter f args) w:=by
 have h1:fn.name≠ "runtime.NumGoroutine" :=by simpa using hname
 simp[callFunc,hf,h1,hb]
theorem Lb:∀{l:List (FuncId × Yk)} {f:FuncId} {args:List AV} {m:AMem} {n:Nat} {r:AV × AMem × Nat × List Bool},WC l f args m n=some r->∃g,(f,g)∈l/\g args m n=some r
 | [],_,_,_,_,_,h=>by cases h
 | (g,c)::q,f,args,m,n,r,h=>by
  simp only[WC] at h;split at h
  . rename_i hb
    have:=Nat.eq_of_beq_eq_true hb;subst this;exact⟨c,by simp,h⟩
  . obtain⟨g',h1,h2⟩:=Lb h
    exact⟨g',by simp[h1],h2⟩
def Yr (E:Env) (cf:FuncId->List AV->St->Option (AV × St)):Prop:=
 ∀ f args s r s',cf f args s=some (r,s')->s'.tm=s.tm/\s'.ms=s.ms/\Z9 s s'/\(∃(fn:Func) (c:Code),E.P.funcs[f]? =some fn/\fn.body=some c)/\
  (Obs s'->∀(C:Ctx) (β:Nm) (w:World) (vs:List Value),γt β args=some vs->Rel C β s.m w->(∀id,s.n<=id->id<s'.n->β id=none)->
   Calls E.P f vs.toArray w (fun e w'=>∃β' v,e= .returned v/\Ext β β'/\(∀id,id<s.n\/s'.n<=id->β' id=β id)/\γ β' r=some v/\Rel C β' s'.m w'))
def Sy (E:Env) (yf:Nat->List AV->St->Option (AV × St)):Prop:=
 ∀ id args s r s',yf id args s=some (r,s')->s'.tm=s.tm/\s'.ms=s.ms/\Z9 s s'/\∃x st pd tm ps as bd dn,ZY s.m id=some x/\x.cs= .obj (.loop st pd tm ps as bd dn)/\args.length=ps.size/\
  (Obs s'->∀(C:Ctx) (β:Nm) (w:World) (vs:List Value) (L:Loc) (f:FuncId) (tmps:Array Value),γt β args=some vs->Rel C β s.m w->(∀id,s.n<=id->id<s'.n->β id=none)->β id=some L->L.nil=false->FrOk β tm tmps->
   RoundIn Fence.wide 0 E.P L.b f ((ps.zip vs.toArray).foldl (fun tmps (t,a)=>tmps.setIfInBounds t a) tmps) as bd w (fun e w'=>∃β' v,e= .returned v/\Ext β β'/\(∀id,id<s.n\/s'.n<=id->β' id=β id)/\γ β' r=some v/\Rel C β' s'.m w'))
def DfOk (β:Nm):List Nat->List Deferred->List Deferred->Prop
 | [],D,ds=>ds=D
 |id::r,D,ds=>∃L t,β id=some L/\ds= {target:=.collected L.b,args:= #[]}::t/\DfOk β r D t
theorem DfOk.ext {β β':Nm} (he:Ext β β') {D:List Deferred}:∀{ms:List Nat} {ds:List Deferred},DfOk β ms D ds->DfOk β' ms D ds
 | [],_,h=>h
 |_::_,_,⟨L,t,h1,h2,h3⟩=>⟨L,t,he _ _ h1,h2,h3.ext he⟩
section
variable {E:Env} {cf:FuncId->List AV->St->Option (AV × St)} {yf:Nat->List AV->St->Option (AV × St)}
theorem jjkx (hE:ZC E) (hcf:Yr E cf):Yr E (R6 E cf):=by
 intro f args s r s' h;unfold R6 at h;split at h
 . rename_i r' news k ob hct
   obtain⟨g,hg,hgr⟩:=Lb hct;have hok:=hE.ct f g hg;split at h
   . rename_i s1 hle hneed
     cases h;obtain⟨h1,h2,h3,hms,h4,h5⟩:=Sf hneed;have hle:s.n+k<=ZR:=Nat.le_of_ble_eq_true hle;refine⟨h1,hms,⟨by simp[h3],h4.ob,h4.po,h4.str,h4.rd⟩,hok.1,fun ho C β w vs hvs hr hfree=>?_⟩;have hob:=h5 (ho.congr (s:=s1) rfl rfl |> fun h=>h);have:=hok.2 C β s.m s.m w args s.n _ news k ob vs hgr hob (Sub.refl _) hr (by simpa[h3] using hfree) hle hvs;refine this.mono fun e w' ⟨β',v,e1,e2,e3,e4,e5⟩=>⟨β',v,e1,e2,by simpa[h3] using e3,e4,by simpa[h2] using e5⟩
   . cases h
 . exact hcf f args s r s' h
theorem QB {n:Nat} (h:n+1<=ZR) (g:Nat):n≠Z2 g:=by unfold ZR at h;unfold Z2;omega
theorem Nh (a:Act) (d:Option Tmp) (v:Value):(a.put d v).defers=a.defers:=by cases d<;>rfl
theorem Tt {P:Program} {tm:List AV} {m:AMem} {ib:Nat} {o:Oper} {x:XO} (h:U0 P tm m ib o.op=some x) (ro:Option Nat) (ρ:Operand->Value):o.semAt ro ρ=execOp ρ o:=
 Oper.semAt_eq ro ρ o fun c hc=>by rw[hc] at h;simp[U0] at h
theorem jjpy (hE:ZC E) (hcf:Yr E cf) (hyf:Sy E yf) {ops:Array Oper} {o:Oper} {s s':St} (h:FN E cf yf ops o s=some s'):Z9 s s'/\s'.ms=s.ms/\
 (Obs s'->∀(ro:Option Nat) (C:Ctx) (β:Nm) (a:Act) (w:World) (K:Act->World->Prop) (Q:Exit->Act->World->Prop),FrOk β s.tm a.tmps->Rel C β s.m w->(∀id,s.n<=id->id<s'.n->β id=none)->
  (∀β' a' w',Ext β β'->(∀id,id<s.n\/s'.n<=id->β' id=β id)->FrOk β' s'.tm a'.tmps->a'.defers=a.defers->Rel C β' s'.m w'->K a' w')->
  if Region.wanted o (yielded ops a.tmps) then o.wpIn (FW ro) 0 E.P a w K Q else (∀f,o.about E.P w a.eval=some f->(FW ro).fn f)/\K (a.put o.dst undef) w):=by
 have hcf':=jjkx hE hcf;unfold FN at h;split at h
 . cases h
 . rename_i s1 hg
   cases h;obtain⟨g1,g2,gm,g3,g4⟩:=Rr hg;refine⟨⟨by show s.n<=s1.n;omega,g3.ob,g3.po,g3.str,g3.rd⟩,gm,fun ho ro C β a w K Q hf hr hfree hK=>?_⟩;obtain⟨f1,f2⟩:=g4 (ho.congr (s':=s1) rfl rfl) hf;rw[f2];simp only[Bool.false_eq_true,if_false];refine⟨fun _ _=>trivial,hK β _ w (Ext.refl β) (fun _ _=>rfl) (f1.put rfl) (Nh _ _ _) ?_⟩;show Rel C β s1.m w;rw[g1];exact hr
 . rename_i s1 hg
   obtain⟨g1,g2,gm,g3,g4⟩:=Rr hg;split at h
   . rename_i v news ob hle haop
     have hle:s1.n+1<=ZR:=Nat.le_of_ble_eq_true hle;split at h
     . rename_i s2 hneed
       cases h;obtain⟨n1,n2,n3,nm,n4,n5⟩:=Sf hneed;refine⟨⟨by show s.n<=s2.n+1;omega,fun b hb=>n4.ob b (g3.ob b hb),fun p hp=>n4.po p (g3.po p hp),n4.str.trans g3.str,n4.rd.trans g3.rd⟩,nm.trans gm,fun ho ro C β a w K Q hf hr hfree hK=>?_⟩;have ho2:Obs s2:=ho.congr (s':=s2) rfl rfl;obtain⟨f1,f2⟩:=g4 (ho2.of n4) hf;rw[f2];simp only[if_true];rw[<- g1] at hr;obtain⟨β',u,w',e1,e2,e3,e4,e5⟩:=IJ haop (n5 ho2) f1 hr (Sub.refl _) (hfree s1.n (by omega) (by show s1.n<s2.n+1;omega)) (QB hle);refine⟨fun _ _=>trivial,?_⟩;rw[Tt haop,e1];refine hK β' _ w' e2 (fun id hid=>e3 id ?_) ?_ (Nh _ _ _) ?_
       . have:id<s.n\/s2.n+1<=id:=hid
         omega
       . show FrOk β' (WR s2.tm o.dst v) _
         rw[n1];exact(f1.ext e2).put e4
       . show Rel C β' (s2.m++news) w'
         rw[n2];exact e5
     . cases h
   . rename_i v m' ob hle haop
     have hle:s1.n+1<=ZR:=Nat.le_of_ble_eq_true hle;split at h
     . rename_i s2 hup hneed
       cases h;obtain⟨n1,n2,n3,nm,n4,n5⟩:=Sf hneed;refine⟨⟨by show s.n<=s2.n+1;omega,fun b hb=>n4.ob b (g3.ob b hb),fun p hp=>n4.po p (g3.po p hp),n4.str.trans g3.str,n4.rd.trans g3.rd⟩,nm.trans gm,fun ho ro C β a w K Q hf hr hfree hK=>?_⟩;have ho2:Obs s2:=ho.congr (s':=s2) rfl rfl;obtain⟨f1,f2⟩:=g4 (ho2.of n4) hf;rw[f2];simp only[if_true];rw[<- g1] at hr;obtain⟨β',u,w',e1,e2,e3,e4,e5⟩:=EX haop hup (n5 ho2) f1 hr (hfree s1.n (by omega) (by show s1.n<s2.n+1;omega)) (QB hle)
       have hKK:K (a.put o.dst u) w':=by
        refine hK β' _ w' e2 (fun id hid=>e3 id ?_) ?_ (Nh _ _ _) (by show Rel C β' (m'.on s2.m) w';rw[n2];exact e5)
        . have:id<s.n\/s2.n+1<=id:=hid
          omega
        . show FrOk β' (WR s2.tm o.dst v) _
          rw[n1];exact(f1.ext e2).put e4
       refine⟨fun _ _=>trivial,?_⟩;rw[Tt haop];rcases e1 with e1|⟨e1,rfl⟩
       . rw[e1];exact hKK
       . rw[e1];exact hKK
     . cases h
   . rename_i f args hle haop
     split at h
     . rename_i v s2 hco hcall
       cases h;obtain⟨c1,cm,c2,⟨fn,c,c3,c4⟩,c5⟩:=hcf' f args s1 v s2 hcall;refine⟨⟨by show s.n<=s2.n;have:=c2.n;omega,fun b hb=>c2.ob b (g3.ob b hb),fun p hp=>c2.po p (g3.po p hp),c2.str.trans g3.str,c2.rd.trans g3.rd⟩,cm.trans gm,fun ho ro C β a w K Q hf hr hfree hK=>?_⟩;have ho2:Obs s2:=ho.congr (s':=s2) rfl rfl;obtain⟨f1,f2⟩:=g4 (ho2.of c2) hf;rw[f2];simp only[if_true];rw[<- g1] at hr;obtain⟨vs,hvs,hrun⟩:=NC haop hco f1 hr (Sub.refl _);have hcalls:=(c5 ho2) C β w vs hvs hr (fun id h1 h2=>hfree id (by omega) h2);refine⟨fun _ _=>trivial,?_⟩;rw[Tt haop,hrun,P0 c3 (hE.names _ _ _ c3 c4) c4];refine⟨fun h=>(by cases h),CallsIn.mono (callsIn_wide.2 hcalls) fun e w' ⟨β',u,e1,e2,e3,e4,e5⟩=>?_⟩;subst e1;refine hK β' _ w' e2 (fun id hid=>e3 id ?_) ?_ (Nh _ _ _) e5
       . have:id<s.n\/s2.n<=id:=hid
         omega
       . show FrOk β' (WR s2.tm o.dst v) _
         rw[c1];exact(f1.ext e2).put e4
     . cases h
   . rename_i id args hle haop
     split at h
     . rename_i v s2 hco hcall
       cases h;obtain⟨c1,cm,c2,x,st,pd,tm,ps,as,bd,dn,c3,c4,c6,c5⟩:=hyf id args s1 v s2 hcall;refine⟨⟨by show s.n<=s2.n;have:=c2.n;omega,fun b hb=>c2.ob b (g3.ob b hb),fun p hp=>c2.po p (g3.po p hp),c2.str.trans g3.str,c2.rd.trans g3.rd⟩,cm.trans gm,fun ho ro C β a w K Q hf hr hfree hK=>?_⟩;have ho2:Obs s2:=ho.congr (s':=s2) rfl rfl;obtain⟨f1,f2⟩:=g4 (ho2.of c2) hf;rw[f2];simp only[if_true];rw[<- g1] at hr;obtain⟨L,hL,hn,_,⟨fn,tmps,D,q1,q2,q3,q4⟩,_⟩:=hr.objs id x _ c3 c4;obtain⟨vs,hvs,hrun⟩:=jjok haop hco f1 hr (Sub.refl _) hL hn q4 c6;have hround:=(c5 ho2) C β w vs L fn tmps hvs hr (fun id h1 h2=>hfree id (by omega) h2) hL hn q1;refine⟨fun _ _=>trivial,?_⟩;rw[Tt haop,hrun];refine⟨fun h=>(by cases h),RoundIn.mono hround fun e w' ⟨β',u,e1,e2,e3,e4,e5⟩=>?_⟩;subst e1;refine hK β' _ w' e2 (fun id hid=>e3 id ?_) ?_ (Nh _ _ _) e5
       . have:id<s.n\/s2.n<=id:=hid
         omega
       . show FrOk β' (WR s2.tm o.dst v) _
         rw[c1];exact(f1.ext e2).put e4
     . cases h
   . cases h
theorem Iu (hE:ZC E) (hcf:Yr E cf) (hyf:Sy E yf) {ops:Array Oper}:∀{l:List Oper} {s s':St},RD E cf yf ops l s=some s'->Z9 s s'/\s'.ms=s.ms/\
 (Obs s'->∀(ro:Option Nat) (C:Ctx) (β:Nm) (a:Act) (w:World) (Q:Exit->Act->World->Prop),FrOk β s.tm a.tmps->Rel C β s.m w->(∀id,s.n<=id->id<s'.n->β id=none)->
  (∀β' a' w',Ext β β'->(∀id,id<s.n\/s'.n<=id->β' id=β id)->FrOk β' s'.tm a'.tmps->a'.defers=a.defers->Rel C β' s'.m w'->Q .normal a' w')->wpListIn (FW ro) 0 E.P ops Q l a w)
 | [],s,s',h=>by
  simp only[RD,Option.some.injEq] at h;subst h;exact⟨Z9.refl s,rfl,fun _ ro C β a w Q hf hr _ hQ=>hQ β a w (Ext.refl β) (fun _ _=>rfl) hf rfl hr⟩
 | o :: r,s,s',h=>by
  simp only[RD] at h;split at h
  . rename_i s1 h1
    obtain⟨g1,m1,k1⟩:=jjpy hE hcf hyf h1;obtain⟨g2,m2,k2⟩:=Iu hE hcf hyf h;refine⟨g1.trans g2,m2.trans m1,fun ho ro C β a w Q hf hr hfree hQ=>?_⟩;have:=k1 (ho.of g2) ro C β a w (wpListIn (FW ro) 0 E.P ops Q r) Q hf hr (fun id h1 h2=>hfree id h1 (by have:=g2.n;omega)) fun β' a' w' x1 x2 x3 x4 x5=>?_
    . exact this
    . refine k2 ho ro C β' a' w' Q x3 x5 (fun id h1 h2=>?_) fun β'' a'' w'' y1 y2 y3 y4 y5=>?_
      . rw[x2 id (.inr h1)]
        exact hfree id (by have:=g1.n;omega) h2
      . refine hQ β'' a'' w'' (x1.trans y1) (fun id hid=>?_) y3 (y4.trans x4) y5
        have i1:=g1.n;have i2:=g2.n;rw[y2 id (by omega),x2 id (by omega)]
  . cases h
end
end Go.Proofs.YtljeokninakliaaGreatDoor
end
section
namespace Go.Proofs.YtljeokninakliaaGreatDoor
open Go.RowKit
theorem jjj5 {tm:List AV} {t:Nat} {x:AV} (h:tm[t]? =some x):tm.set t x=tm:=by
 apply List.ext_getElem?;intro i;rw[List.getElem?_set];split
 . rename_i e
   subst e;have hlt:=(List.getElem?_eq_some_iff.1 h).1;rw[if_pos hlt,h]
 . rfl
theorem jjqo {s s':St} {t:Tmp} {b d:Bool} (h:s.dec t b=some (d,s')) (ht:s.tm[t]? =some (.c (.v (.bool b)))) (ho:Obs s'):s'.tm=s.tm:=by
 obtain⟨_,_,_,_,h1,h2⟩:=NQ h ht;rcases h2 with h2|h2
 . exact h2
 . rw[h2,<- h1 ho,jjj5 ht]
theorem SX {ops:Array Oper} {o:Oper} {s s':St} {d:Bool} (h:Yt ops o s=some (d,s')) (ho:Obs s'):s'.tm=s.tm:=by
 unfold Yt at h;split at h
 . cases h;rfl
 . split at h
   . cases h;rfl
   . split at h
     . rename_i b hb
       split at h
       . rename_i d' s'' hdec
         cases h;exact jjqo hdec hb ho
       . cases h
     . cases h;rfl
     . cases h
theorem SV {ops:Array Oper} {o:Oper} {s s':St} {d:Bool} (h:Yt ops o s=some (d,s')) (ho:Obs s') {β:Nm} {tmps:Array Value} (hf:FrOk β (Xb (o.looksAt ops) 0 s.tm) tmps):Region.wanted o (yielded ops tmps)=d:=by
 unfold Yt at h;split at h
 . rename_i hg
   cases h;simp[Region.wanted,hg]
 . rename_i j want hg
   split at h
   . rename_i hd
     cases h;simp[Region.wanted,hg,yielded,hd]
   . rename_i t hd
     have hmem:(o.looksAt ops).contains t=true:=by
      simp[Oper.looksAt,hg,hd]
     have hm:∀x,s.tm[t]? =some x->(Xb (o.looksAt ops) 0 s.tm)[t]? =some x:=fun x hx=>by
      rw[Lu,hx,Nat.zero_add,hmem];rfl
     split at h
     . rename_i b hb
       split at h
       . rename_i d' s'' hdec
         cases h;obtain⟨_,_,_,_,h4,_⟩:=NQ hdec hb;rcases hf.2 t _ (hm _ hb) with h5|⟨v,h5,h6⟩
         . cases h5
         . have:=YZ h5
           subst this;simp[Region.wanted,hg,yielded,hd,h6,h4 ho]
       . cases h
     . rename_i vs hb
       cases h;rcases hf.2 t _ (hm _ hb) with h5|⟨v,h5,h6⟩
       . cases h5
       . have:=YZ h5
         subst this;simp[Region.wanted,hg,yielded,hd,h6]
     . cases h
theorem Vp {i id:Nat} {b:ABlk} {r:AMem} (h:id≠i):ZY ((i,b)::r) id=ZY r id:=by
 simp only[VK];split
 . rename_i hb;exact absurd (Nat.eq_of_beq_eq_true hb).symm h
 . rfl
theorem Tw (i:Nat) (b:ABlk) (r:AMem):ZY ((i,b)::r) i=some b:=by
 simp only[VK];rw[Nat.beq_refl]
theorem Nv:∀{m:AMem} {id:Nat} {x:ABlk},ZY (Mj m) id=some x->∃y,ZY m id=some y/\Xm y=false/\x= {y with own:=false}
 | [],_,_,h=>by cases h
 | (i,b)::r,id,x,h=>by
  simp only[Mj] at h;split at h
  . rw[Rj] at h
    split at h
    . cases h
    . rename_i hne
      obtain⟨y,h1,h2⟩:=Nv h;exact⟨y,by rw[Vp hne];exact h1,h2⟩
  . rename_i ho
    by_cases e:id=i
    . subst e
      rw[Tw] at h;cases h;exact⟨b,Tw _ _ _,ho,rfl⟩
    . rw[Vp e] at h
      obtain⟨y,h1,h2⟩:=Nv h;exact⟨y,by rw[Vp e];exact h1,h2⟩
theorem Ni {n:Nat}:∀{m:AMem} {id:Nat} {x:ABlk},ZY (YG n m) id=some x->ZY m id=some x/\n<=id/\id<ZR/\Xm x=false
 | [],_,_,h=>by cases h
 | (i,b)::r,id,x,h=>by
  simp only[YG] at h;split at h
  . rename_i hb
    split at h
    . rw[Rj] at h
      split at h
      . cases h
      . rename_i hne
        obtain⟨h1,h2⟩:=Ni h;exact⟨by rw[Vp hne];exact h1,h2⟩
    . rename_i ho
      by_cases e:id=i
      . subst e
        rw[Tw] at h;cases h;simp only[Bool.and_eq_true] at hb;exact⟨Tw _ _ _,Nat.le_of_ble_eq_true hb.1,by have:=hb.2;rwa[Nat.blt_eq] at this,ho⟩
      . rw[Vp e] at h
        obtain⟨h1,h2⟩:=Ni h;exact⟨by rw[Vp e];exact h1,h2⟩
  . rename_i hb
    obtain⟨h1,h2,h3,h4⟩:=Ni h;refine⟨?_,h2,h3,h4⟩;rw[Vp (fun e=>by subst e;rw[Nat.ble_eq_true_of_le h2,(Nat.blt_eq ▸ h3:Nat.blt id ZR=true)] at hb;cases hb)];exact h1
theorem Vn:∀{m:AMem} {id:Nat} {x:ABlk},ZY m id=some x->(id,x)∈m
 | [],_,_,h=>by cases h
 | (i,b)::r,id,x,h=>by
  simp only[VK] at h;split at h
  . rename_i he
    cases h;have:=Nat.eq_of_beq_eq_true he;subst this;simp
  . exact List.mem_cons_of_mem _ (Vn h)
theorem Qz {b str:Nat} {l:AMem} (h:KO b str l=true) {id:Nat} {x:ABlk} (hx:ZY l id=some x):b<=id/\id<b+str:=by
 have:=List.all_eq_true.1 h (id,x) (Vn hx);simp only[Bool.and_eq_true] at this;refine⟨Nat.le_of_ble_eq_true this.1,?_⟩;have h2:=this.2;rw[Nat.blt_eq] at h2;exact h2
def ZG (w:World):Ctx:=⟨w,w.heap.size,fun _=>False⟩
theorem Rel.ro {C:Ctx} {β:Nm} {m m2:AMem} {w:World} (h:Rel C β m2 w) (hs:Sub m m2):Rel (ZG w) β (Mj m) w:=by
 refine⟨rfl,rfl,rfl,Nat.le_refl _,Nat.le_refl _,fun _ _ _=>rfl,fun id x hx=>?_,fun id id' x x' L L' hx _ _ ho=>?_,h.glob,fun id x o hx ho=>?_⟩
 . obtain⟨y,hy,_,rfl⟩:=Nv hx
   obtain⟨L,hL,hb⟩:=h.blk id y (hs _ _ hy);exact⟨L,hL,hb.sz,hb.lit,hb.cells,hb.lt,fun h=>(by cases h),hb.arrl,hb.rowc⟩
 . obtain⟨y,hy,_,rfl⟩:=Nv hx
   cases ho
 . obtain⟨y,hy,hyo,rfl⟩:=Nv hx
   have ho:y.cs= .obj o:=ho;simp[Xm,ho] at hyo
theorem Rel.back {C:Ctx} {β β':Nm} {m2 m':AMem} {w w':World} {n:Nat} (h:Rel C β m2 w) (h':Rel (ZG w) β' m' w') (he:Ext β β') (hown:(YG n m').all (fun x=>x.2.own)=true):Rel C β' (m2++YG n m') w':=by
 have hkeep:∀b,b<w.heap.size->w'.heap[b]? =w.heap[b]?:=fun b hb=>h'.out b hb (fun h=>h)
 have hlk:∀id x,ZY (m2++YG n m') id=some x->ZY m2 id=some x\/(ZY m2 id=none/\ZY m' id=some x/\x.own=true/\Xm x=false):=by
  intro id x hx;rw[TV] at hx
  cases hm:ZY m2 id with
  |some y=>rw[hm] at hx;cases hx;exact .inl rfl
  |none=>
   rw[hm] at hx;obtain⟨h1,h2,_,h3⟩:=Ni hx;exact .inr ⟨rfl,h1,List.all_eq_true.1 hown _ (Vn hx),h3⟩
 have hge:∀id x L,ZY m' id=some x->x.own=true->β' id=some L->L.nil=false->w.heap.size<=L.b:=by
  intro id x L hx ho hL hn;obtain⟨M,hM,hb⟩:=h'.blk id x hx;rw[hL] at hM;cases hM;rcases (hb.own ho hn).2.1 with h1|h1
  . exact h1
  . exact absurd h1 (fun h=>h)
 have hltm:∀id x L,ZY m2 id=some x->β' id=some L->L.nil=false->β id=some L/\L.b<w.heap.size:=by
  intro id x L hx hL hn;obtain⟨M,hM,hb⟩:=h.blk id x hx;have:=he id M hM;rw[hL] at this;cases this;exact⟨hM,hb.lt hn⟩
 refine⟨h'.os.trans h.os,h'.tape.trans h.tape,h'.output.trans h.output,Nat.le_trans h.size h'.size,h.base,fun b h1 h2=>by rw[hkeep b (by have:=h.size;have:=h.base;omega)];exact h.out b h1 h2,fun id x hx=>?_,?_,h'.glob,fun id x o hx ho=>?_⟩
 . rcases hlk id x hx with h1|⟨_,h1,h2,_⟩
   . obtain⟨M,hM,hb⟩:=h.blk id x h1
     exact⟨M,he id M hM,hb.keep he h'.size (fun hn=>hkeep _ (hb.lt hn))⟩
   . obtain⟨M,hM,hb⟩:=h'.blk id x h1
     refine⟨M,hM,hb.sz,hb.lit,hb.cells,hb.lt,fun ho hn=>?_,hb.arrl,hb.rowc⟩;obtain⟨o1,_,o3⟩:=hb.own ho hn;exact⟨o1,.inl (by have:=hge id x M h1 h2 hM hn;have:=h.size;have:=h.base;omega),o3⟩
 . intro id id' x x' L L' hx hx' hne ho hL hL' hn hn'
   rcases hlk id x hx with h1|⟨h0,h1,h2,_⟩
   . obtain⟨b1,b2⟩:=hltm id x L h1 hL hn
     rcases hlk id' x' hx' with k1|⟨_,k1,k2,_⟩
     . obtain⟨b3,b4⟩:=hltm id' x' L' k1 hL' hn'
       exact h.sep id id' x x' L L' h1 k1 hne ho b1 b3 hn hn'
     . have:=hge id' x' L' k1 k2 hL' hn'
       omega
   . have:=hge id x L h1 h2 hL hn
     rcases hlk id' x' hx' with k1|⟨_,k1,k2,_⟩
     . obtain⟨b3,b4⟩:=hltm id' x' L' k1 hL' hn'
       omega
     . exact h'.sep id id' x x' L L' h1 k1 hne ho hL hL' hn hn'
 . rcases hlk id x hx with h1|⟨_,_,_,h3⟩
   . obtain⟨M,k1,k2,k3,k4,k5⟩:=h.objs id x o h1 ho
     obtain⟨M',hM',hb⟩:=h.blk id x h1;rw[k1] at hM';cases hM';refine⟨M,he _ _ k1,k2,k3,k4.keep he (hkeep _ (hb.lt k2)),fun id' x' L' g1 g2 g3 g4=>?_⟩;rcases hlk id' x' g2 with h1'|⟨_,h1',h2',_⟩
     . obtain⟨b1,_⟩:=hltm id' x' L' h1' g3 g4
       exact k5 id' x' L' g1 h1' b1 g4
     . have:=hge id' x' L' h1' h2' g3 g4
       have:=hb.lt k2;omega
   . simp[Xm,ho] at h3
section
variable {E:Env} {cf:FuncId->List AV->St->Option (AV × St)}
theorem Ff (hE:ZC E) (hcf:Yr E cf) {ops:Array Oper} {i b:Nat} {o:Oper} {mi news:AMem} {s s':St} {v:AV} (h:GG E cf ops i o mi b s=some (v,news,s')) (hoi:ops[i]? =some o):
 Z9 s s'/\s'.m=s.m/\s'.n=s.n/\s'.ms=s.ms/\(∀id x,ZY news id=some x->b<=id/\id<b+s.str)/\
 (Obs s'->s'.tm=s.tm/\∀r C,ML r E.P C ops i (Xb (o.looksAt ops) 0 s.tm) mi b (b+s.str) v news):=by
 unfold GG at h;split at h
 . cases h
 . rename_i s1 hg
   cases h;obtain⟨g1,g2,gm,g3,_⟩:=Rr hg;refine⟨g3,g1,g2,gm,fun id x hx=>(by cases hx),fun ho=>⟨SX hg ho,fun r C β a w m2 K Q hf hs hr hfree hK=>?_⟩⟩;unfold wpOpIn;simp only[hoi,SV hg ho hf,Bool.false_eq_true,if_false];refine⟨fun _ _=>trivial,?_⟩;have:=hK β undef w (Ext.refl β) (fun _ _=>rfl) rfl (by rw[List.append_nil];exact hr);rw[hoi] at this;exact this
 . rename_i s1 hg
   obtain⟨g1,g2,gm,g3,_⟩:=Rr hg;split at h
   . rename_i v' news' ob hle haop
     simp only[Bool.and_eq_true] at hle;have hle1:b+s1.str<=ZR:=Nat.le_of_ble_eq_true hle.1;have hle2:1<=s1.str:=Nat.le_of_ble_eq_true hle.2;split at h
     . rename_i s2 hin hneed
       cases h;obtain⟨n1,n2,n3,nm,n4,n5⟩:=Sf hneed;refine⟨g3.trans n4,n2.trans g1,n3.trans g2,nm.trans gm,fun id x hx=>by have:=Qz hin hx;rw[g3.str] at this;exact this,fun ho=>?_⟩;have ho1:=ho.of n4;have htm:=SX hg ho1;refine⟨n1.trans htm,fun r C β a w m2 K Q hf hs hr hfree hK=>?_⟩;rw[htm] at haop;obtain⟨β',u,w',e1,e2,e3,e4,e5⟩:=IJ haop (n5 ho) hf hr hs (hfree b (Nat.le_refl _) (by rw[<- g3.str];omega)) (QB (by omega));unfold wpOpIn;simp only[hoi,SV hg ho1 hf,if_true];refine⟨fun _ _=>trivial,?_⟩;rw[Tt haop,e1];have:=hK β' u w' e2 (fun id hid=>e3 id (by rw[<- g3.str] at hid;omega)) e4 e5;rw[hoi] at this;exact this
     . cases h
   . rename_i f args hle haop
     simp only[Bool.and_eq_true] at hle;have hle1:b+s1.str<=ZR:=Nat.le_of_ble_eq_true hle.1;split at h
     . rename_i r news' k ob hco hct
       obtain⟨g,hgm,hgr⟩:=Lb hct;have hok:=hE.ct f g hgm;split at h
       . rename_i s2 hin hneed
         simp only[Bool.and_eq_true] at hin;cases h;obtain⟨n1,n2,n3,nm,n4,n5⟩:=Sf hneed;have hk:k<=s1.str:=Nat.le_of_ble_eq_true hin.1;refine⟨g3.trans n4,n2.trans g1,n3.trans g2,nm.trans gm,fun id x hx=>by have:=Qz hin.2 hx;rw[g3.str] at this;exact this,fun ho=>?_⟩;have ho1:=ho.of n4;have htm:=SX hg ho1;refine⟨n1.trans htm,fun r C β a w m2 K Q hf hs hr hfree hK=>?_⟩;rw[htm] at haop;obtain⟨vs,hvs,hrun⟩:=NC haop hco hf hr hs;obtain⟨⟨fn,c,c3,c4⟩,hcalls⟩:=hok;have hc:=hcalls C β mi m2 w args b v news k ob vs hgr (n5 ho) hs hr (fun id h1 h2=>hfree id h1 (by rw[<- g3.str];omega)) (by omega) hvs;unfold wpOpIn;simp only[hoi,SV hg ho1 hf,if_true];refine⟨fun _ _=>trivial,?_⟩;rw[Tt haop,hrun,P0 c3 (hE.names _ _ _ c3 c4) c4];refine⟨fun h=>(by cases h),CallsIn.mono (callsIn_wide.2 hc) fun e w' ⟨β',u,e1,e2,e3,e4,e5⟩=>?_⟩;subst e1;have:=hK β' u w' e2 (fun id hid=>e3 id (by rw[<- g3.str] at hid;omega)) e4 e5;rw[hoi] at this;exact this
       . cases h
     . rename_i hco hct
       split at h
       . rename_i r s2 hcall
         split at h
         . rename_i hc
           simp only[Bool.and_eq_true] at hc;cases h;obtain⟨c1,cm,c2,⟨fn,c,c3,c4⟩,c5⟩:=hcf f args _ v s2 hcall;have hn:s2.n<=b+s1.str:=Nat.le_of_ble_eq_true hc.1;refine⟨⟨by show s.n<=s1.n;omega,fun x hx=>c2.ob x (g3.ob x hx),fun x hx=>c2.po x (g3.po x hx),g3.str,g3.rd⟩,g1,g2,gm,fun id x hx=>by have:=Qz hc.2.1 hx;rw[g3.str] at this;exact this,fun ho=>?_⟩;have ho2:Obs s2:=ho.congr (s':=s2) rfl rfl;have ho1:Obs s1:=⟨fun x hx=>ho2.1 x (c2.ob x hx),fun x hx=>ho2.2 x (c2.po x hx)⟩
           have htm:=SX hg ho1;refine⟨htm,fun r C β a w m2 K Q hf hs hr hfree hK=>?_⟩;rw[htm] at haop;obtain⟨vs,hvs,hrun⟩:=NC haop hco hf hr hs;have hcalls:=(c5 ho2) (ZG w) β w vs hvs (hr.ro hs) (fun id h1 h2=>hfree id h1 (by rw[<- g3.str];omega));unfold wpOpIn;simp only[hoi,SV hg ho1 hf,if_true];refine⟨fun _ _=>trivial,?_⟩;rw[Tt haop,hrun,P0 c3 (hE.names _ _ _ c3 c4) c4];refine⟨fun h=>(by cases h),CallsIn.mono (callsIn_wide.2 hcalls) fun e w' ⟨β',u,e1,e2,e3,e4,e5⟩=>?_⟩;subst e1;have:=hK β' u w' e2 (fun id hid=>e3 id ?_) e4 (hr.back e5 e2 hc.2.2)
           . rw[hoi] at this
             exact this
           . rw[<- g3.str] at hid
             show id<b\/s2.n<=id;omega
         . cases h
       . cases h
     . cases h
   . cases h
theorem Rel.drew1 {C:Ctx} {β:Nm} {m:AMem} {w:World} (h:Rel C β m w):Rel C β m {w with drawn:=w.drawn+1}:=
 h.keepAll rfl rfl rfl (Nat.le_refl _) fun _ _=>rfl
theorem DP (ops:Array Oper) (V:Nat->AV) (tm:List AV) (j:Nat):∀q,j<=q->Yh ops V tm (fun j'=>decide (j'<j)) q=Yh ops V tm (fun _=>true) j:=by
 intro q hq;apply List.ext_getElem?;intro t;have h1:∀k,k<=j->(Yh ops V tm (fun j'=>decide (j'<j)) k)[t]? =(Yh ops V tm (fun _=>true) k)[t]?:=fun k hk=>Qs k fun j' hj' _=>by simp;omega
 have h2:∀d,(Yh ops V tm (fun j'=>decide (j'<j)) (j+d))[t]? =(Yh ops V tm (fun j'=>decide (j'<j)) j)[t]?:=by
  intro d
  induction d with
  |zero=>rfl
  |succ d ih=>
   rw[show j+(d+1)=(j+d)+1 by omega,Ny,if_neg (fun c=>by have:=c.1;simp at this;omega),ih]
 rw[show q=j+(q-j) by omega,h2,h1 j (Nat.le_refl _)]
theorem Nn (ops:Array Oper) {V V':Nat->AV} (tm:List AV) (l:Nat->Bool):∀k,(∀j,j<k->V j=V' j)->Yh ops V tm l k=Yh ops V' tm l k
 |0,_=>rfl
 |k+1,h=>by
  have ih:=Nn ops tm l k fun j hj=>h j (by omega)
  simp only[Yh];rw[ih,h k (by omega)]
theorem Hs {ops:Array Oper} {i:Nat}:∀{l:List (Nat × AMem)} {id:Nat} {x:ABlk},ZY (Wa ops i l) id=some x->∃p∈l,Zv ops i p.1=true/\ZY p.2 id=some x
 | [],_,_,h=>by cases h
 | (j,n)::r,id,x,h=>by
  simp only[Wa] at h;split at h
  . rename_i hw
    rw[TV] at h
    cases hn:ZY n id with
    |some y=>rw[hn] at h;cases h;exact⟨(j,n),by simp,hw,hn⟩
    |none=>
     rw[hn] at h;obtain⟨p,h1,h2⟩:=Hs h;exact⟨p,by simp[h1],h2⟩
  . obtain⟨p,h1,h2⟩:=Hs h
    exact⟨p,by simp[h1],h2⟩
theorem Ch:∀(l l':List (Nat × AMem)),Xw (l++l')=Xw l++Xw l'
 | [],_=>rfl
 |(j,n)::r,l'=>by simp only[List.cons_append,Xw];rw[Ch r l',List.append_assoc]
def Wl (N:Nat->AMem) (k:Nat):List (Nat × AMem):=(List.range k).map fun j=>(j,N j)
theorem Dr (N:Nat->AMem) (k:Nat):Wl N (k+1)=Wl N k++[(k,N k)]:=by simp[Wl,List.range_succ]
theorem CQ {N N':Nat->AMem} {k:Nat} (h:∀j,j<k->N j=N' j):Wl N k=Wl N' k:=by
 unfold Wl;exact List.map_congr_left fun j hj=>by rw[h j (List.mem_range.1 hj)]
theorem Cv (N:Nat->AMem):∀k,Xw (Wl N k)=T9 N (fun _=>true) k
 |0=>rfl
 |k+1=>by rw[Dr,Ch,Cv N k];simp[Xw,T9]
theorem Er (hE:ZC E) (hcf:Yr E cf) {ops:Array Oper} {n0:Nat} {tm0:List AV}:∀{l:List Oper} {i:Nat} {s s':St} {acc':List (Nat × AMem)} {V0:Nat->AV} {N0:Nat->AMem},
 QH E cf ops n0 l i (Wl N0 i) s=some (acc',s')->(∀j,j<l.length->l[j]? =ops[i+j]?)->
 ∃ V N,(∀j,j<i->V j=V0 j/\N j=N0 j)/\acc'=Wl N (i+l.length)/\Z9 s s'/\s'.m=s.m/\s'.n=s.n/\s'.ms=s.ms/\(∀j,i<=j->j<i+l.length->∀id x,ZY (N j) id=some x->VP n0 s.str j id)/\
  (Obs s'->s.tm=Yh ops V0 tm0 (fun _=>true) i->s'.tm=Yh ops V tm0 (fun _=>true) (i+l.length)/\
   ∀j,i<=j->j<i+l.length->∀o,ops[j]? =some o->∀r C,ML r E.P C ops j (Xb (o.looksAt ops) 0 (Yh ops V tm0 (fun _=>true) j)) (s.m++Wa ops j (Wl N j)) (n0+j*s.str) (n0+j*s.str+s.str) (V j) (N j))
 | [],i,s,s',acc',V0,N0,h,_=>by
  simp only[QH,Option.some.injEq,Prod.mk.injEq] at h;obtain⟨rfl,rfl⟩:=h;exact⟨V0,N0,fun _ _=>⟨rfl,rfl⟩,rfl,Z9.refl s,rfl,rfl,rfl,fun j h1 h2=>by simp at h2;omega,fun _ ht=>⟨ht,fun j h1 h2=>by simp at h2;omega⟩⟩
 | o :: r,i,s,s',acc',V0,N0,h,hl=>by
  have hoi:ops[i]? =some o:=by simpa using (hl 0 (by simp)).symm
  simp only[QH] at h;split at h
  . rename_i v news s1 hop
    obtain⟨q1,q2,q3,qm,q4,q5⟩:=Ff hE hcf hop hoi
    let V1:Nat->AV:=fun j=>if j=i then v else V0 j
    let N1:Nat->AMem:=fun j=>if j=i then news else N0 j
    have hacc:Wl N0 i++[(i,news)]=Wl N1 (i+1):=by
     rw[Dr];have e1:Wl N0 i=Wl N1 i:=CQ fun j hj=>by simp[N1,show j≠i by omega]
     have e2:N1 i=news:=by simp[N1]
     rw[e1,e2]
    rw[hacc] at h
    obtain⟨V,N,h1,h2,h3,h4,h5,hm,h6,h7⟩:=Er hE hcf (V0:=V1) (N0:=N1) h (fun j hj=>by
     have:=hl (j+1) (by simp;omega);simp only[List.getElem?_cons_succ] at this;rw[this];congr 1
     omega)
    have hVi:V i=v:=by rw[(h1 i (by omega)).1];simp[V1]
    have hNi:N i=news:=by rw[(h1 i (by omega)).2];simp[N1]
    have g1:Z9 s (s1.put o.dst v):=⟨q1.n,q1.ob,q1.po,q1.str,q1.rd⟩
    have hstr:(s1.put o.dst v).str=s.str:=q1.str;refine⟨V,N,fun j hj=>⟨by rw[(h1 j (by omega)).1];simp[V1,show j≠i by omega],by rw[(h1 j (by omega)).2];simp[N1,show j≠i by omega]⟩,by rw[h2];congr 1;simp;omega,g1.trans h3,h4.trans q2,h5.trans q3,hm.trans qm,fun j hj1 hj2 id x hx=>?_,fun ho ht=>?_⟩
    . by_cases e:j=i
      . subst e
        rw[hNi] at hx;exact q4 id x hx
      . have:=h6 j (by omega) (by simp at hj2;omega) id x hx
        rwa[hstr] at this
    . have ho1:Obs s1:=(ho.of h3).congr (s':=s1) rfl rfl
      obtain⟨t1,t2⟩:=q5 ho1
      have htm1:(s1.put o.dst v).tm=Yh ops V1 tm0 (fun _=>true) (i+1):=by
       show WR s1.tm o.dst v=_;simp only[Yh,if_true,hoi,Option.bind_some];rw[t1,ht,Nn ops tm0 _ i (V:=V0) (V':=V1) (fun j hj=>by simp[V1,show j≠i by omega])];simp[V1]
      obtain⟨u1,u2⟩:=h7 ho htm1;refine⟨by rw[u1];congr 1;simp;omega,fun j hj1 hj2 o' ho' r C=>?_⟩;by_cases e:j=i
      . subst e
        rw[hoi] at ho';cases ho'
        have e1:Yh ops V tm0 (fun _=>true) j=s.tm:=by
         rw[ht];exact Nn ops tm0 _ j fun j' hj'=>by rw[(h1 j' (by omega)).1];simp[V1,show j'≠j by omega]
        have e2:Wl N j=Wl N0 j:=CQ fun j' hj'=>by rw[(h1 j' (by omega)).2];simp[N1,show j'≠j by omega]
        rw[e1,e2,hVi,hNi];exact t2 r C
      . have:=u2 j (by omega) (by simp at hj2;omega) o' ho' r C
        have hm:(s1.put o.dst v).m=s.m:=q2;rw[hm,hstr] at this;exact this
  . cases h
end
end Go.Proofs.YtljeokninakliaaGreatDoor
end
section
namespace Go.Proofs.YtljeokninakliaaGreatDoor
open Go.RowKit
def XD:AStep->(Nat->Option ABlk)->Nat->Option ABlk
 | .news l,f,id=>match f id with|some x=>some x|none=>ZY l id
 | .efx (.put t b),f,id=>if id=t then some b else f id
 | .efx (.app t ib b),f,id=>if id=t then none else match f id with|some x=>some x|none=>if id=ib then some b else none
 | .many ps l,f,id=>match ZY (X3 ps) id with|some x=>some x|none=>if id∈ps.map (·.1) then ZY l id else match f id with|some x=>some x|none=>ZY l id
theorem KW {z:AStep} {f g:Nat->Option ABlk} {id:Nat} (h:f id=g id):XD z f id=XD z g id:=by
 cases z with
 |news l=>simp only[XD,h]
 |efx e=>cases e<;>simp only[XD,h]
 |many ps l=>simp only[XD,h]
theorem KZ:∀{ps:List (Nat × Option ABlk)} {id:Nat} {x:ABlk},ZY (X3 ps) id=some x->(id,some x)∈ps
 | [],_,_,h=>by cases h
 | (i,some b)::r,id,x,h=>by
  simp only[X3,VK] at h;split at h
  . rename_i hb
    cases h;have:=Nat.eq_of_beq_eq_true hb;subst this;exact List.mem_cons_self ..
  . exact List.mem_cons_of_mem _ (KZ h)
 |(i,none)::r,id,x,h=>List.mem_cons_of_mem _ (KZ (ps:=r) (by simpa only[X3] using h))
theorem HM:∀(ps:List (Nat × Option ABlk)) (m:AMem) (id:Nat),ZY (N9 ps m) id=if id∈ps.map (·.1) then none else ZY m id
 | [],m,id=>by simp[N9]
 |(i,y)::r,m,id=>by
  simp only[N9,Rj,HM r m id,List.map_cons,List.mem_cons];by_cases h:id=i
  . simp[h]
  . rw[if_neg h];simp only[h,false_or]
theorem EB {z:AStep} {m:AMem} {f:Nat->Option ABlk} (hf:∀id,ZY m id=f id) (ht:∀t∈z.tids,∃x,ZY m t=some x) (hib:∀t ib b,z= .efx (.app t ib b)->ib≠t) (id:Nat):ZY (z.on m) id=XD z f id:=by
 cases z with
 |news l=>
  simp only[AStep.on,XD,TV,hf];cases f id<;>rfl
 | efx e=>
  cases e with
  |put t b=>
   obtain⟨x,hx⟩:=ht t (by simp[AStep.tids,Efx.tid]);simp only[AStep.on,Efx.on,XD];rw[P1 m t id b x hx,hf]
  |app t ib b=>
   have hne:=hib t ib b rfl;simp only[AStep.on,Efx.on,XD,TV,Rj];by_cases h:id=t
   . subst h
     rw[if_pos rfl,if_pos rfl];simp only[VK]
     cases hb:Nat.beq ib id with
     |true=>exact absurd (Nat.eq_of_beq_eq_true hb) hne
     |false=>rfl
   . rw[if_neg h,if_neg h,hf]
     cases f id with
     |some x=>rfl
     |none=>
      simp only[VK]
      cases hb:Nat.beq ib id with
      |true=>rw[if_pos (Nat.eq_of_beq_eq_true hb).symm]
      |false=>rw[if_neg (fun e=>by subst e;rw[Nat.beq_refl] at hb;cases hb)];rfl
 | many ps l=>
  simp only[AStep.on,XD,TV,HM,<- hf]
  cases ZY (X3 ps) id with
  |some x=>rfl
  |none=>
   by_cases h:id∈ps.map (·.1)
   . simp only[h,if_true]
   . simp only[h,if_false]
     cases ZY m id<;>rfl
def XS (Z:Nat->AStep) (f0:Nat->Option ABlk) (l:Nat->Bool):Nat->Nat->Option ABlk
 |0=>f0
 |k+1=>if l k then XD (Z k) (XS Z f0 l k) else XS Z f0 l k
def Gz (n0 str:Nat) (z:AStep) (k id:Nat):Prop:=VP n0 str k id\/id∈z.tids
structure Ba (Z:Nat->AStep) (n0 str N:Nat):Prop where
 news:∀k l id x,k<N->Z k= .news l->ZY l id=some x->VP n0 str k id
 app:∀k t ib b,k<N->Z k= .efx (.app t ib b)->VP n0 str k ib
 many:∀k ps l id x,k<N->Z k= .many ps l->ZY l id=some x->VP n0 str k id
section
variable {Z:Nat->AStep} {f0:Nat->Option ABlk} {n0 str N:Nat}
theorem KX (hZ:Ba Z n0 str N) {k id:Nat} (hk:k<N) (h:¬Gz n0 str (Z k) k id) (f:Nat->Option ABlk):XD (Z k) f id=f id:=by
 cases hz:Z k with
 | news l=>
  simp only[XD]
  cases hf:f id with
  |some x=>rfl
  |none=>
   cases hl:ZY l id with
   |none=>rfl
   |some x=>exact absurd (.inl (hZ.news k l id x hk hz hl)) h
 | efx e=>
  have ht:id≠e.tid:=fun e'=>h (.inr (by rw[hz,e'];simp[AStep.tids]))
  cases e with
  |put t b=>
   have ht:id≠t:=ht;simp only[XD];rw[if_neg ht]
  |app t ib b=>
   have ht:id≠t:=ht;simp only[XD];rw[if_neg ht]
   cases hf:f id with
   |some x=>rfl
   |none=>rw[if_neg (fun e'=>h (.inl (by rw[e'];exact hZ.app k t ib b hk hz)))]
 | many ps l=>
  have ht:id∉ps.map (·.1):=fun e'=>h (.inr (by rw[hz];exact e'))
  simp only[XD]
  cases hp:ZY (X3 ps) id with
  |some x=>exact absurd (List.mem_map_of_mem (f:=(·.1)) (KZ hp)) ht
  | none=>
   simp only[ht,if_false]
   cases hf:f id with
   |some x=>rfl
   |none=>
    cases hl:ZY l id with
    |none=>rfl
    |some x=>exact absurd (.inl (hZ.many k ps l id x hk hz hl)) h
theorem OW (hZ:Ba Z n0 str N) {l l':Nat->Bool} {id:Nat}:∀K,K<=N->(∀k,k<K->Gz n0 str (Z k) k id->l k=l' k)->XS Z f0 l K id=XS Z f0 l' K id
 |0,_,_=>rfl
 |K+1,hK,h=>by
  have ih:=OW hZ (l:=l) (l':=l') (id:=id) K (by omega) fun k hk=>h k (by omega)
  simp only[XS];by_cases hd:Gz n0 str (Z K) K id
  . rw[h K (by omega) hd]
    split
    . exact KW ih
    . exact ih
  . split<;>split
    . exact KW ih
    . rw[KX hZ (by omega) hd];exact ih
    . rw[KX hZ (by omega) hd];exact ih
    . exact ih
theorem Lk (hZ:Ba Z n0 str N) {l:Nat->Bool} {id K:Nat}:∀d,K+d<=N->(∀k,K<=k->k<K+d->l k=true->¬Gz n0 str (Z k) k id)->XS Z f0 l (K+d) id=XS Z f0 l K id
 |0,_,_=>rfl
 |d+1,hK,h=>by
  have ih:=Lk hZ (l:=l) (id:=id) (K:=K) d (by omega) fun k h1 h2=>h k h1 (by omega)
  rw[show K+(d+1)=(K+d)+1 by omega];simp only[XS];split
  . rename_i hl
    rw[KX hZ (by omega) (h _ (by omega) (by omega) hl)];exact ih
  . exact ih
end
def PF (r:Option Nat) (P:Program) (C:Ctx) (ops:Array Oper) (i:Nat) (tmR:List AV) (mi:AMem) (lo hi:Nat) (v:AV) (z:AStep):Prop:=
 ∀(β:Nm) (a:Act) (w:World) (m2:AMem) (K:Act->World->Prop) (Q:Exit->Act->World->Prop),FrOk β tmR a.tmps->Sub mi m2->Rel C β m2 w->(∀id,lo<=id->id<hi->β id=none)->
  (∀β' u w',Ext β β'->(∀id,id<lo\/hi<=id->β' id=β id)->γ β' v=some u->Rel C β' (z.on m2) w'->K (a.put ((ops[i]?).bind (·.dst)) u) w')->wpOpIn (FW r) 0 P ops Q i K a w
structure EInv (C:Ctx) (ops:Array Oper) (V:Nat->AV) (Z:Nat->AStep) (tm0:List AV) (f0:Nat->Option ABlk) (b str q:Nat) (β0:Nm) (D:List Deferred) (listed:Array Bool) (a:Act) (w:World) (β:Nm):Prop where
 fr:FrOk β (Yh ops V tm0 (fun j=>listed.getD j false) q) a.tmps
 df:a.defers=D
 mem:∃m,(∀id,ZY m id=XS Z f0 (fun j=>listed.getD j false) q id)/\Rel C β m w
 free:∀j,j<q->listed.getD j false=false->∀id,VP b str j id->β id=none
 ext:Ext β0 β
 same:∀id,id<b\/b+q*str<=id->β id=β0 id
section
variable {P:Program} {C:Ctx} {ops:Array Oper}
theorem jjkb {r:Option Nat} {D:List Deferred} {V:Nat->AV} {Z:Nat->AStep} {tm0:List AV} {f0:Nat->Option ABlk} {b str q:Nat} {β0:Nm} {Q:Exit->Act->World->Prop} {mi:Nat->AMem}
 (hdown:SD ops=true) (hap:Tf ops q=true) (hq:q=ops.size) (hZ:Ba Z b str q)
 (hvis:∀i,i<q->∀t∈(Z i).tids,∃x,ZY (mi i) t=some x)
 (hord:∀i j,i<q->j<q->∀t∈(Z i).tids,∀t'∈(Z j).tids,i<j->Zv ops j i=true)
 (hmi:∀i,i<q->∀id x,ZY (mi i) id=some x->XS Z f0 (fun j=>decide (j<i)) q id=some x/\(∀j,j<q->VP b str j id->Zv ops i j=true)/\
  ∀j,j<q->id∈(Z j).tids->Zv ops i j=true\/Zv ops j i=true\/i=j)
 (hstep:∀i,i<q->∀o,ops[i]? =some o->PF r P C ops i (Xb (o.looksAt ops) 0 (Yh ops V tm0 (fun j=>decide (j<i)) q)) (mi i) (b+i*str) (b+i*str+str) (V i) (Z i))
 (hQ:∀a w β m,FrOk β (Yh ops V tm0 (fun _=>true) q) a.tmps->a.defers=D->(∀id,ZY m id=XS Z f0 (fun _=>true) q id)->Rel C β m w->Ext β0 β->(∀id,id<b\/b+q*str<=id->β id=β0 id)->Q .normal a w):
 ∀(f:Nat) (listed:Array Bool) (a:Act) (w:World) (β:Nm),HeadInv .any ops q listed->((List.range q).countP fun j=>!listed.getD j false)=f->EInv C ops V Z tm0 f0 b str q β0 D listed a w β->
  wpAnyIn (FW r) 0 P .any ops Q f listed a w:=by
 have hwd:∀i j,Zv ops i j=true->j<i:=by
  intro i j hw;have hr:=OV hw
  have one:∀{i:Nat} {o:Oper} {e:Edge},ops[i]? =some o->e∈o.after.toList->Region.binds .any e=true->e.on<i:=by
   intro i o e ho he hb;have hi:i<ops.size:=(Array.getElem?_eq_some_iff.1 ho).1;have h1:=List.all_eq_true.1 hdown i (List.mem_range.2 hi);rw[ho] at h1;have h2:=List.all_eq_true.1 h1 e he;simp only[hb,Bool.not_true,Bool.false_or] at h2
   rwa[Nat.blt_eq] at h2
  have key:∀{i j:Nat},Reach ops i j->j<i:=by
   intro i j h
   induction h with
   |one ho he hb=>exact one ho he hb
   |step ho he hb _ ih=>exact Nat.lt_trans ih (one ho he hb)
  exact key hr
 intro f
 induction f with
 | zero=>
  intro listed a w β inv hcnt hd
  have hall:∀j,j<q->listed.getD j false=true:=by
   intro j hj;have:=List.countP_eq_zero.1 hcnt j (List.mem_range.2 hj);simpa using this
  have e1:Yh ops V tm0 (fun j=>listed.getD j false) q=Yh ops V tm0 (fun _=>true) q:=by
   apply List.ext_getElem?;intro t;exact Qs q fun j hj _=>hall j hj
  obtain⟨m,hm,hrel⟩:=hd.mem;refine⟨?_,?_⟩
  . refine List.eq_nil_iff_forall_not_mem.2 fun i hi=>?_
    obtain⟨hun,oi,hoi,_⟩:=mem_ready.1 hi;have his:i<ops.size:=(Array.getElem?_eq_some_iff.1 hoi).1;have:=hall i (by omega);rw[getD_both hun] at this;cases this
  . have hfr:=hd.fr
    rw[e1] at hfr;exact hQ a w β m hfr hd.df (fun id=>by rw[hm id];exact OW hZ q (Nat.le_refl _) fun k hk _=>hall k hk) hrel hd.ext hd.same
 | succ f ih =>
  intro listed a w β inv hcnt hd
  have hex:∃j,j<q/\listed.getD j false=false:=by
   have hpos:0<(List.range q).countP fun j=>!listed.getD j false:=by omega
   obtain⟨j,hj,hl⟩:=List.countP_pos_iff.1 hpos;exact⟨j,List.mem_range.1 hj,by simpa using hl⟩
  refine⟨fun hnil=>?_,fun i hi=>?_⟩
  . exfalso
    have hmin:∀n,(∀j,j<n->j<q->listed.getD j false=true)\/∃j,j<n/\j<q/\listed.getD j false=false/\∀j',j'<j->listed.getD j' false=true:=by
     intro n
     induction n with
     |zero=>exact .inl fun j h=>by omega
     | succ n ihn=>
      rcases ihn with h|⟨j,h1,h2⟩
      . by_cases hn:n<q/\listed.getD n false=false
        . exact .inr ⟨n,by omega,hn.1,hn.2,fun j' hj'=>h j' hj' (by omega)⟩
        . refine .inl fun j hj hjq=>?_
          by_cases e:j=n
          . subst e
            cases hl:listed.getD j false with
            |true=>rfl
            |false=>exact absurd ⟨hjq,hl⟩ hn
          . exact h j (by omega) hjq
      . exact .inr ⟨j,by omega,h2⟩
    obtain⟨j0,hj0,hl0⟩:=hex;rcases hmin q with h|⟨j,_,hjq,hl,hbelow⟩
    . rw[h j0 hj0 hj0] at hl0;cases hl0
    . have hjs:j<ops.size:=by omega
      have hoj:ops[j]? =some ops[j]:=Array.getElem?_eq_getElem hjs
      have hready:j∈Region.ready .any ops listed:=by
       refine mem_ready.2 ⟨getD_in (by rw[inv.size];exact hjs) hl,_,hoj,fun e he hb=>?_⟩;have h1:=List.all_eq_true.1 hdown j (List.mem_range.2 hjs);rw[hoj] at h1;have h2:=List.all_eq_true.1 h1 e (Array.mem_toList_iff.2 he);simp only[hb,Bool.not_true,Bool.false_or] at h2;rw[Nat.blt_eq] at h2;exact hbelow e.on h2
      rw[hnil] at hready;cases hready
  . obtain ⟨hun,oi,hoi,hpre⟩:=mem_ready.1 hi
    have hio:i<ops.size:=(Array.getElem?_eq_some_iff.1 hoi).1;have hiq:i<q:=by omega
    have his:i<listed.size:=by rw[inv.size];omega
    have hunf:listed.getD i false=false:=getD_both hun
    have hreach:∀j,Zv ops i j=true->listed.getD j false=true:=fun j hw=>
     L7 inv.closed (OV hw) fun o ho e he hb=>by
      rw[hoi] at ho;cases ho;exact hpre e he hb
    have hback:∀j,Zv ops j i=true->listed.getD j false=false:=by
     intro j hw
     cases hl:listed.getD j false with
     |false=>rfl
     |true=>
      have:=L7 inv.closed (OV hw) fun o ho e he hb=>inv.closed j o ho hl e he hb
      rw[hunf] at this;cases this
    have hpair:∀j,j<q->j<i->∀oj,ops[j]? =some oj->Zv ops i j=true\/oj.apart ops oi=true:=by
     intro j hj hji oj hoj;have h1:=List.all_eq_true.1 hap i (List.mem_range.2 hiq);have h2:=List.all_eq_true.1 h1 j (List.mem_range.2 hji);rw[hoi,hoj] at h2;simpa using h2
    have hpair2:∀j,j<q->i<j->∀oj,ops[j]? =some oj->Zv ops j i=true\/oi.apart ops oj=true:=by
     intro j hj hji oj hoj;have h1:=List.all_eq_true.1 hap j (List.mem_range.2 hj);have h2:=List.all_eq_true.1 h1 i (List.mem_range.2 hji);rw[hoi,hoj] at h2;simpa using h2
    have hop:∀j,j<q->∃oj,ops[j]? =some oj:=fun j hj=>⟨_,Array.getElem?_eq_getElem (by omega:j<ops.size)⟩
    obtain⟨m,hm,hrel⟩:=hd.mem
    -- what it may see is as it was in the text's order
    have hsee:∀id,(∀j,j<q->VP b str j id->Zv ops i j=true)->(∀j,j<q->id∈(Z j).tids->Zv ops i j=true\/Zv ops j i=true\/i=j)->
     XS Z f0 (fun j=>listed.getD j false) q id=XS Z f0 (fun j=>decide (j<i)) q id:=by
     intro id h1 h2;refine OW hZ q (Nat.le_refl _) fun k hk hin=>?_
     have key:Zv ops i k=true\/Zv ops k i=true\/i=k:=by
      rcases hin with h|ht
      . exact .inl (h1 k hk h)
      . exact h2 k hk ht
     rcases key with h|h|h
     . have:=hwd _ _ h
       simp only[hreach k h,this,decide_true]
     . have:=hwd _ _ h
       simp only[hback k h,show ¬k<i by omega,decide_false]
     . subst h;simp[hunf]
    have hsub:Sub (mi i) m:=fun id x hx=>by
     obtain⟨h1,h2,h3⟩:=hmi i hiq id x hx;rw[hm id,hsee id h2 h3,h1]
    refine hstep i hiq oi hoi β a w m _ Q ⟨?_,fun t av ht=>?_⟩ hsub hrel (fun id h1 h2=>hd.free i hiq hunf id ⟨h1,h2⟩) ?_
    . rw[Hp,S7,hd.fr.1,S7]
    . rw [Lu] at ht
      rw[Nat.zero_add] at ht;by_cases hlk:(oi.looksAt ops).contains t=true
      . have hag:(Yh ops V tm0 (fun j=>listed.getD j false) q)[t]? =(Yh ops V tm0 (fun j=>decide (j<i)) q)[t]?:=by
         refine Qs q fun j hj hdj=>?_
         obtain⟨oj,hoj⟩:=hop j hj;rw[hoj] at hdj;have hdj:oj.dst=some t:=hdj;have hmem:t∈oi.looksAt ops:=by simpa using hlk
         rcases Nat.lt_trichotomy j i with h|h|h
         . rcases hpair j hj h oj hoj with hw|hp
           . simp only[h,decide_true];exact hreach j hw
           . exact absurd hmem ((Oper.apart_spec hp).1 t hdj)
         . subst h;simp[hunf]
         . rcases hpair2 j hj h oj hoj with hw|hp
           . simp only[show ¬j<i by omega,decide_false];exact hback j hw
           . exact absurd hmem ((Oper.apart_spec hp).2.2 t hdj)
        simp only[hlk,if_true,Option.map_id'] at ht;rw[<- hag] at ht;exact hd.fr.2 t av ht
      . simp only[hlk,if_false] at ht
        cases hx:(Yh ops V tm0 (fun j=>decide (j<i)) q)[t]? with
        |none=>rw[hx] at ht;cases ht
        |some y=>rw[hx] at ht;simp at ht;exact .inl ht.symm
    . intro β' u w' hext hsame hu hrel'
      have hset:∀j,(listed.setIfInBounds i true).getD j false=(j==i||listed.getD j false):=fun j=>Cm listed i j his
      refine ih (listed.setIfInBounds i true) _ w' β' (inv.set hi hiq) ?_ ⟨?_,by cases h:(ops[i]?).bind (·.dst)<;>simp[Act.put,hd.df],⟨_,fun id=>?_,hrel'⟩,?_,hd.ext.trans hext,fun id hid=>?_⟩
      . have hc:((List.range q).countP fun j=>!(listed.setIfInBounds i true).getD j false)+1=(List.range q).countP fun j=>!listed.getD j false:=by
         have e:(fun j=>!(listed.setIfInBounds i true).getD j false)=fun j=>!(j==i)&&!listed.getD j false:=by
          funext j;rw[hset j,Bool.not_or]
         rw[e]
         have gen:∀l:List Nat,l.Nodup->i∈l->(l.countP fun j=>!(j==i)&&!listed.getD j false)+1=l.countP fun j=>!listed.getD j false:=by
          intro l
          induction l with
          |nil=>intro _ h;cases h
          |cons y r ihr=>
           intro hnd hm;simp only[List.nodup_cons] at hnd;rw[List.countP_cons,List.countP_cons];by_cases e:y=i
           . subst e
             have:(r.countP fun j=>!(j==y)&&!listed.getD j false)=r.countP fun j=>!listed.getD j false:=by
              refine List.countP_congr fun j hj=>?_
              have:j≠y:=fun e=>hnd.1 (e ▸ hj)
              simp[this]
             rw[this];simp only[beq_self_eq_true,Bool.not_true,Bool.false_and,Bool.false_eq_true,if_false,Nat.add_zero,hunf,Bool.not_false,if_true]
           . have:=ihr hnd.2 (by rcases List.mem_cons.1 hm with h|h;exact absurd h.symm e;exact h)
             have hyi:(y==i)=false:=by simp[e]
             rw[hyi];simp only[Bool.not_false,Bool.true_and];omega
         exact gen _ List.nodup_range (List.mem_range.2 hiq)
        omega
      . have hfp:∀t:Nat,(Yh ops V tm0 (fun j=>(listed.setIfInBounds i true).getD j false) q)[t]? =(WR (Yh ops V tm0 (fun j=>listed.getD j false) q) ((ops[i]?).bind (·.dst)) (V i))[t]?:=by
         intro t;have e:(fun j=>(listed.setIfInBounds i true).getD j false)=fun j=>j==i||listed.getD j false:=funext hset
         rw[e];refine Iz q hiq (fun j hj hjq hl d hdi hdj=>?_) hunf t;obtain⟨oj,hoj⟩:=hop j hjq;rw[hoi] at hdi;rw[hoj] at hdj;rcases hpair2 j hjq hj oj hoj with hw|hp
         . have:=hback j hw
           rw[hl] at this;cases this
         . exact(Oper.apart_spec hp).2.1 d hdi hdj
        have e:Yh ops V tm0 (fun j=>(listed.setIfInBounds i true).getD j false) q=WR (Yh ops V tm0 (fun j=>listed.getD j false) q) ((ops[i]?).bind (·.dst)) (V i):=List.ext_getElem? hfp;rw[e];exact(hd.fr.ext hext).put hu
      . -- the memory
        have hvi:∀t∈(Z i).tids,∃x,ZY m t=some x:=fun t ht=>by
         obtain⟨x,hx⟩:=hvis i hiq t ht;exact⟨x,hsub _ _ hx⟩
        have hib:∀t ib bk,Z i= .efx (.app t ib bk)->ib≠t:=fun t ib bk he e=>by
         obtain⟨x,hx⟩:=hvi t (by rw[he];simp[AStep.tids,Efx.tid]);obtain⟨L,hL,_⟩:=hrel.blk t x hx;rw[hd.free i hiq hunf t (by rw[<- e];exact hZ.app i t ib bk hiq he)] at hL;cases hL
        rw[EB hm hvi hib id];have e:(fun j=>(listed.setIfInBounds i true).getD j false)=fun j=>j==i||listed.getD j false:=funext hset
        rw[e];by_cases hin:Gz b str (Z i) i id
        . -- nobody behind it in the text, and done, has this name
          have hno:∀k,i+1<=k->k<q->(k==i||listed.getD k false)=true->¬Gz b str (Z k) k id:=by
           intro k h1 h2 hl hk;have hki:(k==i)=false:=by simp;omega
           rw[hki,Bool.false_or] at hl
           have hnw:Zv ops k i=true->False:=fun hw=>by
            have:=hback k hw;rw[hl] at this;cases this
           rcases hin with h3|ht3
           . rcases hk with h4|ht4
             . have:=Nj h3 h4;omega
             . obtain⟨x,hx⟩:=hvis k h2 id ht4
               exact hnw ((hmi k h2 id x hx).2.1 i hiq h3)
           . rcases hk with h4|ht4
             . obtain⟨x,hx⟩:=hvis i hiq id ht3
               have:=hwd _ _ ((hmi i hiq id x hx).2.1 k h2 h4);omega
             . exact hnw (hord i k hiq h2 id ht3 id ht4 (by omega))
          have s1:=Lk (f0:=f0) hZ (l:=fun j=>j==i||listed.getD j false) (id:=id) (K:=i+1) (q-(i+1)) (by omega) fun k h1 h2 hl=>hno k h1 (by omega) hl
          have s2:=Lk (f0:=f0) hZ (l:=fun j=>listed.getD j false) (id:=id) (K:=i+1) (q-(i+1)) (by omega) fun k h1 h2 hl=>hno k h1 (by omega) (by simp only[hl,Bool.or_true])
          rw[show i+1+(q-(i+1))=q by omega] at s1 s2;rw[s1];simp only[XS,beq_self_eq_true,Bool.true_or,if_true];refine KW ?_;rw[s2];simp only[XS,hunf,Bool.false_eq_true,if_false];exact(OW hZ i (by omega) fun k hk _=>by simp[show ¬k=i by omega]).symm
        . rw[KX hZ hiq hin]
          refine OW hZ q (Nat.le_refl _) fun k hk hkd=>?_
          by_cases hki:k=i
          . subst hki;exact absurd hkd hin
          . simp[hki]
      . intro j hj hl id hr
        have h2:=hset j;rw[hl] at h2;have h2:(j==i)=false/\listed.getD j false=false:=by simpa using h2.symm
        have hne:j≠i:=by simpa using h2.1
        rw [hsame id (by
         rcases Nat.lt_or_ge id (b+i*str) with h|h
         . exact .inl h
         . rcases Nat.lt_or_ge id (b+i*str+str) with h'|h'
           . exact absurd (Nj hr ⟨h,h'⟩) hne
           . exact .inr h')]
        exact hd.free j hj h2.2 id hr
      . rw[hsame id ?_]
        . exact hd.same id hid
        . have h1:i*str+str<=q*str:=by rw[<- Nat.succ_mul];exact Nat.mul_le_mul_right _ hiq
          rcases hid with h|h
          . exact .inl (by omega)
          . exact .inr (by omega)
end
section
variable {E:Env} {cf:FuncId->List AV->St->Option (AV × St)} {yf:Nat->List AV->St->Option (AV × St)}
theorem Rp:∀{m:AMem} {id:Nat} {x:ABlk},ZY (Ue m) id=some x->ZY m id=some x/\Xm x=false
 | [],_,_,h=>by cases h
 | (i,b)::r,id,x,h=>by
  simp only[Ue] at h;split at h
  . rw[Rj] at h
    split at h
    . cases h
    . rename_i hne
      obtain⟨h1,h2⟩:=Rp h;exact⟨by rw[Vp hne];exact h1,h2⟩
  . rename_i ho
    by_cases e:id=i
    . subst e
      rw[Tw] at h;cases h;exact⟨Tw _ _ _,ho⟩
    . rw[Vp e] at h
      obtain⟨h1,h2⟩:=Rp h;exact⟨by rw[Vp e];exact h1,h2⟩
theorem Nl {m':AMem}:∀{m:AMem} {p:Nat × Option ABlk},p∈Yn m' m->(∃y,ZY m p.1=some y)/\p.2=PH (ZY m' p.1)
 | [],_,h=>by cases h
 | (i,b)::r,p,h=>by
  simp only[Yn] at h;split at h
  . rcases List.mem_cons.1 h with rfl|h
    . exact⟨⟨b,Tw _ _ _⟩,rfl⟩
    . obtain⟨⟨y,h1⟩,h2⟩:=Nl h
      refine⟨?_,h2⟩;simp only[VK]
      cases Nat.beq i p.1 with
      |true=>exact⟨b,rfl⟩
      |false=>exact⟨y,h1⟩
  . obtain⟨⟨y,h1⟩,h2⟩:=Nl h
    refine⟨?_,h2⟩;simp only[VK]
    cases Nat.beq i p.1 with
    |true=>exact⟨b,rfl⟩
    |false=>exact⟨y,h1⟩
theorem HJ {m':AMem}:∀{m:AMem} {id:Nat} {y:ABlk},ZY m id=some y->y.own=true->id∈(Yn m' m).map (·.1)
 | [],_,_,h,_=>by cases h
 | (i,b)::r,id,y,h,ho=>by
  simp only[VK] at h;simp only[Yn];split at h
  . rename_i hb
    cases h;have:=Nat.eq_of_beq_eq_true hb;subst this;rw[ho];exact List.mem_cons_self ..
  . split
    . exact List.mem_cons_of_mem _ (HJ h ho)
    . exact HJ h ho
def GM (β:Nm) (mi:AMem):Nat->Prop:=fun b=>∃id y L,ZY mi id=some y/\y.own=true/\Xm y=false/\β id=some L/\L.nil=false/\L.b=b
theorem Hr:∀{m:AMem} {id:Nat} {x:ABlk},ZY m id=some x->Xm x=false->ZY (Ue m) id=some x
 | [],_,_,h,_=>by cases h
 | (i,b)::r,id,x,h,ho=>by
  simp only[Ue];simp only[VK] at h;split at h
  . rename_i hb
    cases h;have:=Nat.eq_of_beq_eq_true hb;subst this;rw[ho];exact Tw _ _ _
  . rename_i hb
    have hne:id≠i:=fun e=>by subst e;rw[Nat.beq_refl] at hb;cases hb
    split
    . rw[Rj,if_neg hne];exact Hr h ho
    . rw[Vp hne];exact Hr h ho
def KG (β:Nm) (mi:AMem) (w:World):Ctx:=⟨w,w.heap.size,GM β mi⟩
theorem Rel.wr {C:Ctx} {β:Nm} {m m2:AMem} {w:World} (h:Rel C β m2 w) (hs:Sub m m2):Rel (KG β m w) β (Ue m) w:=by
 refine⟨rfl,rfl,rfl,Nat.le_refl _,Nat.le_refl _,fun _ _ _=>rfl,fun id x hx=>?_,fun id id' x x' L L' hx hx' hne ho hL hL' hn hn'=>?_,h.glob,fun id x o hx ho=>?_⟩
 . obtain⟨hy,hyo⟩:=Rp hx
   obtain⟨L,hL,hb⟩:=h.blk id x (hs _ _ hy);refine⟨L,hL,hb.sz,hb.lit,hb.cells,hb.lt,fun ho hn=>?_,hb.arrl,hb.rowc⟩;obtain⟨o1,_,o3⟩:=hb.own ho hn;exact⟨o1,.inr ⟨id,x,L,hy,ho,hyo,hL,hn,rfl⟩,o3⟩
 . exact h.sep id id' x x' L L' (hs _ _ (Rp hx).1) (hs _ _ (Rp hx').1) hne ho hL hL' hn hn'
 . have:=(Rp hx).2
   simp[Xm,ho] at this
theorem jjf2 {x:Option ABlk} {b:ABlk} (h:PH x=some b):x=some b/\Xm b=false:=by
 unfold PH at h;split at h
 . split at h
   . cases h
   . rename_i ho;cases h;exact⟨rfl,ho⟩
 . cases h
theorem Rel.backW {C:Ctx} {β β':Nm} {mi m2 m':AMem} {w w':World} {n hi:Nat} (h:Rel C β m2 w) (hs:Sub mi m2) (h':Rel (KG β mi w) β' m' w') (he:Ext β β') (hfree:∀id,n<=id->id<hi->β id=none) (hin:∀id x,ZY (YG n m') id=some x->n<=id/\id<hi)
 (hown:(YG n m').all (fun x=>x.2.own)=true):Rel C β' ((AStep.many (Yn m' (Ue mi)) (YG n m')).on m2) w':=by
 have hbase:C.base<=w.heap.size:=by have:=h.size;have:=h.base;omega
 have hkeep:∀b,b<w.heap.size->¬GM β mi b->w'.heap[b]? =w.heap[b]?:=fun b hb hn=>h'.out b hb hn
 have hkey:∀id,id∈(Yn m' (Ue mi)).map (·.1)->∃y,ZY mi id=some y:=by
  intro id hid;obtain⟨p,hp,rfl⟩:=List.mem_map.1 hid;obtain⟨⟨y,h1⟩,_⟩:=Nl hp;exact⟨y,(Rp h1).1⟩
 -- what lies where it may write stands apart from all that is no key
 have hwr:∀b,GM β mi b->∃id y L,ZY mi id=some y/\ZY m2 id=some y/\y.own=true/\id∈(Yn m' (Ue mi)).map (·.1)/\β id=some L/\L.nil=false/\L.b=b:=by
  rintro b ⟨id,y,L,h1,h2,h3,h4,h5,h6⟩;exact⟨id,y,L,h1,hs _ _ h1,h2,HJ (Hr h1 h3) h2,h4,h5,h6⟩
 have hnotS:∀id x L,ZY m2 id=some x->id∉(Yn m' (Ue mi)).map (·.1)->β id=some L->L.nil=false->¬GM β mi L.b:=by
  intro id x L hx hk hL hn hw;obtain⟨id2,y,L2,h1,h2,h3,h4,h5,h6,h7⟩:=hwr _ hw;exact h.sep id2 id y x L2 L h2 hx (fun e=>hk (by rw[<- e];exact h4)) h3 h5 hL h6 hn h7
 have hlk:∀id x,ZY ((AStep.many (Yn m' (Ue mi)) (YG n m')).on m2) id=some x->
  (id∈(Yn m' (Ue mi)).map (·.1)/\ZY m' id=some x/\Xm x=false)\/(id∉(Yn m' (Ue mi)).map (·.1)/\ZY m2 id=some x)\/(n<=id/\id<hi/\ZY m' id=some x/\x.own=true/\Xm x=false):=by
  intro id x hx
  have hnew:ZY (YG n m') id=some x->(n<=id/\id<hi/\ZY m' id=some x/\x.own=true/\Xm x=false):=fun e=>by
   obtain⟨h1,h2,_,h3⟩:=Ni e;obtain⟨g1,g2⟩:=hin id x e;exact⟨g1,g2,h1,List.all_eq_true.1 hown _ (Vn e),h3⟩
  simp only[AStep.on,TV,HM] at hx
  cases hp:ZY (X3 (Yn m' (Ue mi))) id with
  |some y=>
   rw[hp] at hx;cases hx;have hm:=KZ hp;obtain⟨_,h2⟩:=Nl hm;obtain⟨h3,h4⟩:=jjf2 h2.symm;exact .inl ⟨List.mem_map_of_mem (f:=(·.1)) hm,h3,h4⟩
  |none=>
   rw[hp] at hx;by_cases hk:id∈(Yn m' (Ue mi)).map (·.1)
   . simp only[hk,if_true] at hx
     exact .inr (.inr (hnew hx))
   . simp only[hk,if_false] at hx
     cases hm:ZY m2 id with
     |some y=>rw[hm] at hx;cases hx;exact .inr (.inl ⟨hk,rfl⟩)
     |none=>rw[hm] at hx;exact .inr (.inr (hnew hx))
 -- an own block of the call's end
 have hend:∀id x L,ZY m' id=some x->x.own=true->β' id=some L->L.nil=false->w.heap.size<=L.b\/GM β mi L.b:=by
  intro id x L hx ho hL hn;obtain⟨M,hM,hb⟩:=h'.blk id x hx;rw[hL] at hM;cases hM;exact(hb.own ho hn).2.1
 have hnewge:∀id x L,n<=id->id<hi->ZY m' id=some x->x.own=true->β' id=some L->L.nil=false->∀id2 y L2,ZY m2 id2=some y->β id2=some L2->L2.nil=false->id2∉(Yn m' (Ue mi)).map (·.1)->L.b≠L2.b:=by
  intro id x L _ _ hx ho hL hn id2 y L2 hy hL2 hn2 hk2 e;obtain⟨M,hM,hb⟩:=h.blk id2 y hy;rw[hL2] at hM;cases hM;rcases hend id x L hx ho hL hn with h1|h1
  . have:=hb.lt hn2;omega
  . rw[e] at h1;exact hnotS id2 y L2 hy hk2 hL2 hn2 h1
 have hconv:∀id x L,ZY m' id=some x->β' id=some L->YV (KG β mi w) β' w' L x->YV C β' w' L x:=by
  intro id x L hx hL hb;refine⟨hb.sz,hb.lit,hb.cells,hb.lt,fun ho hn=>?_,hb.arrl,hb.rowc⟩;obtain⟨o1,o2,o3⟩:=hb.own ho hn;refine⟨o1,?_,o3⟩;rcases o2 with o2|o2
  . exact .inl (Nat.le_trans hbase o2)
  . obtain⟨id2,y,L2,_,h2,h3,_,h5,h6,h7⟩:=hwr _ o2
    obtain⟨M,hM,hk⟩:=h.blk id2 y h2;rw[h5] at hM;cases hM;have:=(hk.own h3 h6).2.1;rw[h7] at this;exact this
 -- an old block
 have hold:∀id x,ZY m2 id=some x->id∉(Yn m' (Ue mi)).map (·.1)->∃L,β id=some L/\β' id=some L/\YV C β' w' L x:=by
  intro id x hx hk;obtain⟨M,hM,hb⟩:=h.blk id x hx;exact⟨M,hM,he id M hM,hb.keep he h'.size fun hn=>hkeep _ (hb.lt hn) (hnotS id x M hx hk hM hn)⟩
 refine⟨h'.os.trans h.os,h'.tape.trans h.tape,h'.output.trans h.output,Nat.le_trans h.size h'.size,h.base,fun b h1 h2=>?_,fun id x hx=>?_,?_,h'.glob,fun id x o hx ho=>?_⟩
 . rw[hkeep b (by omega) fun hw=>?_]
   . exact h.out b h1 h2
   . obtain⟨id2,y,L2,_,g2,g3,_,g5,g6,g7⟩:=hwr _ hw
     obtain⟨M,hM,hk⟩:=h.blk id2 y g2;rw[g5] at hM;cases hM;rcases (hk.own g3 g6).2.1 with q|q
     . omega
     . exact h2 (g7 ▸ q)
 . rcases hlk id x hx with⟨_,h2,_⟩|⟨h1,h2⟩|⟨_,_,h3,_,_⟩
   . obtain⟨M,hM,hb⟩:=h'.blk id x h2
     exact⟨M,hM,hconv id x M h2 hM hb⟩
   . obtain⟨L,_,g2,g3⟩:=hold id x h2 h1
     exact⟨L,g2,g3⟩
   . obtain⟨M,hM,hb⟩:=h'.blk id x h3
     exact⟨M,hM,hconv id x M h3 hM hb⟩
 . -- apart
   have hA:∀id x L,id∈(Yn m' (Ue mi)).map (·.1)->ZY m' id=some x->β' id=some L->L.nil=false->∀id2 y L2,ZY m2 id2=some y->β id2=some L2->L2.nil=false->id2∉(Yn m' (Ue mi)).map (·.1)->(x.own=true\/y.own=true)->L.b≠L2.b:=by
    intro id x L hid hx hL hn id2 y L2 hy hL2 hn2 hk2 ho e;obtain⟨M2,hM2,hb2⟩:=h.blk id2 y hy;rw[hL2] at hM2;cases hM2;rcases ho with ho|ho
    . rcases hend id x L hx ho hL hn with h1|h1
      . have:=hb2.lt hn2;omega
      . rw[e] at h1;exact hnotS id2 y L2 hy hk2 hL2 hn2 h1
    . obtain⟨z,hz⟩:=hkey id hid
      obtain⟨M,hM,_⟩:=h.blk id z (hs _ _ hz);have:=he id M hM;rw[hL] at this;cases this;exact h.sep id2 id y z L2 L hy (hs _ _ hz) (fun e'=>hk2 (by rw[e'];exact hid)) ho hL2 hM hn2 hn e.symm
   have hB:∀id x L,ZY m2 id=some x->id∉(Yn m' (Ue mi)).map (·.1)->β' id=some L->β id=some L:=by
    intro id x L hx hk hL;obtain⟨M,g1,g2,_⟩:=hold id x hx hk;rw[hL] at g2;cases g2;exact g1
   intro id id' x x' L L' hx hx' hne ho hL hL' hn hn';rcases hlk id x hx with⟨a1,a2,_⟩|⟨a1,a2⟩|⟨a1,a2,a3,a4,_⟩
   . rcases hlk id' x' hx' with⟨b1,b2,_⟩|⟨b1,b2⟩|⟨b1,b2,b3,b4,_⟩
     . exact h'.sep id id' x x' L L' a2 b2 hne ho hL hL' hn hn'
     . exact hA id x L a1 a2 hL hn id' x' L' b2 (hB id' x' L' b2 b1 hL') hn' b1 (.inl ho)
     . exact h'.sep id id' x x' L L' a2 b3 hne ho hL hL' hn hn'
   . have hL0:=hB id x L a2 a1 hL
     rcases hlk id' x' hx' with⟨b1,b2,_⟩|⟨b1,b2⟩|⟨b1,b2,b3,b4,_⟩
     . exact fun e=>hA id' x' L' b1 b2 hL' hn' id x L a2 hL0 hn a1 (.inr ho) e.symm
     . exact h.sep id id' x x' L L' a2 b2 hne ho hL0 (hB id' x' L' b2 b1 hL') hn hn'
     . exact fun e=>hnewge id' x' L' b1 b2 b3 b4 hL' hn' id x L a2 hL0 hn a1 e.symm
   . rcases hlk id' x' hx' with⟨b1,b2,_⟩|⟨b1,b2⟩|⟨b1,b2,b3,b4,_⟩
     . exact h'.sep id id' x x' L L' a3 b2 hne ho hL hL' hn hn'
     . exact hnewge id x L a1 a2 a3 a4 hL hn id' x' L' b2 (hB id' x' L' b2 b1 hL') hn' b1
     . exact h'.sep id id' x x' L L' a3 b3 hne ho hL hL' hn hn'
 . rcases hlk id x hx with⟨_,_,a3⟩|⟨a1,a2⟩|⟨_,_,_,_,a5⟩
   . simp[Xm,ho] at a3
   . obtain⟨M,k1,k2,k3,k4,k5⟩:=h.objs id x o a2 ho
     obtain⟨M',hM',hb⟩:=h.blk id x a2;rw[k1] at hM';cases hM'
     have hno:¬GM β mi M.b:=fun hw=>by
      obtain⟨id2,y,L2,g1,g2,g3,g4,g5,g6,g7⟩:=hwr _ hw;exact k5 id2 y L2 (fun e=>a1 (by rw[<- e];exact g4)) g2 g5 g6 g7
     refine⟨M,he _ _ k1,k2,k3,k4.keep he (hkeep _ (hb.lt k2) hno),fun id' x' L' g1 g2 g3 g4=>?_⟩;rcases hlk id' x' g2 with⟨b1,b2,_⟩|⟨b1,b2⟩|⟨b1,b2,b3,b4,_⟩
     . obtain⟨z,hz⟩:=hkey id' b1
       obtain⟨M2,hM2,_⟩:=h.blk id' z (hs _ _ hz);have:=he id' M2 hM2;rw[g3] at this;cases this;exact k5 id' z L' g1 (hs _ _ hz) hM2 g4
     . obtain⟨M2,q1,q2,_⟩:=hold id' x' b2 b1
       rw[g3] at q2;cases q2;exact k5 id' x' L' g1 b2 q1 g4
     . intro e
       rcases hend id' x' L' b3 b4 g3 g4 with h1|h1
       . have:=hb.lt k2;omega
       . rw[e] at h1;exact hno h1
   . simp[Xm,ho] at a5
theorem jjpx (hE:ZC E) (hcf:Yr E cf) {ops:Array Oper} {i b:Nat} {o:Oper} {mi:AMem} {s s':St} {v:AV} {z:AStep} (hwr:Wf E.P o.op=true) (h:FO E cf ops o mi b s=some (v,z,s')) (hoi:ops[i]? =some o):
 Z9 s s'/\s'.m=s.m/\s'.n=s.n/\s'.ms=s.ms/\(∀l id x,(z= .news l\/∃ps,z= .many ps l)->ZY l id=some x->b<=id/\id<b+s.str)/\(∀t ib bk,z= .efx (.app t ib bk)->ib=b/\ib≠t/\1<=s.str)/\(∀t∈z.tids,(∃x,ZY mi t=some x)/\UK E.P o.op=true)/\
 (Obs s'->s'.tm=s.tm/\∀r C,PF r E.P C ops i (Xb (o.looksAt ops) 0 s.tm) mi b (b+s.str) v z):=by
 unfold FO at h;split at h
 . cases h
 . rename_i s1 hg
   cases h;obtain⟨g1,g2,gm,g3,_⟩:=Rr hg;refine⟨g3,g1,g2,gm,fun l' id x hl hx=>(by rcases hl with hl|⟨_,hl⟩<;>cases hl;cases hx),fun _ _ _ h=>(by cases h),fun t ht=>(by cases ht),fun ho=>⟨SX hg ho,fun r C β a w m2 K Q hf hs hr hfree hK=>?_⟩⟩;unfold wpOpIn;simp only[hoi,SV hg ho hf,Bool.false_eq_true,if_false];refine⟨fun _ _=>trivial,?_⟩;have:=hK β undef w (Ext.refl β) (fun _ _=>rfl) rfl (by show Rel C β (m2++[]) w;rw[List.append_nil];exact hr);rw[hoi] at this;exact this
 . rename_i s1 hg
   obtain⟨g1,g2,gm,g3,_⟩:=Rr hg;split at h
   . rename_i f args hle haop
     simp only[Bool.and_eq_true] at hle;have hle1:b+s1.str<=ZR:=Nat.le_of_ble_eq_true hle.1;split at h
     . rename_i r news' k ob hco hct
       obtain⟨g,hgm,hgr⟩:=Lb hct;have hok:=hE.ct f g hgm;split at h
       . rename_i s2 hin hneed
         simp only[Bool.and_eq_true] at hin;cases h;obtain⟨n1,n2,n3,nm,n4,n5⟩:=Sf hneed;have hk:k<=s1.str:=Nat.le_of_ble_eq_true hin.1;refine⟨g3.trans n4,n2.trans g1,n3.trans g2,nm.trans gm,fun l' id x hl hx=>(by rcases hl with hl|⟨_,hl⟩<;>cases hl;have:=Qz hin.2 hx;rw[g3.str] at this;exact this),fun _ _ _ h=>(by cases h),fun t ht=>(by cases ht),fun ho=>?_⟩;have ho1:=ho.of n4;have htm:=SX hg ho1;refine⟨n1.trans htm,fun r C β a w m2 K Q hf hs hr hfree hK=>?_⟩;rw[htm] at haop;obtain⟨vs,hvs,hrun⟩:=NC haop hco hf hr hs;obtain⟨⟨fn,c,c3,c4⟩,hcalls⟩:=hok;have hc:=hcalls C β mi m2 w args b v news' k ob vs hgr (n5 ho) hs hr (fun id h1 h2=>hfree id h1 (by rw[<- g3.str];omega)) (by omega) hvs;unfold wpOpIn;simp only[hoi,SV hg ho1 hf,if_true];refine⟨fun _ _=>trivial,?_⟩;rw[Tt haop,hrun,P0 c3 (hE.names _ _ _ c3 c4) c4];refine⟨fun h=>(by cases h),CallsIn.mono (callsIn_wide.2 hc) fun e w' ⟨β',u,e1,e2,e3,e4,e5⟩=>?_⟩;subst e1;have:=hK β' u w' e2 (fun id hid=>e3 id (by rw[<- g3.str] at hid;omega)) e4 e5;rw[hoi] at this;exact this
       . cases h
     . rename_i hco hct
       split at h
       . rename_i r s2 hcall
         split at h
         . rename_i hc
           simp only[Bool.and_eq_true] at hc;cases h;obtain⟨c1,cm,c2,⟨fn,c,c3,c4⟩,c5⟩:=hcf f args _ v s2 hcall;have hn:s2.n<=b+s1.str:=Nat.le_of_ble_eq_true hc.1;refine⟨⟨by show s.n<=s1.n;omega,fun x hx=>c2.ob x (g3.ob x hx),fun x hx=>c2.po x (g3.po x hx),g3.str,g3.rd⟩,g1,g2,gm,fun l' id x hl hx=>(by rcases hl with hl|⟨_,hl⟩<;>cases hl;have:=Qz hc.2.1 hx;rw[g3.str] at this;exact this),fun _ _ _ h=>(by cases h),fun t ht=>?_,fun ho=>?_⟩
           . obtain⟨p,hp,rfl⟩:=List.mem_map.1 ht
             obtain⟨⟨y,h1⟩,_⟩:=Nl hp;exact⟨⟨y,(Rp h1).1⟩,by rw[UK,hwr,Bool.true_or]⟩
           have ho2:Obs s2:=ho.congr (s':=s2) rfl rfl;have ho1:Obs s1:=⟨fun x hx=>ho2.1 x (c2.ob x hx),fun x hx=>ho2.2 x (c2.po x hx)⟩
           have htm:=SX hg ho1;refine⟨htm,fun r C β a w m2 K Q hf hs hr hfree hK=>?_⟩;rw[htm] at haop;obtain⟨vs,hvs,hrun⟩:=NC haop hco hf hr hs;have hcalls:=(c5 ho2) (KG β mi w) β w vs hvs (hr.wr hs) (fun id h1 h2=>hfree id h1 (by rw[<- g3.str];omega));unfold wpOpIn;simp only[hoi,SV hg ho1 hf,if_true];refine⟨fun _ _=>trivial,?_⟩;rw[Tt haop,hrun,P0 c3 (hE.names _ _ _ c3 c4) c4];refine⟨fun h=>(by cases h),CallsIn.mono (callsIn_wide.2 hcalls) fun e w' ⟨β',u,e1,e2,e3,e4,e5⟩=>?_⟩;subst e1;have:=hK β' u w' e2 (fun id hid=>e3 id ?_) e4 (hr.backW hs e5 e2 (hi:=b+s.str) hfree (fun id x hx=>by have:=Qz hc.2.1 hx;rw[g3.str] at this;exact this) hc.2.2)
           . rw[hoi] at this
             exact this
           . rw[<- g3.str] at hid
             show id<b\/s2.n<=id;omega
         . cases h
       . cases h
     . cases h
   . cases h
theorem jjpz (hE:ZC E) (hcf:Yr E cf) {ops:Array Oper} {i b:Nat} {o:Oper} {mi:AMem} {s s':St} {v:AV} {z:AStep} {wm:Bool} (h:FM E cf wm ops i o mi b s=some (v,z,s')) (hoi:ops[i]? =some o):
 Z9 s s'/\s'.m=s.m/\s'.n=s.n/\s'.ms=s.ms/\(∀l id x,(z= .news l\/∃ps,z= .many ps l)->ZY l id=some x->b<=id/\id<b+s.str)/\(∀t ib bk,z= .efx (.app t ib bk)->ib=b/\ib≠t/\1<=s.str)/\(∀t∈z.tids,(∃x,ZY mi t=some x)/\UK E.P o.op=true)/\
 (Obs s'->s'.tm=s.tm/\∀r C,PF r E.P C ops i (Xb (o.looksAt ops) 0 s.tm) mi b (b+s.str) v z):=by
 unfold FM at h;split at h
 . rename_i hup
   split at h
   . split at h
     . rename_i v' l s1 hq
       cases h;obtain⟨q1,q2,q3,q4,q5,q6⟩:=Ff hE hcf hq hoi;refine⟨q1,q2,q3,q4,fun l' id x hl hx=>(by rcases hl with hl|⟨_,hl⟩<;>cases hl;exact q5 id x hx),fun _ _ _ h=>(by cases h),fun t ht=>(by cases ht),fun ho=>?_⟩;obtain⟨t1,t2⟩:=q6 ho;exact⟨t1,fun r C β a w m2 K Q hf hs hr hfree hK=>t2 r C β a w m2 K Q hf hs hr hfree hK⟩
     . cases h
   . rename_i hw
     simp only[Bool.and_eq_true] at hw;exact jjpx hE hcf hw.2 h hoi
 . rename_i hup
   split at h
   . cases h
   . rename_i s1 hg
     cases h;obtain⟨g1,g2,gm,g3,_⟩:=Rr hg;refine⟨g3,g1,g2,gm,fun l' id x hl hx=>(by rcases hl with hl|⟨_,hl⟩<;>cases hl;cases hx),fun _ _ _ h=>(by cases h),fun t ht=>(by cases ht),fun ho=>⟨SX hg ho,fun r C β a w m2 K Q hf hs hr hfree hK=>?_⟩⟩;unfold wpOpIn;simp only[hoi,SV hg ho hf,Bool.false_eq_true,if_false];refine⟨fun _ _=>trivial,?_⟩;have:=hK β undef w (Ext.refl β) (fun _ _=>rfl) rfl (by show Rel C β (m2++[]) w;rw[List.append_nil];exact hr);rw[hoi] at this;exact this
   . rename_i s1 hg
     obtain⟨g1,g2,gm,g3,_⟩:=Rr hg;split at h
     . rename_i v' l ob hle haop
       simp only[Bool.and_eq_true] at hle;have hle1:b+s1.str<=ZR:=Nat.le_of_ble_eq_true hle.1;have hle2:1<=s1.str:=Nat.le_of_ble_eq_true hle.2;split at h
       . rename_i s2 hin hneed
         cases h;obtain⟨n1,n2,n3,nm,n4,n5⟩:=Sf hneed;refine⟨g3.trans n4,n2.trans g1,n3.trans g2,nm.trans gm,fun l' id x hl hx=>(by rcases hl with hl|⟨_,hl⟩<;>cases hl;have:=Qz hin hx;rw[g3.str] at this;exact this),fun _ _ _ h=>(by cases h),fun t ht=>(by cases ht),fun ho=>?_⟩;have ho1:=ho.of n4;have htm:=SX hg ho1;refine⟨n1.trans htm,fun r C β a w m2 K Q hf hs hr hfree hK=>?_⟩;rw[htm] at haop;obtain⟨β',u,w',e1,e2,e3,e4,e5⟩:=IJ haop (n5 ho) hf hr hs (hfree b (Nat.le_refl _) (by rw[<- g3.str];omega)) (QB (by omega));unfold wpOpIn;simp only[hoi,SV hg ho1 hf,if_true];refine⟨fun _ _=>trivial,?_⟩;rw[Tt haop,e1];have:=hK β' u w' e2 (fun id hid=>e3 id (by rw[<- g3.str] at hid;omega)) e4 e5;rw[hoi] at this;exact this
       . cases h
     . rename_i v' e ob hle haop
       simp only[Bool.and_eq_true] at hle;have hle1:b+s1.str<=ZR:=Nat.le_of_ble_eq_true hle.1;have hle2:1<=s1.str:=Nat.le_of_ble_eq_true hle.2;split at h
       . rename_i s2 hne hneed
         cases h;obtain⟨n1,n2,n3,nm,n4,n5⟩:=Sf hneed;refine⟨g3.trans n4,n2.trans g1,n3.trans g2,nm.trans gm,fun l' id x hl hx=>(by rcases hl with hl|⟨_,hl⟩<;>cases hl),fun t ib bk he=>?_,fun t ht=>?_,fun ho=>?_⟩
         . cases he
           simp only[Na,Bool.and_eq_true,Bool.not_eq_true'] at hne;exact⟨Nat.eq_of_beq_eq_true hne.1,fun e=>by subst e;rw[Nat.beq_refl] at hne;exact absurd hne.2 (by simp),by rw[<- g3.str];exact hle2⟩
         . simp only[AStep.tids,List.mem_singleton] at ht
           subst ht;exact⟨(E6 hup haop (Sub.refl _)).2,by rw[UK,hup,Bool.or_true]⟩
         . have ho1:=ho.of n4
           have htm:=SX hg ho1;refine⟨n1.trans htm,fun r C β a w m2 K Q hf hs hr hfree hK=>?_⟩;rw[htm] at haop;obtain⟨β',u,w',e1,e2,e3,e4,e5⟩:=EX (E6 hup haop hs).1 hup (n5 ho) hf hr (hfree b (Nat.le_refl _) (by rw[<- g3.str];omega)) (QB (by omega));unfold wpOpIn;simp only[hoi,SV hg ho1 hf,if_true];refine⟨fun _ _=>trivial,?_⟩;rw[Tt haop];have:=hK β' u w' e2 (fun id hid=>e3 id (by rw[<- g3.str] at hid;omega)) e4 e5;rw[hoi] at this;rcases e1 with e1|⟨e1,rfl⟩
           . rw[e1];exact this
           . rw[e1];exact this
       . cases h
     . cases h
theorem OX {ops:Array Oper} {ts:List (Nat × Nat)} {n0 str i:Nat}:∀{m:AMem} {id:Nat} {x:ABlk},ZY (VA ops ts n0 str i m) id=some x->ZY m id=some x/\V4 ops ts n0 str i id=true
 | [],_,_,h=>by cases h
 | (j,b)::r,id,x,h=>by
  simp only[VA] at h;by_cases e:id=j
  . subst e
    split at h
    . rename_i hk
      rw[Tw] at h ⊢;exact⟨h,hk⟩
    . rename_i hk
      have:=(OX h).2;rw[hk] at this;cases this
  . split at h
    . rw[Vp e] at h ⊢
      exact OX h
    . rw[Vp e]
      exact OX h
theorem Es (hE:ZC E) (hcf:Yr E cf) {ops:Array Oper} {wm:Bool} {vis:Nat->AMem->AMem} {keep:Nat->Nat->Prop} (hvs:∀i m id x,ZY (vis i m) id=some x->ZY m id=some x/\keep i id) {n0:Nat} {tm0:List AV} {f0:Nat->Option ABlk}:∀{l:List Oper} {i:Nat} {acc acc':List (Nat × Nat)} {s s':St} {V0:Nat->AV} {Z0:Nat->AStep} {M0:Nat->AMem},
 Ua E cf wm ops vis n0 l i acc s=some (acc',s')->(∀j,j<l.length->l[j]? =ops[i+j]?)->
 ∃ (V:Nat->AV) (Z:Nat->AStep) (mi:Nat->AMem),(∀j,j<i->V j=V0 j/\Z j=Z0 j/\mi j=M0 j)/\(∀p∈acc,p∈acc')/\Z9 s s'/\s'.n=s.n/\s'.ms=s.ms/\
  (∀j,i<=j->j<i+l.length->(∀l' id x,(Z j= .news l'\/∃ps,Z j= .many ps l')->ZY l' id=some x->VP n0 s.str j id)/\(∀t ib bk,Z j= .efx (.app t ib bk)->VP n0 s.str j ib)/\(∀t∈(Z j).tids,(∃x,ZY (mi j) t=some x)/\(j,t)∈acc'/\∀o,ops[j]? =some o->UK E.P o.op=true)/\
   (∀id x,ZY (mi j) id=some x->keep j id))/\
  (Obs s'->s.tm=Yh ops V0 tm0 (fun _=>true) i->(∀id,ZY s.m id=XS Z0 f0 (fun _=>true) i id)->
   s'.tm=Yh ops V tm0 (fun _=>true) (i+l.length)/\(∀id,ZY s'.m id=XS Z f0 (fun _=>true) (i+l.length) id)/\
   ∀j,i<=j->j<i+l.length->∀o,ops[j]? =some o->(∀id x,ZY (mi j) id=some x->XS Z f0 (fun _=>true) j id=some x)/\
    ∀r C,PF r E.P C ops j (Xb (o.looksAt ops) 0 (Yh ops V tm0 (fun _=>true) j)) (mi j) (n0+j*s.str) (n0+j*s.str+s.str) (V j) (Z j))
 | [],i,acc,acc',s,s',V0,Z0,M0,h,_=>by
  simp only[Ua,Option.some.injEq,Prod.mk.injEq] at h;obtain⟨rfl,rfl⟩:=h;exact⟨V0,Z0,M0,fun _ _=>⟨rfl,rfl,rfl⟩,fun _ h=>h,Z9.refl s,rfl,rfl,fun j h1 h2=>by simp at h2;omega,fun _ ht hm=>⟨ht,hm,fun j h1 h2=>by simp at h2;omega⟩⟩
 | o :: r,i,acc,acc',s,s',V0,Z0,M0,h,hl=>by
  have hoi:ops[i]? =some o:=by simpa using (hl 0 (by simp)).symm
  simp only[Ua] at h;split at h
  . rename_i v z s1 hop
    obtain⟨q1,q2,q3,qm,q4,q5,q6,q7⟩:=jjpz hE hcf hop hoi
    let V1:Nat->AV:=fun j=>if j=i then v else V0 j
    let Z1:Nat->AStep:=fun j=>if j=i then z else Z0 j
    let M1:Nat->AMem:=fun j=>if j=i then vis i s.m else M0 j
    obtain⟨V,Z,mi,h1,h2,h3,h4,h5,h6,h7⟩:=Es hE hcf hvs (tm0:=tm0) (f0:=f0) (V0:=V1) (Z0:=Z1) (M0:=M1) h (fun j hj=>by
     have:=hl (j+1) (by simp;omega);simp only[List.getElem?_cons_succ] at this;rw[this];congr 1
     omega)
    have hVi:V i=v:=by rw[(h1 i (by omega)).1];simp[V1]
    have hZi:Z i=z:=by rw[(h1 i (by omega)).2.1];simp[Z1]
    have hMi:mi i=vis i s.m:=by rw[(h1 i (by omega)).2.2];simp[M1]
    have g1:Z9 s ({s1 with m:=z.on s1.m}.put o.dst v):=⟨q1.n,q1.ob,q1.po,q1.str,q1.rd⟩
    have hstr:({s1 with m:=z.on s1.m}.put o.dst v).str=s.str:=q1.str
    refine⟨V,Z,mi,fun j hj=>⟨by rw[(h1 j (by omega)).1];simp[V1,show j≠i by omega],by rw[(h1 j (by omega)).2.1];simp[Z1,show j≠i by omega],by rw[(h1 j (by omega)).2.2];simp[M1,show j≠i by omega]⟩,
     fun p hp=>h2 p (List.mem_append.2 (.inl hp)),g1.trans h3,h4.trans q3,h5.trans qm,fun j hj1 hj2=>?_,fun ho ht hm=>?_⟩
    . by_cases e:j=i
      . subst e
        rw[hZi,hMi];refine⟨fun l' id x hl' hx=>q4 l' id x hl' hx,fun t ib bk he=>?_,fun t ht=>⟨(q6 t ht).1,h2 _ (List.mem_append.2 (.inr (List.mem_map_of_mem ht))),fun o' ho'=>by rw[hoi] at ho';cases ho';exact(q6 t ht).2⟩,fun id x hx=>(hvs _ _ _ _ hx).2⟩;obtain⟨e1,_,e3⟩:=q5 t ib bk he;subst e1;exact⟨Nat.le_refl _,by omega⟩
      . have:=h6 j (by omega) (by simp at hj2;omega)
        rwa[hstr] at this
    . have ho1:Obs s1:=(ho.of h3).congr (s':=s1) rfl rfl
      obtain⟨t1,t2⟩:=q7 ho1
      have htm1:({s1 with m:=z.on s1.m}.put o.dst v).tm=Yh ops V1 tm0 (fun _=>true) (i+1):=by
       show WR s1.tm o.dst v=_;simp only[Yh,if_true,hoi,Option.bind_some];rw[t1,ht,Nn ops tm0 _ i (V:=V0) (V':=V1) (fun j hj=>by simp[V1,show j≠i by omega])];simp[V1]
      have hcong:∀{A B:Nat->AStep} k,(∀j,j<k->A j=B j)->XS A f0 (fun _=>true) k=XS B f0 (fun _=>true) k:=by
       intro A B k
       induction k with
       |zero=>intro _;rfl
       |succ k ih=>intro hh;simp only[XS,if_true];rw[ih fun j hj=>hh j (by omega),hh k (by omega)]
      have hm1:∀id,ZY ({s1 with m:=z.on s1.m}.put o.dst v).m id=XS Z1 f0 (fun _=>true) (i+1) id:=fun id=>by
       show ZY (z.on s1.m) id=_;rw[q2]
       rw[EB hm (fun t ht=>by
        obtain⟨x,hx⟩:=(q6 t ht).1
        exact⟨x,(hvs _ _ _ _ hx).1⟩) (fun t ib bk he=>(q5 t ib bk he).2.1) id]
       simp only[XS,if_true];rw[show Z1 i=z by simp[Z1]];exact KW (congrFun (hcong (A:=Z0) (B:=Z1) i fun j hj=>by simp[Z1,show j≠i by omega]) id)
      obtain⟨u1,u2,u3⟩:=h7 ho htm1 hm1;have e1:i+(o::r).length=i+1+r.length:=by simp;omega
      rw[e1];refine⟨u1,u2,fun j hj1 hj2 o' ho'=>?_⟩;by_cases e:j=i
      . subst e
        rw[hoi] at ho';cases ho'
        have e1:Yh ops V tm0 (fun _=>true) j=s.tm:=by
         rw[ht];exact Nn ops tm0 _ j fun j' hj'=>by rw[(h1 j' (by omega)).1];simp[V1,show j'≠j by omega]
        refine⟨fun id x hx=>?_,fun r' C=>?_⟩
        . rw[hMi] at hx
          have:=(hvs _ _ _ _ hx).1;rw[hm id] at this;rw[<- this];exact congrFun (hcong (A:=Z) (B:=Z0) j fun j' hj'=>by rw[(h1 j' (by omega)).2.1];simp[Z1,show j'≠j by omega]) id
        . rw[e1,hVi,hZi,hMi]
          exact t2 r' C
      . have:=u3 j (by omega) hj2 o' ho'
        rw[hstr] at this;exact this
  . cases h
theorem IT:∀{l q:List (Nat × Nat)},KI l q=true->l=q
 | [],[],_=>rfl
 | [],_::_,h=>by simp[KI] at h
 |_::_,[],h=>by simp[KI] at h
 |(a,b)::r,(c,d)::q,h=>by
  simp only[KI,Bool.and_eq_true] at h;rw[Nat.eq_of_beq_eq_true h.1,Nat.eq_of_beq_eq_true h.2.1,IT h.2.2]
theorem Iq (hE:ZC E) (hcf:Yr E cf) {ops:Array Oper} {wm:Bool} {vis:Nat->AMem->AMem} {keep:Nat->Nat->Prop} (hvs:∀i m id x,ZY (vis i m) id=some x->ZY m id=some x/\keep i id) {s s1:St} {acc':List (Nat × Nat)} {id:Nat}
 (h1:Ua E cf wm ops vis s.n ops.toList 0 [] s=some (acc',s1)) (hdown:SD ops=true) (hap:Tf ops ops.size=true)
 (hkeep1:∀i id,i<ops.size->keep i id->∀j,j<ops.size->VP s.n s.str j id->Zv ops i j=true)
 (hkeep2:∀i id,i<ops.size->keep i id->∀j,j<ops.size->(j,id)∈acc'->(∀o,ops[j]? =some o->UK E.P o.op=true)->Zv ops i j=true\/Zv ops j i=true\/i=j)
 (hord:∀i j,i<ops.size->j<ops.size->∀t t',(i,t)∈acc'->(j,t')∈acc'->(∀o,ops[i]? =some o->UK E.P o.op=true)->(∀o,ops[j]? =some o->UK E.P o.op=true)->i<j->Zv ops j i=true):
 Z9 s {s1 with n:=s.n+ops.size*s.str}/\s1.ms=s.ms/\
 (Obs s1->∀(ro:Option Nat) (C:Ctx) (β:Nm) (a:Act) (w:World) (Q:Exit->Act->World->Prop),FrOk β s.tm a.tmps->Rel C β s.m w->(∀id,s.n<=id->id<s.n+ops.size*s.str->β id=none)->
  (∀β' a' w',Ext β β'->(∀id,id<s.n\/s.n+ops.size*s.str<=id->β' id=β id)->FrOk β' s1.tm a'.tmps->a'.defers=a.defers->Rel C β' s1.m w'->Q .normal a' w')->(Code.region id ops true).wpIn (FW ro) 0 E.P Q a w):=by
 obtain⟨V,Z,mi,_,_,h3,h4,h5,h6,h7⟩:=Es hE hcf hvs (tm0:=s.tm) (f0:=ZY s.m) (V0:=fun _=>.any) (Z0:=fun _=>.news []) (M0:=fun _=>[]) (i:=0) h1 (fun j _=>by simp);rw[Nat.zero_add] at h6 h7;have hlen:ops.toList.length=ops.size:=by simp
 rw[hlen] at h6 h7;refine⟨⟨by show s.n<=s.n+ops.size*s.str;omega,h3.ob,h3.po,h3.str,h3.rd⟩,h5,fun ho1 ro C β a w Q hf hr hfree hQ=>?_⟩;obtain⟨t1,t2,t3⟩:=h7 ho1 rfl (fun _=>rfl);have hfree:∀id,s.n<=id->id<s.n+ops.size*s.str->β id=none:=hfree
 have hQ:∀β' a' w',Ext β β'->(∀id,id<s.n\/s.n+ops.size*s.str<=id->β' id=β id)->FrOk β' s1.tm a'.tmps->a'.defers=a.defers->Rel C β' s1.m w'->Q .normal a' w':=hQ
 refine wpIn_region_any hE.mixed ?_
 -- which names an operation may see
 have hkeep:∀i,i<ops.size->∀id x,ZY (mi i) id=some x->(∀j,j<ops.size->VP s.n s.str j id->Zv ops i j=true)/\∀j,j<ops.size->id∈(Z j).tids->Zv ops i j=true\/Zv ops j i=true\/i=j:=by
  intro i hi id x hx;have hk:=(h6 i (Nat.zero_le _) hi).2.2.2 id x hx;refine⟨hkeep1 i id hi hk,fun j hj ht=>?_⟩;obtain⟨_,g2,g3⟩:=(h6 j (Nat.zero_le _) hj).2.2.1 id ht;exact hkeep2 i id hi hk j hj g2 g3
 have hZ:Ba Z s.n s.str ops.size:=⟨fun k l id x hk hz=>(h6 k (Nat.zero_le _) hk).1 l id x (.inl hz),fun k t ib bk hk=>(h6 k (Nat.zero_le _) hk).2.1 t ib bk,fun k ps l id x hk hz=>(h6 k (Nat.zero_le _) hk).1 l id x (.inr ⟨ps,hz⟩)⟩
 have hall:∀k,k<=ops.size->∀(V:Nat->AV),Yh ops V s.tm (fun j=>decide (j<k)) ops.size=Yh ops V s.tm (fun _=>true) k:=fun k hk V=>DP ops V s.tm k ops.size hk
 have hmall:∀k,k<=ops.size->∀id,XS Z (ZY s.m) (fun j=>decide (j<k)) ops.size id=XS Z (ZY s.m) (fun _=>true) k id:=fun k hk id=>by
  have e:=Lk (f0:=ZY s.m) hZ (l:=fun j=>decide (j<k)) (id:=id) (K:=k) (ops.size-k) (by omega) fun j h1 _ hl=>by simp at hl;omega
  rw[show k+(ops.size-k)=ops.size by omega] at e;rw[e];exact OW hZ k hk fun j hj _=>by simp[hj]
 by_cases hs0:s.str=0/\ops.size=0
 . -- nothing to do
   have he:ops.size=0:=hs0.2;have e1:=t1;rw[he];refine⟨?_,?_⟩
   . refine List.eq_nil_iff_forall_not_mem.2 fun i hi=>?_
     obtain⟨_,oi,hoi,_⟩:=mem_ready.1 hi;have:=(Array.getElem?_eq_some_iff.1 hoi).1;omega
   . refine hQ β a _ (Ext.refl β) (fun _ _=>rfl) ?_ rfl ?_
     . rw[t1,he];exact hf
     . refine hr.drew1.weaken fun id x hx=>?_
       rw[t2 id,he] at hx;exact hx
 . have hgo:=jjkb (P:=E.P) (C:=C) (ops:=ops) (r:=ro) (D:=a.defers) (V:=V) (Z:=Z) (tm0:=s.tm) (f0:=ZY s.m) (b:=s.n) (str:=s.str) (q:=ops.size) (β0:=β) (Q:=Q) (mi:=mi)
    hdown hap rfl hZ (fun i hi t ht=>((h6 i (Nat.zero_le _) hi).2.2.1 t ht).1) (fun i j hi hj t ht t' ht' hij=>?_)
    (fun i hi id x hx=>⟨?_,hkeep i hi id x hx⟩) (fun i hi o hoi=>?_) (fun a' w' β' m f1 f2 f3 f4 f5 f6=>?_) ops.size (Array.replicate ops.size false) a {w with drawn:=w.drawn+1} β ?_ ?_ ?_
   . exact hgo
   . obtain⟨_,m1,n1⟩:=(h6 i (Nat.zero_le _) hi).2.2.1 t ht
     obtain⟨_,m2,n2⟩:=(h6 j (Nat.zero_le _) hj).2.2.1 t' ht';exact hord i j hi hj t t' m1 m2 n1 n2 hij
   . rw[hmall i (by omega) id]
     exact(t3 i (Nat.zero_le _) hi _ (Array.getElem?_eq_getElem hi)).1 id x hx
   . rw[hall i (by omega)]
     exact(t3 i (Nat.zero_le _) hi o hoi).2 ro C
   . refine hQ β' a' w' f5 f6 (by rw[t1];exact f1) f2 (f4.weaken fun id x hx=>?_)
     rw[t2 id] at hx;rw[f3 id];exact hx
   . exact⟨by simp,fun j oj _ hl=>(by rw[getD_replicate_false] at hl;cases hl),fun t _ ht=>getD_in (by simpa using ht) (getD_replicate_false _ _)⟩
   . have:(fun j=>!(Array.replicate ops.size false).getD j false)=fun _=>true:=by funext j;rw[getD_replicate_false];rfl
     rw[this];simp
   . have e:(fun j=>(Array.replicate ops.size false).getD j false)=fun _=>false:=by funext j;exact getD_replicate_false _ _
     have hfd:∀k,Yh ops V s.tm (fun _=>false) k=s.tm:=by
      intro k
      induction k with
      |zero=>rfl
      |succ k ih=>simp only[Yh];rw[ih];rfl
     have hmd:∀k,XS Z (ZY s.m) (fun _=>false) k=ZY s.m:=by
      intro k
      induction k with
      |zero=>rfl
      |succ k ih=>simp only[XS];rw[ih];rfl
     refine⟨by rw[e,hfd];exact hf,rfl,⟨s.m,fun id=>by rw[e,hmd],hr.drew1⟩,fun j hj _ id hrg=>?_,Ext.refl β,fun _ _=>rfl⟩;refine hfree id (by unfold VP at hrg;omega) ?_;have:j*s.str+s.str<=ops.size*s.str:=by rw[<- Nat.succ_mul];exact Nat.mul_le_mul_right _ hj
     unfold VP at hrg;omega
theorem jjm1 (hE:ZC E) (hcf:Yr E cf) {ops:Array Oper} {s s':St} {id:Nat} (h:Me E cf ops s=some s'):Z9 s s'/\s'.ms=s.ms/\
 (Obs s'->∀(ro:Option Nat) (C:Ctx) (β:Nm) (a:Act) (w:World) (Q:Exit->Act->World->Prop),FrOk β s.tm a.tmps->Rel C β s.m w->(∀id,s.n<=id->id<s'.n->β id=none)->
  (∀β' a' w',Ext β β'->(∀id,id<s.n\/s'.n<=id->β' id=β id)->FrOk β' s'.tm a'.tmps->a'.defers=a.defers->Rel C β' s'.m w'->Q .normal a' w')->(Code.region id ops true).wpIn (FW ro) 0 E.P Q a w):=by
 unfold Me at h;split at h
 . rename_i ts s0 hd h0
   split at h
   . rename_i ts' s1 h1
     split at h
     . rename_i hc
       simp only[Option.some.injEq] at h;subst h;simp only[Bool.and_eq_true] at hc;obtain⟨hts,hch⟩:=hc;have hts:=IT hts;subst hts;simp only[Uk,Bool.and_eq_true] at hd;obtain⟨_,hdown,hap⟩:=hd;refine(fun K=>⟨K.1,K.2.1,fun ho=>K.2.2 (ho.congr (s':=s1) rfl rfl)⟩) (Iq hE hcf (keep:=fun i id=>V4 ops ts' s.n s.str i id=true) (id:=id) (fun i m id x hx=>OX hx) h1 hdown hap (fun i id hi hk j hj hrg=>?_) (fun i id hi hk j hj hm _=>?_) (fun i j hi hj t t' m1 m2 _ _ hij=>?_))
       . simp only[V4,Bool.and_eq_true] at hk
         have h1:Nat.ble s.n id=true:=Nat.ble_eq_true_of_le (by unfold VP at hrg;omega)
         have hlt:id<s.n+ops.size*s.str:=by
          have:j*s.str+s.str<=ops.size*s.str:=by rw[<- Nat.succ_mul];exact Nat.mul_le_mul_right _ hj
          unfold VP at hrg;omega
         have h2:Nat.blt id (s.n+ops.size*s.str)=true:=by rw[Nat.blt_eq];exact hlt
         have hdiv:(id-s.n) / s.str=j:=by
          unfold VP at hrg;have hp:0<s.str:=by omega
          rw[Nat.div_eq_iff hp];omega
         have hk1:=hk.1;rw[h1,h2,Bool.and_self] at hk1;simp only[hdiv] at hk1;exact hk1
       . simp only[V4,Bool.and_eq_true] at hk
         have:=List.all_eq_true.1 hk.2 _ hm;simp only[Nat.beq_refl,Bool.not_true,Bool.false_or,Bool.or_eq_true] at this;rcases this with h|h|h
         . exact .inl h
         . exact .inr (.inl h)
         . exact .inr (.inr (Nat.eq_of_beq_eq_true h))
       . have h1:=List.all_eq_true.1 hch _ m1
         have h2:=List.all_eq_true.1 h1 _ m2;simp only[Bool.or_eq_true] at h2;rcases h2 with h|h
         . have:=Nat.le_of_ble_eq_true h;omega
         . exact h
     . cases h
   . cases h
 . cases h
theorem Hy {h:List Nat}:∀{m:AMem} {id:Nat} {x:ABlk},ZY (Tr h m) id=some x->ZY m id=some x
 | [],_,_,e=>by cases e
 | (i,b)::r,id,x,e=>by
  simp only[Tr] at e;split at e
  . rename_i hh
    have e2:=Hy e;simp only[ZY];split
    . rename_i hb
      exfalso;have hb:=Nat.eq_of_beq_eq_true hb;subst hb;exact look_dropL_no hh e
    . exact e2
  . simp only[ZY] at e ⊢
    split
    . rename_i hb
      rw[hb] at e;exact e
    . rename_i hb
      rw[hb] at e;exact Hy e
where look_dropL_no {h:List Nat} {id:Nat} (hh:h.any (Nat.beq id)=true):∀{m:AMem} {x:ABlk},ZY (Tr h m) id=some x->False
 | [],_,e=>by cases e
 | (i,b)::r,x,e=>by
  simp only[Tr] at e;split at e
  . exact look_dropL_no hh e
  . rename_i hn
    simp only[ZY] at e;split at e
    . rename_i hb
      have hb:=Nat.eq_of_beq_eq_true hb;subst hb;rw[hh] at hn;cases hn
    . exact look_dropL_no hh e
theorem jjga {P:Program} {ops:Array Oper} {tm:List AV} {ts:List (Nat × Nat)} {n0 str i:Nat} {m:AMem} {id:Nat} {x:ABlk} (h:ZY (PB P ops tm ts n0 str i m) id=some x):ZY m id=some x/\V4 ops ts n0 str i id=true:=by
 unfold PB at h;split at h
 . split at h
   . exact OX (Hy h)
   . exact OX h
 . cases h
theorem jjly (hE:ZC E) (hcf:Yr E cf) {ops:Array Oper} {s s':St} {id:Nat} (h:Mg E cf ops s=some s'):Z9 s s'/\s'.ms=s.ms/\
 (Obs s'->∀(ro:Option Nat) (C:Ctx) (β:Nm) (a:Act) (w:World) (Q:Exit->Act->World->Prop),FrOk β s.tm a.tmps->Rel C β s.m w->(∀id,s.n<=id->id<s'.n->β id=none)->
  (∀β' a' w',Ext β β'->(∀id,id<s.n\/s'.n<=id->β' id=β id)->FrOk β' s'.tm a'.tmps->a'.defers=a.defers->Rel C β' s'.m w'->Q .normal a' w')->(Code.region id ops true).wpIn (FW ro) 0 E.P Q a w):=by
 unfold Mg at h;split at h
 . rename_i ts s0 hd h0
   split at h
   . rename_i ts' s1 h1
     split at h
     . rename_i hc
       simp only[Option.some.injEq] at h;subst h;simp only[Bool.and_eq_true] at hc;obtain⟨hts,hch⟩:=hc;have hts:=IT hts;subst hts;simp only[Uk,Bool.and_eq_true] at hd;obtain⟨_,hdown,hap⟩:=hd;refine(fun K=>⟨K.1,K.2.1,fun ho=>K.2.2 (ho.congr (s':=s1) rfl rfl)⟩) (Iq hE hcf (keep:=fun i id=>V4 ops ts' s.n s.str i id=true) (id:=id) (fun i m id x hx=>jjga hx) h1 hdown hap (fun i id hi hk j hj hrg=>?_) (fun i id hi hk j hj hm _=>?_) (fun i j hi hj t t' m1 m2 _ _ hij=>?_))
       . simp only[V4,Bool.and_eq_true] at hk
         have h1:Nat.ble s.n id=true:=Nat.ble_eq_true_of_le (by unfold VP at hrg;omega)
         have hlt:id<s.n+ops.size*s.str:=by
          have:j*s.str+s.str<=ops.size*s.str:=by rw[<- Nat.succ_mul];exact Nat.mul_le_mul_right _ hj
          unfold VP at hrg;omega
         have h2:Nat.blt id (s.n+ops.size*s.str)=true:=by rw[Nat.blt_eq];exact hlt
         have hdiv:(id-s.n) / s.str=j:=by
          unfold VP at hrg;have hp:0<s.str:=by omega
          rw[Nat.div_eq_iff hp];omega
         have hk1:=hk.1;rw[h1,h2,Bool.and_self] at hk1;simp only[hdiv] at hk1;exact hk1
       . simp only[V4,Bool.and_eq_true] at hk
         have:=List.all_eq_true.1 hk.2 _ hm;simp only[Nat.beq_refl,Bool.not_true,Bool.false_or,Bool.or_eq_true] at this;rcases this with h|h|h
         . exact .inl h
         . exact .inr (.inl h)
         . exact .inr (.inr (Nat.eq_of_beq_eq_true h))
       . have h1:=List.all_eq_true.1 hch _ m1
         have h2:=List.all_eq_true.1 h1 _ m2;simp only[Bool.or_eq_true] at h2;rcases h2 with h|h
         . have:=Nat.le_of_ble_eq_true h;omega
         . exact h
     . cases h
   . cases h
 . cases h
theorem L9 {ops:Array Oper} {n0 str i:Nat}:∀{m:AMem} {id:Nat} {x:ABlk},ZY (Rb ops n0 str i m) id=some x->ZY m id=some x/\PW ops n0 str i id=true
 | [],_,_,h=>by cases h
 | (j,b)::r,id,x,h=>by
  simp only[Rb] at h;by_cases e:id=j
  . subst e
    split at h
    . rename_i hk
      rw[Tw] at h ⊢;exact⟨h,hk⟩
    . rename_i hk
      have:=(L9 h).2;rw[hk] at this;cases this
  . split at h
    . rw[Vp e] at h ⊢
      exact L9 h
    . rw[Vp e]
      exact L9 h
theorem Eq {ops:Array Oper} {i:Nat}:∀{l:List Oper} {j:Nat},O5 ops i l j=true->∀k,k<l.length->∀o,l[k]? =some o->TN o.op=true->i=j+k\/Zv ops i (j+k)=true\/Zv ops (j+k) i=true
 | [],_,_,k,hk,_,_,_=>by simp at hk
 | o::r,j,h,k,hk,o',ho,hs=>by
  simp only[O5,Bool.and_eq_true] at h
  cases k with
  |zero=>
   simp at ho;subst ho;have h1:=h.1;rw[hs] at h1;simp only[Bool.not_true,Bool.false_or,Bool.or_eq_true] at h1;rcases h1 with h1|h1|h1
   . exact .inl (by rw[Nat.add_zero];exact Nat.eq_of_beq_eq_true h1)
   . exact .inr (.inl h1)
   . exact .inr (.inr h1)
  |succ k=>
   have:=Eq h.2 k (by simpa using hk) o' (by simpa using ho) hs
   rwa[show j+(k+1)=j+1+k by omega]
theorem Ef {P:Program} {ops:Array Oper}:∀{l:List Oper} {i:Nat},Ms P ops l i=true->∀k,k<l.length->∀o,l[k]? =some o->UK P o.op=true->O5 ops (i+k) ops.toList 0=true
 | [],_,_,k,hk,_,_,_=>by simp at hk
 | o::r,i,h,k,hk,o',ho,hs=>by
  simp only[Ms,Bool.and_eq_true] at h
  cases k with
  |zero=>
   simp at ho;subst ho;have h1:=h.1;rw[hs] at h1;simpa using h1
  |succ k=>
   have:=Ef h.2 k (by simpa using hk) o' (by simpa using ho) hs
   rwa[show i+(k+1)=i+1+k by omega]
theorem jjj6 {P:Program} {o:Op} (h:UK P o=true):TN o=true:=by
 unfold TN;split<;>first|rfl|(simp[UK,Wf,X8] at h)
theorem jjit {ops:Array Oper} (hdown:SD ops=true) {i j:Nat} (hw:Zv ops i j=true):j<i:=by
 have hr:=OV hw
 have one:∀{i:Nat} {o:Oper} {e:Edge},ops[i]? =some o->e∈o.after.toList->Region.binds .any e=true->e.on<i:=by
  intro i o e ho he hb;have hi:i<ops.size:=(Array.getElem?_eq_some_iff.1 ho).1;have h1:=List.all_eq_true.1 hdown i (List.mem_range.2 hi);rw[ho] at h1;have h2:=List.all_eq_true.1 h1 e he;simp only[hb,Bool.not_true,Bool.false_or] at h2
  rwa[Nat.blt_eq] at h2
 have key:∀{i j:Nat},Reach ops i j->j<i:=by
  intro i j h
  induction h with
  |one ho he hb=>exact one ho he hb
  |step ho he hb _ ih=>exact Nat.lt_trans ih (one ho he hb)
 exact key hr
theorem jjm0 (hE:ZC E) (hcf:Yr E cf) {ops:Array Oper} {s s':St} {id:Nat} (hw:B2 E.P ops=true) (h:Mf E cf ops s=some s'):Z9 s s'/\s'.ms=s.ms/\
 (Obs s'->∀(ro:Option Nat) (C:Ctx) (β:Nm) (a:Act) (w:World) (Q:Exit->Act->World->Prop),FrOk β s.tm a.tmps->Rel C β s.m w->(∀id,s.n<=id->id<s'.n->β id=none)->
  (∀β' a' w',Ext β β'->(∀id,id<s.n\/s'.n<=id->β' id=β id)->FrOk β' s'.tm a'.tmps->a'.defers=a.defers->Rel C β' s'.m w'->Q .normal a' w')->(Code.region id ops true).wpIn (FW ro) 0 E.P Q a w):=by
 simp only[B2,Uk,Bool.and_eq_true] at hw;obtain⟨_,hg,_,hdown,hap⟩:=hw;have hlen:ops.toList.length=ops.size:=by simp
 have hpair:∀i j,i<ops.size->j<ops.size->(∀o,ops[i]? =some o->UK E.P o.op=true)->(∀o,ops[j]? =some o->TN o.op=true)->i=j\/Zv ops i j=true\/Zv ops j i=true:=by
  intro i j hi hj h1 h2;have e1:ops.toList[i]? =some ops[i]:=by simp[hi]
  have e2:ops.toList[j]? =some ops[j]:=by simp[hj]
  have g1:=Ef hg i (by rw[hlen];exact hi) _ e1 (h1 _ (Array.getElem?_eq_getElem hi));rw[Nat.zero_add] at g1;have g2:=Eq g1 j (by rw[hlen];exact hj) _ e2 (h2 _ (Array.getElem?_eq_getElem hj))
  rwa[Nat.zero_add] at g2
 unfold Mf at h;split at h
 . rename_i ts s1 h1
   simp only[Option.some.injEq] at h;subst h;refine(fun K=>⟨K.1,K.2.1,fun ho=>K.2.2 (ho.congr (s':=s1) rfl rfl)⟩) (Iq hE hcf (keep:=fun i id=>PW ops s.n s.str i id=true/\∀o,ops[i]? =some o->TN o.op=true) (id:=id) (fun i m id x hx=>?_) h1 hdown hap (fun i id hi hk j hj hrg=>?_) (fun i id hi hk j hj _ hwr=>?_) (fun i j hi hj t t' _ _ n1 n2 hij=>?_))
   . unfold Jp at hx
     split at hx
     . rename_i o ho
       split at hx
       . rename_i hs
         obtain⟨q1,q2⟩:=L9 hx;exact⟨q1,q2,fun o' ho'=>by rw[ho] at ho';cases ho';exact hs⟩
       . cases hx
     . cases hx
   . have hk:=hk.1
     simp only[PW] at hk;have h1:Nat.ble s.n id=true:=Nat.ble_eq_true_of_le (by unfold VP at hrg;omega)
     have hlt:id<s.n+ops.size*s.str:=by
      have:j*s.str+s.str<=ops.size*s.str:=by rw[<- Nat.succ_mul];exact Nat.mul_le_mul_right _ hj
      unfold VP at hrg;omega
     have h2:Nat.blt id (s.n+ops.size*s.str)=true:=by rw[Nat.blt_eq];exact hlt
     have hdiv:(id-s.n) / s.str=j:=by
      unfold VP at hrg;have hp:0<s.str:=by omega
      rw[Nat.div_eq_iff hp];omega
     rw[h1,h2,Bool.and_self] at hk;simp only[hdiv] at hk;exact hk
   . rcases hpair j i hj hi hwr hk.2 with h|h|h
     . exact .inr (.inr h.symm)
     . exact .inr (.inl h)
     . exact .inl h
   . rcases hpair i j hi hj n1 (fun o ho=>jjj6 (n2 o ho)) with h|h|h
     . omega
     . have:=jjit hdown h;omega
     . exact h
 . cases h
end
end Go.Proofs.YtljeokninakliaaGreatDoor
end
section
namespace Go.Proofs.YtljeokninakliaaGreatDoor
open Go.RowKit
section
variable {E:Env} {cf:FuncId->List AV->St->Option (AV × St)} {yf:Nat->List AV->St->Option (AV × St)}
theorem Db (N:Nat->AMem):∀k,T9 N (fun _=>false) k=[]
 |0=>rfl
 |k+1=>by simp only[T9];rw[Db N k];rfl
theorem Dj (ops:Array Oper) (V:Nat->AV) (tm:List AV):∀k,Yh ops V tm (fun _=>false) k=tm
 |0=>rfl
 |k+1=>by simp only[Yh];rw[Dj ops V tm k];rfl
theorem Ce {F:Fence} {n:Nat} {P:Program} {ops:Array Oper} {md:Region.Mode} {Q':Exit->Act->World->Prop}:∀(l:List Oper) (k:Nat) (listed:Array Bool) (a:Act) (w:World),(∀j,l[j]? =ops[k+j]?)->
 Region.seqB md ops l.length k listed=true->wpListIn F n P ops Q' l a w->wpAnyIn F n P md ops Q' l.length listed a w
 | [],_,_,_,_,_,hB,h=>⟨by simpa[Region.seqB] using hB,h⟩
 |o::l,k,listed,a,w,hl,hB,h=>by
  have h0:ops[k]? =some o:=by simpa using (hl 0).symm
  simp only[List.length_cons,Region.seqB,Bool.and_eq_true,decide_eq_true_eq] at hB;refine⟨fun h1=>(by rw[hB.1] at h1;cases h1),fun i hi=>?_⟩;rw[hB.1] at hi;have hik:i=k:=by simpa using hi
  subst hik;have hw:wpOpIn F n P ops Q' i (wpListIn F n P ops Q' l) a w:=by unfold wpOpIn;simp only[h0];exact h
  exact wpOpIn_mono (fun a' w' h'=>Ce l (i+1) _ a' w' (fun j=>by have:=hl (j+1);simpa[Nat.add_assoc,Nat.add_comm 1 j] using this) hB.2 h') hw
theorem jjm2 (hE:ZC E) (hcf:Yr E cf) (hyf:Sy E yf) {ops:Array Oper} {s s':St} {id:Nat} (h:Ol E cf yf ops s=some s'):Z9 s s'/\s'.ms=s.ms/\
 (Obs s'->∀(ro:Option Nat) (C:Ctx) (β:Nm) (a:Act) (w:World) (Q:Exit->Act->World->Prop),FrOk β s.tm a.tmps->Rel C β s.m w->(∀id,s.n<=id->id<s'.n->β id=none)->
  (∀β' a' w',Ext β β'->(∀id,id<s.n\/s'.n<=id->β' id=β id)->FrOk β' s'.tm a'.tmps->a'.defers=a.defers->Rel C β' s'.m w'->Q .normal a' w')->(Code.region id ops true).wpIn (FW ro) 0 E.P Q a w):=by
 unfold Ol at h;split at h
 . rename_i hok
   split at h
   . rename_i acc s1 hq
     generalize hqd:YJ ops.toList=q at *;simp only[Tq,Bool.and_eq_true,Bool.or_eq_true] at hok;obtain⟨k1,k2,k3,k4,k5,k6⟩:=hok;have k4:q<=ops.size:=Nat.le_of_ble_eq_true k4;have hlen:(ops.toList.take q).length=q:=by simp;omega
     obtain⟨V,N,_,h2,h3,h4,h5,hms,h6,h7⟩:=Er hE hcf (tm0:=s.tm) (V0:=fun _=>.any) (N0:=fun _=>[]) (i:=0) hq (fun j hj=>by
      rw[hlen] at hj
      simp[List.getElem?_take,hj])
     rw[hlen,Nat.zero_add] at h2 h6 h7;subst h2;rw[Cv] at h;obtain⟨g1,gm,g2⟩:=Iu hE hcf hyf h;have hstr:s1.str=s.str:=h3.str;have gmid:Z9 s1 {s1 with m:=s1.m++T9 N (fun _=>true) q,n:=s1.n+q*s1.str}:=⟨by show s1.n<=s1.n+q*s1.str;omega,fun b hb=>hb,fun p hp=>hp,rfl,rfl⟩
     have g0:=h3.trans (gmid.trans g1);refine⟨g0,gm.trans hms,fun ho ro C β a w Q hf hr hfree hQ=>?_⟩;have ho1:Obs s1:=(ho.of g1).congr (s':=s1) rfl rfl;obtain⟨t1,t2⟩:=h7 ho1 rfl;have hn':s.n+q*s.str<=s'.n:=by have:=g1.n;simp only at this;rw[h5,hstr] at this;exact this
     refine wpIn_region_any hE.mixed ?_
     have hN:∀j id x,ZY ((fun j=>if j<q then N j else[]) j) id=some x->VP s.n s.str j id:=by
      intro j id x hx;by_cases hj:j<q
      . simp only[hj,if_true] at hx;exact h6 j (Nat.zero_le _) hj id x hx
      . simp only[hj,if_false] at hx;cases hx
     have hNn:∀(l:Nat->Bool) k,k<=q->T9 (fun j=>if j<q then N j else[]) l k=T9 N l k:=by
      intro l k
      induction k with
      |zero=>intro _;rfl
      |succ k ih=>intro hk;simp only[T9];rw[ih (by omega),if_pos (show k<q by omega)]
     have hgo:=jjno (r:=ro) (D:=a.defers) (P:=E.P) (C:=C) (ops:=ops) (V:=V) (N:=fun j=>if j<q then N j else[]) (tm0:=s.tm) (m0:=s.m) (b:=s.n) (str:=s.str) (q:=q) (β0:=β) (Q:=Q)
      (mi:=fun j=>s.m++Wa ops j (Wl N j)) k1 k2 k3 k4 (by
       rcases k6 with h|h
       . exact .inl (Nat.eq_of_beq_eq_true h)
       . exact .inr h) hN ?_ ?_ ?_ q (Array.replicate ops.size false) a {w with drawn:=w.drawn+1} β ?_ ?_ ?_
     . rwa[show q+(ops.size-q)=ops.size by omega] at hgo
     . intro i hi id x hx
       rw[TV] at hx
       cases hm:ZY s.m id with
       |some y=>rw[hm] at hx;cases hx;exact .inl rfl
       |none=>
        rw[hm] at hx;obtain⟨p,p1,p2,p3⟩:=Hs hx;simp only[Wl,List.mem_map,List.mem_range] at p1;obtain⟨j,hj,rfl⟩:=p1;exact .inr ⟨rfl,j,hj,p2,by simp only[show j<q by omega,if_true];exact p3⟩
     . intro i hi o hoi
       rw[DP ops V s.tm i q (by omega),if_pos hi];exact t2 i (Nat.zero_le _) hi o hoi ro C
     . intro a' w' β' f1 f2 f3 f4 f5
       rw[hNn _ q (Nat.le_refl _)] at f3
       have hwl:wpListIn (FW ro) 0 E.P ops Q (ops.toList.drop q) a' w':=by
        refine g2 ho ro C β' a' w' Q ?_ ?_ (fun id h1 h2=>?_) fun β'' a'' w'' y1 y2 y3 y4 y5=>?_
        . show FrOk β' s1.tm _
          rw[t1];exact f1
        . show Rel C β' (s1.m++_) w'
          rw[h4];exact f3
        . have h1:s1.n+q*s1.str<=id:=h1
          rw[h5,hstr] at h1;rw[f5 id (.inr h1)];exact hfree id (by omega) h2
        . refine hQ β'' a'' w'' (f4.trans y1) (fun id hid=>?_) y3 (y4.trans f2) y5
          have i1:=g1.n;simp only at i1
          rw[y2 id (by
           show id<s1.n+q*s1.str\/s'.n<=id;rw[h5,hstr];rcases hid with h|h
           . exact .inl (by omega)
           . exact .inr h),f5 id (by
           rcases hid with h|h
           . exact .inl h
           . exact .inr (by omega))]
       have:=Ce (F:=FW ro) (n:=0) (P:=E.P) (md:=.any) (Q':=Q) (ops.toList.drop q) q (Vi ops q) a' w' (fun j=>by simp[List.getElem?_drop]) (by simpa using k5) hwl;simpa using this
     . refine⟨by simp,fun j oj _ hl=>(by rw[getD_replicate_false] at hl;cases hl),fun t _ ht=>getD_in (by simpa using ht) (getD_replicate_false _ _)⟩
     . have:(fun j=>!(Array.replicate ops.size false).getD j false)=fun _=>true:=by funext j;rw[getD_replicate_false];rfl
       rw[this];simp
     . have e:(fun j=>(Array.replicate ops.size false).getD j false)=fun _=>false:=by funext j;exact getD_replicate_false _ _
       refine⟨by rw[e,Dj];exact hf,rfl,by rw[e,Db,List.append_nil];exact hr.drew1,fun j hj _ id hrg=>?_,Ext.refl β,fun _ _=>rfl⟩;refine hfree id (by unfold VP at hrg;omega) ?_;have:j*s.str+s.str<=q*s.str:=by rw[<- Nat.succ_mul];exact Nat.mul_le_mul_right _ hj
       unfold VP at hrg;omega
   . cases h
 . cases h
theorem jjlz (hE:ZC E) (hcf:Yr E cf) (hyf:Sy E yf) {ops:Array Oper} {s s':St} {id:Nat} (h:Om E cf yf ops s=some s'):Z9 s s'/\s'.ms=s.ms/\
 (Obs s'->∀(ro:Option Nat) (C:Ctx) (β:Nm) (a:Act) (w:World) (Q:Exit->Act->World->Prop),FrOk β s.tm a.tmps->Rel C β s.m w->(∀id,s.n<=id->id<s'.n->β id=none)->
  (∀β' a' w',Ext β β'->(∀id,id<s.n\/s'.n<=id->β' id=β id)->FrOk β' s'.tm a'.tmps->a'.defers=a.defers->Rel C β' s'.m w'->Q .normal a' w')->(Code.region id ops true).wpIn (FW ro) 0 E.P Q a w):=by
 unfold Om at h;split at h
 . rename_i hw
   exact jjm0 hE hcf hw h
 . split at h
   . exact jjly hE hcf h
   . split at h
     . exact jjm2 hE hcf hyf h
     . exact jjm1 hE hcf h
def Sv (tmps:Array Value):ResultVar->Sem Value
 | .tmp t=>pure (tmps.getD t undef)
 | .cell a t=>do loadVar t (<- asAddr (tmps.getD a undef))
theorem LK {P:Program} {C:Ctx} {β:Nm} {tm:List AV} {m:AMem} {w:World} {tmps:Array Value} (hf:FrOk β tm tmps) (hr:Rel C β m w):∀{l:List ResultVar} {rs:List AV} {ob:List Bool},QP P tm m l=some (rs,ob)->ZZ ob->
 ∃vs,γt β rs=some vs/\(l.mapM (Sv tmps)).run P w= .ok vs w
 | [],rs,ob,h,_=>by simp only[QP,Option.some.injEq,Prod.mk.injEq] at h;obtain⟨rfl,rfl⟩:=h;exact⟨[],rfl,rfl⟩
 | .tmp t::r,rs,ob,h,ho=>by
  simp only[QP] at h;split at h
  . rename_i x l ob' hx hl
    simp only[Option.some.injEq,Prod.mk.injEq] at h;obtain⟨rfl,rfl⟩:=h;obtain⟨vs,h1,h2⟩:=LK hf hr hl ho;rcases hf.2 t _ hx with h3|⟨v,h3,h4⟩
    . cases h3
    . refine⟨v::vs,?_,?_⟩
      . simp only[γt]
        rw[show γ1 β (.c x)=some v from h3,h1]
      . rw[List.mapM_cons,Sem.run_bind]
        have e:(Sv tmps (.tmp t)).run P w= .ok v w:=by simp[Sv,h4]
        rw[e];simp[h2]
  . rename_i x l ob' hx hl
    simp only[Option.some.injEq,Prod.mk.injEq] at h;obtain⟨rfl,rfl⟩:=h;obtain⟨vs,h1,h2⟩:=LK hf hr hl ho;rcases hf.2 t _ hx with h3|⟨v,h3,h4⟩
    . cases h3
    . refine⟨v::vs,?_,?_⟩
      . simp only[γt]
        rw[show γ1 β (.agg x)=some v from h3,h1]
      . rw[List.mapM_cons,Sem.run_bind]
        have e:(Sv tmps (.tmp t)).run P w= .ok v w:=by simp[Sv,h4]
        rw[e];simp[h2]
  . cases h
 | .cell a t ::r,rs,ob,h,ho=>by
  simp only[QP] at h;split at h
  . rename_i x l ob' hx hl
    split at h
    . rename_i u news ob'' hload
      simp only[Option.some.injEq,Prod.mk.injEq] at h;obtain⟨rfl,rfl⟩:=h;rw[Cz] at ho;obtain⟨vs,h1,h2⟩:=LK hf hr hl ho.2;rcases hf.2 a _ hx with h3|⟨v,h3,h4⟩
      . subst h3;simp[Ug] at hload
      . obtain⟨β',y,w',e1,e2,e3,e4,e5⟩:=E8 (lo:=0) (hi:=0) hload ho.1 h3 hr (Sub.refl m)
        have hβ:β'=β:=by funext i;exact e3 i (.inr (Nat.zero_le _))
        subst hβ
        -- the address
        have hptr:∃id k j,x= .c (.ptr id k j)/\((∃z,u= .c z)\/∃z,u= .agg z):=by
         unfold Ug at hload;split at hload
         . split at hload
           . cases hload;exact⟨_,_,_,rfl,.inr ⟨_,rfl⟩⟩
           . cases hload;exact⟨_,_,_,rfl,.inl ⟨_,rfl⟩⟩
           . cases hload
         . cases hload
        obtain⟨id,k,j,rfl,hu⟩:=hptr;obtain⟨L,hL,hn,rfl⟩:=Qw h3
        have hrun:(loadVar t ⟨L.b,L.o+(k*L.s+j),none⟩).run P w= .ok y w':=by
         have e1':(Z4 (loadVar t ⟨L.b,L.o+(k*L.s+j),none⟩)).run P w= .ok (.value y) w':=e1;unfold Z4 at e1';rw[Sem.run_bind] at e1'
         cases Hd:(loadVar t ⟨L.b,L.o+(k*L.s+j),none⟩).run P w with
         |ok z w2=>rw[Hd] at e1';simp at e1';obtain⟨rfl,rfl⟩:=e1';rfl
         |halt z w2=>rw[Hd] at e1';cases e1'
        -- a load leaves the world
        have hw:w'=w:=by
         obtain⟨β2,y2,w2,d1,d2⟩:∃(b2:Nm) (y2:Value) (w2:World),(Z4 (Instr.loadAt t (.pointer (some ⟨L.b,L.o+(k*L.s+j),none⟩)))).run P w= .ok (.value y2) w2/\w2=w:=by
          unfold Ug at hload;simp only at hload;split at hload
          . rename_i yb ks hyb hlay
            obtain⟨q1,q2,_,_⟩:=P7 hlay;cases hload;rw[Vm] at ho;obtain⟨L',hL',hb⟩:=hr.blk id yb hyb;rw[hL] at hL';cases hL';obtain⟨us,hus,hc⟩:=NS hb ks j ho.1.1 ho.1.2;have hvl:us.length=ks.length:=by rw[SF hus,Nk]
            have hl2:=run_loadCells_list (P:=P) w ⟨L.b,L.o+(k*L.s+j),none⟩ us (fun i u hu=>by
             rw[Addr.add_lit];have:=(hc i u hu).2
             rwa[show L.o+(k*L.s+(j+i))=L.o+(k*L.s+j)+i by omega] at this)
            exact⟨β',.agg us.toArray,w,QU (by simp[Instr.loadAt,Instr.sureAddr,loadVar,Sem.run_bind,Rl q1 w,Uw q2 w,<- hvl,hl2]),rfl⟩
          . rename_i yb ks hyb hlay
            obtain⟨q1,q2,q3,_⟩:=P7 hlay;cases hload;rw[Vm] at ho;obtain⟨L',hL',hb⟩:=hr.blk id yb hyb;rw[hL] at hL';cases hL';obtain⟨us,hus,hc⟩:=NS hb ks j ho.1.1 ho.1.2;have q3:ks.length=1:=by simpa using q3
            have hul:us.length=1:=by rw[SF hus,Nk,q3]
            obtain⟨z,rfl⟩:=List.length_eq_one_iff.1 hul;have:=(hc 0 z rfl).2;simp only[Nat.add_zero] at this;exact⟨β',z,w,QU (by simp[Instr.loadAt,Instr.sureAddr,loadVar,Sem.run_bind,Rl q1 w,load,Sem.run,this]),rfl⟩
          . cases hload
         rw[e1] at d1;simp at d1;rw[d1.2,d2]
        subst hw;refine⟨y::vs,?_,?_⟩
        . have hy:γ1 β' u=some y:=by
           rcases hu with⟨z,rfl⟩|⟨z,rfl⟩<;>exact e4
          simp only[γt];rw[hy,h1]
        . rw[List.mapM_cons,Sem.run_bind]
          have e:(Sv tmps (.cell a t)).run P w'= .ok y w':=by simp[Sv,h4,asAddr,Sem.run_bind,hrun]
          rw[e];simp[h2]
    . cases h
  . cases h
theorem jjln {β:Nm} {rs:List AV} {vs:List Value} (h:γt β rs=some vs):γ β (PA rs)=some (if h:vs.toArray.size=1 then vs.toArray[0] else .tuple vs.toArray):=by
 match rs,vs,h with
 | [],vs,h=>simp only[γt,Option.some.injEq] at h;subst h;simp[PA,γ,γt]
 | [x],vs,h=>
  simp only[γt] at h;split at h
  . rename_i q qs hq hqs
    cases h;cases hqs;simp[PA,Vq hq]
  . cases h
 | x ::y::r,vs,h=>
  have hl:vs.length=r.length+2:=by
   have key:∀{l:List AV} {us:List Value},γt β l=some us->us.length=l.length:=by
    intro l
    induction l with
    |nil=>intro us hu;simp only[γt,Option.some.injEq] at hu;subst hu;rfl
    |cons p t ih=>
     intro us hu;simp only[γt] at hu;split at hu
     . rename_i q qs hq hqs;cases hu;simp[ih hqs]
     . cases hu
   have:=key h;simpa using this
  have hne:¬vs.toArray.size=1:=by simp;omega
  simp only[PA,γ];rw[h,dif_neg hne]
theorem jjow {β:Nm}:∀{args:List AV} {vs:List Value} {t:Nat} {av:AV},γt β args=some vs->args[t]? =some av->∃v,γ β av=some v/\vs[t]? =some v
 |args,vs,t,av,h,ht=>by
  obtain⟨q,hq,hg⟩:=Ij h ht;exact⟨q,Vq hg,hq⟩
theorem CA {β:Nm}:∀{l:List AV} {us:List Value},γt β l=some us->us.length=l.length
 | [],us,hu=>by simp only[γt,Option.some.injEq] at hu;subst hu;rfl
 |p::t,us,hu=>by
  simp only[γt] at hu;split at hu
  . rename_i q qs hq hqs;cases hu;simp[CA hqs]
  . cases hu
end
end Go.Proofs.YtljeokninakliaaGreatDoor
end
section
namespace Go.Proofs.YtljeokninakliaaGreatDoor
open Go.RowKit
theorem IL (r:Option Nat) (k:Nat):(FW r).room k:=fun _ h=>by simp[FW,Fence.wide] at h
section
variable {r:Option Nat} {P:Program} {Q:Exit->Act->World->Prop} {a:Act} {w:World} {c:Code}
theorem LU {b:Frame} {k:List Item} {cs:List Frame} (ha:(b.atR a k).about P w=none):(lone (b.atR a k) cs w).fenced P (FW r):=fenced_calm (n:=0) trivial (IL r _) ha
theorem jjfl (h:M6 r P c Q a w):(Code.loop c).wpIn (FW r) 0 P Q a w:=by
 intro b k cs hro _ _;obtain⟨e,a',w',hq,harr⟩:=h b k cs hro;exact⟨e,a',w',hq,.of_steps (.one (LU rfl) stepR_loop) harr⟩
theorem I5 (h:c.wpIn (FW r) 0 P (Exit.then (M6 r P c Q) Q) a w):M6 r P c Q a w:=by
 intro b k cs hro;obtain⟨e,a₁,w₁,hq,harr⟩:=h b (.inLoop c::k) cs hro trivial (IL r _)
 cases e with
 |normal=>
  obtain⟨e₂,a₂,w₂,hq₂,harr₂⟩:=hq b k cs hro;exact⟨e₂,a₂,w₂,hq₂,.of_steps (StepsIn.trans harr (.one (LU rfl) stepR_inLoop)) harr₂⟩
 |exit id=>exact⟨_,a₁,w₁,hq,.pass (x:=.inLoop c) rfl (fun _ _=>.inl (by simp)) harr⟩
 |goto l=>exact⟨_,a₁,w₁,hq,.pass (x:=.inLoop c) rfl (fun _ _=>.inl (by simp)) harr⟩
 |ret=>exact⟨_,a₁,w₁,hq,.pass (x:=.inLoop c) rfl (fun _ _=>.inl (by simp)) harr⟩
 |panic ch=>exact⟨_,a₁,w₁,hq,.pass (x:=.inLoop c) rfl (fun _ _=>.inl (by simp)) harr⟩
 |outgrown=>exact⟨_,a₁,w₁,hq,.pass (x:=.inLoop c) rfl (fun _ _=>.inl (by simp)) harr⟩
theorem I6 {Q':Exit->Act->World->Prop} (h:M6 r P c Q a w) (hq:∀e a w,Q e a w->Q' e a w):M6 r P c Q' a w:=
 fun b k cs hro=>let⟨e,a',w',q,x⟩:=h b k cs hro;⟨e,a',w',hq _ _ _ q,x⟩
theorem jjmu (I:Nat->Act->World->Prop) (round:∀n a w,I n a w->c.wpIn (FW r) 0 P (Exit.then (fun a' w'=>∃n',n'<n/\I n' a' w') Q) a w):∀n a w,I n a w->M6 r P c Q a w:=by
 intro n
 induction n using Nat.strongRecOn with
 |_ n ih=>
  intro a w h;refine I5 (wpIn_mono (round n a w h) fun e a' w' hq=>?_)
  cases e with
  |normal=>obtain⟨n',h1,h2⟩:=hq;exact ih n' h1 a' w' h2
  |_=>exact hq
def GK (r:Option Nat) (P:Program) (body c:Code) (Q:Exit->Act->World->Prop) (a:Act) (w:World):Prop:=
 ∀(b:Frame) (k:List Item) (cs:List Frame),b.roundOf=r->∃e a' w',Q e a' w'/\ArrivesIn (Machine.fenced P (FW r)) P (lone (b.atR a (.code c:: .inScope body::k)) cs w) b k cs e a' w'
theorem jjc5 {b:Frame} {k:List Item} {cs:List Frame}:step P (lone (b.atR a (.code (.scope c)::k)) cs w)= .next (lone (b.atR a (.code c:: .inScope c::k)) cs w):=
 step_lone_go (by simp[stepG,stepG.exec,Frame.atR])
theorem jj8e {b:Frame} {k:List Item} {cs:List Frame}:step P (lone (b.atR a (.inScope c::k)) cs w)= .next (lone (b.atR a k) cs w):=
 step_lone_go (by simp[stepG,stepG.exec,Frame.atR])
theorem jjcs (h:GK r P c c Q a w):(Code.scope c).wpIn (FW r) 0 P Q a w:=by
 intro b k cs hro _ _;obtain⟨e,a',w',hq,harr⟩:=h b k cs hro;exact⟨e,a',w',hq,.of_steps (.one (LU rfl) jjc5) harr⟩
theorem IP {body:Code} (h:c.wpIn (FW r) 0 P (fun e a' w'=>match e with | .goto l=>(match findLabel body l with|some rest=>GK r P body rest Q a' w'|none=>Q (.goto l) a' w')|e=>Q e a' w') a w):GK r P body c Q a w:=by
 intro b k cs hro;obtain⟨e,a₁,w₁,hq,harr⟩:=h b (.inScope body::k) cs hro trivial (IL r _)
 cases e with
 |normal=>exact⟨.normal,a₁,w₁,hq,StepsIn.trans harr (.one (LU rfl) jj8e)⟩
 |exit id=>
  have hx:exitTo id (.inScope body::k)=exitTo id k:=by simp[exitTo]
  exact⟨.exit id,a₁,w₁,hq,fun k' hk=>harr.1 k' (by rw[hx];exact hk),fun hr' hk=>harr.2 hr' (by rw[hx];exact hk)⟩
 | goto l=>
  cases hf:findLabel body l with
  |some rest=>
   simp only[hf] at hq;obtain⟨e₂,a₂,w₂,hq₂,harr₂⟩:=hq b k cs hro;exact⟨e₂,a₂,w₂,hq₂,.of_steps (harr.1 _ (by simp[gotoIn,hf])) harr₂⟩
  |none=>
   simp only[hf] at hq;have hx:gotoIn l (.inScope body::k)=gotoIn l k:=by simp[gotoIn,hf]
   exact⟨.goto l,a₁,w₁,hq,fun k' hk=>harr.1 k' (by rw[hx];exact hk),fun hr' hk=>harr.2 hr' (by rw[hx];exact hk)⟩
 |ret=>exact⟨_,a₁,w₁,hq,harr⟩
 |panic ch=>exact⟨_,a₁,w₁,hq,harr⟩
 |outgrown=>exact⟨_,a₁,w₁,hq,harr⟩
theorem jjiz {Q':Exit->Act->World->Prop} {body:Code} (h:GK r P body c Q a w) (hq:∀e a w,Q e a w->Q' e a w):GK r P body c Q' a w:=
 fun b k cs hro=>let⟨e,a',w',q,x⟩:=h b k cs hro;⟨e,a',w',hq _ _ _ q,x⟩
end
def Gy (r:Option Nat) (P:Program) (c:Code) (Q:Exit->Act->World->Prop) (a:Act) (w:World):Prop:=
 match c with
 | .loop b=>M6 r P b Q a w
 |c=>c.wpIn (FW r) 0 P Q a w
theorem RI {r:Option Nat} {P:Program} {c:Code} {Q:Exit->Act->World->Prop} {a:Act} {w:World} (h:Gy r P c Q a w):c.wpIn (FW r) 0 P Q a w:=by
 unfold Gy at h;split at h
 . exact jjfl h
 . exact h
section
variable {E:Env}
def R0 (C:Ctx) (β:Nm) (n n':Nat) (tm':List AV) (m':AMem) (ms':List Nat) (D:List Deferred) (e:Exit):Exit->Act->World->Prop:=
 fun e' a' w'=>e'=e/\∃β',Ext β β'/\(∀id,id<n\/n'<=id->β' id=β id)/\FrOk β' tm' a'.tmps/\DfOk β' ms' D a'.defers/\Rel C β' m' w'
def TT (E:Env) (run:Code->St->Option (Exit × St)):Prop:=
 ∀c s e s',run c s=some (e,s')->Z9 s s'/\(Obs s'->∀(ro:Option Nat) (D:List Deferred) (C:Ctx) (β:Nm) (a:Act) (w:World),RdOk β s.rd ro->FrOk β s.tm a.tmps->DfOk β s.ms D a.defers->Rel C β s.m w->(∀id,s.n<=id->id<s'.n->β id=none)->
  Gy ro E.P c (R0 C β s.n s'.n s'.tm s'.m s'.ms D e) a w)
theorem jjj7 {run:Code->St->Option (Exit × St)} {x:Code} (ih:TT E run):∀(k:Nat) (c:Code) (s:St) (e:Exit) (s':St),UH run x k c s=some (e,s')->Z9 s s'/\(Obs s'->∀(ro:Option Nat) (D:List Deferred) (C:Ctx) (β:Nm) (a:Act) (w:World),RdOk β s.rd ro->FrOk β s.tm a.tmps->DfOk β s.ms D a.defers->Rel C β s.m w->(∀id,s.n<=id->id<s'.n->β id=none)->
 GK ro E.P x c (R0 C β s.n s'.n s'.tm s'.m s'.ms D e) a w):=by
 intro k
 induction k with
 |zero=>intro c s e s' h;cases h
 | succ k ihk=>
  intro c s e s' h;unfold UH at h;split at h
  . rename_i l s1 h1
    obtain⟨g1,k1⟩:=ih _ _ _ _ h1;split at h
    . rename_i c' hf
      obtain⟨g2,k2⟩:=ihk _ _ _ _ h;refine⟨g1.trans g2,fun ho ro D C β a w hrd hfr hd hr hfree=>IP (wpIn_mono (RI (k1 (ho.of g2) ro D C β a w hrd hfr hd hr fun id h1 h2=>hfree id h1 (by have:=g2.n;omega))) fun e' a' w' ⟨he,β',x1,x2,x3,hd',x4⟩=>?_)⟩;subst he;simp only[hf];refine jjiz (k2 ho ro D C β' a' w' (by rw[g1.rd];exact hrd.ext x1) x3 hd' x4 fun id h1 h2=>?_) fun e'' a'' w'' ⟨he'',β'',y1,y2,y3,hd'',y4⟩=>⟨he'',β'',x1.trans y1,fun id hid=>?_,y3,hd'',y4⟩
      . rw[x2 id (.inr h1)]
        exact hfree id (by have:=g1.n;omega) h2
      . have i1:=g1.n
        have i2:=g2.n;rw[y2 id (by omega),x2 id (by omega)]
    . rename_i hf
      simp only[Option.some.injEq,Prod.mk.injEq] at h;obtain⟨rfl,rfl⟩:=h;refine⟨g1,fun ho ro D C β a w hrd hfr hd hr hfree=>IP (wpIn_mono (RI (k1 ho ro D C β a w hrd hfr hd hr hfree)) fun e' a' w' hp=>?_)⟩;have he:e'= .goto l:=hp.1;subst he;simp only[hf];exact hp
  . rename_i hne
    obtain⟨g1,k1⟩:=ih _ _ _ _ h;refine⟨g1,fun ho ro D C β a w hrd hfr hd hr hfree=>IP (wpIn_mono (RI (k1 ho ro D C β a w hrd hfr hd hr hfree)) fun e' a' w' hp=>?_)⟩;have he:e'=e:=hp.1;subst he
    cases e' with
    |goto l=>exact absurd h (hne l _)
    |_=>exact hp
theorem De {P:Program} {fn:Func} {tmps:Array Value} {R:Ending->World->Prop} {C:Ctx} {β:Nm} {m':AMem} (hR:∀w',Rel C β m' w'->∃v,(results fn tmps).run P w'= .ok v w'/\R (.returned v) w'):
 ∀(ms:List Nat) (m:AMem) (ds:List Deferred) (w:World),Tj ms m=some m'->DfOk β ms [] ds->Rel C β m w->LeavesInM Fence.wide 0 P fn tmps R ds .returning w
 | [],m,ds,w,hc,hd,hr=>by
  have hd:ds=[]:=hd;subst hd;simp only[Tj,Option.some.injEq] at hc;subst hc;exact hR w hr
 | id ::r,m,ds,w,hc,hd,hr=>by
  obtain⟨L,t,h1,rfl,h3⟩:=hd;simp only[Tj] at hc;split at hc
  . rename_i x hx
    split at hc
    . rename_i ho
      obtain⟨L',g1,g2,_,g4,_⟩:=hr.objs id x _ hx ho;rw[h1] at g1;cases g1;have g4:w.heap[L.b]? =some (.deferred (some [])):=g4;exact⟨fun e=>(by cases e),.inl ⟨L.b,_,rfl,run_takeDeferred g4,De hR r _ t _ hc h3 (hr.putO (o:=.dfr false) (ob:=.deferred none) hx ho h1 fun w' h=>h)⟩⟩
    . cases hc
  . cases hc
theorem Ih (hE : ZC E) {run:Code->St->Option (Exit × St)} (hrun:TT E run):Yr E (Zw E run):=by
 intro f args s r s' h;unfold Zw at h;split at h
 . rename_i fn hfn
   split at h
   . rename_i c hc
     split at h
     . rename_i ids r0 m0 k0 p0 hsum
       split at h
       . rename_i hle
         cases h;simp only[Bool.and_eq_true] at hle;refine⟨rfl,rfl,⟨Nat.le_of_ble_eq_true hle.1,fun b hb=>hb,fun p hp=>List.mem_cons_of_mem _ hp,rfl,rfl⟩,⟨fn,c,hfn,hc⟩,fun ho C β w vs hvs hr hfree=>?_⟩;exact ho.2 _ (List.mem_cons_self ..) C β s.m w vs rfl hvs hr hfree
       . cases h
     have main : ∀ e s1,(e= .ret\/e= .normal)->run c {s with tm:=args++List.replicate (fn.ntmps-args.length) (.c (.v undef)),ms:=[],rd:=none}=some (e,s1)->
      R9 E.P fn s s1=some (r,s')->
      s'.tm=s.tm/\s'.ms=s.ms/\Z9 s s'/\(∃(fn:Func) (c:Code),E.P.funcs[f]? =some fn/\fn.body=some c)/\
      (Obs s'->∀(C:Ctx) (β:Nm) (w:World) (vs:List Value),γt β args=some vs->Rel C β s.m w->(∀id,s.n<=id->id<s'.n->β id=none)->
       Calls E.P f vs.toArray w (fun e w'=>∃β' v,e= .returned v/\Ext β β'/\(∀id,id<s.n\/s'.n<=id->β' id=β id)/\γ β' r=some v/\Rel C β' s'.m w')):=by
      intro e s1 he hrunc hres;unfold R9 at hres;split at hres
      . rename_i m1 hm1
        split at hres
        . rename_i l ob hl
          split at hres
          . rename_i s2 hneed
            simp only[Option.some.injEq,Prod.mk.injEq] at hres;obtain⟨rfl,rfl⟩:=hres;obtain⟨n1,n2,n3,nm,n4,n5⟩:=Sf hneed;obtain⟨g1,g2⟩:=hrun _ _ _ _ hrunc;refine⟨rfl,rfl,⟨by show s.n<=s2.n;rw[n3];exact g1.n,fun b hb=>n4.ob b (g1.ob b hb),fun p hp=>n4.po p (g1.po p hp),n4.str.trans g1.str,rfl⟩,⟨fn,c,hfn,hc⟩,fun ho C β w vs hvs hr hfree=>?_⟩
            . have ho2:Obs s2:=ho.congr (s':=s2) rfl rfl
              have hlen:vs.length=args.length:=CA hvs
              have hfr:FrOk β (args++List.replicate (fn.ntmps-args.length) (.c (.v undef))) (vs.toArray++Array.replicate (fn.ntmps-vs.toArray.size) undef):=by
               refine⟨by simp[hlen],fun t av ht=>.inr ?_⟩;by_cases hlt:t<args.length
               . rw[List.getElem?_append_left hlt] at ht
                 obtain⟨v,h1,h2⟩:=jjow hvs ht;refine⟨v,h1,?_⟩;rw[Array.getElem?_append_left (by simp;omega)];simpa using h2
               . rw[List.getElem?_append_right (by omega),List.getElem?_replicate] at ht
                 split at ht
                 . cases ht
                   refine⟨undef,rfl,?_⟩;rename_i hlt2;rw[Array.getElem?_append_right (by simp;omega),Array.getElem?_replicate,if_pos (by simp[hlen];omega)]
                 . cases ht
              have hwp:=g2 (ho2.of n4) none [] C β {tmps:=vs.toArray++Array.replicate (fn.ntmps-vs.toArray.size) undef,defers:=[]} w trivial hfr rfl hr (fun id h1 h2=>hfree id h1 (by show id<s2.n;rw[n3];exact h2));have hwp':=RI hwp;refine callsIn_wide.1 (callsIn_of_wp_marks (n:=0) hfn hc trivial (wpIn_mono hwp' fun e' a' w' ⟨he',β',x1,x2,x3,xd,x4⟩=>?_));subst he'
              have hpost:LeavesInM Fence.wide 0 E.P fn a'.tmps (fun e w'=>∃β' v,e= .returned v/\Ext β β'/\(∀id,id<s.n\/s2.n<=id->β' id=β id)/\γ β' (PA l)=some v/\Rel C β' m1 w') a'.defers .returning w':=by
               refine De (β:=β') (m':=m1) (C:=C) (fun w2 hr2=>?_) s1.ms s1.m a'.defers w' hm1 xd x4;obtain⟨us,hu1,hu2⟩:=LK x3 hr2 hl (n5 ho2)
               have hres2:(results fn a'.tmps).run E.P w2= .ok (if h:us.toArray.size=1 then us.toArray[0] else .tuple us.toArray) w2:=by
                have hm:(fn.results.mapM (Sv a'.tmps)).run E.P w2= .ok us.toArray w2:=by
                 rw[Array.mapM_eq_mapM_toList];simp[hu2]
                show (do let vs <- fn.results.mapM (Sv a'.tmps);pure (if h:vs.size=1 then vs[0] else .tuple vs):Sem Value).run E.P w2=_;rw[Sem.run_bind,hm];rfl
               exact⟨_,hres2,β',_,rfl,x1,fun id hid=>x2 id (by rw[n3] at hid;exact hid),jjln hu1,hr2⟩
              rcases he with rfl|rfl<;>exact hpost
          . cases hres
        . cases hres
      . cases hres
     split at h
     . rename_i s1 hr1
       exact main _ s1 (.inl rfl) hr1 h
     . rename_i s1 hr1
       exact main _ s1 (.inr rfl) hr1 h
     . cases h
   . cases h
 . cases h
theorem jj9p {P:Program} {l:Nat} {R:Ending->World->Prop} {e:Exit} {j:Option Code} {a:Act} {w:World} (hj:QE e=some j) (h:∃v w',(Instr.endRound l j).run P w= .ok v w'/\R (.returned v) w'):roundPost P l R e a w:=by
 cases e<;>simp only[QE,Option.some.injEq,reduceCtorEq] at hj<;>subst hj<;>exact h
theorem DB {β:Nm}:∀{ps:List Tmp} {args:List AV} {vs:List Value} {tm:List AV} {tmps:Array Value},γt β args=some vs->FrOk β tm tmps->
 FrOk β (SM ps args tm) ((ps.zip vs).foldl (fun tmps (t,a)=>tmps.setIfInBounds t a) tmps)
 | [],args,vs,tm,tmps,_,hf=>by cases args<;>exact hf
 |t::ts,[],vs,tm,tmps,hv,hf=>by cases hv;exact hf
 |t::ts,x::xs,vs,tm,tmps,hv,hf=>by
  simp only[γt] at hv;split at hv
  . rename_i v us hv1 hv2
    cases hv;simp only[SM,List.zip_cons_cons,List.foldl_cons];refine DB hv2 ?_;have:=hf.put (a:={tmps:=tmps,defers:=[]}) (d:=some t) (Vq hv1);exact this
  . cases hv
theorem jjfk {run : Code->St->Option (Exit × St)} (hrun:TT E run):Sy E (Wg run):=by
 intro id args s r s' h;unfold Wg at h;split at h
 . rename_i x hx
   split at h
   . rename_i st pd tm ps as bd dn hc
     split at h
     . rename_i hlen
       split at h
       . rename_i s1 h1
         split at h
         . rename_i x1 hx1
           split at h
           . rename_i pd1 tm1 ps1 as1 bd1 dn1 hc1
             split at h
             . rename_i e s2 h2
               unfold OO at h;split at h
               . rename_i j x2 hj hx2
                 split at h
                 . rename_i st2 pd2 tm2 ps2 as2 bd2 dn2 hc2
                   simp only[Option.some.injEq,Prod.mk.injEq] at h;obtain⟨rfl,rfl⟩:=h;obtain⟨g1,k1⟩:=hrun _ _ _ _ h1;obtain⟨g2,k2⟩:=hrun _ _ _ _ h2;have i1:=g1.n;have i2:=g2.n;simp only at i1 i2;refine⟨rfl,rfl,⟨by show s.n<=s2.n;omega,fun b hb=>g2.ob b (g1.ob b hb),fun p hp=>g2.po p (g1.po p hp),g2.str.trans g1.str,rfl⟩,x,st,pd,tm,ps,as,bd,dn,hx,hc,Nat.eq_of_beq_eq_true hlen,fun ho C β w vs L f tmps hvs hr hfree hL hn hf=>?_⟩;have ho2:Obs s2:=ho.congr (s':=s2) rfl rfl;have ho1:Obs s1:=⟨fun b hb=>ho2.1 b (g2.ob b hb),fun p hp=>ho2.2 p (g2.po p hp)⟩
                   refine roundIn_of_wpIn (F:=Fence.wide) trivial ?_
                   have hfr:FrOk β (SM ps.toList args tm) ((ps.zip vs.toArray).foldl (fun tmps (t,a)=>tmps.setIfInBounds t a) tmps):=by
                    have:=DB (ps:=ps.toList) hvs hf
                    have e:(ps.zip vs.toArray).foldl (fun tmps (t,a)=>tmps.setIfInBounds t a) tmps=(ps.toList.zip vs).foldl (fun tmps (t,a)=>tmps.setIfInBounds t a) tmps:=by
                     rw[<- Array.foldl_toList];simp
                    rw[e];exact this
                   have hw1:=RI (k1 ho1 (some L.b) [] C β {tmps:=(ps.zip vs.toArray).foldl (fun tmps (t,a)=>tmps.setIfInBounds t a) tmps,defers:=[]} w ⟨L,hL,hn,rfl⟩ hfr rfl hr fun id h1 h2=>hfree id h1 (by show id<s2.n;omega));refine wpIn_mono hw1 fun e' a1 w1 ⟨he',β1,x1',x2',x3',xd',x4'⟩=>?_
                   subst he';obtain⟨L1,q1,q2,q3,⟨fn1,tmps1,D1,q4,q5,q6,q7⟩,_⟩:=x4'.objs id x1 _ hx1 hc1;have hL1:=x1' id L hL;rw[hL1] at q1;cases q1;refine⟨_,run_beginRound q7 rfl,?_⟩;have hr2:=x4'.putO (o:=.loop .busy pd1 tm1 ps1 as1 bd1 dn1) (ob:=.loop {state:=.busy,pending:=pd1,fn:=fn1,tmps:=tmps1,params:=ps1,assign:=as1,body:=bd1,defers:=D1.b}) hx1 hc1 hL1 fun w' hw'=>⟨fn1,tmps1,D1,q4,q5,q6,hw'⟩
                   have hrd:RdOk β1 s1.rd (some L.b):=by
                    have:s1.rd=some id:=g1.rd;rw[this];exact⟨L,hL1,hn,rfl⟩
                   have hw2:=RI (k2 ho2 (some L.b) [] C β1 a1 _ hrd x3' xd' hr2 fun id h1 h2=>by
                    rw[x2' id (.inr h1)]
                    exact hfree id (by have h1:s1.n<=id:=h1;omega) h2)
                   refine wpIn_mono hw2 fun e'' a2 w2 ⟨he'',β2,y1,y2,y3,_,y4⟩=>?_
                   subst he'';obtain⟨L2,p1,p2,p3,⟨fn2,tmps2,D2,p4,p5,p6,p7⟩,_⟩:=y4.objs id x2 _ hx2 hc2;have hL2:=y1 id L hL1;rw[hL2] at p1;cases p1;refine jj9p hj ⟨_,_,run_endRound j p7,β2,_,rfl,x1'.trans y1,fun id hid=>?_,?_,?_⟩
                   . have hid:id<s.n\/s2.n<=id:=hid
                     rw[y2 id (by show id<s1.n\/s2.n<=id;omega),x2' id (by show id<s.n\/s1.n<=id;omega)]
                   . cases j<;>rfl
                   . cases j with
                     |none=>exact y4.putO (o:=.loop .ready none tm2 ps2 as2 bd2 dn2) hx2 hc2 hL2 fun w' hw'=>⟨fn2,tmps2,D2,p4,p5,p6,hw'⟩
                     |some c=>exact y4.putO (o:=.loop .done (some c) tm2 ps2 as2 bd2 dn2) hx2 hc2 hL2 fun w' hw'=>⟨fn2,tmps2,D2,p4,p5,p6,hw'⟩
                 . cases h
               . cases h
             . cases h
           . cases h
         . cases h
       . cases h
     . cases h
   . cases h
 . cases h
theorem jjh4 {v:AV} {args args':List AV} {g:FuncId} {β:Nm} {fv:Value} {us:List Value} (h:UQ args v=some (.call g args')) (hv:γ β v=some fv) (hu:γt β args=some us):
 ∃caps:List Value,fv= .func (.func g) #[] caps.toArray/\γt β args'=some (us++caps):=by
 unfold UQ at h;split at h
 . cases h
   have:=YZ hv;exact⟨[],by simpa using this,by simpa using hu⟩
 . cases h
   simp only[γ,γ1,γc] at hv;split at hv
   . rename_i vs hvs
     exact⟨vs,(Option.some.inj hv).symm,Hu hu (HW hvs)⟩
   . cases hv
 . cases h
 . cases h
theorem jj3z {P:Program} {w:World} {b:Nat} {r:Loop} (h:w.heap[b]? =some (.loop r)) (fn:FuncId) (tmps:Array Value) (ps:Array Tmp) (as bd:Code):
 (Instr.enterLoop fn tmps ps as bd (some b)).run P w= .ok (w.heap.size,[]) (w.alloc (.loop {state:=.ready,pending:=none,fn,tmps,params:=ps,assign:=as,body:=bd,defers:=r.defers})):=by
 unfold Instr.enterLoop;simp only[Sem.run_bind,run_getLoop h,run_newObj_alloc,Result.andThen,Sem.run_pure]
theorem jjgc {l:Nat} {s s':St} {e:Exit} (h:Vu l s=some (e,s')):∃x st pd tm ps as bd dn,ZY s.m l=some x/\x.cs= .obj (.loop st pd tm ps as bd dn)/\st≠ .busy/\
 ((pd=none/\e= .normal)\/(pd=some .ret/\e= .ret)\/∃id,pd=some (.exit id)/\e= .exit id)/\s'= {s with m:=Xz s.m l {x with cs:=.obj (.loop .exhausted pd tm ps as bd dn)}}:=by
 unfold Vu at h;split at h
 . rename_i x hx
   split at h
   . cases h
   . rename_i st pd tm ps as bd dn hne hc
     split at h
     . cases h;exact⟨x,st,_,tm,ps,as,bd,dn,hx,hc,fun e=>(by subst e;exact hne rfl),.inl ⟨rfl,rfl⟩,rfl⟩
     . cases h;exact⟨x,st,_,tm,ps,as,bd,dn,hx,hc,fun e=>(by subst e;exact hne rfl),.inr (.inl ⟨rfl,rfl⟩),rfl⟩
     . cases h;exact⟨x,st,_,tm,ps,as,bd,dn,hx,hc,fun e=>(by subst e;exact hne rfl),.inr (.inr ⟨_,rfl,rfl⟩),rfl⟩
     . cases h
   . cases h
 . cases h
theorem jjk7 {P:Program} {s:St} {ps:Array Tmp} {as bd:Code} {m':AMem} {ms':List Nat} (h:RZ s ps as bd=some (m',ms')) (hn:s.n+2<=ZR) {ro:Option Nat} {D:List Deferred} {C:Ctx} {β:Nm} {a:Act} {w:World}
 (hrd:RdOk β s.rd ro) (hf:FrOk β s.tm a.tmps) (hdf:DfOk β s.ms D a.defers) (hr:Rel C β s.m w) (h0:β s.n=none) (h1:β (s.n+1)=none) (fn:FuncId):
 ∃(l:Nat) (mark:List Deferred) (w₁:World) (β':Nm) (L:Loc),(Instr.enterLoop fn a.tmps ps as bd ro).run P w= .ok (l,mark) w₁/\Ext β β'/\(∀id,id<s.n\/s.n+2<=id->β' id=β id)/\
  β' (s.n+1)=some L/\L.nil=false/\L.b=l/\Rel C β' m' w₁/\DfOk β' ms' D (mark++a.defers):=by
 have hg0:∀g,s.n≠Z2 g:=QB (by omega)
 have hg1:∀g,s.n+1≠Z2 g:=QB (by omega)
 unfold RZ at h;split at h
 . rename_i hs
   rw[hs] at hrd
   cases ro with
   |some b=>exact hrd.elim
   | none=>
    simp only[Option.some.injEq,Prod.mk.injEq] at h;obtain⟨rfl,rfl⟩:=h;have hr1:=hr.newO (o:=.dfr true) (ob:=.deferred (some [])) h0 hg0 fun w' hw'=>hw'
    have e1:Ext β (ZU β s.n ⟨w.heap.size,0,0,0,false⟩):=Wq h0;have h1':ZU β s.n ⟨w.heap.size,0,0,0,false⟩ (s.n+1)=none:=by simp[ZU,h1]
    have hD:ZU β s.n ⟨w.heap.size,0,0,0,false⟩ s.n=some ⟨w.heap.size,0,0,0,false⟩:=W9
    have hr2:=hr1.newO (o:=.loop .ready none s.tm ps as bd s.n) (ob:=.loop {state:=.ready,pending:=none,fn:=fn,tmps:=a.tmps,params:=ps,assign:=as,body:=bd,defers:=w.heap.size}) h1' hg1
     fun w' hw'=>⟨fn,a.tmps,_,hf.ext e1,hD,rfl,hw'⟩
    refine⟨_,_,_,_,_,run_enterLoop_outer fn a.tmps ps as bd,e1.trans (Wq h1'),fun id hid=>?_,W9,rfl,by simp,hr2,?_⟩
    . simp only[ZU]
      rw[if_neg (by omega),if_neg (by omega)]
    . exact⟨_,_,Wq h1' _ _ hD,rfl,(hdf.ext e1).ext (Wq h1')⟩
 . rename_i r hs
   rw[hs] at hrd
   cases ro with
   |none=>exact hrd.elim
   |some b=>
    obtain⟨Lr,k1,k2,rfl⟩:=hrd;split at h
    . rename_i x hx
      split at h
      . rename_i st pd tm0 ps0 as0 bd0 dn hc
        simp only[Option.some.injEq,Prod.mk.injEq] at h;obtain⟨rfl,rfl⟩:=h;obtain⟨L0,q1,q2,_,⟨fn0,tmps0,D0,q4,q5,q6,q7⟩,_⟩:=hr.objs r x _ hx hc;rw[k1] at q1;cases q1
        have hr2:=hr.newO (o:=.loop .ready none s.tm ps as bd dn) (ob:=.loop {state:=.ready,pending:=none,fn:=fn,tmps:=a.tmps,params:=ps,assign:=as,body:=bd,defers:=D0.b}) h1 hg1
         fun w' hw'=>⟨fn,a.tmps,D0,hf,q5,q6,hw'⟩
        refine⟨_,_,_,_,_,jj3z q7 fn a.tmps ps as bd,Wq h1,fun id hid=>?_,W9,rfl,rfl,hr2,hdf.ext (Wq h1)⟩;simp only[ZU];rw[if_neg (by omega)]
      . cases h
    . cases h
theorem F9 (hE:ZC E):∀n,TT E (XI E n):=by
 intro n
 induction n with
 |zero=>intro c s e s' h;cases h
 | succ n ih=>
  have hcf:Yr E (Zw E (XI E n)):=Ih hE ih;have hyf:Sy E (Wg (XI E n)):=jjfk ih;intro c s e s' h
  cases c with
  |skip=>
   simp only[XI,Option.some.injEq,Prod.mk.injEq] at h;obtain⟨rfl,rfl⟩:=h;exact⟨Z9.refl s,fun _ ro D C β a w _ hf hd hr _=>wpIn_skip ⟨rfl,β,Ext.refl β,fun _ _=>rfl,hf,hd,hr⟩⟩
  |label l=>
   simp only[XI,Option.some.injEq,Prod.mk.injEq] at h;obtain⟨rfl,rfl⟩:=h;exact⟨Z9.refl s,fun _ ro D C β a w _ hf hd hr _=>wpIn_label ⟨rfl,β,Ext.refl β,fun _ _=>rfl,hf,hd,hr⟩⟩
  |exit id=>
   simp only[XI,Option.some.injEq,Prod.mk.injEq] at h;obtain⟨rfl,rfl⟩:=h;exact⟨Z9.refl s,fun _ ro D C β a w _ hf hd hr _=>wpIn_exit ⟨rfl,β,Ext.refl β,fun _ _=>rfl,hf,hd,hr⟩⟩
  |goto l=>
   simp only[XI,Option.some.injEq,Prod.mk.injEq] at h;obtain⟨rfl,rfl⟩:=h;exact⟨Z9.refl s,fun _ ro D C β a w _ hf hd hr _=>wpIn_goto ⟨rfl,β,Ext.refl β,fun _ _=>rfl,hf,hd,hr⟩⟩
  |scope x=>
   simp only[XI] at h;have key:=jjj7 (x:=x) ih 200 _ _ _ _ h;exact⟨key.1,fun ho ro D C β a w hrd hf hd hr hfree=>jjcs (key.2 ho ro D C β a w hrd hf hd hr hfree)⟩
  |ret=>
   simp only[XI,Option.some.injEq,Prod.mk.injEq] at h;obtain⟨rfl,rfl⟩:=h;exact⟨Z9.refl s,fun _ ro D C β a w _ hf hd hr _=>wpIn_ret ⟨rfl,β,Ext.refl β,fun _ _=>rfl,hf,hd,hr⟩⟩
  |region id ops d=>
   simp only[XI] at h;split at h
   . split at h
     . rename_i s1 h1
       simp only[Option.some.injEq,Prod.mk.injEq] at h;obtain⟨rfl,rfl⟩:=h;obtain⟨g1,gm,g2⟩:=Iu hE hcf hyf h1;exact⟨g1,fun ho ro D C β a w _ hf hd hr hfree=>wpIn_region_list (g2 ho ro C β a w _ hf hr hfree fun β' a' w' x1 x2 x3 x4 x5=>⟨rfl,β',x1,x2,x3,by rw[x4,gm];exact hd.ext x1,x5⟩)⟩
     . cases h
   . split at h
     . rename_i s1 h1
       simp only[Option.some.injEq,Prod.mk.injEq] at h;obtain⟨rfl,rfl⟩:=h;obtain⟨g1,gm,g2⟩:=jjlz (id:=id) hE hcf hyf h1;exact⟨g1,fun ho ro D C β a w _ hf hd hr hfree=>g2 ho ro C β a w _ hf hr hfree fun β' a' w' x1 x2 x3 x4 x5=>⟨rfl,β',x1,x2,x3,by rw[x4,gm];exact hd.ext x1,x5⟩⟩
     . cases h
  |seq x y=>
   simp only[XI] at h;split at h
   . rename_i s1 h1
     obtain⟨g1,k1⟩:=ih _ _ _ _ h1;obtain⟨g2,k2⟩:=ih _ _ _ _ h;refine⟨g1.trans g2,fun ho ro D C β a w hrd hf hd hr hfree=>wpIn_seq (wpIn_mono (RI (k1 (ho.of g2) ro D C β a w hrd hf hd hr fun id h1 h2=>hfree id h1 (by have:=g2.n;omega))) fun e' a' w' ⟨he,β',x1,x2,x3,hd',x4⟩=>?_)⟩;subst he;refine wpIn_mono (RI (k2 ho ro D C β' a' w' (by rw[g1.rd];exact hrd.ext x1) x3 hd' x4 fun id h1 h2=>?_)) fun e'' a'' w'' ⟨he'',β'',y1,y2,y3,hd'',y4⟩=>⟨he'',β'',x1.trans y1,fun id hid=>?_,y3,hd'',y4⟩
     . rw[x2 id (.inr h1)]
       exact hfree id (by have:=g1.n;omega) h2
     . have i1:=g1.n
       have i2:=g2.n;rw[y2 id (by omega),x2 id (by omega)]
   . rename_i hne
     obtain⟨g1,k1⟩:=ih _ _ _ _ h;refine⟨g1,fun ho ro D C β a w hrd hf hd hr hfree=>wpIn_seq (wpIn_mono (RI (k1 ho ro D C β a w hrd hf hd hr hfree)) fun e' a' w' hp=>?_)⟩;have he:e'=e:=hp.1;have hen:e≠ .normal:=fun hn=>by subst hn;exact hne _ h
     subst he
     cases e' with
     |normal=>exact absurd rfl hen
     |_=>exact hp
  | cond c x y=>
   cases c with
   |tmp t=>
    simp only[XI] at h;split at h
    . rename_i b hb
      have key:∀(d:Bool) (z:Code) (s1:St),s.dec t b=some (d,s1)->XI E n z s1=some (e,s')->(z=if d then x else y)->Z9 s s'/\(Obs s'->∀(ro:Option Nat) (D:List Deferred) (C:Ctx) (β:Nm) (a:Act) (w:World),RdOk β s.rd ro->FrOk β s.tm a.tmps->DfOk β s.ms D a.defers->Rel C β s.m w->(∀id,s.n<=id->id<s'.n->β id=none)->
       Gy ro E.P (.cond (.tmp t) x y) (R0 C β s.n s'.n s'.tm s'.m s'.ms D e) a w):=by
       intro d z s1 PR hz hzd;obtain⟨d1,d2,dm,d3,d4,_⟩:=NQ PR hb;obtain⟨g1,k1⟩:=ih _ _ _ _ hz;refine⟨d3.trans g1,fun ho ro D C β a w hrd hf hd hr hfree=>?_⟩;have ho1:=ho.of g1
       have hev:a.eval (.tmp t)= .bool d:=by
        rcases hf.2 t _ hb with h5|⟨v,h5,h6⟩
        . cases h5
        . have:=YZ h5
          subst this;simp[Act.eval,h6,d4 ho1]
       refine wpIn_cond hev ?_;rw[<- hzd];have:=k1 ho ro D C β a w (by rw[d3.rd];exact hrd) (Fo PR hb ho1 hf) (by rw[dm];exact hd) (by rw[d1];exact hr) (fun id h1 h2=>hfree id (by omega) h2);rw[d2] at this;exact RI this
      split at h
      . rename_i s1 PR
        exact key true x s1 PR h rfl
      . rename_i s1 PR
        exact key false y s1 PR h rfl
      . cases h
    . cases h
   | const v=>
    cases v with
    |bool b=>
     simp only[XI] at h;split at h
     . obtain⟨g1,k1⟩:=ih _ _ _ _ h
       exact⟨g1,fun ho ro D C β a w hrd hf hd hr hfree=>wpIn_cond_true rfl (RI (k1 ho ro D C β a w hrd hf hd hr hfree))⟩
     . obtain⟨g1,k1⟩:=ih _ _ _ _ h
       exact⟨g1,fun ho ro D C β a w hrd hf hd hr hfree=>wpIn_cond_false rfl (RI (k1 ho ro D C β a w hrd hf hd hr hfree))⟩
    |_=>simp[XI] at h
   |_=>simp[XI] at h
  |block id x=>
   simp only[XI] at h;split at h
   . rename_i id' s1 h1
     obtain⟨g1,k1⟩:=ih _ _ _ _ h1;split at h
     . rename_i hid
       have hid:=Nat.eq_of_beq_eq_true hid;subst hid;simp only[Option.some.injEq,Prod.mk.injEq] at h;obtain⟨rfl,rfl⟩:=h;refine⟨g1,fun ho ro D C β a w hrd hf hd hr hfree=>wpIn_block (wpIn_mono (RI (k1 ho ro D C β a w hrd hf hd hr hfree)) fun e' a' w' hp=>?_)⟩;obtain⟨rfl,hp⟩:=hp;simp only[Exit.inBlock,if_true];exact⟨rfl,hp⟩
     . rename_i hid
       simp only[Option.some.injEq,Prod.mk.injEq] at h;obtain⟨rfl,rfl⟩:=h;refine⟨g1,fun ho ro D C β a w hrd hf hd hr hfree=>wpIn_block (wpIn_mono (RI (k1 ho ro D C β a w hrd hf hd hr hfree)) fun e' a' w' hp=>?_)⟩;obtain⟨rfl,hp⟩:=hp;have:id'≠id:=fun e=>by subst e;rw[Nat.beq_refl] at hid;cases hid
       simp only[Exit.inBlock,this,if_false];exact⟨rfl,hp⟩
   . rename_i hne
     obtain⟨g1,k1⟩:=ih _ _ _ _ h;refine⟨g1,fun ho ro D C β a w hrd hf hd hr hfree=>wpIn_block (wpIn_mono (RI (k1 ho ro D C β a w hrd hf hd hr hfree)) fun e' a' w' hp=>?_)⟩;have he:e'=e:=hp.1;subst he
     cases e' with
     |exit id'=>exact absurd h (hne id' _)
     |_=>exact hp
  | loop x=>
   simp only[XI] at h
   have unr:∀(t:St) (q:List (Option Zl)->List (Option Zl)),t.tm=s.tm->t.m=s.m->t.n=s.n->t.str=s.str->t.ob=s.ob->t.po=s.po->t.ms=s.ms->t.rd=s.rd->
    (match XI E n x t with|some (.normal,s1)=>XI E n (.loop x) {s1 with lp:=q s1.lp}|r=>r)=some (e,s')->Z9 s s'/\(Obs s'->∀(ro:Option Nat) (D:List Deferred) (C:Ctx) (β:Nm) (a:Act) (w:World),RdOk β s.rd ro->FrOk β s.tm a.tmps->DfOk β s.ms D a.defers->Rel C β s.m w->(∀id,s.n<=id->id<s'.n->β id=none)->
     Gy ro E.P (.loop x) (R0 C β s.n s'.n s'.tm s'.m s'.ms D e) a w):=by
    intro t q t1 t2 t3 t4 t5 t6 t7 t8 h;have gt:Z9 s t:=⟨by omega,fun b hb=>by rw[t5];exact hb,fun p hp=>by rw[t6];exact hp,t4,t8⟩
    split at h
    . rename_i s1 h1
      obtain⟨g1,k1⟩:=ih _ _ _ _ h1;obtain⟨g2,k2⟩:=ih _ _ _ _ h;have g2':Z9 s1 s':=⟨g2.n,g2.ob,g2.po,g2.str,g2.rd⟩
      refine⟨gt.trans (g1.trans g2'),fun ho ro D C β a w hrd hf hd hr hfree=>I5 (wpIn_mono (RI (k1 (ho.of g2') ro D C β a w (by rw[t8];exact hrd) (by rw[t1];exact hf) (by rw[t7];exact hd) (by rw[t2];exact hr) fun id h1 h2=>hfree id (by omega) (by have:=g2'.n;omega))) fun e' a' w' ⟨he,β',x1,x2,x3,hd',x4⟩=>?_)⟩;subst he
      have:=k2 ho ro D C β' a' w' (by show RdOk β' s1.rd ro;rw[g1.rd,t8];exact hrd.ext x1) x3 hd' x4 fun id h1 h2=>by
       rw[x2 id (.inr h1)];exact hfree id (by have:=g1.n;have h1:s1.n<=id:=h1;omega) h2
      refine I6 this fun e'' a'' w'' ⟨he'',β'',y1,y2,y3,hd'',y4⟩=>⟨he'',β'',x1.trans y1,fun id hid=>?_,y3,hd'',y4⟩
      have i1:=g1.n;have i2:=g2'.n;rw[y2 id (by show id<s1.n\/s'.n<=id;omega),x2 id (by omega)]
    . rename_i hne
      obtain⟨g1,k1⟩:=ih _ _ _ _ h;refine⟨gt.trans g1,fun ho ro D C β a w hrd hf hd hr hfree=>I5 (wpIn_mono (RI (k1 ho ro D C β a w (by rw[t8];exact hrd) (by rw[t1];exact hf) (by rw[t7];exact hd) (by rw[t2];exact hr) fun id h1 h2=>hfree id (by omega) h2)) fun e' a' w' hp=>?_)⟩;rw[t3] at hp;have he:e'=e:=hp.1;have hen:e≠ .normal:=fun hn=>by subst hn;exact hne _ h
      subst he
      cases e' with
      |normal=>exact absurd rfl hen
      |_=>exact hp
   split at h
   . rename_i slots ids tm m k e' p hpath
     split at h
     . rename_i hle
       simp only[Bool.and_eq_true] at hle;simp only[Option.some.injEq,Prod.mk.injEq] at h;obtain⟨rfl,rfl⟩:=h;refine⟨⟨Nat.le_of_ble_eq_true hle.1,fun b hb=>hb,fun p hp=>List.mem_cons_of_mem _ hp,rfl,rfl⟩,fun ho ro D C β a w hrd hf hd hr hfree=>?_⟩;exact I6 (ho.2 _ (List.mem_cons_self ..) s.tm s.m rfl rfl rfl ro C β a w hrd hf hr hfree) fun e'' a'' w'' ⟨h1,h2,β',h3,h4,h5,h6⟩=>⟨h1,β',h3,h4,h5,by rw[h2];exact hd.ext h3,h6⟩
     . cases h
   . rename_i p hp
     exact unr {s with lp:=p} (fun l=>none::l) rfl rfl rfl rfl rfl rfl rfl rfl h
   . exact unr s (fun l=>l) rfl rfl rfl rfl rfl rfl rfl rfl h
  |rangeFunc f ps as bd=>
   simp only[XI] at h;split at h
   . rename_i v m' ms' hle hv hen
     have hle:s.n+2<=ZR:=Nat.le_of_ble_eq_true hle;split at h
     . rename_i g args hcall
       split at h
       . rename_i rv s1 h1
         obtain⟨c1,cm,c2,⟨fn0,c,c3,c4⟩,c5⟩:=Ih hE ih _ _ _ _ _ h1;obtain⟨x,st,pd,tm,ps1,as1,bd1,dn,l1,l2,l3,l4,rfl⟩:=jjgc h;have i1:=c2.n;simp only at i1;refine⟨⟨by show s.n<=s1.n;omega,c2.ob,c2.po,c2.str,c2.rd⟩,fun ho ro D C β a w hrd hf hd hr hfree=>?_⟩;have ho1:Obs s1:=ho.congr (s':=s1) rfl rfl;show (Code.rangeFunc f ps as bd).wpIn (FW ro) 0 E.P _ a w;refine wpIn_rangeFunc fun fn _=>?_
         have hfr':∀id,s.n<=id->id<s1.n->β id=none:=hfree
         obtain⟨l,mark,w₁,β1,L,e1,e2,e3,e4,e5,e6,e7,e8⟩:=jjk7 (P:=E.P) hen hle hrd hf hd hr (hfr' s.n (Nat.le_refl _) (by omega)) (hfr' (s.n+1) (by omega) (by omega)) fn;subst e6;have hvv:γ β v=some (a.eval f):=(Tz hf hr (Sub.refl _) hv).resolve_left fun e=>by subst e;simp[UQ] at hcall
         obtain⟨caps,hfv,hargs⟩:=jjh4 (us:=[.func (.yield L.b) #[] #[]]) hcall (F2 e2 hvv) (by simp[γt,γ1,γc,e4,e5])
         have hres:(resolve a.eval (rangeCall f L.b) 0).run E.P w₁= .ok {target:=.fn (.func g) caps.toArray,args:= #[.func (.yield L.b) #[] #[]]} w₁:=by
          simp only[resolve,hfv,Deferred.ofValue];rw[Sem.run_pure];simp[Act.eval]
         have hinv:(invoke (.fn (.func g) caps.toArray) #[.func (.yield L.b) #[] #[]]).run E.P w₁= .ok (.enter g ([Value.func (.yield L.b) #[] #[]]++caps).toArray) w₁:=by
          simp only[invoke];rw[P0 c3 (hE.names _ _ _ c3 c4) c4];simp
         have hcalls:=(c5 ho1) C β1 w₁ _ hargs e7 fun id h1 h2=>by
          have h1:s.n+2<=id:=h1;rw[e3 id (.inr h1)];exact hfr' id (by omega) h2
         refine⟨L.b,mark,w₁,_,w₁,g,_,w₁,e1,hres,fun _ _=>trivial,hinv,fun h=>(by cases h),CallsIn.mono (callsIn_wide.2 hcalls) fun en w3 ⟨β3,u,z1,z2,z3,_,z5⟩=>?_⟩;subst z1;obtain⟨L3,k1,k2,k3,⟨fn3,tmps3,D3,k4,k5,k6,k7⟩,_⟩:=z5.objs _ x _ l1 l2;have hL3:=z2 _ _ e4;rw[hL3] at k1;cases k1
         have hpost:∀w4,Rel C β3 (Xz s1.m (s.n+1) {x with cs:=.obj (.loop .exhausted pd tm ps1 as1 bd1 dn)}) w4->R0 C β s.n s1.n s1.tm (Xz s1.m (s.n+1) {x with cs:=.obj (.loop .exhausted pd tm ps1 as1 bd1 dn)}) ms' D e e {a with defers:=mark++a.defers} w4:=fun w4 hr4=>by
          refine⟨rfl,β3,e2.trans z2,fun id hid=>?_,?_,e8.ext z2,hr4⟩
          . rw[z3 id (by show id<s.n+2\/s1.n<=id;omega),e3 id (by omega)]
          . rw[c1];exact hf.ext (e2.trans z2)
         refine⟨pd,_,run_endLoop k7 l3,?_⟩;have hr4:=z5.putO (o:=.loop .exhausted pd tm ps1 as1 bd1 dn) (ob:=.loop {state:=.exhausted,pending:=pd,fn:=fn3,tmps:=tmps3,params:=ps1,assign:=as1,body:=bd1,defers:=D3.b}) l1 l2 hL3 fun w' hw'=>⟨fn3,tmps3,D3,k4,k5,k6,hw'⟩
         rcases l4 with⟨rfl,rfl⟩|⟨rfl,rfl⟩|⟨id,rfl,rfl⟩
         . exact hpost _ hr4
         . exact wpIn_ret (hpost _ hr4)
         . exact wpIn_exit (hpost _ hr4)
       . cases h
     . cases h
   . cases h
  |_=>cases h
theorem jjkv (hE:ZC E) {n:Nat} {f:FuncId} {args:List AV} {s s':St} {r:AV} (h:Zw E (XI E n) f args s=some (r,s')) (ho:Obs s') {C:Ctx} {β:Nm} {w:World} {vs:List Value}
 (hvs:γt β args=some vs) (hr:Rel C β s.m w) (hfree:∀id,s.n<=id->id<s'.n->β id=none):
 Calls E.P f vs.toArray w (fun e w'=>∃β' v,e= .returned v/\Ext β β'/\(∀id,id<s.n\/s'.n<=id->β' id=β id)/\γ β' r=some v/\Rel C β' s'.m w'):=
 (Ih hE (F9 hE n) f args s r s' h).2.2.2.2 ho C β w vs hvs hr hfree
end
end Go.Proofs.YtljeokninakliaaGreatDoor
end
section
namespace Go.Proofs.YtljeokninakliaaGreatDoor
open Go.RowKit
def St.at_ (s:St) (n str:Nat):St:={s with n:=n,str:=str}
def S4 (b str:Nat):AMem->Bool
 | []=>true
 |(i,_)::r=>(Nat.ble b i&&Nat.blt i (b+str))&&S4 b str r
def Te:AMem->Bool
 | []=>true
 |(_,b)::r=>b.own&&Te r
abbrev CF:=FuncId->List AV->Nat->Nat->St->Option (AV × Nat × St)
abbrev CY:=Nat->List AV->Nat->Nat->St->Option (AV × Nat × St)
abbrev CR:=Code->Nat->Nat->St->Option (Exit × Nat × St)
def Qj (E:Env) (cf:CF) (f:FuncId) (args:List AV) (n str:Nat) (s:St):Option (AV × Nat × St):=
 match WC E.ct f args s.m n with
 |some (r,news,k,ob)=>match Nat.ble (n+k) ZR,s.need ob with|true,some s=>some (r,n+k,{s with m:=s.m++news})|_,_=>none
 |none=>cf f args n str s
def Ha (E:Env) (cf:CF) (yf:CY) (ops:Array Oper) (o:Oper) (n str:Nat) (s:St):Option (Nat × St):=
 match Yt ops o s with
 |none=>none
 |some (false,s)=>some (n,s.put o.dst (.c (.v undef)))
 |some (true,s)=>
  match Nat.ble (n+1) ZR,U0 E.P s.tm s.m n o.op with
  |true,some (.eff v news ob)=>match s.need ob with|some s=>some (n+1,{s with m:=s.m++news}.put o.dst v)|none=>none
  |true,some (.upd v e ob)=>match X8 o.op,s.need ob with|true,some s=>some (n+1,{s with m:=e.on s.m}.put o.dst v)|_,_=>none
  |true,some (.call f args)=>match Y2 o.op,Qj E cf f args n str s with|true,some (v,n',s)=>some (n',s.put o.dst v)|_,_=>none
  |true,some (.yld id args)=>match Y2 o.op,yf id args n str s with|true,some (v,n',s)=>some (n',s.put o.dst v)|_,_=>none
  |_,_=>none
def SE (E:Env) (cf:CF) (yf:CY) (ops:Array Oper):List Oper->Nat->Nat->St->Option (Nat × St)
 | [],n,_,s=>some (n,s)
 |o::r,n,str,s=>match Ha E cf yf ops o n str s with|some (n,s)=>SE E cf yf ops r n str s|none=>none
def KJ (E:Env) (cf:CF) (ops:Array Oper) (o:Oper) (mi:AMem) (b str:Nat) (s:St):Option (AV × AMem × St):=
 match Yt ops o s with
 |none=>none
 |some (false,s)=>some (.c (.v undef),[],s)
 | some (true,s)=>
  match Nat.ble (b+str) ZR&&Nat.ble 1 str,U0 E.P (Xb (o.looksAt ops) 0 s.tm) mi b o.op with
  |true,some (.eff v news ob)=>match S4 b str news,s.need ob with|true,some s=>some (v,news,s)|_,_=>none
  | true,some (.call f args)=>
   match Y2 o.op,WC E.ct f args mi b with
   |true,some (r,news,k,ob)=>match Nat.ble k str&&S4 b str news,s.need ob with|true,some s=>some (r,news,s)|_,_=>none
   | true,none=>
    match cf f args b (str / 100000000) {s with m:=Mj mi,ms:=[],rd:=none} with
    |some (r,n',s')=>
     match Nat.ble n' (b+str)&&(S4 b str (YG b s'.m)&&Te (YG b s'.m)) with
     |true=>some (r,YG b s'.m,{s with path:=s'.path,lp:=s'.lp,ob:=s'.ob,po:=s'.po})
     |false=>none
    |none=>none
   |_,_=>none
  |_,_=>none
def Ra (E:Env) (cf:CF) (ops:Array Oper) (n0 str:Nat):List Oper->Nat->List (Nat × AMem)->St->Option (List (Nat × AMem) × St)
 | [],_,acc,s=>some (acc,s)
 |o::r,i,acc,s=>
  match KJ E cf ops o (s.m++Wa ops i acc) (n0+i*str) str s with
  |some (v,news,s)=>Ra E cf ops n0 str r (i+1) (acc++[(i,news)]) (s.put o.dst v)
  |none=>none
def Nb (E:Env) (cf:CF) (yf:CY) (ops:Array Oper) (n str:Nat) (s:St):Option (Nat × St):=
 match Tq ops (YJ ops.toList) with
 |true=>
  match Ra E cf ops n str (ops.toList.take (YJ ops.toList)) 0 [] s with
  |some (acc,s')=>SE E cf yf ops (ops.toList.drop (YJ ops.toList)) (n+YJ ops.toList*str) str {s' with m:=s'.m++Xw acc}
  |none=>none
 |false=>none
def Hb (E:Env) (cf:CF) (ops:Array Oper) (o:Oper) (mi:AMem) (b str:Nat) (s:St):Option (AV × AStep × St):=
 match Yt ops o s with
 |none=>none
 |some (false,s)=>some (.c (.v undef),.news [],s)
 | some (true,s)=>
  match Nat.ble (b+str) ZR&&Nat.ble 1 str,U0 E.P (Xb (o.looksAt ops) 0 s.tm) mi b o.op with
  | true,some (.call f args)=>
   match Y2 o.op,WC E.ct f args mi b with
   |true,some (r,news,k,ob)=>match Nat.ble k str&&S4 b str news,s.need ob with|true,some s=>some (r,.news news,s)|_,_=>none
   | true,none=>
    match cf f args b (str / 100000000) {s with m:=Ue mi,ms:=[],rd:=none} with
    |some (r,n',s')=>
     match Nat.ble n' (b+str)&&(S4 b str (YG b s'.m)&&Te (YG b s'.m)) with
     |true=>some (r,.many (Yn s'.m (Ue mi)) (YG b s'.m),{s with path:=s'.path,lp:=s'.lp,ob:=s'.ob,po:=s'.po})
     |false=>none
    |none=>none
   |_,_=>none
  |_,_=>none
def H9 (E:Env) (cf:CF) (wm:Bool) (ops:Array Oper) (o:Oper) (mi:AMem) (b str:Nat) (s:St):Option (AV × AStep × St):=
 match X8 o.op with
 |false=>
  match wm&&Wf E.P o.op with
  |false=>match KJ E cf ops o mi b str s with|some (v,l,s)=>some (v,.news l,s)|none=>none
  |true=>Hb E cf ops o mi b str s
 | true=>
  match Yt ops o s with
  |none=>none
  |some (false,s)=>some (.c (.v undef),.news [],s)
  |some (true,s)=>
   match Nat.ble (b+str) ZR&&Nat.ble 1 str,U0 E.P (Xb (o.looksAt ops) 0 s.tm) mi b o.op with
   |true,some (.eff v l ob)=>match S4 b str l,s.need ob with|true,some s=>some (v,.news l,s)|_,_=>none
   |true,some (.upd v e ob)=>match Na b e,s.need ob with|true,some s=>some (v,.efx e,s)|_,_=>none
   |_,_=>none
def UX (E:Env) (cf:CF) (wm:Bool) (ops:Array Oper) (vis:Nat->AMem->AMem) (n0 str:Nat):List Oper->Nat->List (Nat × Nat)->St->Option (List (Nat × Nat) × St)
 | [],_,acc,s=>some (acc,s)
 |o::r,i,acc,s=>
  match H9 E cf wm ops o (vis i s.m) (n0+i*str) str s with
  |some (v,z,s)=>UX E cf wm ops vis n0 str r (i+1) (acc++Or i z) ({s with m:=z.on s.m}.put o.dst v)
  |none=>none
def JK (E:Env) (cf:CF) (ops:Array Oper) (n str:Nat) (s:St):Option (Nat × St):=
 match Uk ops,UX E cf false ops (VA ops [] n str) n str ops.toList 0 [] s with
 |true,some (ts,_)=>
  match UX E cf false ops (VA ops ts n str) n str ops.toList 0 [] s with
  |some (ts',s')=>match KI ts' ts&&RT ops ts with|true=>some (n+ops.size*str,s')|false=>none
  |none=>none
 |_,_=>none
def JL (E:Env) (cf:CF) (ops:Array Oper) (n str:Nat) (s:St):Option (Nat × St):=
 match UX E cf true ops (Jp ops n str) n str ops.toList 0 [] s with
 |some (_,s')=>some (n+ops.size*str,s')
 |none=>none
def JM (E:Env) (cf:CF) (ops:Array Oper) (n str:Nat) (s:St):Option (Nat × St):=
 match Uk ops,UX E cf true ops (PB E.P ops s.tm [] n str) n str ops.toList 0 [] s with
 |true,some (ts,_)=>
  match UX E cf true ops (PB E.P ops s.tm ts n str) n str ops.toList 0 [] s with
  |some (ts',s')=>match KI ts' ts&&RT ops ts with|true=>some (n+ops.size*str,s')|false=>none
  |none=>none
 |_,_=>none
def Nc (E:Env) (cf:CF) (yf:CY) (ops:Array Oper) (n str:Nat) (s:St):Option (Nat × St):=
 match B2 E.P ops with
 |true=>JL E cf ops n str s
 | false=>
  match yOn E ops with
  |true=>JM E cf ops n str s
  |false=>
   match Tq ops (YJ ops.toList) with
   |true=>Nb E cf yf ops n str s
   |false=>JK E cf ops n str s
def ZM (E:Env) (run:CR) (f:FuncId) (args:List AV) (n str:Nat) (s:St):Option (AV × Nat × St):=
 match E.P.funcs[f]? with
 | some fn=>
  match fn.body with
  | some c=>
   match Ki f s.lp with
   |some (ids,r,m,k,p)=>
    match Nat.ble n k&&Nat.ble k ZR with
    |true=>some (r,k,{s with m:=m++RX ids s.m,lp:=p,po:=CallV E.P f args ids (ids.map (ZY s.m)) n r m k::s.po})
    |false=>none
   |none=>
    match run c n str {s with tm:=args++List.replicate (fn.ntmps-args.length) (.c (.v undef)),ms:=[],rd:=none} with
    |some (.ret,n',s')=>match R9 E.P fn s s' with|some (v,s')=>some (v,n',s')|none=>none
    |some (.normal,n',s')=>match R9 E.P fn s s' with|some (v,s')=>some (v,n',s')|none=>none
    |_=>none
  |none=>none
 |none=>none
def UY (run:CR) (id:Nat) (args:List AV) (n str:Nat) (s:St):Option (AV × Nat × St):=
 match ZY s.m id with
 | some x=>
  match x.cs with
  | .obj (.loop _ _ tm ps as bd _)=>
   match Nat.beq args.length ps.size with
   | true=>
    match run as n str {s with tm:=SM ps.toList args tm,ms:=[],rd:=some id} with
    | some (.normal,n1,s1)=>
     match ZY s1.m id with
     | some x1=>
      match x1.cs with
      | .obj (.loop .ready pd1 tm1 ps1 as1 bd1 dn1)=>
       match run bd n1 str {s1 with m:=Xz s1.m id {x1 with cs:=.obj (.loop .busy pd1 tm1 ps1 as1 bd1 dn1)}} with
       |some (e,n2,s2)=>match OO id e s s2 with|some (v,s')=>some (v,n2,s')|none=>none
       |none=>none
      |_=>none
     |none=>none
    |_=>none
   |false=>none
  |_=>none
 |none=>none
def PQ (n:Nat) (s:St) (ps:Array Tmp) (as bd:Code):Option (AMem × List Nat):=
 match s.rd with
 |none=>some (s.m++[(n,Xx (.dfr true))]++[(n+1,Xx (.loop .ready none s.tm ps as bd n))],n::s.ms)
 |some r=>
  match ZY s.m r with
  |some x=>match x.cs with | .obj (.loop _ _ _ _ _ _ dn)=>some (s.m++[(n+1,Xx (.loop .ready none s.tm ps as bd dn))],s.ms)|_=>none
  |none=>none
def TU (run:CR) (a:Code):Nat->Code->Nat->Nat->St->Option (Exit × Nat × St)
 |0,_,_,_,_=>none
 |k+1,c,n,str,s=>
  match run c n str s with
  |some (.goto l,n,s)=>match findLabel a l with|some c'=>TU run a k c' n str s|none=>some (.goto l,n,s)
  |r=>r
def fC (E:Env):Nat->Code->Nat->Nat->St->Option (Exit × Nat × St)
 |0,_,_,_,_=>none
 | g + 1,c,n,str,s=>
  match c with
  | .skip=>some (.normal,n,s)
  | .label _=>some (.normal,n,s)
  | .region _ ops d=>
   match d with
   |false=>match SE E (ZM E (fC E g)) (UY (fC E g)) ops ops.toList n str s with|some (n,s)=>some (.normal,n,s)|none=>none
   |true=>match Nc E (ZM E (fC E g)) (UY (fC E g)) ops n str s with|some (n,s)=>some (.normal,n,s)|none=>none
  | .seq a b=>
   match fC E g a n str s with
   |some (.normal,n,s)=>fC E g b n str s
   |r=>r
  | .cond (.tmp t) a b=>
   match s.tm[t]? with
   |some (.c (.v (.bool x)))=>match s.dec t x with|some (true,s)=>fC E g a n str s|some (false,s)=>fC E g b n str s|none=>none
   |_=>none
  | .cond (.const (.bool x)) a b=>match x with|true=>fC E g a n str s|false=>fC E g b n str s
  | .block id a=>
   match fC E g a n str s with
   |some (.exit id',n,s)=>match Nat.beq id' id with|true=>some (.normal,n,s)|false=>some (.exit id',n,s)
   |r=>r
  | .loop a=>
   match s.lp with
   |some ⟨slots,ids,tm,m,k,e⟩::p=>
    match Nat.ble n k&&Nat.ble k ZR with
    |true=>some (e,k,{s with tm:=tm,m:=m,lp:=p,po:=LoopV E.P a slots ids (slots.map fun t=>s.tm[t]?) (ids.map (ZY s.m)) s.tm.length n tm m k e s.rd::s.po})
    |false=>none
   |none::p=>match fC E g a n str {s with lp:=p} with|some (.normal,n,s)=>fC E g (.loop a) n str {s with lp:=none::s.lp}|r=>r
   | []=>match fC E g a n str s with|some (.normal,n,s)=>fC E g (.loop a) n str s|r=>r
  | .exit id=>some (.exit id,n,s)
  | .goto l=>some (.goto l,n,s)
  | .scope a=>TU (fC E g) a 200 a n str s
  | .ret=>some (.ret,n,s)
  | .rangeFunc f ps as bd=>
   match Nat.ble (n+2) ZR,WE s.tm s.m f,PQ n s ps as bd with
   | true,some v,some (m',ms')=>
    match UQ [.c (.yld (n+1))] v with
    |some (.call g' args)=>
     match ZM E (fC E g) g' args (n+2) str {s with m:=m'} with
     |some (_,n1,s1)=>match Vu (n+1) {s1 with ms:=ms'} with|some (e,s')=>some (e,n1,s')|none=>none
     |none=>none
    |_=>none
   |_,_,_=>none
  |_=>none
section
variable {E:Env}
theorem QA (b str:Nat):∀l:AMem,S4 b str l=KO b str l
 | []=>rfl
 |(i,x)::r=>by simp only[S4,KO,List.all_cons];rw[QA b str r];rfl
theorem HU:∀l:AMem,Te l=l.all (fun x=>x.2.own)
 | []=>rfl
 |(i,x)::r=>by simp only[Te,List.all_cons];rw[HU r]
theorem Sg {s s':St} {l:List Bool} {n str:Nat} (h:s.need l=some s'):(s.at_ n str).need l=some (s'.at_ n str):=by
 obtain⟨tm,m,n0,str0,sk,path,ob,po,ms0,rd0,lp0⟩:=s
 cases sk with
 |true=>
  simp only[St.need,St.at_] at h ⊢;split at h
  . rename_i hl;cases h;rfl
  . cases h
 |false=>
  simp only[St.need,St.at_,Option.some.injEq] at h ⊢;subst h;rfl
theorem IW {s s':St} {t:Tmp} {b d:Bool} {n str:Nat} (h:s.dec t b=some (d,s')):(s.at_ n str).dec t b=some (d,s'.at_ n str):=by
 obtain⟨tm,m,n0,str0,sk,path,ob,po,ms0,rd0,lp0⟩:=s
 cases path with
 |nil=>cases b<;>(simp only[St.dec,St.at_,Option.some.injEq,Prod.mk.injEq] at h ⊢;obtain⟨rfl,rfl⟩:=h;exact⟨rfl,rfl⟩)
 |cons q r=>
  cases q with
  |b d'=>simp only[St.dec,St.at_,Option.some.injEq,Prod.mk.injEq] at h ⊢;obtain⟨rfl,rfl⟩:=h;exact⟨rfl,rfl⟩
  |_=>cases b<;>(simp only[St.dec,St.at_,Option.some.injEq,Prod.mk.injEq] at h ⊢;obtain⟨rfl,rfl⟩:=h;exact⟨rfl,rfl⟩)
theorem Rs {ops:Array Oper} {o:Oper} {s s':St} {d:Bool} {n str:Nat} (h:Yt ops o s=some (d,s')):Yt ops o (s.at_ n str)=some (d,s'.at_ n str):=by
 unfold Yt at h ⊢;split at h
 . cases h;rfl
 . rename_i j want hg
   split at h
   . cases h;rfl
   . rename_i t hd
     have htm:(s.at_ n str).tm=s.tm:=rfl;rw[htm];split at h
     . rename_i b hb
       split at h
       . rename_i d' s'' hdec
         rw[IW hdec];cases h;rfl
       . cases h
     . rename_i vs hb
       cases h;rfl
     . cases h
def OB (yf:CY) (yf0:Nat->List AV->St->Option (AV × St)):Prop:=
 ∀id args n str s r n' s',yf id args n str s=some (r,n',s')->yf0 id args (s.at_ n str)=some (r,s'.at_ n' str)
def UP (cf:CF) (cf0:FuncId->List AV->St->Option (AV × St)):Prop:=
 ∀f args n str s r n' s',cf f args n str s=some (r,n',s')->cf0 f args (s.at_ n str)=some (r,s'.at_ n' str)
theorem jjgq {cf:CF} {cf0:FuncId->List AV->St->Option (AV × St)} (h:UP cf cf0):UP (Qj E cf) (R6 E cf0):=by
 intro f args n str s r n' s' hh;unfold Qj at hh;unfold R6;have e1:(s.at_ n str).m=s.m:=rfl;have e2:(s.at_ n str).n=n:=rfl;rw[e1,e2];split at hh
 . rename_i r' news k ob hct
   rw[hct];simp only;split at hh
   . rename_i s1 hle hneed
     rw[hle,Sg hneed];cases hh;rfl
   . cases hh
 . rename_i hct
   rw[hct];exact h _ _ _ _ _ _ _ _ hh
theorem jjmm {cf:CF} {cf0:FuncId->List AV->St->Option (AV × St)} {yf:CY} {yf0:Nat->List AV->St->Option (AV × St)} (hcf:UP cf cf0) (hyf:OB yf yf0) {ops:Array Oper} {o:Oper} {n str n':Nat} {s s':St} (h:Ha E cf yf ops o n str s=some (n',s')):
 FN E cf0 yf0 ops o (s.at_ n str)=some (s'.at_ n' str):=by
 unfold Ha at h;unfold FN;split at h
 . cases h
 . rename_i s1 hg
   rw[Rs hg];cases h;rfl
 . rename_i s1 hg
   rw[Rs hg];simp only;have e1:(s1.at_ n str).m=s1.m:=rfl;have e2:(s1.at_ n str).n=n:=rfl;have e3:(s1.at_ n str).tm=s1.tm:=rfl;rw[e1,e2,e3];split at h
   . rename_i v news ob hle haop
     rw[hle,haop];simp only;split at h
     . rename_i s2 hneed
       rw[Sg hneed];cases h;rfl
     . cases h
   . rename_i v m' ob hle haop
     rw[hle,haop];simp only;split at h
     . rename_i s2 hup hneed
       rw[hup,Sg hneed];cases h;rfl
     . cases h
   . rename_i f args hle haop
     rw[hle,haop];simp only;split at h
     . rename_i v n2 s2 hco hcall
       rw[hco,jjgq hcf _ _ _ _ _ _ _ _ hcall];cases h;rfl
     . cases h
   . rename_i id args hle haop
     rw[hle,haop];simp only;split at h
     . rename_i v n2 s2 hco hcall
       rw[hco,hyf _ _ _ _ _ _ _ _ hcall];cases h;rfl
     . cases h
   . cases h
theorem I3 {cf:CF} {cf0:FuncId->List AV->St->Option (AV × St)} {yf:CY} {yf0:Nat->List AV->St->Option (AV × St)} (hcf:UP cf cf0) (hyf:OB yf yf0) {ops:Array Oper}:∀{l:List Oper} {n str n':Nat} {s s':St},SE E cf yf ops l n str s=some (n',s')->RD E cf0 yf0 ops l (s.at_ n str)=some (s'.at_ n' str)
 | [],n,str,n',s,s',h=>by simp only[SE,Option.some.injEq,Prod.mk.injEq] at h;obtain⟨rfl,rfl⟩:=h;rfl
 |o::r,n,str,n',s,s',h=>by
  simp only[SE] at h;simp only[RD];split at h
  . rename_i n1 s1 h1
    rw[jjmm hcf hyf h1];exact I3 hcf hyf h
  . cases h
theorem Et {cf:CF} {cf0:FuncId->List AV->St->Option (AV × St)} (hcf:UP cf cf0) {ops:Array Oper} {o:Oper} {i n0 b str:Nat} {mi news:AMem} {v:AV} {s s':St} (h:KJ E cf ops o mi b str s=some (v,news,s')):
 GG E cf0 ops i o mi b (s.at_ n0 str)=some (v,news,s'.at_ n0 str):=by
 unfold KJ at h;unfold GG;split at h
 . cases h
 . rename_i s1 hg
   rw[Rs hg];cases h;rfl
 . rename_i s1 hg
   rw[Rs hg];simp only;have e1:(s1.at_ n0 str).str=str:=rfl;have e3:(s1.at_ n0 str).tm=s1.tm:=rfl;rw[e1,e3];split at h
   . rename_i v' news' ob hle haop
     rw[hle,haop];simp only;split at h
     . rename_i s2 hin hneed
       rw[QA] at hin;rw[hin,Sg hneed];cases h;rfl
     . cases h
   . rename_i f args hle haop
     rw[hle,haop];simp only;split at h
     . rename_i r news' k ob hco hct
       rw[hco,hct];simp only;split at h
       . rename_i s2 hin hneed
         rw[QA] at hin;rw[hin,Sg hneed];cases h;rfl
       . cases h
     . rename_i hco hct
       rw[hco,hct];simp only;split at h
       . rename_i r n2 s2 hcall
         have:=hcf _ _ _ _ _ _ _ _ hcall;obtain⟨tm1,m1,n1,str1,sk1,path1,ob1,po1,ms1,rd1,lp1⟩:=s1;simp only[St.at_] at this ⊢;rw[this];simp only;split at h
         . rename_i hc
           rw[QA,HU] at hc;rw[hc];cases h;rfl
         . cases h
       . cases h
     . cases h
   . cases h
theorem DI {cf:CF} {cf0:FuncId->List AV->St->Option (AV × St)} (hcf:UP cf cf0) {ops:Array Oper} {n0 str:Nat}:∀{l:List Oper} {i:Nat} {acc acc':List (Nat × AMem)} {s s':St},Ra E cf ops n0 str l i acc s=some (acc',s')->
 QH E cf0 ops n0 l i acc (s.at_ n0 str)=some (acc',s'.at_ n0 str)
 | [],i,acc,acc',s,s',h=>by simp only[Ra,Option.some.injEq,Prod.mk.injEq] at h;obtain⟨rfl,rfl⟩:=h;rfl
 |o::r,i,acc,acc',s,s',h=>by
  simp only[Ra] at h;simp only[QH];have e1:(s.at_ n0 str).str=str:=rfl;have e2:(s.at_ n0 str).m=s.m:=rfl;rw[e1,e2];split at h
  . rename_i v news s1 h1
    rw[Et hcf h1];exact DI hcf h
  . cases h
theorem jjjg {cf:CF} {cf0:FuncId->List AV->St->Option (AV × St)} {yf:CY} {yf0:Nat->List AV->St->Option (AV × St)} (hcf:UP cf cf0) (hyf:OB yf yf0) {ops:Array Oper} {n str n':Nat} {s s':St} (h:Nb E cf yf ops n str s=some (n',s')):Ol E cf0 yf0 ops (s.at_ n str)=some (s'.at_ n' str):=by
 unfold Nb at h;unfold Ol;have e1:(s.at_ n str).n=n:=rfl;rw[e1];split at h
 . rename_i hok
   rw[hok];simp only;split at h
   . rename_i acc s1 hq
     rw[DI hcf hq];exact I3 hcf hyf h
   . cases h
 . cases h
theorem jjml {cf:CF} {cf0:FuncId->List AV->St->Option (AV × St)} (hcf:UP cf cf0) {ops:Array Oper} {o:Oper} {n0 b str:Nat} {mi:AMem} {z:AStep} {v:AV} {s s':St} (h:Hb E cf ops o mi b str s=some (v,z,s')):
 FO E cf0 ops o mi b (s.at_ n0 str)=some (v,z,s'.at_ n0 str):=by
 unfold Hb at h;unfold FO;split at h
 . cases h
 . rename_i s1 hg
   rw[Rs hg];cases h;rfl
 . rename_i s1 hg
   rw[Rs hg];simp only;have e1:(s1.at_ n0 str).str=str:=rfl;have e3:(s1.at_ n0 str).tm=s1.tm:=rfl;rw[e1,e3];split at h
   . rename_i f args hle haop
     rw[hle,haop];simp only;split at h
     . rename_i r news' k ob hco hct
       rw[hco,hct];simp only;split at h
       . rename_i s2 hin hneed
         rw[QA] at hin;rw[hin,Sg hneed];cases h;rfl
       . cases h
     . rename_i hco hct
       rw[hco,hct];simp only;split at h
       . rename_i r n2 s2 hcall
         have:=hcf _ _ _ _ _ _ _ _ hcall;obtain⟨tm1,m1,n1,str1,sk1,path1,ob1,po1,ms1,rd1,lp1⟩:=s1;simp only[St.at_] at this ⊢;rw[this];simp only;split at h
         . rename_i hc
           rw[QA,HU] at hc;rw[hc];cases h;rfl
         . cases h
       . cases h
     . cases h
   . cases h
theorem jjmo {cf:CF} {cf0:FuncId->List AV->St->Option (AV × St)} (hcf:UP cf cf0) {wm:Bool} {ops:Array Oper} {o:Oper} {i n0 b str:Nat} {mi:AMem} {z:AStep} {v:AV} {s s':St} (h:H9 E cf wm ops o mi b str s=some (v,z,s')):
 FM E cf0 wm ops i o mi b (s.at_ n0 str)=some (v,z,s'.at_ n0 str):=by
 unfold H9 at h;unfold FM;split at h
 . rename_i hu
   try rw[hu]
   try simp only
   split at h
   . rename_i hw
     try rw[hw]
     try simp only
     split at h
     . rename_i v' l s1 hq
       rw[Et hcf hq];cases h;rfl
     . cases h
   . rename_i hw
     try rw[hw]
     try simp only
     exact jjml hcf h
 . rename_i hu
   try rw[hu]
   try simp only
   split at h
   . cases h
   . rename_i s1 hg
     rw[Rs hg];cases h;rfl
   . rename_i s1 hg
     rw[Rs hg];simp only;have e1:(s1.at_ n0 str).str=str:=rfl;have e3:(s1.at_ n0 str).tm=s1.tm:=rfl;rw[e1,e3];split at h
     . rename_i v' l ob hle haop
       rw[hle,haop];simp only;split at h
       . rename_i s2 hin hneed
         rw[QA] at hin;rw[hin,Sg hneed];cases h;rfl
       . cases h
     . rename_i v' e ob hle haop
       rw[hle,haop];simp only;split at h
       . rename_i s2 hne hneed
         rw[hne,Sg hneed];cases h;rfl
       . cases h
     . cases h
theorem P5 {cf:CF} {cf0:FuncId->List AV->St->Option (AV × St)} (hcf:UP cf cf0) {wm:Bool} {ops:Array Oper} {vis:Nat->AMem->AMem} {n0 str:Nat}:∀{l:List Oper} {i:Nat} {acc acc':List (Nat × Nat)} {s s':St},UX E cf wm ops vis n0 str l i acc s=some (acc',s')->
 Ua E cf0 wm ops vis n0 l i acc (s.at_ n0 str)=some (acc',s'.at_ n0 str)
 | [],i,acc,acc',s,s',h=>by simp only[UX,Option.some.injEq,Prod.mk.injEq] at h;obtain⟨rfl,rfl⟩:=h;rfl
 |o::r,i,acc,acc',s,s',h=>by
  simp only[UX] at h;simp only[Ua];have e1:(s.at_ n0 str).str=str:=rfl;have e2:(s.at_ n0 str).m=s.m:=rfl;rw[e1,e2];split at h
  . rename_i v z s1 h1
    rw[jjmo hcf h1];exact P5 hcf h
  . cases h
theorem jjjf {cf:CF} {cf0:FuncId->List AV->St->Option (AV × St)} {yf:CY} {yf0:Nat->List AV->St->Option (AV × St)} (hcf:UP cf cf0) (hyf:OB yf yf0) {ops:Array Oper} {n str n':Nat} {s s':St} (h:Nc E cf yf ops n str s=some (n',s')):Om E cf0 yf0 ops (s.at_ n str)=some (s'.at_ n' str):=by
 unfold Nc at h;unfold Om;split at h
 . rename_i hw
   try rw[hw]
   try simp only
   unfold JL at h;unfold Mf;have e1:(s.at_ n str).n=n:=rfl;have e2:(s.at_ n str).str=str:=rfl;rw[e1,e2];split at h
   . rename_i ts s1 h1
     rw[P5 hcf h1];cases h;rfl
   . cases h
 . rename_i hw
   try rw[hw]
   try simp only
   split at h
   . rename_i hy
     try rw[hy]
     try simp only
     unfold JM at h;unfold Mg;have e1:(s.at_ n str).n=n:=rfl;have e2:(s.at_ n str).str=str:=rfl;have e3:(s.at_ n str).tm=s.tm:=rfl;rw[e1,e2,e3];split at h
     . rename_i ts s1 hok h1
       rw[hok,P5 hcf h1];simp only;split at h
       . rename_i ts' s2 h2
         rw[P5 hcf h2];simp only;split at h
         . rename_i hc
           rw[hc];cases h;rfl
         . cases h
       . cases h
     . cases h
   . rename_i hy
     try rw[hy]
     try simp only
     split at h
     . rename_i hd
       try rw[hd]
       exact jjjg hcf hyf h
     . rename_i hd
       try rw[hd]
       simp only;unfold JK at h;unfold Me;have e1:(s.at_ n str).n=n:=rfl;have e2:(s.at_ n str).str=str:=rfl;rw[e1,e2];split at h
       . rename_i ts s1 hok h1
         rw[hok,P5 hcf h1];simp only;split at h
         . rename_i ts' s2 h2
           rw[P5 hcf h2];simp only;split at h
           . rename_i hc
             rw[hc];cases h;rfl
           . cases h
         . cases h
       . cases h
theorem EO {P:Program} {fn:Func} {s s' s2:St} {v:AV} {n n0 str str0:Nat} (h:R9 P fn s s'=some (v,s2)):R9 P fn (s.at_ n0 str0) (s'.at_ n str)=some (v,s2.at_ n str):=by
 unfold R9 at h ⊢;have e1:(s'.at_ n str).ms=s'.ms:=rfl;have e2:(s'.at_ n str).m=s'.m:=rfl;have e3:(s'.at_ n str).tm=s'.tm:=rfl;rw[e1,e2,e3];split at h
 . rename_i m hm
   try rw[hm]
   try simp only
   split at h
   . rename_i l ob hl
     try rw[hl]
     try simp only
     split at h
     . rename_i s3 hneed
       rw[Sg hneed];cases h;rfl
     . cases h
   . cases h
 . cases h
theorem Do {run:CR} {run0:Code->St->Option (Exit × St)} (hr:∀c n str s e n' s',run c n str s=some (e,n',s')->run0 c (s.at_ n str)=some (e,s'.at_ n' str)):UP (ZM E run) (Zw E run0):=by
 intro f args n str s r n' s' h;unfold ZM at h;unfold Zw;split at h
 . rename_i fn hfn
   rw[hfn]
   try simp only
   split at h
   . rename_i c hc
     try rw[hc]
     try simp only
     have e1:(s.at_ n str).lp=s.lp:=rfl;have e2:(s.at_ n str).n=n:=rfl;have e3:(s.at_ n str).m=s.m:=rfl;rw[e1,e2,e3];split at h
     . rename_i ids r0 m0 k0 p0 hsum
       rw[hsum];simp only;split at h
       . rename_i hle
         rw[hle];cases h;rfl
       . cases h
     . rename_i hsum
       rw[hsum];simp only;split at h
       . rename_i n1 s1 hr1
         have hr2:=hr _ _ _ _ _ _ _ hr1;simp only[St.at_] at hr2 ⊢;rw[hr2]
         try simp only
         split at h
         . rename_i v s2 he
           cases h;exact EO he
         . cases h
       . rename_i n1 s1 hr1
         have hr2:=hr _ _ _ _ _ _ _ hr1;simp only[St.at_] at hr2 ⊢;rw[hr2]
         try simp only
         split at h
         . rename_i v s2 he
           cases h;exact EO he
         . cases h
       . cases h
   . cases h
 . cases h
theorem jjnl {id:Nat} {e:Exit} {s s' s2:St} {v:AV} {n n0 str str0:Nat} (h:OO id e s s'=some (v,s2)):OO id e (s.at_ n0 str0) (s'.at_ n str)=some (v,s2.at_ n str):=by
 unfold OO at h ⊢;have e2:(s'.at_ n str).m=s'.m:=rfl;rw[e2];split at h
 . rename_i j x hj hx
   try rw[hj,hx]
   try simp only
   split at h
   . rename_i hc
     try rw[hc]
     cases h;rfl
   . cases h
 . cases h
theorem jjgd {l:Nat} {e:Exit} {s s2:St} {n str:Nat} (h:Vu l s=some (e,s2)):Vu l (s.at_ n str)=some (e,s2.at_ n str):=by
 unfold Vu at h ⊢;have e2:(s.at_ n str).m=s.m:=rfl;rw[e2];split at h
 . rename_i x hx
   try rw[hx]
   try simp only
   split at h
   . cases h
   . rename_i st pd tm ps as bd dn hne hc
     try rw[hc]
     cases st with
     |busy=>exact(hne rfl).elim
     |_=>
      try simp only
      split at h
      . cases h;rfl
      . cases h;rfl
      . cases h;rfl
      . cases h
   . cases h
 . cases h
theorem jjcr {run:CR} {run0:Code->St->Option (Exit × St)} (hr:∀c n str s e n' s',run c n str s=some (e,n',s')->run0 c (s.at_ n str)=some (e,s'.at_ n' str)):OB (UY run) (Wg run0):=by
 intro id args n str s r n' s' h;unfold UY at h;unfold Wg;have e2:(s.at_ n str).m=s.m:=rfl;rw[e2];split at h
 . rename_i x hx
   try rw[hx]
   try simp only
   split at h
   . rename_i hc
     try rw[hc]
     try simp only
     split at h
     . rename_i hlen
       try rw[hlen]
       try simp only
       split at h
       . rename_i n1 s1 h1
         have k1:=hr _ _ _ _ _ _ _ h1;simp only[St.at_] at k1 ⊢;rw[k1]
         try simp only
         split at h
         . rename_i x1 hx1
           try rw[hx1]
           try simp only
           split at h
           . rename_i hc1
             try rw[hc1]
             try simp only
             split at h
             . rename_i e n2 s2 h2
               have k2:=hr _ _ _ _ _ _ _ h2;simp only[St.at_] at k2;rw[k2]
               try simp only
               split at h
               . rename_i v s3 he
                 cases h;exact jjnl he
               . cases h
             . cases h
           . cases h
         . cases h
       . cases h
     . cases h
   . cases h
 . cases h
theorem jjgi (n str:Nat) (s:St) (ps:Array Tmp) (as bd:Code):RZ (s.at_ n str) ps as bd=PQ n s ps as bd:=rfl
theorem jjd8 {run:CR} {run0:Code->St->Option (Exit × St)} {x:Code} (hr:∀c n str s e n' s',run c n str s=some (e,n',s')->run0 c (s.at_ n str)=some (e,s'.at_ n' str)):∀k c n str s e n' s',TU run x k c n str s=some (e,n',s')->UH run0 x k c (s.at_ n str)=some (e,s'.at_ n' str):=by
 intro k
 induction k with
 |zero=>intro c n str s e n' s' h;cases h
 |succ k ih=>
  intro c n str s e n' s' h;unfold TU at h;unfold UH;split at h
  . rename_i l n1 s1 h1
    rw[hr _ _ _ _ _ _ _ h1];simp only;split at h
    . rename_i c' hf
      rw[hf];exact ih _ _ _ _ _ _ _ h
    . rename_i hf
      rw[hf];simp only[Option.some.injEq,Prod.mk.injEq] at h;obtain⟨rfl,rfl,rfl⟩:=h
      rfl
  . rename_i hne
    rw[hr _ _ _ _ _ _ _ h]
    cases e with
    |goto l=>exact absurd h (hne l _ _)
    |_=>rfl
theorem Fl :∀(g:Nat) (c:Code) (n str:Nat) (s:St) (e:Exit) (n':Nat) (s':St),fC E g c n str s=some (e,n',s')->XI E g c (s.at_ n str)=some (e,s'.at_ n' str):=by
 intro g
 induction g with
 |zero=>intro c n str s e n' s' h;cases h
 | succ g ih=>
  have hcf:UP (ZM E (fC E g)) (Zw E (XI E g)):=Do ih;have hyf:OB (UY (fC E g)) (Wg (XI E g)):=jjcr ih;intro c n str s e n' s' h
  cases c with
  |skip=>simp only[fC,Option.some.injEq,Prod.mk.injEq] at h;obtain⟨rfl,rfl,rfl⟩:=h;rfl
  |label l=>simp only[fC,Option.some.injEq,Prod.mk.injEq] at h;obtain⟨rfl,rfl,rfl⟩:=h;rfl
  |exit l=>simp only[fC,Option.some.injEq,Prod.mk.injEq] at h;obtain⟨rfl,rfl,rfl⟩:=h;rfl
  |goto l=>simp only[fC,Option.some.injEq,Prod.mk.injEq] at h;obtain⟨rfl,rfl,rfl⟩:=h;rfl
  |scope x=>
   simp only[fC] at h;simp only[XI];exact jjd8 ih 200 _ _ _ _ _ _ _ h
  |ret=>simp only[fC,Option.some.injEq,Prod.mk.injEq] at h;obtain⟨rfl,rfl,rfl⟩:=h;rfl
  |region id ops d=>
   simp only[fC] at h;simp only[XI];split at h
   . split at h
     . rename_i n1 s1 h1
       simp only[Option.some.injEq,Prod.mk.injEq] at h;obtain⟨rfl,rfl,rfl⟩:=h
       rw[I3 hcf hyf h1]
     . cases h
   . split at h
     . rename_i n1 s1 h1
       simp only[Option.some.injEq,Prod.mk.injEq] at h;obtain⟨rfl,rfl,rfl⟩:=h
       rw[jjjf hcf hyf h1]
     . cases h
  |seq x y=>
   simp only[fC] at h;simp only[XI];split at h
   . rename_i n1 s1 h1
     rw[ih _ _ _ _ _ _ _ h1];exact ih _ _ _ _ _ _ _ h
   . rename_i hne
     rw[ih _ _ _ _ _ _ _ h]
     cases e with
     |normal=>exact absurd h (hne _ _)
     |_=>rfl
  | cond c x y=>
   cases c with
   |tmp t=>
    simp only[fC] at h;simp only[XI];have e3:(s.at_ n str).tm=s.tm:=rfl;rw[e3];split at h
    . rename_i b hb
      rw[hb];simp only;split at h
      . rename_i s1 PR;rw[IW PR];exact ih _ _ _ _ _ _ _ h
      . rename_i s1 PR;rw[IW PR];exact ih _ _ _ _ _ _ _ h
      . cases h
    . cases h
   | const v=>
    cases v with
    |bool b=>
     simp only[fC] at h;simp only[XI];split at h
     . exact ih _ _ _ _ _ _ _ h
     . exact ih _ _ _ _ _ _ _ h
    |_=>simp[fC] at h
   |_=>simp[fC] at h
  |block id x=>
   simp only[fC] at h;simp only[XI];split at h
   . rename_i id' n1 s1 h1
     rw[ih _ _ _ _ _ _ _ h1];simp only;split at h
     . rename_i hid
       simp only[Option.some.injEq,Prod.mk.injEq] at h;obtain⟨rfl,rfl,rfl⟩:=h
       rw[hid]
     . rename_i hid
       simp only[Option.some.injEq,Prod.mk.injEq] at h;obtain⟨rfl,rfl,rfl⟩:=h
       rw[hid]
   . rename_i hne
     rw[ih _ _ _ _ _ _ _ h]
     cases e with
     |exit id'=>exact absurd h (hne id' _ _)
     |_=>rfl
  |loop x=>
   simp only[fC] at h;simp only[XI];have e1:(s.at_ n str).lp=s.lp:=rfl;have e2:(s.at_ n str).n=n:=rfl;rw[e1,e2];split at h
   . rename_i slots ids tm m k e' p hpath
     rw[hpath];simp only;split at h
     . rename_i hle
       rw[hle];simp only[Option.some.injEq,Prod.mk.injEq] at h;obtain⟨rfl,rfl,rfl⟩:=h
       rfl
     . cases h
   . rename_i p hp
     rw[hp];simp only;split at h
     . rename_i n1 s1 h1
       have k1:=ih _ _ _ _ _ _ _ h1;simp only[St.at_] at k1 ⊢;rw[k1];exact ih _ _ _ _ _ _ _ h
     . rename_i hne
       have k1:=ih _ _ _ _ _ _ _ h;simp only[St.at_] at k1 ⊢;rw[k1]
       cases e with
       |normal=>exact absurd h (hne _ _)
       |_=>rfl
   . rename_i hp
     rw[hp];simp only;split at h
     . rename_i n1 s1 h1
       rw[ih _ _ _ _ _ _ _ h1];exact ih _ _ _ _ _ _ _ h
     . rename_i hne
       rw[ih _ _ _ _ _ _ _ h]
       cases e with
       |normal=>exact absurd h (hne _ _)
       |_=>rfl
  |rangeFunc f ps as bd=>
   simp only[fC] at h;simp only[XI];have e2:(s.at_ n str).n=n:=rfl;have e3:(s.at_ n str).tm=s.tm:=rfl;have e4:(s.at_ n str).m=s.m:=rfl;rw[jjgi,e2,e3,e4];split at h
   . rename_i v m' ms' hle hv hen
     rw[hle,hv,hen];simp only;split at h
     . rename_i g' args hcall
       rw[hcall];simp only;split at h
       . rename_i rv n1 s1 h1
         have k1:=hcf _ _ _ _ _ _ _ _ h1;simp only[St.at_] at k1 ⊢;rw[k1];simp only;split at h
         . rename_i e' s2 he
           cases h;exact jjgd he
         . cases h
       . cases h
     . cases h
   . cases h
  |_=>cases h
theorem jjei {g:Nat}:UP (ZM E (fC E g)) (Zw E (XI E g)):=Do (fun _ _ _ _ _ _ _=>Fl g _ _ _ _ _ _ _)
end
end Go.Proofs.YtljeokninakliaaGreatDoor
end
