/- Parts, one behind the other. The symbolic evaluator: regions that draw their order: one walk in the text's order serves every order. No Go text is in sight. -/
import Derived.Test.YtpgaplcdbbnblaaGreatDoorJMembersView4
import Derived.Test.YtpgaplcdbbnblaaGreatDoorJMembersView8
set_option linter.unusedSimpArgs false
set_option linter.unusedVariables false
/- The symbolic evaluator: regions that draw their order: one walk in the text's order serves every order. No Go text is in sight. -/
section
namespace Go.Proofs.YtpgaplcdbbnblaaGreatDoor
open Go.RowKit
/-! ### waiting -/
inductive Reach (ops:Array Oper):Nat→Nat→Prop
 |one {i:Nat} {o:Oper} {e:Edge}:ops[i]? =some o→e∈o.after.toList→Region.binds .any e=true→Reach ops i e.on
 |step {i j:Nat} {o:Oper} {e:Edge}:ops[i]? =some o→e∈o.after.toList→Region.binds .any e=true→Reach ops e.on j→Reach ops i j
theorem orL_get:∀(l q:List Bool) (j:Nat),(orL l q).getD j false=true→l.getD j false=true∨q.getD j false=true
 | [],q,j,h=>.inr (by simpa[orL] using h)
 |x::r,[],j,h=>.inl (by simpa[orL] using h)
 |x::r,y::q,0,h=>by simpa[orL] using h
 |x::r,y::q,j+1,h=>by
  simp only[orL,List.getD_cons_succ] at h ⊢
  exact orL_get r q j h
theorem unitL_get:∀(n j:Nat),(unitL n).getD j false=true→j=n
 |0,0,_=>rfl
 |0,j+1,h=>by simp[unitL] at h
 |n+1,0,h=>by simp[unitL] at h
 |n+1,j+1,h=>by
  simp only[unitL,List.getD_cons_succ] at h
  rw[unitL_get n j h]
theorem cloE_get {acc:List (List Bool)} {j:Nat}:∀{l:List Edge},(cloE acc l).getD j false=true→∃e∈l,Region.binds .any e=true∧(e.on=j∨(acc.getD e.on []).getD j false=true)
 | [],h=>by simp[cloE] at h
 | e :: r,h=>by
  simp only[cloE] at h
  split at h
  · rename_i hb
    rcases orL_get _ _ _ h with h|h
    · exact⟨e,by simp,hb,.inl (unitL_get _ _ h).symm⟩
    · rcases orL_get _ _ _ h with h|h
      · exact⟨e,by simp,hb,.inr h⟩
      · obtain⟨e',he,h1⟩:=cloE_get h
        exact⟨e',by simp[he],h1⟩
  · obtain⟨e',he,h1⟩:=cloE_get h
    exact⟨e',by simp[he],h1⟩
theorem clo_reach (ops:Array Oper):∀(l:List Oper) (acc:List (List Bool)),(∀j,l[j]? =ops[acc.length+j]?)→(∀i j,(acc.getD i []).getD j false=true→Reach ops i j)→
 ∀i j,((clo l acc).getD i []).getD j false=true→Reach ops i j
 | [],acc,_,h,i,j,hj=>h i j hj
 | o :: r,acc,hl,h,i,j,hj=>by
  have ho:ops[acc.length]? =some o:=by simpa using (hl 0).symm
  refine clo_reach ops r (acc++[cloE acc o.after.toList]) (fun q=>?_) (fun i' j' h'=>?_) i j hj
  · have:=hl (q+1)
    simp only[List.getElem?_cons_succ] at this
    rw[this,List.length_append]
    congr 1
    simp
    omega
  · by_cases hi:i'<acc.length
    · refine h i' j' ?_
      simp only[List.getD] at h' ⊢
      rwa[List.getElem?_append_left hi] at h'
    · by_cases he:i'=acc.length
      · subst he
        have h2:(cloE acc o.after.toList).getD j' false=true:=by simpa[List.getD] using h'
        obtain⟨e,hm,hb,hc⟩:=cloE_get h2
        rcases hc with rfl|hc
        · exact .one ho hm hb
        · exact .step ho hm hb (h _ _ hc)
      · have h2:(acc++[cloE acc o.after.toList])[i']? =none:=List.getElem?_eq_none (by simp;omega)
        simp[List.getD,h2] at h'
theorem waits_reach {ops:Array Oper} {i j:Nat} (h:waits ops i j=true):Reach ops i j:=
 clo_reach ops ops.toList [] (fun j=>by simp) (fun i j h=>by simp at h) i j h
theorem reach_done {ops:Array Oper} {listed:Array Bool} (hc:∀j oj,ops[j]? =some oj→listed.getD j false=true→∀e∈oj.after,Region.binds .any e=true→listed.getD e.on false=true):
 ∀{i j:Nat},Reach ops i j→(∀o,ops[i]? =some o→∀e∈o.after,Region.binds .any e=true→listed.getD e.on false=true)→listed.getD j false=true:=by
 intro i j h
 induction h with
 |one ho he hb=>exact fun h=>h _ ho _ (Array.mem_toList_iff.1 he) hb
 | @step i j o e ho he hb hr ih=>
  intro h
  refine ih fun o' ho' e' he' hb'=>?_
  have h1:=h _ ho _ (Array.mem_toList_iff.1 he) hb
  exact hc _ _ ho' h1 e' he' hb'
/-! ### frames by what is done -/
section
variable {P:Program} {C:Ctx} {ops:Array Oper}
def frD (ops:Array Oper) (V:Nat→AV) (tm:List AV) (listed:Nat→Bool):Nat→List AV
 |0=>tm
 |k+1=>if listed k then putA (frD ops V tm listed k) ((ops[k]?).bind (·.dst)) (V k) else frD ops V tm listed k
theorem putA_length (tm:List AV) (d:Option Tmp) (v:AV):(putA tm d v).length=tm.length:=by cases d<;>simp[putA]
theorem frD_length (V:Nat→AV) (tm:List AV) (listed:Nat→Bool):∀k,(frD ops V tm listed k).length=tm.length
 |0=>rfl
 |k+1=>by
  simp only[frD]
  split
  · rw[putA_length,frD_length V tm listed k]
  · exact frD_length V tm listed k
theorem putA_get (tm:List AV) (d:Option Tmp) (v:AV) (t:Nat):(putA tm d v)[t]? =if d=some t then (if t<tm.length then some v else none) else tm[t]?:=by
 cases d with
 |none=>simp[putA]
 |some d=>
  simp only[putA,Option.some.injEq]
  rw[List.getElem?_set]
  by_cases e:d=t
  · subst e;simp
  · simp[e]
theorem frD_succ (V:Nat→AV) (tm:List AV) (l:Nat→Bool) (k t:Nat):(frD ops V tm l (k+1))[t]? =
 if l k=true∧(ops[k]?).bind (·.dst)=some t then (if t<tm.length then some (V k) else none) else (frD ops V tm l k)[t]?:=by
 simp only[frD]
 split
 · rename_i h
   rw[putA_get,frD_length]
   simp[h]
 · rename_i h
   rw[if_neg (fun c=>h c.1)]
theorem frD_agree {V:Nat→AV} {tm:List AV} {l l':Nat→Bool} {t:Nat}:∀k,(∀j,j<k→(ops[j]?).bind (·.dst)=some t→l j=l' j)→(frD ops V tm l k)[t]? =(frD ops V tm l' k)[t]?
 |0,_=>rfl
 |k+1,h=>by
  have ih:(frD ops V tm l k)[t]? =(frD ops V tm l' k)[t]?:=frD_agree k fun j hj=>h j (by omega)
  have hk:=h k (by omega)
  rw[frD_succ,frD_succ,ih]
  by_cases hd:(ops[k]?).bind (·.dst)=some t
  · rw[hk hd]
  · rw[if_neg (fun c=>hd c.2),if_neg (fun c=>hd c.2)]
theorem frD_put {V:Nat→AV} {tm:List AV} {l:Nat→Bool} {i:Nat}:∀k,i<k→(∀j,i<j→j<k→l j=true→∀d,(ops[i]?).bind (·.dst)=some d→(ops[j]?).bind (·.dst)≠some d)→l i=false→
 ∀t:Nat,(frD ops V tm (fun j=>j==i||l j) k)[t]? =(putA (frD ops V tm l k) ((ops[i]?).bind (·.dst)) (V i))[t]?
 |0,h,_,_,_=>by omega
 | k + 1,hik,hno,hli,t=>by
  rw[putA_get,frD_length,frD_succ,frD_succ]
  by_cases hk:k=i
  · subst hk
    have h1:(frD ops V tm (fun j=>j==k||l j) k)[t]? =(frD ops V tm l k)[t]?:=frD_agree k fun j hj _=>by
     simp[show ¬j=k by omega]
    simp only[beq_self_eq_true,Bool.true_or,true_and,hli,Bool.false_eq_true,false_and,if_false,h1]
  · have ih:=frD_put (V:=V) (tm:=tm) (l:=l) (i:=i) k (by omega) (fun j h1 h2=>hno j h1 (by omega)) hli t
    have hbe:(k==i)=false:=by simp[hk]
    rw[putA_get,frD_length] at ih
    simp only[hbe,Bool.false_or]
    by_cases hd:(ops[i]?).bind (·.dst)=some t
    · rw[if_pos hd]
      rw[if_pos hd] at ih
      by_cases hc:l k=true∧(ops[k]?).bind (·.dst)=some t
      · exact absurd hc.2 (hno k (by omega) (by omega) hc.1 t hd)
      · rw[if_neg hc];exact ih
    · rw[if_neg hd]
      rw[if_neg hd] at ih
      rw[ih]
def nwD (N:Nat→AMem) (l:Nat→Bool):Nat→AMem
 |0=>[]
 |k+1=>nwD N l k++(if l k then N k else[])
def rng (b str j id:Nat):Prop:=b+j*str≤id∧id<b+j*str+str
theorem rng_apart {b str j j' id:Nat} (h:rng b str j id) (h':rng b str j' id):j=j':=by
 rcases Nat.lt_trichotomy j j' with hlt|rfl|hlt
 · have:=Nat.mul_le_mul_right str (show j+1≤j' by omega)
   rw[Nat.succ_mul] at this
   unfold rng at *;omega
 · rfl
 · have:=Nat.mul_le_mul_right str (show j'+1≤j by omega)
   rw[Nat.succ_mul] at this
   unfold rng at *;omega
theorem look_nwD {N:Nat→AMem} {b str:Nat} (hN:∀j id x,look (N j) id=some x→rng b str j id) {l:Nat→Bool} {id:Nat} {x:ABlk}:∀k,look (nwD N l k) id=some x↔∃j,j<k∧l j=true∧look (N j) id=some x
 |0=>by simp[nwD,look]
 | k + 1=>by
  have ih:=look_nwD hN (l:=l) (id:=id) (x:=x) k
  simp only[nwD,look_append]
  constructor
  · intro h
    cases hk:look (nwD N l k) id with
    |some y=>
     rw[hk] at h
     cases h
     obtain⟨j,h1,h2⟩:=ih.1 hk
     exact⟨j,by omega,h2⟩
    |none=>
     rw[hk] at h
     simp only at h
     split at h
     · rename_i hl;exact⟨k,by omega,hl,h⟩
     · simp[look] at h
  · rintro⟨j,h1,h2,h3⟩
    by_cases hj:j=k
    · subst hj
      have:look (nwD N l j) id=none:=by
       cases hk:look (nwD N l j) id with
       |none=>rfl
       |some y=>
        obtain⟨j',g1,g2,g3⟩:=(look_nwD hN (l:=l) (id:=id) (x:=y) j).1 hk
        have:=rng_apart (hN _ _ _ h3) (hN _ _ _ g3)
        omega
      rw[this]
      simp[h2,h3]
    · rw[ih.2 ⟨j,by omega,h2,h3⟩]
def QStep (r:Option Nat) (P:Program) (C:Ctx) (ops:Array Oper) (i:Nat) (tmR:List AV) (mi:AMem) (lo hi:Nat) (v:AV) (news:AMem):Prop:=
 ∀(β:Nm) (a:Act) (w:World) (m2:AMem) (K:Act→World→Prop) (Q:Exit→Act→World→Prop),FrOk β tmR a.tmps→Sub mi m2→Rel C β m2 w→(∀id,lo≤id→id<hi→β id=none)→
  (∀β' u w',Ext β β'→(∀id,id<lo∨hi≤id→β' id=β id)→γ β' v=some u→Rel C β' (m2++news) w'→K (a.put ((ops[i]?).bind (·.dst)) u) w')→wpOpIn (FW r) 0 P ops Q i K a w
theorem mask_get (ls:List Nat):∀(i:Nat) (tm:List AV) (t:Nat),(mask ls i tm)[t]? =(tm[t]?).map fun x=>if ls.contains (i+t) then x else .any
 |i,[],t=>by simp[mask]
 |i,x::r,0=>by simp only[mask,List.getElem?_cons_zero,Option.map_some,Nat.add_zero];split<;>simp_all
 |i,x::r,t+1=>by
  simp only[mask,List.getElem?_cons_succ]
  rw[mask_get ls (i+1) r t,show i+1+t=i+(t+1) by omega]
theorem mask_length (ls:List Nat):∀(i:Nat) (tm:List AV),(mask ls i tm).length=tm.length
 |_,[]=>rfl
 |i,_::r=>by simp[mask,mask_length ls (i+1) r]
theorem FrOk.put {β:Nm} {tm:List AV} {a:Act} {d:Option Tmp} {v:AV} {u:Value} (h:FrOk β tm a.tmps) (hv:γ β v=some u):FrOk β (putA tm d v) (a.put d u).tmps:=by
 cases d with
 |none=>exact h
 |some d=>
  refine⟨by simp[putA,Act.put,h.1],fun t av ht=>?_⟩
  rw[putA_get] at ht
  simp only[Act.put]
  rw[Array.getElem?_setIfInBounds]
  by_cases e:d=t
  · subst e
    rw[if_pos rfl] at ht
    rw[if_pos rfl]
    split at ht
    · rename_i hlt
      cases ht
      exact .inr ⟨u,hv,by rw[if_pos (by rw[h.1];exact hlt)]⟩
    · cases ht
  · rw[if_neg (fun c=>e (by simpa using c))] at ht
    rw[if_neg e]
    exact h.2 t av ht
structure DInv (C:Ctx) (ops:Array Oper) (V:Nat→AV) (N:Nat→AMem) (tm0:List AV) (m0:AMem) (b str q:Nat) (β0:Nm) (D:List Deferred) (listed:Array Bool) (a:Act) (w:World) (β:Nm):Prop where
 fr:FrOk β (frD ops V tm0 (fun j=>listed.getD j false) q) a.tmps
 df:a.defers=D
 rel:Rel C β (m0++nwD N (fun j=>listed.getD j false) q) w
 free:∀j,j<q→listed.getD j false=false→∀id,rng b str j id→β id=none
 ext:Ext β0 β
 same:∀id,id<b∨b+q*str≤id→β id=β0 id
theorem getD_set_bool (listed:Array Bool) (i j:Nat) (hi:i<listed.size):(listed.setIfInBounds i true).getD j false=(j==i||listed.getD j false):=by
 by_cases h:j=i
 · subst h;simp[hi]
 · have:¬i=j:=fun e=>h e.symm
   simp[h,this,Array.getElem?_setIfInBounds]
theorem draw_go {r:Option Nat} {D:List Deferred} {V:Nat→AV} {N:Nat→AMem} {tm0:List AV} {m0:AMem} {b str q:Nat} {β0:Nm} {Q:Exit→Act→World→Prop} {mi:Nat→AMem}
 (hsel:Region.noSelect ops=true) (hdown:downB ops=true) (hap:apartB ops q=true) (hq:q≤ops.size)
 (htail:q=ops.size∨(Region.sinkB .any ops q=true∧Region.chainB .any ops q=true))
 (hN:∀j id x,look (N j) id=some x→rng b str j id)
 (hmi:∀i,i<q→∀id x,look (mi i) id=some x→look m0 id=some x∨(look m0 id=none∧∃j,j<i∧waits ops i j=true∧look (N j) id=some x))
 (hstep:∀i,i<q→∀o,ops[i]? =some o→QStep r P C ops i (mask (o.looksAt ops) 0 (frD ops V tm0 (fun j=>decide (j<i)) q)) (mi i) (b+i*str) (b+i*str+str) (V i) (N i))
 (hQ:∀a w β,FrOk β (frD ops V tm0 (fun _=>true) q) a.tmps→a.defers=D→Rel C β (m0++nwD N (fun _=>true) q) w→Ext β0 β→(∀id,id<b∨b+q*str≤id→β id=β0 id)→wpAnyIn (FW r) 0 P .any ops Q (ops.size-q) (firstN ops q) a w):
 ∀(f:Nat) (listed:Array Bool) (a:Act) (w:World) (β:Nm),HeadInv .any ops q listed→((List.range q).countP fun j=>!listed.getD j false)=f→DInv C ops V N tm0 m0 b str q β0 D listed a w β→
  wpAnyIn (FW r) 0 P .any ops Q (f+(ops.size-q)) listed a w:=by
 intro f
 induction f with
 | zero=>
  intro listed a w β inv hcnt hd
  have hall:∀j,j<q→listed.getD j false=true:=by
   intro j hj
   have:=List.countP_eq_zero.1 hcnt j (List.mem_range.2 hj)
   simpa using this
  have hl:listed=firstN ops q:=by
   apply Array.ext_getElem?
   intro j
   by_cases hj:j<ops.size
   · have h1:(firstN ops q)[j]? =some (Nat.blt j q):=by simp[firstN,hj]
     rw[h1]
     have hjs:j<listed.size:=by rw[inv.size];exact hj
     rw[Array.getElem?_eq_getElem hjs]
     congr 1
     by_cases hjq:j<q
     · have:=hall j hjq
       simp[hjs] at this
       rw[this,(show Nat.blt j q=true by rw[Nat.blt_eq];exact hjq)]
     · have:=inv.tail j (by omega) hj
       simp[hjs] at this
       rw[this]
       symm
       rw[Bool.eq_false_iff]
       intro h
       rw[Nat.blt_eq] at h;exact hjq h
   · rw[Array.getElem?_eq_none (by rw[inv.size];omega),Array.getElem?_eq_none (by simp[firstN];omega)]
  have e1:frD ops V tm0 (fun j=>listed.getD j false) q=frD ops V tm0 (fun _=>true) q:=by
   apply List.ext_getElem?
   intro t
   exact frD_agree q fun j hj _=>hall j hj
  have e2:∀k,k≤q→nwD N (fun j=>listed.getD j false) k=nwD N (fun _=>true) k:=by
   intro k
   induction k with
   |zero=>intro _;rfl
   |succ k ih=>intro hk;have hk2:=hall k (by omega);simp only[nwD];rw[ih (by omega)];simp only[hk2]
  rw[Nat.zero_add]
  have hfr:=hd.fr
  have hrel:=hd.rel
  rw[e1] at hfr
  rw[e2 q (Nat.le_refl _)] at hrel
  have:=hQ a w β hfr hd.df hrel hd.ext hd.same
  rw[← hl] at this
  exact this
 | succ f ih =>
  intro listed a w β inv hcnt hd
  have hex:∃j,j<q∧listed.getD j false=false:=by
   have hpos:0<(List.range q).countP fun j=>!listed.getD j false:=by omega
   obtain⟨j,hj,hl⟩:=List.countP_pos_iff.1 hpos
   exact⟨j,List.mem_range.1 hj,by simpa using hl⟩
  have hlt_ready:∀i,i∈Region.ready .any ops listed→i<q:=by
   intro i hi
   obtain⟨_,oi,hoi,_⟩:=mem_ready.1 hi
   have his:i<ops.size:=(Array.getElem?_eq_some_iff.1 hoi).1
   rcases htail with h|⟨h1,h2⟩
   · omega
   · rcases Nat.lt_or_ge i q with h|h
     · exact h
     · obtain⟨j,hj,hl⟩:=hex
       have hjs:j<listed.size:=by rw[inv.size];omega
       exact absurd hi (tail_waits h1 h2 (by omega) inv _ j rfl hj (getD_in hjs hl) i h)
  rw[show f+1+(ops.size-q)=(f+(ops.size-q))+1 by omega]
  refine⟨fun hnil=>?_,fun i hi=>?_⟩
  · -- the least one that is not done is ready
    exfalso
    have hmin:∀n,(∀j,j<n→j<q→listed.getD j false=true)∨∃j,j<n∧j<q∧listed.getD j false=false∧∀j',j'<j→listed.getD j' false=true:=by
     intro n
     induction n with
     |zero=>exact .inl fun j h=>by omega
     | succ n ihn=>
      rcases ihn with h|⟨j,h1,h2⟩
      · by_cases hn:n<q∧listed.getD n false=false
        · exact .inr ⟨n,by omega,hn.1,hn.2,fun j' hj'=>h j' hj' (by omega)⟩
        · refine .inl fun j hj hjq=>?_
          by_cases e:j=n
          · subst e
            cases hl:listed.getD j false with
            |true=>rfl
            |false=>exact absurd ⟨hjq,hl⟩ hn
          · exact h j (by omega) hjq
      · exact .inr ⟨j,by omega,h2⟩
    obtain⟨j0,hj0,hl0⟩:=hex
    rcases hmin q with h|⟨j,_,hjq,hl,hbelow⟩
    · rw[h j0 hj0 hj0] at hl0;cases hl0
    · have hjs:j<ops.size:=by omega
      have hoj:ops[j]? =some ops[j]:=Array.getElem?_eq_getElem hjs
      have hready:j∈Region.ready .any ops listed:=by
       refine mem_ready.2 ⟨getD_in (by rw[inv.size];exact hjs) hl,_,hoj,fun e he hb=>?_⟩
       have h1:=List.all_eq_true.1 hdown j (List.mem_range.2 hjs)
       rw[hoj] at h1
       have h2:=List.all_eq_true.1 h1 e (Array.mem_toList_iff.2 he)
       simp only[hb,Bool.not_true,Bool.false_or] at h2
       rw[Nat.blt_eq] at h2;exact hbelow e.on h2
      rw[hnil] at hready
      cases hready
  · have hiq :=hlt_ready i hi
    obtain⟨hun,oi,hoi,hpre⟩:=mem_ready.1 hi
    have his:i<listed.size:=by rw[inv.size];omega
    have hunf:listed.getD i false=false:=getD_both hun
    have hreach:∀j,waits ops i j=true→listed.getD j false=true:=fun j hw=>
     reach_done inv.closed (waits_reach hw) fun o ho e he hb=>by
      rw[hoi] at ho
      cases ho
      exact hpre e he hb
    have hback:∀j,waits ops j i=true→listed.getD j false=false:=by
     intro j hw
     cases hl:listed.getD j false with
     |false=>rfl
     |true=>
      have:=reach_done inv.closed (waits_reach hw) fun o ho e he hb=>inv.closed j o ho hl e he hb
      rw[hunf] at this
      cases this
    have hpair:∀j,j<q→j<i→∀oj,ops[j]? =some oj→waits ops i j=true∨oj.apart ops oi=true:=by
     intro j hj hji oj hoj
     have h1:=List.all_eq_true.1 hap i (List.mem_range.2 hiq)
     have h2:=List.all_eq_true.1 h1 j (List.mem_range.2 hji)
     rw[hoi,hoj] at h2
     simpa using h2
    have hpair2:∀j,j<q→i<j→∀oj,ops[j]? =some oj→waits ops j i=true∨oi.apart ops oj=true:=by
     intro j hj hji oj hoj
     have h1:=List.all_eq_true.1 hap j (List.mem_range.2 hj)
     have h2:=List.all_eq_true.1 h1 i (List.mem_range.2 hji)
     rw[hoi,hoj] at h2
     simpa using h2
    have hop:∀j,j<q→∃oj,ops[j]? =some oj:=fun j hj=>⟨_,Array.getElem?_eq_getElem (by omega:j<ops.size)⟩
    refine hstep i hiq oi hoi β a w (m0++nwD N (fun j=>listed.getD j false) q) _ Q ⟨?_,fun t av ht=>?_⟩ (fun id x hx=>?_) hd.rel (fun id h1 h2=>hd.free i hiq hunf id ⟨h1,h2⟩) ?_
    · rw[mask_length,frD_length,hd.fr.1,frD_length]
    · rw [mask_get] at ht
      rw[Nat.zero_add] at ht
      by_cases hlk:(oi.looksAt ops).contains t=true
      · have hag:(frD ops V tm0 (fun j=>listed.getD j false) q)[t]? =(frD ops V tm0 (fun j=>decide (j<i)) q)[t]?:=by
         refine frD_agree q fun j hj hdj=>?_
         obtain⟨oj,hoj⟩:=hop j hj
         rw[hoj] at hdj
         have hdj:oj.dst=some t:=hdj
         have hmem:t∈oi.looksAt ops:=by simpa using hlk
         rcases Nat.lt_trichotomy j i with h|h|h
         · rcases hpair j hj h oj hoj with hw|hp
           · simp only[h,decide_true];exact hreach j hw
           · exact absurd hmem ((Oper.apart_spec hp).1 t hdj)
         · subst h;simp[hunf]
         · rcases hpair2 j hj h oj hoj with hw|hp
           · simp only[show ¬j<i by omega,decide_false];exact hback j hw
           · exact absurd hmem ((Oper.apart_spec hp).2.2 t hdj)
        simp only[hlk,if_true,Option.map_id'] at ht
        rw[← hag] at ht
        exact hd.fr.2 t av ht
      · simp only[hlk,if_false] at ht
        cases hx:(frD ops V tm0 (fun j=>decide (j<i)) q)[t]? with
        |none=>rw[hx] at ht;cases ht
        |some y=>rw[hx] at ht;simp at ht;exact .inl ht.symm
    · rw[look_append]
      rcases hmi i hiq id x hx with h|⟨h0,j,hj,hw,hl⟩
      · rw[h]
      · rw[h0]
        exact(look_nwD hN q).2 ⟨j,by omega,hreach j hw,hl⟩
    · intro β' u w' hext hsame hu hrel
      have hset:∀j,(listed.setIfInBounds i true).getD j false=(j==i||listed.getD j false):=fun j=>getD_set_bool listed i j his
      refine ih (listed.setIfInBounds i true) _ w' β' (inv.set hi hiq) ?_ ⟨?_,by cases h:(ops[i]?).bind (·.dst)<;>simp[Act.put,hd.df],?_,?_,hd.ext.trans hext,fun id hid=>?_⟩
      · have hc:((List.range q).countP fun j=>!(listed.setIfInBounds i true).getD j false)+1=(List.range q).countP fun j=>!listed.getD j false:=by
         have e:(fun j=>!(listed.setIfInBounds i true).getD j false)=fun j=>!(j==i)&&!listed.getD j false:=by
          funext j;rw[hset j,Bool.not_or]
         rw[e]
         have gen:∀l:List Nat,l.Nodup→i∈l→(l.countP fun j=>!(j==i)&&!listed.getD j false)+1=l.countP fun j=>!listed.getD j false:=by
          intro l
          induction l with
          |nil=>intro _ h;cases h
          |cons y r ihr=>
           intro hnd hm
           simp only[List.nodup_cons] at hnd
           rw[List.countP_cons,List.countP_cons]
           by_cases e:y=i
           · subst e
             have:(r.countP fun j=>!(j==y)&&!listed.getD j false)=r.countP fun j=>!listed.getD j false:=by
              refine List.countP_congr fun j hj=>?_
              have:j≠y:=fun e=>hnd.1 (e ▸ hj)
              simp[this]
             rw[this]
             simp only[beq_self_eq_true,Bool.not_true,Bool.false_and,Bool.false_eq_true,if_false,Nat.add_zero,hunf,Bool.not_false,if_true]
           · have:=ihr hnd.2 (by rcases List.mem_cons.1 hm with h|h;exact absurd h.symm e;exact h)
             have hyi:(y==i)=false:=by simp[e]
             rw[hyi]
             simp only[Bool.not_false,Bool.true_and]
             omega
         exact gen _ List.nodup_range (List.mem_range.2 hiq)
        omega
      · have hfp:∀t:Nat,(frD ops V tm0 (fun j=>(listed.setIfInBounds i true).getD j false) q)[t]? =(putA (frD ops V tm0 (fun j=>listed.getD j false) q) ((ops[i]?).bind (·.dst)) (V i))[t]?:=by
         intro t
         have e:(fun j=>(listed.setIfInBounds i true).getD j false)=fun j=>j==i||listed.getD j false:=funext hset
         rw[e]
         refine frD_put q hiq (fun j hj hjq hl d hdi hdj=>?_) hunf t
         obtain⟨oj,hoj⟩:=hop j hjq
         rw[hoi] at hdi
         rw[hoj] at hdj
         rcases hpair2 j hjq hj oj hoj with hw|hp
         · have:=hback j hw
           rw[hl] at this
           cases this
         · exact(Oper.apart_spec hp).2.1 d hdi hdj
        have e:frD ops V tm0 (fun j=>(listed.setIfInBounds i true).getD j false) q=putA (frD ops V tm0 (fun j=>listed.getD j false) q) ((ops[i]?).bind (·.dst)) (V i):=List.ext_getElem? hfp
        rw[e]
        exact(hd.fr.ext hext).put hu
      · refine hrel.weaken fun id x hx=>?_
        rw[look_append] at hx
        rw[look_append,look_append]
        cases hm:look m0 id with
        |some y=>rw[hm] at hx;exact hx
        |none=>
         rw[hm] at hx
         simp only at hx ⊢
         obtain⟨j,h1,h2,h3⟩:=(look_nwD hN q).1 hx
         by_cases hji:j=i
         · subst hji
           cases hn:look (nwD N (fun j=>listed.getD j false) q) id with
           |none=>exact h3
           |some y=>
            obtain⟨j',g1,g2,g3⟩:=(look_nwD hN q).1 hn
            have e:=rng_apart (hN _ _ _ h3) (hN _ _ _ g3)
            subst e
            simp only[hunf] at g2
            cases g2
         · have h2':listed.getD j false=true:=by
            have:=hset j
            rw[this] at h2
            simpa[hji] using h2
           rw[(look_nwD hN q).2 ⟨j,h1,h2',h3⟩]
      · intro j hj hl id hr
        have h2:=hset j
        rw[hl] at h2
        have h2:(j==i)=false∧listed.getD j false=false:=by simpa using h2.symm
        have hne:j≠i:=by simpa using h2.1
        rw [hsame id (by
         rcases Nat.lt_or_ge id (b+i*str) with h|h
         · exact .inl h
         · rcases Nat.lt_or_ge id (b+i*str+str) with h'|h'
           · exact absurd (rng_apart hr ⟨h,h'⟩) hne
           · exact .inr h')]
        exact hd.free j hj h2.2 id hr
      · rw[hsame id ?_]
        · exact hd.same id hid
        · have h1:i*str+str≤q*str:=by rw[← Nat.succ_mul];exact Nat.mul_le_mul_right _ hiq
          rcases hid with h|h
          · exact .inl (by omega)
          · exact .inr (by omega)
end
end Go.Proofs.YtpgaplcdbbnblaaGreatDoor
end
/- The symbolic evaluator says of the model's code what is so: what it finds is what every run finds. No Go text is in sight. -/
section
namespace Go.Proofs.YtpgaplcdbbnblaaGreatDoor
open Go.RowKit
/-! ### what must hold -/
def Obs (s:St):Prop:=allT s.ob∧∀p∈s.po,p
structure Grow (s s':St):Prop where
 n:s.n≤s'.n
 ob:∀b∈s.ob,b∈s'.ob
 po:∀p∈s.po,p∈s'.po
 str:s'.str=s.str
 rd:s'.rd=s.rd
theorem Grow.refl (s:St):Grow s s:=⟨Nat.le_refl _,fun _ h=>h,fun _ h=>h,rfl,rfl⟩
theorem Grow.trans {a b c:St} (h:Grow a b) (k:Grow b c):Grow a c:=⟨Nat.le_trans h.n k.n,fun x hx=>k.ob x (h.ob x hx),fun x hx=>k.po x (h.po x hx),k.str.trans h.str,k.rd.trans h.rd⟩
theorem Obs.of {s s':St} (h:Obs s') (g:Grow s s'):Obs s:=⟨fun b hb=>h.1 b (g.ob b hb),fun p hp=>h.2 p (g.po p hp)⟩
theorem Obs.congr {s s':St} (h:Obs s) (h1:s'.ob=s.ob) (h2:s'.po=s.po):Obs s':=⟨by rw[h1];exact h.1,by rw[h2];exact h.2⟩
theorem need_ok {s s':St} {l:List Bool} (h:s.need l=some s'):s'.tm=s.tm∧s'.m=s.m∧s'.n=s.n∧s'.ms=s.ms∧Grow s s'∧(Obs s'→allT l):=by
 unfold St.need at h
 split at h
 · split at h
   · rename_i hl
     cases h
     exact⟨rfl,rfl,rfl,rfl,Grow.refl s,fun _ b hb=>List.all_eq_true.1 hl b hb⟩
   · cases h
 · cases h
   exact⟨rfl,rfl,rfl,rfl,⟨Nat.le_refl _,fun b hb=>List.mem_append.2 (.inr hb),fun p hp=>hp,rfl,rfl⟩,fun ho b hb=>ho.1 b (List.mem_append.2 (.inl hb))⟩
theorem FrOk.lit {β:Nm} {tm:List AV} {tmps:Array Value} {t:Nat} {b d:Bool} (hf:FrOk β tm tmps) (ht:tm[t]? =some (.c (.v (.bool b)))) (hb:b=d):FrOk β (tm.set t (.c (.v (.bool d)))) tmps:=by
 subst hb
 refine⟨by simp[hf.1],fun i av hi=>?_⟩
 rw[List.getElem?_set] at hi
 split at hi
 · rename_i e
   subst e
   split at hi
   · cases hi;exact hf.2 t _ ht
   · cases hi
 · exact hf.2 i av hi
theorem dec_ok {s s':St} {t:Tmp} {b d:Bool} (h:s.dec t b=some (d,s')) (ht:s.tm[t]? =some (.c (.v (.bool b)))):s'.m=s.m∧s'.n=s.n∧s'.ms=s.ms∧Grow s s'∧(Obs s'→b=d)∧(s'.tm=s.tm∨(s'.tm=s.tm.set t (.c (.v (.bool d))))):=by
 unfold St.dec at h
 split at h
 · cases h
   exact⟨rfl,rfl,rfl,⟨Nat.le_refl _,fun b hb=>List.mem_cons_of_mem _ hb,fun p hp=>hp,rfl,rfl⟩,fun ho=>by simpa using ho.1 _ (List.mem_cons_self ..),.inr rfl⟩
 · split at h<;>cases h<;>exact⟨rfl,rfl,rfl,⟨Nat.le_refl _,fun b hb=>hb,fun p hp=>hp,rfl,rfl⟩,fun _=>rfl,.inl rfl⟩
 · split at h<;>cases h<;>exact⟨rfl,rfl,rfl,Grow.refl s,fun _=>rfl,.inl rfl⟩
theorem dec_fr {s s':St} {t:Tmp} {b d:Bool} (h:s.dec t b=some (d,s')) (ht:s.tm[t]? =some (.c (.v (.bool b)))) {β:Nm} {tmps:Array Value} (ho:Obs s') (hf:FrOk β s.tm tmps):FrOk β s'.tm tmps:=by
 obtain⟨_,_,_,_,h1,h2⟩:=dec_ok h ht
 rcases h2 with h2|h2
 · rw[h2];exact hf
 · rw[h2];exact hf.lit ht (h1 ho)
theorem guard_ok {ops:Array Oper} {o:Oper} {s s':St} {d:Bool} (h:guardA ops o s=some (d,s')):s'.m=s.m∧s'.n=s.n∧s'.ms=s.ms∧Grow s s'∧
 ∀{β:Nm} {tmps:Array Value},Obs s'→FrOk β s.tm tmps→FrOk β s'.tm tmps∧Region.wanted o (yielded ops tmps)=d:=by
 unfold guardA at h
 split at h
 · rename_i hg
   cases h
   exact⟨rfl,rfl,rfl,Grow.refl s,fun _ hf=>⟨hf,by simp[Region.wanted,hg]⟩⟩
 · rename_i j want hg
   split at h
   · rename_i hd
     cases h
     exact⟨rfl,rfl,rfl,Grow.refl s,fun _ hf=>⟨hf,by simp[Region.wanted,hg,yielded,hd]⟩⟩
   · rename_i t hd
     split at h
     · rename_i b hb
       split at h
       · rename_i d' s'' hdec
         cases h
         obtain⟨h1,h2,hms,h3,h4,_⟩:=dec_ok hdec hb
         refine⟨h1,h2,hms,h3,fun ho hf=>⟨dec_fr hdec hb ho hf,?_⟩⟩
         rcases hf.2 t _ hb with h5|⟨v,h5,h6⟩
         · cases h5
         · have:=γ_v h5
           subst this
           simp[Region.wanted,hg,yielded,hd,h6,h4 ho]
       · cases h
     · rename_i vs hb
       cases h
       refine⟨rfl,rfl,rfl,Grow.refl s,fun ho hf=>⟨hf,?_⟩⟩
       rcases hf.2 t _ hb with h5|⟨v,h5,h6⟩
       · cases h5
       · have:=γ_v h5
         subst this
         simp[Region.wanted,hg,yielded,hd,h6]
     · cases h
/-! ### contracts -/
def CtOk (P:Program) (f:FuncId) (g:CtF):Prop:=
 (∃(fn:Func) (c:Code),P.funcs[f]? =some fn∧fn.body=some c)∧
 ∀(C:Ctx) (β:Nm) (m m2:AMem) (w:World) (args:List AV) (ib:Nat) (r:AV) (news:AMem) (k:Nat) (ob:List Bool) (vs:List Value),
  g args m ib=some (r,news,k,ob)→allT ob→Sub m m2→Rel C β m2 w→(∀id,ib≤id→id<ib+k→β id=none)→ib+k≤lim→γt β args=some vs→
  Calls P f vs.toArray w (fun e w'=>∃β' v,e= .returned v∧Ext β β'∧(∀id,id<ib∨ib+k≤id→β' id=β id)∧γ β' r=some v∧Rel C β' (m2++news) w')
structure EnvOk (E:Env):Prop where
 ct:∀f g,(f,g)∈E.ct→CtOk E.P f g
 mixed:E.P.follows .mixedOrders=true
 names:∀(f:FuncId) (fn:Func) (c:Code),E.P.funcs[f]? =some fn→fn.body=some c→(fn.name== "runtime.NumGoroutine")=false
theorem run_enter {P:Program} {f:FuncId} {fn:Func} {c:Code} (hf:P.funcs[f]? =some fn) (hname:(fn.name== "runtime.NumGoroutine")=false) (hb:fn.body=some c) (args:Array Value) (w:World):
 (callFunc f args).run P w= .ok (.enter f args) w:=by
 have h1:fn.name≠ "runtime.NumGoroutine" :=by simpa using hname
 simp[callFunc,hf,h1,hb]
theorem ctLook_mem:∀{l:List (FuncId × CtF)} {f:FuncId} {args:List AV} {m:AMem} {n:Nat} {r:AV × AMem × Nat × List Bool},ctLook l f args m n=some r→∃g,(f,g)∈l∧g args m n=some r
 | [],_,_,_,_,_,h=>by cases h
 | (g,c)::q,f,args,m,n,r,h=>by
  simp only[ctLook] at h
  split at h
  · rename_i hb
    have:=Nat.eq_of_beq_eq_true hb
    subst this
    exact⟨c,by simp,h⟩
  · obtain⟨g',h1,h2⟩:=ctLook_mem h
    exact⟨g',by simp[h1],h2⟩
def CallOk (E:Env) (cf:FuncId→List AV→St→Option (AV × St)):Prop:=
 ∀ f args s r s',cf f args s=some (r,s')→s'.tm=s.tm∧s'.ms=s.ms∧Grow s s'∧(∃(fn:Func) (c:Code),E.P.funcs[f]? =some fn∧fn.body=some c)∧
  (Obs s'→∀(C:Ctx) (β:Nm) (w:World) (vs:List Value),γt β args=some vs→Rel C β s.m w→(∀id,s.n≤id→id<s'.n→β id=none)→
   Calls E.P f vs.toArray w (fun e w'=>∃β' v,e= .returned v∧Ext β β'∧(∀id,id<s.n∨s'.n≤id→β' id=β id)∧γ β' r=some v∧Rel C β' s'.m w'))
def YldOk (E:Env) (yf:Nat→List AV→St→Option (AV × St)):Prop:=
 ∀ id args s r s',yf id args s=some (r,s')→s'.tm=s.tm∧s'.ms=s.ms∧Grow s s'∧∃x st pd tm ps as bd dn,look s.m id=some x∧x.cs= .obj (.loop st pd tm ps as bd dn)∧args.length=ps.size∧
  (Obs s'→∀(C:Ctx) (β:Nm) (w:World) (vs:List Value) (L:Loc) (f:FuncId) (tmps:Array Value),γt β args=some vs→Rel C β s.m w→(∀id,s.n≤id→id<s'.n→β id=none)→β id=some L→L.nil=false→FrOk β tm tmps→
   RoundIn Fence.wide 0 E.P L.b f ((ps.zip vs.toArray).foldl (fun tmps (t,a)=>tmps.setIfInBounds t a) tmps) as bd w (fun e w'=>∃β' v,e= .returned v∧Ext β β'∧(∀id,id<s.n∨s'.n≤id→β' id=β id)∧γ β' r=some v∧Rel C β' s'.m w'))
def DfOk (β:Nm):List Nat→List Deferred→List Deferred→Prop
 | [],D,ds=>ds=D
 |id::r,D,ds=>∃L t,β id=some L∧ds= {target:=.collected L.b,args:= #[]}::t∧DfOk β r D t
theorem DfOk.ext {β β':Nm} (he:Ext β β') {D:List Deferred}:∀{ms:List Nat} {ds:List Deferred},DfOk β ms D ds→DfOk β' ms D ds
 | [],_,h=>h
 |_::_,_,⟨L,t,h1,h2,h3⟩=>⟨L,t,he _ _ h1,h2,h3.ext he⟩
section
variable {E:Env} {cf:FuncId→List AV→St→Option (AV × St)} {yf:Nat→List AV→St→Option (AV × St)}
theorem callA_ok (hE:EnvOk E) (hcf:CallOk E cf):CallOk E (callA E cf):=by
 intro f args s r s' h
 unfold callA at h
 split at h
 · rename_i r' news k ob hct
   obtain⟨g,hg,hgr⟩:=ctLook_mem hct
   have hok:=hE.ct f g hg
   split at h
   · rename_i s1 hle hneed
     cases h
     obtain⟨h1,h2,h3,hms,h4,h5⟩:=need_ok hneed
     have hle:s.n+k≤lim:=Nat.le_of_ble_eq_true hle
     refine⟨h1,hms,⟨by simp[h3],h4.ob,h4.po,h4.str,h4.rd⟩,hok.1,fun ho C β w vs hvs hr hfree=>?_⟩
     have hob:=h5 (ho.congr (s:=s1) rfl rfl |> fun h=>h)
     have:=hok.2 C β s.m s.m w args s.n _ news k ob vs hgr hob (Sub.refl _) hr (by simpa[h3] using hfree) hle hvs
     refine this.mono fun e w' ⟨β',v,e1,e2,e3,e4,e5⟩=>⟨β',v,e1,e2,by simpa[h3] using e3,e4,by simpa[h2] using e5⟩
   · cases h
 · exact hcf f args s r s' h
theorem gid_ne {n:Nat} (h:n+1≤lim) (g:Nat):n≠gid g:=by unfold lim at h;unfold gid;omega
theorem put_defers (a:Act) (d:Option Tmp) (v:Value):(a.put d v).defers=a.defers:=by cases d<;>rfl
theorem semAt_of {P:Program} {tm:List AV} {m:AMem} {ib:Nat} {o:Oper} {x:ARes} (h:aop P tm m ib o.op=some x) (ro:Option Nat) (ρ:Operand→Value):o.semAt ro ρ=execOp ρ o:=
 Oper.semAt_eq ro ρ o fun c hc=>by rw[hc] at h;simp[aop] at h
theorem opS_ok (hE:EnvOk E) (hcf:CallOk E cf) (hyf:YldOk E yf) {ops:Array Oper} {o:Oper} {s s':St} (h:opS E cf yf ops o s=some s'):Grow s s'∧s'.ms=s.ms∧
 (Obs s'→∀(ro:Option Nat) (C:Ctx) (β:Nm) (a:Act) (w:World) (K:Act→World→Prop) (Q:Exit→Act→World→Prop),FrOk β s.tm a.tmps→Rel C β s.m w→(∀id,s.n≤id→id<s'.n→β id=none)→
  (∀β' a' w',Ext β β'→(∀id,id<s.n∨s'.n≤id→β' id=β id)→FrOk β' s'.tm a'.tmps→a'.defers=a.defers→Rel C β' s'.m w'→K a' w')→
  if Region.wanted o (yielded ops a.tmps) then o.wpIn (FW ro) 0 E.P a w K Q else (∀f,o.about E.P w a.eval=some f→(FW ro).fn f)∧K (a.put o.dst undef) w):=by
 have hcf':=callA_ok hE hcf
 unfold opS at h
 split at h
 · cases h
 · rename_i s1 hg
   cases h
   obtain⟨g1,g2,gm,g3,g4⟩:=guard_ok hg
   refine⟨⟨by show s.n≤s1.n;omega,g3.ob,g3.po,g3.str,g3.rd⟩,gm,fun ho ro C β a w K Q hf hr hfree hK=>?_⟩
   obtain⟨f1,f2⟩:=g4 (ho.congr (s':=s1) rfl rfl) hf
   rw[f2]
   simp only[Bool.false_eq_true,if_false]
   refine⟨fun _ _=>trivial,hK β _ w (Ext.refl β) (fun _ _=>rfl) (f1.put rfl) (put_defers _ _ _) ?_⟩
   show Rel C β s1.m w
   rw[g1];exact hr
 · rename_i s1 hg
   obtain⟨g1,g2,gm,g3,g4⟩:=guard_ok hg
   split at h
   · rename_i v news ob hle haop
     have hle:s1.n+1≤lim:=Nat.le_of_ble_eq_true hle
     split at h
     · rename_i s2 hneed
       cases h
       obtain⟨n1,n2,n3,nm,n4,n5⟩:=need_ok hneed
       refine⟨⟨by show s.n≤s2.n+1;omega,fun b hb=>n4.ob b (g3.ob b hb),fun p hp=>n4.po p (g3.po p hp),n4.str.trans g3.str,n4.rd.trans g3.rd⟩,nm.trans gm,fun ho ro C β a w K Q hf hr hfree hK=>?_⟩
       have ho2:Obs s2:=ho.congr (s':=s2) rfl rfl
       obtain⟨f1,f2⟩:=g4 (ho2.of n4) hf
       rw[f2]
       simp only[if_true]
       rw[← g1] at hr
       obtain⟨β',u,w',e1,e2,e3,e4,e5⟩:=aop_eff haop (n5 ho2) f1 hr (Sub.refl _) (hfree s1.n (by omega) (by show s1.n<s2.n+1;omega)) (gid_ne hle)
       refine⟨fun _ _=>trivial,?_⟩
       rw[semAt_of haop,e1]
       refine hK β' _ w' e2 (fun id hid=>e3 id ?_) ?_ (put_defers _ _ _) ?_
       · have:id<s.n∨s2.n+1≤id:=hid
         omega
       · show FrOk β' (putA s2.tm o.dst v) _
         rw[n1];exact(f1.ext e2).put e4
       · show Rel C β' (s2.m++news) w'
         rw[n2];exact e5
     · cases h
   · rename_i v m' ob hle haop
     have hle:s1.n+1≤lim:=Nat.le_of_ble_eq_true hle
     split at h
     · rename_i s2 hup hneed
       cases h
       obtain⟨n1,n2,n3,nm,n4,n5⟩:=need_ok hneed
       refine⟨⟨by show s.n≤s2.n+1;omega,fun b hb=>n4.ob b (g3.ob b hb),fun p hp=>n4.po p (g3.po p hp),n4.str.trans g3.str,n4.rd.trans g3.rd⟩,nm.trans gm,fun ho ro C β a w K Q hf hr hfree hK=>?_⟩
       have ho2:Obs s2:=ho.congr (s':=s2) rfl rfl
       obtain⟨f1,f2⟩:=g4 (ho2.of n4) hf
       rw[f2]
       simp only[if_true]
       rw[← g1] at hr
       obtain⟨β',u,w',e1,e2,e3,e4,e5⟩:=aop_upd haop hup (n5 ho2) f1 hr (hfree s1.n (by omega) (by show s1.n<s2.n+1;omega)) (gid_ne hle)
       have hKK:K (a.put o.dst u) w':=by
        refine hK β' _ w' e2 (fun id hid=>e3 id ?_) ?_ (put_defers _ _ _) (by show Rel C β' (m'.on s2.m) w';rw[n2];exact e5)
        · have:id<s.n∨s2.n+1≤id:=hid
          omega
        · show FrOk β' (putA s2.tm o.dst v) _
          rw[n1];exact(f1.ext e2).put e4
       refine⟨fun _ _=>trivial,?_⟩
       rw[semAt_of haop]
       rcases e1 with e1|⟨e1,rfl⟩
       · rw[e1];exact hKK
       · rw[e1];exact hKK
     · cases h
   · rename_i f args hle haop
     split at h
     · rename_i v s2 hco hcall
       cases h
       obtain⟨c1,cm,c2,⟨fn,c,c3,c4⟩,c5⟩:=hcf' f args s1 v s2 hcall
       refine⟨⟨by show s.n≤s2.n;have:=c2.n;omega,fun b hb=>c2.ob b (g3.ob b hb),fun p hp=>c2.po p (g3.po p hp),c2.str.trans g3.str,c2.rd.trans g3.rd⟩,cm.trans gm,fun ho ro C β a w K Q hf hr hfree hK=>?_⟩
       have ho2:Obs s2:=ho.congr (s':=s2) rfl rfl
       obtain⟨f1,f2⟩:=g4 (ho2.of c2) hf
       rw[f2]
       simp only[if_true]
       rw[← g1] at hr
       obtain⟨vs,hvs,hrun⟩:=aop_call haop hco f1 hr (Sub.refl _)
       have hcalls:=(c5 ho2) C β w vs hvs hr (fun id h1 h2=>hfree id (by omega) h2)
       refine⟨fun _ _=>trivial,?_⟩
       rw[semAt_of haop,hrun,run_enter c3 (hE.names _ _ _ c3 c4) c4]
       refine⟨fun h=>(by cases h),CallsIn.mono (callsIn_wide.2 hcalls) fun e w' ⟨β',u,e1,e2,e3,e4,e5⟩=>?_⟩
       subst e1
       refine hK β' _ w' e2 (fun id hid=>e3 id ?_) ?_ (put_defers _ _ _) e5
       · have:id<s.n∨s2.n≤id:=hid
         omega
       · show FrOk β' (putA s2.tm o.dst v) _
         rw[c1];exact(f1.ext e2).put e4
     · cases h
   · rename_i id args hle haop
     split at h
     · rename_i v s2 hco hcall
       cases h
       obtain⟨c1,cm,c2,x,st,pd,tm,ps,as,bd,dn,c3,c4,c6,c5⟩:=hyf id args s1 v s2 hcall
       refine⟨⟨by show s.n≤s2.n;have:=c2.n;omega,fun b hb=>c2.ob b (g3.ob b hb),fun p hp=>c2.po p (g3.po p hp),c2.str.trans g3.str,c2.rd.trans g3.rd⟩,cm.trans gm,fun ho ro C β a w K Q hf hr hfree hK=>?_⟩
       have ho2:Obs s2:=ho.congr (s':=s2) rfl rfl
       obtain⟨f1,f2⟩:=g4 (ho2.of c2) hf
       rw[f2]
       simp only[if_true]
       rw[← g1] at hr
       obtain⟨L,hL,hn,_,⟨fn,tmps,D,q1,q2,q3,q4⟩,_⟩:=hr.objs id x _ c3 c4
       obtain⟨vs,hvs,hrun⟩:=aop_yld haop hco f1 hr (Sub.refl _) hL hn q4 c6
       have hround:=(c5 ho2) C β w vs L fn tmps hvs hr (fun id h1 h2=>hfree id (by omega) h2) hL hn q1
       refine⟨fun _ _=>trivial,?_⟩
       rw[semAt_of haop,hrun]
       refine⟨fun h=>(by cases h),RoundIn.mono hround fun e w' ⟨β',u,e1,e2,e3,e4,e5⟩=>?_⟩
       subst e1
       refine hK β' _ w' e2 (fun id hid=>e3 id ?_) ?_ (put_defers _ _ _) e5
       · have:id<s.n∨s2.n≤id:=hid
         omega
       · show FrOk β' (putA s2.tm o.dst v) _
         rw[c1];exact(f1.ext e2).put e4
     · cases h
   · cases h
theorem opsS_ok (hE:EnvOk E) (hcf:CallOk E cf) (hyf:YldOk E yf) {ops:Array Oper}:∀{l:List Oper} {s s':St},opsS E cf yf ops l s=some s'→Grow s s'∧s'.ms=s.ms∧
 (Obs s'→∀(ro:Option Nat) (C:Ctx) (β:Nm) (a:Act) (w:World) (Q:Exit→Act→World→Prop),FrOk β s.tm a.tmps→Rel C β s.m w→(∀id,s.n≤id→id<s'.n→β id=none)→
  (∀β' a' w',Ext β β'→(∀id,id<s.n∨s'.n≤id→β' id=β id)→FrOk β' s'.tm a'.tmps→a'.defers=a.defers→Rel C β' s'.m w'→Q .normal a' w')→wpListIn (FW ro) 0 E.P ops Q l a w)
 | [],s,s',h=>by
  simp only[opsS,Option.some.injEq] at h
  subst h
  exact⟨Grow.refl s,rfl,fun _ ro C β a w Q hf hr _ hQ=>hQ β a w (Ext.refl β) (fun _ _=>rfl) hf rfl hr⟩
 | o :: r,s,s',h=>by
  simp only[opsS] at h
  split at h
  · rename_i s1 h1
    obtain⟨g1,m1,k1⟩:=opS_ok hE hcf hyf h1
    obtain⟨g2,m2,k2⟩:=opsS_ok hE hcf hyf h
    refine⟨g1.trans g2,m2.trans m1,fun ho ro C β a w Q hf hr hfree hQ=>?_⟩
    have:=k1 (ho.of g2) ro C β a w (wpListIn (FW ro) 0 E.P ops Q r) Q hf hr (fun id h1 h2=>hfree id h1 (by have:=g2.n;omega)) fun β' a' w' x1 x2 x3 x4 x5=>?_
    · exact this
    · refine k2 ho ro C β' a' w' Q x3 x5 (fun id h1 h2=>?_) fun β'' a'' w'' y1 y2 y3 y4 y5=>?_
      · rw[x2 id (.inr h1)]
        exact hfree id (by have:=g1.n;omega) h2
      · refine hQ β'' a'' w'' (x1.trans y1) (fun id hid=>?_) y3 (y4.trans x4) y5
        have i1:=g1.n
        have i2:=g2.n
        rw[y2 id (by omega),x2 id (by omega)]
  · cases h
end
end Go.Proofs.YtpgaplcdbbnblaaGreatDoor
end
/- The symbolic evaluator: soundness of drawn regions, of calls in place, and of code. No Go text is in sight. -/
section
namespace Go.Proofs.YtpgaplcdbbnblaaGreatDoor
open Go.RowKit
theorem set_same {tm:List AV} {t:Nat} {x:AV} (h:tm[t]? =some x):tm.set t x=tm:=by
 apply List.ext_getElem?
 intro i
 rw[List.getElem?_set]
 split
 · rename_i e
   subst e
   have hlt:=(List.getElem?_eq_some_iff.1 h).1
   rw[if_pos hlt,h]
 · rfl
theorem dec_tm {s s':St} {t:Tmp} {b d:Bool} (h:s.dec t b=some (d,s')) (ht:s.tm[t]? =some (.c (.v (.bool b)))) (ho:Obs s'):s'.tm=s.tm:=by
 obtain⟨_,_,_,_,h1,h2⟩:=dec_ok h ht
 rcases h2 with h2|h2
 · exact h2
 · rw[h2,← h1 ho,set_same ht]
theorem guard_tm {ops:Array Oper} {o:Oper} {s s':St} {d:Bool} (h:guardA ops o s=some (d,s')) (ho:Obs s'):s'.tm=s.tm:=by
 unfold guardA at h
 split at h
 · cases h;rfl
 · split at h
   · cases h;rfl
   · split at h
     · rename_i b hb
       split at h
       · rename_i d' s'' hdec
         cases h
         exact dec_tm hdec hb ho
       · cases h
     · cases h;rfl
     · cases h
theorem guard_mask {ops:Array Oper} {o:Oper} {s s':St} {d:Bool} (h:guardA ops o s=some (d,s')) (ho:Obs s') {β:Nm} {tmps:Array Value} (hf:FrOk β (mask (o.looksAt ops) 0 s.tm) tmps):Region.wanted o (yielded ops tmps)=d:=by
 unfold guardA at h
 split at h
 · rename_i hg
   cases h
   simp[Region.wanted,hg]
 · rename_i j want hg
   split at h
   · rename_i hd
     cases h
     simp[Region.wanted,hg,yielded,hd]
   · rename_i t hd
     have hmem:(o.looksAt ops).contains t=true:=by
      simp[Oper.looksAt,hg,hd]
     have hm:∀x,s.tm[t]? =some x→(mask (o.looksAt ops) 0 s.tm)[t]? =some x:=fun x hx=>by
      rw[mask_get,hx,Nat.zero_add,hmem];rfl
     split at h
     · rename_i b hb
       split at h
       · rename_i d' s'' hdec
         cases h
         obtain⟨_,_,_,_,h4,_⟩:=dec_ok hdec hb
         rcases hf.2 t _ (hm _ hb) with h5|⟨v,h5,h6⟩
         · cases h5
         · have:=γ_v h5
           subst this
           simp[Region.wanted,hg,yielded,hd,h6,h4 ho]
       · cases h
     · rename_i vs hb
       cases h
       rcases hf.2 t _ (hm _ hb) with h5|⟨v,h5,h6⟩
       · cases h5
       · have:=γ_v h5
         subst this
         simp[Region.wanted,hg,yielded,hd,h6]
     · cases h
/-! ### memory that is only read -/
theorem look_ne {i id:Nat} {b:ABlk} {r:AMem} (h:id≠i):look ((i,b)::r) id=look r id:=by
 simp only[look_cons]
 split
 · rename_i hb;exact absurd (Nat.eq_of_beq_eq_true hb).symm h
 · rfl
theorem look_eq (i:Nat) (b:ABlk) (r:AMem):look ((i,b)::r) i=some b:=by
 simp only[look_cons]
 rw[Nat.beq_refl]
theorem look_roM:∀{m:AMem} {id:Nat} {x:ABlk},look (roM m) id=some x→∃y,look m id=some y∧isO y=false∧x= {y with own:=false}
 | [],_,_,h=>by cases h
 | (i,b)::r,id,x,h=>by
  simp only[roM] at h
  split at h
  · rw[look_delM] at h
    split at h
    · cases h
    · rename_i hne
      obtain⟨y,h1,h2⟩:=look_roM h
      exact⟨y,by rw[look_ne hne];exact h1,h2⟩
  · rename_i ho
    by_cases e:id=i
    · subst e
      rw[look_eq] at h
      cases h
      exact⟨b,look_eq _ _ _,ho,rfl⟩
    · rw[look_ne e] at h
      obtain⟨y,h1,h2⟩:=look_roM h
      exact⟨y,by rw[look_ne e];exact h1,h2⟩
theorem look_fromN {n:Nat}:∀{m:AMem} {id:Nat} {x:ABlk},look (fromN n m) id=some x→look m id=some x∧n≤id∧id<lim∧isO x=false
 | [],_,_,h=>by cases h
 | (i,b)::r,id,x,h=>by
  simp only[fromN] at h
  split at h
  · rename_i hb
    split at h
    · rw[look_delM] at h
      split at h
      · cases h
      · rename_i hne
        obtain⟨h1,h2⟩:=look_fromN h
        exact⟨by rw[look_ne hne];exact h1,h2⟩
    · rename_i ho
      by_cases e:id=i
      · subst e
        rw[look_eq] at h
        cases h
        simp only[Bool.and_eq_true] at hb
        exact⟨look_eq _ _ _,Nat.le_of_ble_eq_true hb.1,by have:=hb.2;rwa[Nat.blt_eq] at this,ho⟩
      · rw[look_ne e] at h
        obtain⟨h1,h2⟩:=look_fromN h
        exact⟨by rw[look_ne e];exact h1,h2⟩
  · rename_i hb
    obtain⟨h1,h2,h3,h4⟩:=look_fromN h
    refine⟨?_,h2,h3,h4⟩
    rw[look_ne (fun e=>by subst e;rw[Nat.ble_eq_true_of_le h2,(Nat.blt_eq ▸ h3:Nat.blt id lim=true)] at hb;cases hb)]
    exact h1
theorem look_mem:∀{m:AMem} {id:Nat} {x:ABlk},look m id=some x→(id,x)∈m
 | [],_,_,h=>by cases h
 | (i,b)::r,id,x,h=>by
  simp only[look_cons] at h
  split at h
  · rename_i he
    cases h
    have:=Nat.eq_of_beq_eq_true he
    subst this
    simp
  · exact List.mem_cons_of_mem _ (look_mem h)
theorem inR_ok {b str:Nat} {l:AMem} (h:inR b str l=true) {id:Nat} {x:ABlk} (hx:look l id=some x):b≤id∧id<b+str:=by
 have:=List.all_eq_true.1 h (id,x) (look_mem hx)
 simp only[Bool.and_eq_true] at this
 refine⟨Nat.le_of_ble_eq_true this.1,?_⟩
 have h2:=this.2
 rw[Nat.blt_eq] at h2
 exact h2
def loneC (w:World):Ctx:=⟨w,w.heap.size,fun _=>False⟩
theorem Rel.ro {C:Ctx} {β:Nm} {m m2:AMem} {w:World} (h:Rel C β m2 w) (hs:Sub m m2):Rel (loneC w) β (roM m) w:=by
 refine⟨rfl,rfl,rfl,Nat.le_refl _,Nat.le_refl _,fun _ _ _=>rfl,fun id x hx=>?_,fun id id' x x' L L' hx _ _ ho=>?_,h.glob,fun id x o hx ho=>?_⟩
 · obtain⟨y,hy,_,rfl⟩:=look_roM hx
   obtain⟨L,hL,hb⟩:=h.blk id y (hs _ _ hy)
   exact⟨L,hL,hb.sz,hb.lit,hb.cells,hb.lt,fun h=>(by cases h),hb.arrl,hb.rowc⟩
 · obtain⟨y,hy,_,rfl⟩:=look_roM hx
   cases ho
 · obtain⟨y,hy,hyo,rfl⟩:=look_roM hx
   have ho:y.cs= .obj o:=ho
   simp[isO,ho] at hyo
theorem Rel.back {C:Ctx} {β β':Nm} {m2 m':AMem} {w w':World} {n:Nat} (h:Rel C β m2 w) (h':Rel (loneC w) β' m' w') (he:Ext β β') (hown:(fromN n m').all (fun x=>x.2.own)=true):Rel C β' (m2++fromN n m') w':=by
 have hkeep:∀b,b<w.heap.size→w'.heap[b]? =w.heap[b]?:=fun b hb=>h'.out b hb (fun h=>h)
 have hlk:∀id x,look (m2++fromN n m') id=some x→look m2 id=some x∨(look m2 id=none∧look m' id=some x∧x.own=true∧isO x=false):=by
  intro id x hx
  rw[look_append] at hx
  cases hm:look m2 id with
  |some y=>rw[hm] at hx;cases hx;exact .inl rfl
  |none=>
   rw[hm] at hx
   obtain⟨h1,h2,_,h3⟩:=look_fromN hx
   exact .inr ⟨rfl,h1,List.all_eq_true.1 hown _ (look_mem hx),h3⟩
 have hge:∀id x L,look m' id=some x→x.own=true→β' id=some L→L.nil=false→w.heap.size≤L.b:=by
  intro id x L hx ho hL hn
  obtain⟨M,hM,hb⟩:=h'.blk id x hx
  rw[hL] at hM
  cases hM
  rcases (hb.own ho hn).2.1 with h1|h1
  · exact h1
  · exact absurd h1 (fun h=>h)
 have hltm:∀id x L,look m2 id=some x→β' id=some L→L.nil=false→β id=some L∧L.b<w.heap.size:=by
  intro id x L hx hL hn
  obtain⟨M,hM,hb⟩:=h.blk id x hx
  have:=he id M hM
  rw[hL] at this
  cases this
  exact⟨hM,hb.lt hn⟩
 refine⟨h'.os.trans h.os,h'.tape.trans h.tape,h'.output.trans h.output,Nat.le_trans h.size h'.size,h.base,fun b h1 h2=>by rw[hkeep b (by have:=h.size;have:=h.base;omega)];exact h.out b h1 h2,fun id x hx=>?_,?_,h'.glob,fun id x o hx ho=>?_⟩
 · rcases hlk id x hx with h1|⟨_,h1,h2,_⟩
   · obtain⟨M,hM,hb⟩:=h.blk id x h1
     exact⟨M,he id M hM,hb.keep he h'.size (fun hn=>hkeep _ (hb.lt hn))⟩
   · obtain⟨M,hM,hb⟩:=h'.blk id x h1
     refine⟨M,hM,hb.sz,hb.lit,hb.cells,hb.lt,fun ho hn=>?_,hb.arrl,hb.rowc⟩
     obtain⟨o1,_,o3⟩:=hb.own ho hn
     exact⟨o1,.inl (by have:=hge id x M h1 h2 hM hn;have:=h.size;have:=h.base;omega),o3⟩
 · intro id id' x x' L L' hx hx' hne ho hL hL' hn hn'
   rcases hlk id x hx with h1|⟨h0,h1,h2,_⟩
   · obtain⟨b1,b2⟩:=hltm id x L h1 hL hn
     rcases hlk id' x' hx' with k1|⟨_,k1,k2,_⟩
     · obtain⟨b3,b4⟩:=hltm id' x' L' k1 hL' hn'
       exact h.sep id id' x x' L L' h1 k1 hne ho b1 b3 hn hn'
     · have:=hge id' x' L' k1 k2 hL' hn'
       omega
   · have:=hge id x L h1 h2 hL hn
     rcases hlk id' x' hx' with k1|⟨_,k1,k2,_⟩
     · obtain⟨b3,b4⟩:=hltm id' x' L' k1 hL' hn'
       omega
     · exact h'.sep id id' x x' L L' h1 k1 hne ho hL hL' hn hn'
 · rcases hlk id x hx with h1|⟨_,_,_,h3⟩
   · obtain⟨M,k1,k2,k3,k4,k5⟩:=h.objs id x o h1 ho
     obtain⟨M',hM',hb⟩:=h.blk id x h1
     rw[k1] at hM'
     cases hM'
     refine⟨M,he _ _ k1,k2,k3,k4.keep he (hkeep _ (hb.lt k2)),fun id' x' L' g1 g2 g3 g4=>?_⟩
     rcases hlk id' x' g2 with h1'|⟨_,h1',h2',_⟩
     · obtain⟨b1,_⟩:=hltm id' x' L' h1' g3 g4
       exact k5 id' x' L' g1 h1' b1 g4
     · have:=hge id' x' L' h1' h2' g3 g4
       have:=hb.lt k2
       omega
   · simp[isO,ho] at h3
section
variable {E:Env} {cf:FuncId→List AV→St→Option (AV × St)}
theorem opQ_ok (hE:EnvOk E) (hcf:CallOk E cf) {ops:Array Oper} {i b:Nat} {o:Oper} {mi news:AMem} {s s':St} {v:AV} (h:opQ E cf ops i o mi b s=some (v,news,s')) (hoi:ops[i]? =some o):
 Grow s s'∧s'.m=s.m∧s'.n=s.n∧s'.ms=s.ms∧(∀id x,look news id=some x→b≤id∧id<b+s.str)∧
 (Obs s'→s'.tm=s.tm∧∀r C,QStep r E.P C ops i (mask (o.looksAt ops) 0 s.tm) mi b (b+s.str) v news):=by
 unfold opQ at h
 split at h
 · cases h
 · rename_i s1 hg
   cases h
   obtain⟨g1,g2,gm,g3,_⟩:=guard_ok hg
   refine⟨g3,g1,g2,gm,fun id x hx=>(by cases hx),fun ho=>⟨guard_tm hg ho,fun r C β a w m2 K Q hf hs hr hfree hK=>?_⟩⟩
   unfold wpOpIn
   simp only[hoi,guard_mask hg ho hf,Bool.false_eq_true,if_false]
   refine⟨fun _ _=>trivial,?_⟩
   have:=hK β undef w (Ext.refl β) (fun _ _=>rfl) rfl (by rw[List.append_nil];exact hr)
   rw[hoi] at this
   exact this
 · rename_i s1 hg
   obtain⟨g1,g2,gm,g3,_⟩:=guard_ok hg
   split at h
   · rename_i v' news' ob hle haop
     simp only[Bool.and_eq_true] at hle
     have hle1:b+s1.str≤lim:=Nat.le_of_ble_eq_true hle.1
     have hle2:1≤s1.str:=Nat.le_of_ble_eq_true hle.2
     split at h
     · rename_i s2 hin hneed
       cases h
       obtain⟨n1,n2,n3,nm,n4,n5⟩:=need_ok hneed
       refine⟨g3.trans n4,n2.trans g1,n3.trans g2,nm.trans gm,fun id x hx=>by have:=inR_ok hin hx;rw[g3.str] at this;exact this,fun ho=>?_⟩
       have ho1:=ho.of n4
       have htm:=guard_tm hg ho1
       refine⟨n1.trans htm,fun r C β a w m2 K Q hf hs hr hfree hK=>?_⟩
       rw[htm] at haop
       obtain⟨β',u,w',e1,e2,e3,e4,e5⟩:=aop_eff haop (n5 ho) hf hr hs (hfree b (Nat.le_refl _) (by rw[← g3.str];omega)) (gid_ne (by omega))
       unfold wpOpIn
       simp only[hoi,guard_mask hg ho1 hf,if_true]
       refine⟨fun _ _=>trivial,?_⟩
       rw[semAt_of haop,e1]
       have:=hK β' u w' e2 (fun id hid=>e3 id (by rw[← g3.str] at hid;omega)) e4 e5
       rw[hoi] at this
       exact this
     · cases h
   · rename_i f args hle haop
     simp only[Bool.and_eq_true] at hle
     have hle1:b+s1.str≤lim:=Nat.le_of_ble_eq_true hle.1
     split at h
     · rename_i r news' k ob hco hct
       obtain⟨g,hgm,hgr⟩:=ctLook_mem hct
       have hok:=hE.ct f g hgm
       split at h
       · rename_i s2 hin hneed
         simp only[Bool.and_eq_true] at hin
         cases h
         obtain⟨n1,n2,n3,nm,n4,n5⟩:=need_ok hneed
         have hk:k≤s1.str:=Nat.le_of_ble_eq_true hin.1
         refine⟨g3.trans n4,n2.trans g1,n3.trans g2,nm.trans gm,fun id x hx=>by have:=inR_ok hin.2 hx;rw[g3.str] at this;exact this,fun ho=>?_⟩
         have ho1:=ho.of n4
         have htm:=guard_tm hg ho1
         refine⟨n1.trans htm,fun r C β a w m2 K Q hf hs hr hfree hK=>?_⟩
         rw[htm] at haop
         obtain⟨vs,hvs,hrun⟩:=aop_call haop hco hf hr hs
         obtain⟨⟨fn,c,c3,c4⟩,hcalls⟩:=hok
         have hc:=hcalls C β mi m2 w args b v news k ob vs hgr (n5 ho) hs hr (fun id h1 h2=>hfree id h1 (by rw[← g3.str];omega)) (by omega) hvs
         unfold wpOpIn
         simp only[hoi,guard_mask hg ho1 hf,if_true]
         refine⟨fun _ _=>trivial,?_⟩
         rw[semAt_of haop,hrun,run_enter c3 (hE.names _ _ _ c3 c4) c4]
         refine⟨fun h=>(by cases h),CallsIn.mono (callsIn_wide.2 hc) fun e w' ⟨β',u,e1,e2,e3,e4,e5⟩=>?_⟩
         subst e1
         have:=hK β' u w' e2 (fun id hid=>e3 id (by rw[← g3.str] at hid;omega)) e4 e5
         rw[hoi] at this
         exact this
       · cases h
     · rename_i hco hct
       split at h
       · rename_i r s2 hcall
         split at h
         · rename_i hc
           simp only[Bool.and_eq_true] at hc
           cases h
           obtain⟨c1,cm,c2,⟨fn,c,c3,c4⟩,c5⟩:=hcf f args _ v s2 hcall
           have hn:s2.n≤b+s1.str:=Nat.le_of_ble_eq_true hc.1
           refine⟨⟨by show s.n≤s1.n;omega,fun x hx=>c2.ob x (g3.ob x hx),fun x hx=>c2.po x (g3.po x hx),g3.str,g3.rd⟩,g1,g2,gm,fun id x hx=>by have:=inR_ok hc.2.1 hx;rw[g3.str] at this;exact this,fun ho=>?_⟩
           have ho2:Obs s2:=ho.congr (s':=s2) rfl rfl
           have ho1:Obs s1:=⟨fun x hx=>ho2.1 x (c2.ob x hx),fun x hx=>ho2.2 x (c2.po x hx)⟩
           have htm:=guard_tm hg ho1
           refine⟨htm,fun r C β a w m2 K Q hf hs hr hfree hK=>?_⟩
           rw[htm] at haop
           obtain⟨vs,hvs,hrun⟩:=aop_call haop hco hf hr hs
           have hcalls:=(c5 ho2) (loneC w) β w vs hvs (hr.ro hs) (fun id h1 h2=>hfree id h1 (by rw[← g3.str];omega))
           unfold wpOpIn
           simp only[hoi,guard_mask hg ho1 hf,if_true]
           refine⟨fun _ _=>trivial,?_⟩
           rw[semAt_of haop,hrun,run_enter c3 (hE.names _ _ _ c3 c4) c4]
           refine⟨fun h=>(by cases h),CallsIn.mono (callsIn_wide.2 hcalls) fun e w' ⟨β',u,e1,e2,e3,e4,e5⟩=>?_⟩
           subst e1
           have:=hK β' u w' e2 (fun id hid=>e3 id ?_) e4 (hr.back e5 e2 hc.2.2)
           · rw[hoi] at this
             exact this
           · rw[← g3.str] at hid
             show id<b∨s2.n≤id
             omega
         · cases h
       · cases h
     · cases h
   · cases h
theorem Rel.drew1 {C:Ctx} {β:Nm} {m:AMem} {w:World} (h:Rel C β m w):Rel C β m {w with drawn:=w.drawn+1}:=
 h.keepAll rfl rfl rfl (Nat.le_refl _) fun _ _=>rfl
theorem frD_true (ops:Array Oper) (V:Nat→AV) (tm:List AV) (j:Nat):∀q,j≤q→frD ops V tm (fun j'=>decide (j'<j)) q=frD ops V tm (fun _=>true) j:=by
 intro q hq
 apply List.ext_getElem?
 intro t
 have h1:∀k,k≤j→(frD ops V tm (fun j'=>decide (j'<j)) k)[t]? =(frD ops V tm (fun _=>true) k)[t]?:=fun k hk=>frD_agree k fun j' hj' _=>by simp;omega
 have h2:∀d,(frD ops V tm (fun j'=>decide (j'<j)) (j+d))[t]? =(frD ops V tm (fun j'=>decide (j'<j)) j)[t]?:=by
  intro d
  induction d with
  |zero=>rfl
  |succ d ih=>
   rw[show j+(d+1)=(j+d)+1 by omega,frD_succ,if_neg (fun c=>by have:=c.1;simp at this;omega),ih]
 rw[show q=j+(q-j) by omega,h2,h1 j (Nat.le_refl _)]
theorem frD_congr (ops:Array Oper) {V V':Nat→AV} (tm:List AV) (l:Nat→Bool):∀k,(∀j,j<k→V j=V' j)→frD ops V tm l k=frD ops V' tm l k
 |0,_=>rfl
 |k+1,h=>by
  have ih:=frD_congr ops tm l k fun j hj=>h j (by omega)
  simp only[frD]
  rw[ih,h k (by omega)]
theorem look_newsOf {ops:Array Oper} {i:Nat}:∀{l:List (Nat × AMem)} {id:Nat} {x:ABlk},look (newsOf ops i l) id=some x→∃p∈l,waits ops i p.1=true∧look p.2 id=some x
 | [],_,_,h=>by cases h
 | (j,n)::r,id,x,h=>by
  simp only[newsOf] at h
  split at h
  · rename_i hw
    rw[look_append] at h
    cases hn:look n id with
    |some y=>rw[hn] at h;cases h;exact⟨(j,n),by simp,hw,hn⟩
    |none=>
     rw[hn] at h
     obtain⟨p,h1,h2⟩:=look_newsOf h
     exact⟨p,by simp[h1],h2⟩
  · obtain⟨p,h1,h2⟩:=look_newsOf h
    exact⟨p,by simp[h1],h2⟩
theorem newsAll_append:∀(l l':List (Nat × AMem)),newsAll (l++l')=newsAll l++newsAll l'
 | [],_=>rfl
 |(j,n)::r,l'=>by simp only[List.cons_append,newsAll];rw[newsAll_append r l',List.append_assoc]
def accN (N:Nat→AMem) (k:Nat):List (Nat × AMem):=(List.range k).map fun j=>(j,N j)
theorem accN_succ (N:Nat→AMem) (k:Nat):accN N (k+1)=accN N k++[(k,N k)]:=by simp[accN,List.range_succ]
theorem accN_congr {N N':Nat→AMem} {k:Nat} (h:∀j,j<k→N j=N' j):accN N k=accN N' k:=by
 unfold accN
 exact List.map_congr_left fun j hj=>by rw[h j (List.mem_range.1 hj)]
theorem newsAll_acc (N:Nat→AMem):∀k,newsAll (accN N k)=nwD N (fun _=>true) k
 |0=>rfl
 |k+1=>by rw[accN_succ,newsAll_append,newsAll_acc N k];simp[newsAll,nwD]
theorem opsQ_ok (hE:EnvOk E) (hcf:CallOk E cf) {ops:Array Oper} {n0:Nat} {tm0:List AV}:∀{l:List Oper} {i:Nat} {s s':St} {acc':List (Nat × AMem)} {V0:Nat→AV} {N0:Nat→AMem},
 opsQ E cf ops n0 l i (accN N0 i) s=some (acc',s')→(∀j,j<l.length→l[j]? =ops[i+j]?)→
 ∃ V N,(∀j,j<i→V j=V0 j∧N j=N0 j)∧acc'=accN N (i+l.length)∧Grow s s'∧s'.m=s.m∧s'.n=s.n∧s'.ms=s.ms∧(∀j,i≤j→j<i+l.length→∀id x,look (N j) id=some x→rng n0 s.str j id)∧
  (Obs s'→s.tm=frD ops V0 tm0 (fun _=>true) i→s'.tm=frD ops V tm0 (fun _=>true) (i+l.length)∧
   ∀j,i≤j→j<i+l.length→∀o,ops[j]? =some o→∀r C,QStep r E.P C ops j (mask (o.looksAt ops) 0 (frD ops V tm0 (fun _=>true) j)) (s.m++newsOf ops j (accN N j)) (n0+j*s.str) (n0+j*s.str+s.str) (V j) (N j))
 | [],i,s,s',acc',V0,N0,h,_=>by
  simp only[opsQ,Option.some.injEq,Prod.mk.injEq] at h
  obtain⟨rfl,rfl⟩:=h
  exact⟨V0,N0,fun _ _=>⟨rfl,rfl⟩,rfl,Grow.refl s,rfl,rfl,rfl,fun j h1 h2=>by simp at h2;omega,fun _ ht=>⟨ht,fun j h1 h2=>by simp at h2;omega⟩⟩
 | o :: r,i,s,s',acc',V0,N0,h,hl=>by
  have hoi:ops[i]? =some o:=by simpa using (hl 0 (by simp)).symm
  simp only[opsQ] at h
  split at h
  · rename_i v news s1 hop
    obtain⟨q1,q2,q3,qm,q4,q5⟩:=opQ_ok hE hcf hop hoi
    let V1:Nat→AV:=fun j=>if j=i then v else V0 j
    let N1:Nat→AMem:=fun j=>if j=i then news else N0 j
    have hacc:accN N0 i++[(i,news)]=accN N1 (i+1):=by
     rw[accN_succ]
     have e1:accN N0 i=accN N1 i:=accN_congr fun j hj=>by simp[N1,show j≠i by omega]
     have e2:N1 i=news:=by simp[N1]
     rw[e1,e2]
    rw[hacc] at h
    obtain⟨V,N,h1,h2,h3,h4,h5,hm,h6,h7⟩:=opsQ_ok hE hcf (V0:=V1) (N0:=N1) h (fun j hj=>by
     have:=hl (j+1) (by simp;omega)
     simp only[List.getElem?_cons_succ] at this
     rw[this]
     congr 1
     omega)
    have hVi:V i=v:=by rw[(h1 i (by omega)).1];simp[V1]
    have hNi:N i=news:=by rw[(h1 i (by omega)).2];simp[N1]
    have g1:Grow s (s1.put o.dst v):=⟨q1.n,q1.ob,q1.po,q1.str,q1.rd⟩
    have hstr:(s1.put o.dst v).str=s.str:=q1.str
    refine⟨V,N,fun j hj=>⟨by rw[(h1 j (by omega)).1];simp[V1,show j≠i by omega],by rw[(h1 j (by omega)).2];simp[N1,show j≠i by omega]⟩,by rw[h2];congr 1;simp;omega,g1.trans h3,h4.trans q2,h5.trans q3,hm.trans qm,fun j hj1 hj2 id x hx=>?_,fun ho ht=>?_⟩
    · by_cases e:j=i
      · subst e
        rw[hNi] at hx
        exact q4 id x hx
      · have:=h6 j (by omega) (by simp at hj2;omega) id x hx
        rwa[hstr] at this
    · have ho1:Obs s1:=(ho.of h3).congr (s':=s1) rfl rfl
      obtain⟨t1,t2⟩:=q5 ho1
      have htm1:(s1.put o.dst v).tm=frD ops V1 tm0 (fun _=>true) (i+1):=by
       show putA s1.tm o.dst v=_
       simp only[frD,if_true,hoi,Option.bind_some]
       rw[t1,ht,frD_congr ops tm0 _ i (V:=V0) (V':=V1) (fun j hj=>by simp[V1,show j≠i by omega])]
       simp[V1]
      obtain⟨u1,u2⟩:=h7 ho htm1
      refine⟨by rw[u1];congr 1;simp;omega,fun j hj1 hj2 o' ho' r C=>?_⟩
      by_cases e:j=i
      · subst e
        rw[hoi] at ho'
        cases ho'
        have e1:frD ops V tm0 (fun _=>true) j=s.tm:=by
         rw[ht]
         exact frD_congr ops tm0 _ j fun j' hj'=>by rw[(h1 j' (by omega)).1];simp[V1,show j'≠j by omega]
        have e2:accN N j=accN N0 j:=accN_congr fun j' hj'=>by rw[(h1 j' (by omega)).2];simp[N1,show j'≠j by omega]
        rw[e1,e2,hVi,hNi]
        exact t2 r C
      · have:=u2 j (by omega) (by simp at hj2;omega) o' ho' r C
        have hm:(s1.put o.dst v).m=s.m:=q2
        rw[hm,hstr] at this
        exact this
  · cases h
end
end Go.Proofs.YtpgaplcdbbnblaaGreatDoor
end
/- The symbolic evaluator: regions that draw their order, with operations that write anywhere: one walk in the text's order serves every order. No Go text is in sight. -/
section
namespace Go.Proofs.YtpgaplcdbbnblaaGreatDoor
open Go.RowKit
/-! ### memory as a function of names -/
def stepF:AStep→(Nat→Option ABlk)→Nat→Option ABlk
 | .news l,f,id=>match f id with|some x=>some x|none=>look l id
 | .efx (.put t b),f,id=>if id=t then some b else f id
 | .efx (.app t ib b),f,id=>if id=t then none else match f id with|some x=>some x|none=>if id=ib then some b else none
 | .many ps l,f,id=>match look (putsOf ps) id with|some x=>some x|none=>if id∈ps.map (·.1) then look l id else match f id with|some x=>some x|none=>look l id
theorem stepF_point {z:AStep} {f g:Nat→Option ABlk} {id:Nat} (h:f id=g id):stepF z f id=stepF z g id:=by
 cases z with
 |news l=>simp only[stepF,h]
 |efx e=>cases e<;>simp only[stepF,h]
 |many ps l=>simp only[stepF,h]
theorem look_putsOf:∀{ps:List (Nat × Option ABlk)} {id:Nat} {x:ABlk},look (putsOf ps) id=some x→(id,some x)∈ps
 | [],_,_,h=>by cases h
 | (i,some b)::r,id,x,h=>by
  simp only[putsOf,look_cons] at h
  split at h
  · rename_i hb
    cases h
    have:=Nat.eq_of_beq_eq_true hb
    subst this
    exact List.mem_cons_self ..
  · exact List.mem_cons_of_mem _ (look_putsOf h)
 |(i,none)::r,id,x,h=>List.mem_cons_of_mem _ (look_putsOf (ps:=r) (by simpa only[putsOf] using h))
theorem look_delK:∀(ps:List (Nat × Option ABlk)) (m:AMem) (id:Nat),look (delK ps m) id=if id∈ps.map (·.1) then none else look m id
 | [],m,id=>by simp[delK]
 |(i,y)::r,m,id=>by
  simp only[delK,look_delM,look_delK r m id,List.map_cons,List.mem_cons]
  by_cases h:id=i
  · simp[h]
  · rw[if_neg h];simp only[h,false_or]
theorem look_on {z:AStep} {m:AMem} {f:Nat→Option ABlk} (hf:∀id,look m id=f id) (ht:∀t∈z.tids,∃x,look m t=some x) (hib:∀t ib b,z= .efx (.app t ib b)→ib≠t) (id:Nat):look (z.on m) id=stepF z f id:=by
 cases z with
 |news l=>
  simp only[AStep.on,stepF,look_append,hf]
  cases f id<;>rfl
 | efx e=>
  cases e with
  |put t b=>
   obtain⟨x,hx⟩:=ht t (by simp[AStep.tids,Efx.tid])
   simp only[AStep.on,Efx.on,stepF]
   rw[look_updM m t id b x hx,hf]
  |app t ib b=>
   have hne:=hib t ib b rfl
   simp only[AStep.on,Efx.on,stepF,look_append,look_delM]
   by_cases h:id=t
   · subst h
     rw[if_pos rfl,if_pos rfl]
     simp only[look_cons]
     cases hb:Nat.beq ib id with
     |true=>exact absurd (Nat.eq_of_beq_eq_true hb) hne
     |false=>rfl
   · rw[if_neg h,if_neg h,hf]
     cases f id with
     |some x=>rfl
     |none=>
      simp only[look_cons]
      cases hb:Nat.beq ib id with
      |true=>rw[if_pos (Nat.eq_of_beq_eq_true hb).symm]
      |false=>rw[if_neg (fun e=>by subst e;rw[Nat.beq_refl] at hb;cases hb)];rfl
 | many ps l=>
  simp only[AStep.on,stepF,look_append,look_delK,← hf]
  cases look (putsOf ps) id with
  |some x=>rfl
  |none=>
   by_cases h:id∈ps.map (·.1)
   · simp only[h,if_true]
   · simp only[h,if_false]
     cases look m id<;>rfl
def memF (Z:Nat→AStep) (f0:Nat→Option ABlk) (l:Nat→Bool):Nat→Nat→Option ABlk
 |0=>f0
 |k+1=>if l k then stepF (Z k) (memF Z f0 l k) else memF Z f0 l k
def InD (n0 str:Nat) (z:AStep) (k id:Nat):Prop:=rng n0 str k id∨id∈z.tids
structure ZOk (Z:Nat→AStep) (n0 str N:Nat):Prop where
 news:∀k l id x,k<N→Z k= .news l→look l id=some x→rng n0 str k id
 app:∀k t ib b,k<N→Z k= .efx (.app t ib b)→rng n0 str k ib
 many:∀k ps l id x,k<N→Z k= .many ps l→look l id=some x→rng n0 str k id
section
variable {Z:Nat→AStep} {f0:Nat→Option ABlk} {n0 str N:Nat}
theorem stepF_other (hZ:ZOk Z n0 str N) {k id:Nat} (hk:k<N) (h:¬InD n0 str (Z k) k id) (f:Nat→Option ABlk):stepF (Z k) f id=f id:=by
 cases hz:Z k with
 | news l=>
  simp only[stepF]
  cases hf:f id with
  |some x=>rfl
  |none=>
   cases hl:look l id with
   |none=>rfl
   |some x=>exact absurd (.inl (hZ.news k l id x hk hz hl)) h
 | efx e=>
  have ht:id≠e.tid:=fun e'=>h (.inr (by rw[hz,e'];simp[AStep.tids]))
  cases e with
  |put t b=>
   have ht:id≠t:=ht
   simp only[stepF];rw[if_neg ht]
  |app t ib b=>
   have ht:id≠t:=ht
   simp only[stepF]
   rw[if_neg ht]
   cases hf:f id with
   |some x=>rfl
   |none=>rw[if_neg (fun e'=>h (.inl (by rw[e'];exact hZ.app k t ib b hk hz)))]
 | many ps l=>
  have ht:id∉ps.map (·.1):=fun e'=>h (.inr (by rw[hz];exact e'))
  simp only[stepF]
  cases hp:look (putsOf ps) id with
  |some x=>exact absurd (List.mem_map_of_mem (f:=(·.1)) (look_putsOf hp)) ht
  | none=>
   simp only[ht,if_false]
   cases hf:f id with
   |some x=>rfl
   |none=>
    cases hl:look l id with
    |none=>rfl
    |some x=>exact absurd (.inl (hZ.many k ps l id x hk hz hl)) h
theorem memF_agree (hZ:ZOk Z n0 str N) {l l':Nat→Bool} {id:Nat}:∀K,K≤N→(∀k,k<K→InD n0 str (Z k) k id→l k=l' k)→memF Z f0 l K id=memF Z f0 l' K id
 |0,_,_=>rfl
 |K+1,hK,h=>by
  have ih:=memF_agree hZ (l:=l) (l':=l') (id:=id) K (by omega) fun k hk=>h k (by omega)
  simp only[memF]
  by_cases hd:InD n0 str (Z K) K id
  · rw[h K (by omega) hd]
    split
    · exact stepF_point ih
    · exact ih
  · split<;>split
    · exact stepF_point ih
    · rw[stepF_other hZ (by omega) hd];exact ih
    · rw[stepF_other hZ (by omega) hd];exact ih
    · exact ih
theorem memF_skip (hZ:ZOk Z n0 str N) {l:Nat→Bool} {id K:Nat}:∀d,K+d≤N→(∀k,K≤k→k<K+d→l k=true→¬InD n0 str (Z k) k id)→memF Z f0 l (K+d) id=memF Z f0 l K id
 |0,_,_=>rfl
 |d+1,hK,h=>by
  have ih:=memF_skip hZ (l:=l) (id:=id) (K:=K) d (by omega) fun k h1 h2=>h k h1 (by omega)
  rw[show K+(d+1)=(K+d)+1 by omega]
  simp only[memF]
  split
  · rename_i hl
    rw[stepF_other hZ (by omega) (h _ (by omega) (by omega) hl)];exact ih
  · exact ih
end
def XStep (r:Option Nat) (P:Program) (C:Ctx) (ops:Array Oper) (i:Nat) (tmR:List AV) (mi:AMem) (lo hi:Nat) (v:AV) (z:AStep):Prop:=
 ∀(β:Nm) (a:Act) (w:World) (m2:AMem) (K:Act→World→Prop) (Q:Exit→Act→World→Prop),FrOk β tmR a.tmps→Sub mi m2→Rel C β m2 w→(∀id,lo≤id→id<hi→β id=none)→
  (∀β' u w',Ext β β'→(∀id,id<lo∨hi≤id→β' id=β id)→γ β' v=some u→Rel C β' (z.on m2) w'→K (a.put ((ops[i]?).bind (·.dst)) u) w')→wpOpIn (FW r) 0 P ops Q i K a w
structure EInv (C:Ctx) (ops:Array Oper) (V:Nat→AV) (Z:Nat→AStep) (tm0:List AV) (f0:Nat→Option ABlk) (b str q:Nat) (β0:Nm) (D:List Deferred) (listed:Array Bool) (a:Act) (w:World) (β:Nm):Prop where
 fr:FrOk β (frD ops V tm0 (fun j=>listed.getD j false) q) a.tmps
 df:a.defers=D
 mem:∃m,(∀id,look m id=memF Z f0 (fun j=>listed.getD j false) q id)∧Rel C β m w
 free:∀j,j<q→listed.getD j false=false→∀id,rng b str j id→β id=none
 ext:Ext β0 β
 same:∀id,id<b∨b+q*str≤id→β id=β0 id
section
variable {P:Program} {C:Ctx} {ops:Array Oper}
theorem draw_goE {r:Option Nat} {D:List Deferred} {V:Nat→AV} {Z:Nat→AStep} {tm0:List AV} {f0:Nat→Option ABlk} {b str q:Nat} {β0:Nm} {Q:Exit→Act→World→Prop} {mi:Nat→AMem}
 (hdown:downB ops=true) (hap:apartB ops q=true) (hq:q=ops.size) (hZ:ZOk Z b str q)
 (hvis:∀i,i<q→∀t∈(Z i).tids,∃x,look (mi i) t=some x)
 (hord:∀i j,i<q→j<q→∀t∈(Z i).tids,∀t'∈(Z j).tids,i<j→waits ops j i=true)
 (hmi:∀i,i<q→∀id x,look (mi i) id=some x→memF Z f0 (fun j=>decide (j<i)) q id=some x∧(∀j,j<q→rng b str j id→waits ops i j=true)∧
  ∀j,j<q→id∈(Z j).tids→waits ops i j=true∨waits ops j i=true∨i=j)
 (hstep:∀i,i<q→∀o,ops[i]? =some o→XStep r P C ops i (mask (o.looksAt ops) 0 (frD ops V tm0 (fun j=>decide (j<i)) q)) (mi i) (b+i*str) (b+i*str+str) (V i) (Z i))
 (hQ:∀a w β m,FrOk β (frD ops V tm0 (fun _=>true) q) a.tmps→a.defers=D→(∀id,look m id=memF Z f0 (fun _=>true) q id)→Rel C β m w→Ext β0 β→(∀id,id<b∨b+q*str≤id→β id=β0 id)→Q .normal a w):
 ∀(f:Nat) (listed:Array Bool) (a:Act) (w:World) (β:Nm),HeadInv .any ops q listed→((List.range q).countP fun j=>!listed.getD j false)=f→EInv C ops V Z tm0 f0 b str q β0 D listed a w β→
  wpAnyIn (FW r) 0 P .any ops Q f listed a w:=by
 have hwd:∀i j,waits ops i j=true→j<i:=by
  intro i j hw
  have hr:=waits_reach hw
  have one:∀{i:Nat} {o:Oper} {e:Edge},ops[i]? =some o→e∈o.after.toList→Region.binds .any e=true→e.on<i:=by
   intro i o e ho he hb
   have hi:i<ops.size:=(Array.getElem?_eq_some_iff.1 ho).1
   have h1:=List.all_eq_true.1 hdown i (List.mem_range.2 hi)
   rw[ho] at h1
   have h2:=List.all_eq_true.1 h1 e he
   simp only[hb,Bool.not_true,Bool.false_or] at h2
   rwa[Nat.blt_eq] at h2
  have key:∀{i j:Nat},Reach ops i j→j<i:=by
   intro i j h
   induction h with
   |one ho he hb=>exact one ho he hb
   |step ho he hb _ ih=>exact Nat.lt_trans ih (one ho he hb)
  exact key hr
 intro f
 induction f with
 | zero=>
  intro listed a w β inv hcnt hd
  have hall:∀j,j<q→listed.getD j false=true:=by
   intro j hj
   have:=List.countP_eq_zero.1 hcnt j (List.mem_range.2 hj)
   simpa using this
  have e1:frD ops V tm0 (fun j=>listed.getD j false) q=frD ops V tm0 (fun _=>true) q:=by
   apply List.ext_getElem?
   intro t
   exact frD_agree q fun j hj _=>hall j hj
  obtain⟨m,hm,hrel⟩:=hd.mem
  refine⟨?_,?_⟩
  · refine List.eq_nil_iff_forall_not_mem.2 fun i hi=>?_
    obtain⟨hun,oi,hoi,_⟩:=mem_ready.1 hi
    have his:i<ops.size:=(Array.getElem?_eq_some_iff.1 hoi).1
    have:=hall i (by omega)
    rw[getD_both hun] at this
    cases this
  · have hfr:=hd.fr
    rw[e1] at hfr
    exact hQ a w β m hfr hd.df (fun id=>by rw[hm id];exact memF_agree hZ q (Nat.le_refl _) fun k hk _=>hall k hk) hrel hd.ext hd.same
 | succ f ih =>
  intro listed a w β inv hcnt hd
  have hex:∃j,j<q∧listed.getD j false=false:=by
   have hpos:0<(List.range q).countP fun j=>!listed.getD j false:=by omega
   obtain⟨j,hj,hl⟩:=List.countP_pos_iff.1 hpos
   exact⟨j,List.mem_range.1 hj,by simpa using hl⟩
  refine⟨fun hnil=>?_,fun i hi=>?_⟩
  · exfalso
    have hmin:∀n,(∀j,j<n→j<q→listed.getD j false=true)∨∃j,j<n∧j<q∧listed.getD j false=false∧∀j',j'<j→listed.getD j' false=true:=by
     intro n
     induction n with
     |zero=>exact .inl fun j h=>by omega
     | succ n ihn=>
      rcases ihn with h|⟨j,h1,h2⟩
      · by_cases hn:n<q∧listed.getD n false=false
        · exact .inr ⟨n,by omega,hn.1,hn.2,fun j' hj'=>h j' hj' (by omega)⟩
        · refine .inl fun j hj hjq=>?_
          by_cases e:j=n
          · subst e
            cases hl:listed.getD j false with
            |true=>rfl
            |false=>exact absurd ⟨hjq,hl⟩ hn
          · exact h j (by omega) hjq
      · exact .inr ⟨j,by omega,h2⟩
    obtain⟨j0,hj0,hl0⟩:=hex
    rcases hmin q with h|⟨j,_,hjq,hl,hbelow⟩
    · rw[h j0 hj0 hj0] at hl0;cases hl0
    · have hjs:j<ops.size:=by omega
      have hoj:ops[j]? =some ops[j]:=Array.getElem?_eq_getElem hjs
      have hready:j∈Region.ready .any ops listed:=by
       refine mem_ready.2 ⟨getD_in (by rw[inv.size];exact hjs) hl,_,hoj,fun e he hb=>?_⟩
       have h1:=List.all_eq_true.1 hdown j (List.mem_range.2 hjs)
       rw[hoj] at h1
       have h2:=List.all_eq_true.1 h1 e (Array.mem_toList_iff.2 he)
       simp only[hb,Bool.not_true,Bool.false_or] at h2
       rw[Nat.blt_eq] at h2;exact hbelow e.on h2
      rw[hnil] at hready
      cases hready
  · obtain ⟨hun,oi,hoi,hpre⟩:=mem_ready.1 hi
    have hio:i<ops.size:=(Array.getElem?_eq_some_iff.1 hoi).1
    have hiq:i<q:=by omega
    have his:i<listed.size:=by rw[inv.size];omega
    have hunf:listed.getD i false=false:=getD_both hun
    have hreach:∀j,waits ops i j=true→listed.getD j false=true:=fun j hw=>
     reach_done inv.closed (waits_reach hw) fun o ho e he hb=>by
      rw[hoi] at ho
      cases ho
      exact hpre e he hb
    have hback:∀j,waits ops j i=true→listed.getD j false=false:=by
     intro j hw
     cases hl:listed.getD j false with
     |false=>rfl
     |true=>
      have:=reach_done inv.closed (waits_reach hw) fun o ho e he hb=>inv.closed j o ho hl e he hb
      rw[hunf] at this
      cases this
    have hpair:∀j,j<q→j<i→∀oj,ops[j]? =some oj→waits ops i j=true∨oj.apart ops oi=true:=by
     intro j hj hji oj hoj
     have h1:=List.all_eq_true.1 hap i (List.mem_range.2 hiq)
     have h2:=List.all_eq_true.1 h1 j (List.mem_range.2 hji)
     rw[hoi,hoj] at h2
     simpa using h2
    have hpair2:∀j,j<q→i<j→∀oj,ops[j]? =some oj→waits ops j i=true∨oi.apart ops oj=true:=by
     intro j hj hji oj hoj
     have h1:=List.all_eq_true.1 hap j (List.mem_range.2 hj)
     have h2:=List.all_eq_true.1 h1 i (List.mem_range.2 hji)
     rw[hoi,hoj] at h2
     simpa using h2
    have hop:∀j,j<q→∃oj,ops[j]? =some oj:=fun j hj=>⟨_,Array.getElem?_eq_getElem (by omega:j<ops.size)⟩
    obtain⟨m,hm,hrel⟩:=hd.mem
    -- what it may see is as it was in the text's order
    have hsee:∀id,(∀j,j<q→rng b str j id→waits ops i j=true)→(∀j,j<q→id∈(Z j).tids→waits ops i j=true∨waits ops j i=true∨i=j)→
     memF Z f0 (fun j=>listed.getD j false) q id=memF Z f0 (fun j=>decide (j<i)) q id:=by
     intro id h1 h2
     refine memF_agree hZ q (Nat.le_refl _) fun k hk hin=>?_
     have key:waits ops i k=true∨waits ops k i=true∨i=k:=by
      rcases hin with h|ht
      · exact .inl (h1 k hk h)
      · exact h2 k hk ht
     rcases key with h|h|h
     · have:=hwd _ _ h
       simp only[hreach k h,this,decide_true]
     · have:=hwd _ _ h
       simp only[hback k h,show ¬k<i by omega,decide_false]
     · subst h;simp[hunf]
    have hsub:Sub (mi i) m:=fun id x hx=>by
     obtain⟨h1,h2,h3⟩:=hmi i hiq id x hx
     rw[hm id,hsee id h2 h3,h1]
    refine hstep i hiq oi hoi β a w m _ Q ⟨?_,fun t av ht=>?_⟩ hsub hrel (fun id h1 h2=>hd.free i hiq hunf id ⟨h1,h2⟩) ?_
    · rw[mask_length,frD_length,hd.fr.1,frD_length]
    · rw [mask_get] at ht
      rw[Nat.zero_add] at ht
      by_cases hlk:(oi.looksAt ops).contains t=true
      · have hag:(frD ops V tm0 (fun j=>listed.getD j false) q)[t]? =(frD ops V tm0 (fun j=>decide (j<i)) q)[t]?:=by
         refine frD_agree q fun j hj hdj=>?_
         obtain⟨oj,hoj⟩:=hop j hj
         rw[hoj] at hdj
         have hdj:oj.dst=some t:=hdj
         have hmem:t∈oi.looksAt ops:=by simpa using hlk
         rcases Nat.lt_trichotomy j i with h|h|h
         · rcases hpair j hj h oj hoj with hw|hp
           · simp only[h,decide_true];exact hreach j hw
           · exact absurd hmem ((Oper.apart_spec hp).1 t hdj)
         · subst h;simp[hunf]
         · rcases hpair2 j hj h oj hoj with hw|hp
           · simp only[show ¬j<i by omega,decide_false];exact hback j hw
           · exact absurd hmem ((Oper.apart_spec hp).2.2 t hdj)
        simp only[hlk,if_true,Option.map_id'] at ht
        rw[← hag] at ht
        exact hd.fr.2 t av ht
      · simp only[hlk,if_false] at ht
        cases hx:(frD ops V tm0 (fun j=>decide (j<i)) q)[t]? with
        |none=>rw[hx] at ht;cases ht
        |some y=>rw[hx] at ht;simp at ht;exact .inl ht.symm
    · intro β' u w' hext hsame hu hrel'
      have hset:∀j,(listed.setIfInBounds i true).getD j false=(j==i||listed.getD j false):=fun j=>getD_set_bool listed i j his
      refine ih (listed.setIfInBounds i true) _ w' β' (inv.set hi hiq) ?_ ⟨?_,by cases h:(ops[i]?).bind (·.dst)<;>simp[Act.put,hd.df],⟨_,fun id=>?_,hrel'⟩,?_,hd.ext.trans hext,fun id hid=>?_⟩
      · have hc:((List.range q).countP fun j=>!(listed.setIfInBounds i true).getD j false)+1=(List.range q).countP fun j=>!listed.getD j false:=by
         have e:(fun j=>!(listed.setIfInBounds i true).getD j false)=fun j=>!(j==i)&&!listed.getD j false:=by
          funext j;rw[hset j,Bool.not_or]
         rw[e]
         have gen:∀l:List Nat,l.Nodup→i∈l→(l.countP fun j=>!(j==i)&&!listed.getD j false)+1=l.countP fun j=>!listed.getD j false:=by
          intro l
          induction l with
          |nil=>intro _ h;cases h
          |cons y r ihr=>
           intro hnd hm
           simp only[List.nodup_cons] at hnd
           rw[List.countP_cons,List.countP_cons]
           by_cases e:y=i
           · subst e
             have:(r.countP fun j=>!(j==y)&&!listed.getD j false)=r.countP fun j=>!listed.getD j false:=by
              refine List.countP_congr fun j hj=>?_
              have:j≠y:=fun e=>hnd.1 (e ▸ hj)
              simp[this]
             rw[this]
             simp only[beq_self_eq_true,Bool.not_true,Bool.false_and,Bool.false_eq_true,if_false,Nat.add_zero,hunf,Bool.not_false,if_true]
           · have:=ihr hnd.2 (by rcases List.mem_cons.1 hm with h|h;exact absurd h.symm e;exact h)
             have hyi:(y==i)=false:=by simp[e]
             rw[hyi]
             simp only[Bool.not_false,Bool.true_and]
             omega
         exact gen _ List.nodup_range (List.mem_range.2 hiq)
        omega
      · have hfp:∀t:Nat,(frD ops V tm0 (fun j=>(listed.setIfInBounds i true).getD j false) q)[t]? =(putA (frD ops V tm0 (fun j=>listed.getD j false) q) ((ops[i]?).bind (·.dst)) (V i))[t]?:=by
         intro t
         have e:(fun j=>(listed.setIfInBounds i true).getD j false)=fun j=>j==i||listed.getD j false:=funext hset
         rw[e]
         refine frD_put q hiq (fun j hj hjq hl d hdi hdj=>?_) hunf t
         obtain⟨oj,hoj⟩:=hop j hjq
         rw[hoi] at hdi
         rw[hoj] at hdj
         rcases hpair2 j hjq hj oj hoj with hw|hp
         · have:=hback j hw
           rw[hl] at this
           cases this
         · exact(Oper.apart_spec hp).2.1 d hdi hdj
        have e:frD ops V tm0 (fun j=>(listed.setIfInBounds i true).getD j false) q=putA (frD ops V tm0 (fun j=>listed.getD j false) q) ((ops[i]?).bind (·.dst)) (V i):=List.ext_getElem? hfp
        rw[e]
        exact(hd.fr.ext hext).put hu
      · -- the memory
        have hvi:∀t∈(Z i).tids,∃x,look m t=some x:=fun t ht=>by
         obtain⟨x,hx⟩:=hvis i hiq t ht
         exact⟨x,hsub _ _ hx⟩
        have hib:∀t ib bk,Z i= .efx (.app t ib bk)→ib≠t:=fun t ib bk he e=>by
         obtain⟨x,hx⟩:=hvi t (by rw[he];simp[AStep.tids,Efx.tid])
         obtain⟨L,hL,_⟩:=hrel.blk t x hx
         rw[hd.free i hiq hunf t (by rw[← e];exact hZ.app i t ib bk hiq he)] at hL
         cases hL
        rw[look_on hm hvi hib id]
        have e:(fun j=>(listed.setIfInBounds i true).getD j false)=fun j=>j==i||listed.getD j false:=funext hset
        rw[e]
        by_cases hin:InD b str (Z i) i id
        · -- nobody behind it in the text, and done, has this name
          have hno:∀k,i+1≤k→k<q→(k==i||listed.getD k false)=true→¬InD b str (Z k) k id:=by
           intro k h1 h2 hl hk
           have hki:(k==i)=false:=by simp;omega
           rw[hki,Bool.false_or] at hl
           have hnw:waits ops k i=true→False:=fun hw=>by
            have:=hback k hw
            rw[hl] at this
            cases this
           rcases hin with h3|ht3
           · rcases hk with h4|ht4
             · have:=rng_apart h3 h4;omega
             · obtain⟨x,hx⟩:=hvis k h2 id ht4
               exact hnw ((hmi k h2 id x hx).2.1 i hiq h3)
           · rcases hk with h4|ht4
             · obtain⟨x,hx⟩:=hvis i hiq id ht3
               have:=hwd _ _ ((hmi i hiq id x hx).2.1 k h2 h4)
               omega
             · exact hnw (hord i k hiq h2 id ht3 id ht4 (by omega))
          have s1:=memF_skip (f0:=f0) hZ (l:=fun j=>j==i||listed.getD j false) (id:=id) (K:=i+1) (q-(i+1)) (by omega) fun k h1 h2 hl=>hno k h1 (by omega) hl
          have s2:=memF_skip (f0:=f0) hZ (l:=fun j=>listed.getD j false) (id:=id) (K:=i+1) (q-(i+1)) (by omega) fun k h1 h2 hl=>hno k h1 (by omega) (by simp only[hl,Bool.or_true])
          rw[show i+1+(q-(i+1))=q by omega] at s1 s2
          rw[s1]
          simp only[memF,beq_self_eq_true,Bool.true_or,if_true]
          refine stepF_point ?_
          rw[s2]
          simp only[memF,hunf,Bool.false_eq_true,if_false]
          exact(memF_agree hZ i (by omega) fun k hk _=>by simp[show ¬k=i by omega]).symm
        · rw[stepF_other hZ hiq hin]
          refine memF_agree hZ q (Nat.le_refl _) fun k hk hkd=>?_
          by_cases hki:k=i
          · subst hki;exact absurd hkd hin
          · simp[hki]
      · intro j hj hl id hr
        have h2:=hset j
        rw[hl] at h2
        have h2:(j==i)=false∧listed.getD j false=false:=by simpa using h2.symm
        have hne:j≠i:=by simpa using h2.1
        rw [hsame id (by
         rcases Nat.lt_or_ge id (b+i*str) with h|h
         · exact .inl h
         · rcases Nat.lt_or_ge id (b+i*str+str) with h'|h'
           · exact absurd (rng_apart hr ⟨h,h'⟩) hne
           · exact .inr h')]
        exact hd.free j hj h2.2 id hr
      · rw[hsame id ?_]
        · exact hd.same id hid
        · have h1:i*str+str≤q*str:=by rw[← Nat.succ_mul];exact Nat.mul_le_mul_right _ hiq
          rcases hid with h|h
          · exact .inl (by omega)
          · exact .inr (by omega)
end
section
variable {E:Env} {cf:FuncId→List AV→St→Option (AV × St)} {yf:Nat→List AV→St→Option (AV × St)}
theorem look_woM:∀{m:AMem} {id:Nat} {x:ABlk},look (woM m) id=some x→look m id=some x∧isO x=false
 | [],_,_,h=>by cases h
 | (i,b)::r,id,x,h=>by
  simp only[woM] at h
  split at h
  · rw[look_delM] at h
    split at h
    · cases h
    · rename_i hne
      obtain⟨h1,h2⟩:=look_woM h
      exact⟨by rw[look_ne hne];exact h1,h2⟩
  · rename_i ho
    by_cases e:id=i
    · subst e
      rw[look_eq] at h
      cases h
      exact⟨look_eq _ _ _,ho⟩
    · rw[look_ne e] at h
      obtain⟨h1,h2⟩:=look_woM h
      exact⟨by rw[look_ne e];exact h1,h2⟩
theorem putsW_mem {m':AMem}:∀{m:AMem} {p:Nat × Option ABlk},p∈putsW m' m→(∃y,look m p.1=some y)∧p.2=cellB (look m' p.1)
 | [],_,h=>by cases h
 | (i,b)::r,p,h=>by
  simp only[putsW] at h
  split at h
  · rcases List.mem_cons.1 h with rfl|h
    · exact⟨⟨b,look_eq _ _ _⟩,rfl⟩
    · obtain⟨⟨y,h1⟩,h2⟩:=putsW_mem h
      refine⟨?_,h2⟩
      simp only[look_cons]
      cases Nat.beq i p.1 with
      |true=>exact⟨b,rfl⟩
      |false=>exact⟨y,h1⟩
  · obtain⟨⟨y,h1⟩,h2⟩:=putsW_mem h
    refine⟨?_,h2⟩
    simp only[look_cons]
    cases Nat.beq i p.1 with
    |true=>exact⟨b,rfl⟩
    |false=>exact⟨y,h1⟩
theorem putsW_own {m':AMem}:∀{m:AMem} {id:Nat} {y:ABlk},look m id=some y→y.own=true→id∈(putsW m' m).map (·.1)
 | [],_,_,h,_=>by cases h
 | (i,b)::r,id,y,h,ho=>by
  simp only[look_cons] at h
  simp only[putsW]
  split at h
  · rename_i hb
    cases h
    have:=Nat.eq_of_beq_eq_true hb
    subst this
    rw[ho]
    exact List.mem_cons_self ..
  · split
    · exact List.mem_cons_of_mem _ (putsW_own h ho)
    · exact putsW_own h ho
def wrS (β:Nm) (mi:AMem):Nat→Prop:=fun b=>∃id y L,look mi id=some y∧y.own=true∧isO y=false∧β id=some L∧L.nil=false∧L.b=b
theorem look_woM_of:∀{m:AMem} {id:Nat} {x:ABlk},look m id=some x→isO x=false→look (woM m) id=some x
 | [],_,_,h,_=>by cases h
 | (i,b)::r,id,x,h,ho=>by
  simp only[woM]
  simp only[look_cons] at h
  split at h
  · rename_i hb
    cases h
    have:=Nat.eq_of_beq_eq_true hb
    subst this
    rw[ho]
    exact look_eq _ _ _
  · rename_i hb
    have hne:id≠i:=fun e=>by subst e;rw[Nat.beq_refl] at hb;cases hb
    split
    · rw[look_delM,if_neg hne];exact look_woM_of h ho
    · rw[look_ne hne];exact look_woM_of h ho
def ctxW (β:Nm) (mi:AMem) (w:World):Ctx:=⟨w,w.heap.size,wrS β mi⟩
theorem Rel.wr {C:Ctx} {β:Nm} {m m2:AMem} {w:World} (h:Rel C β m2 w) (hs:Sub m m2):Rel (ctxW β m w) β (woM m) w:=by
 refine⟨rfl,rfl,rfl,Nat.le_refl _,Nat.le_refl _,fun _ _ _=>rfl,fun id x hx=>?_,fun id id' x x' L L' hx hx' hne ho hL hL' hn hn'=>?_,h.glob,fun id x o hx ho=>?_⟩
 · obtain⟨hy,hyo⟩:=look_woM hx
   obtain⟨L,hL,hb⟩:=h.blk id x (hs _ _ hy)
   refine⟨L,hL,hb.sz,hb.lit,hb.cells,hb.lt,fun ho hn=>?_,hb.arrl,hb.rowc⟩
   obtain⟨o1,_,o3⟩:=hb.own ho hn
   exact⟨o1,.inr ⟨id,x,L,hy,ho,hyo,hL,hn,rfl⟩,o3⟩
 · exact h.sep id id' x x' L L' (hs _ _ (look_woM hx).1) (hs _ _ (look_woM hx').1) hne ho hL hL' hn hn'
 · have:=(look_woM hx).2
   simp[isO,ho] at this
theorem cellB_some {x:Option ABlk} {b:ABlk} (h:cellB x=some b):x=some b∧isO b=false:=by
 unfold cellB at h
 split at h
 · split at h
   · cases h
   · rename_i ho;cases h;exact⟨rfl,ho⟩
 · cases h
theorem Rel.backW {C:Ctx} {β β':Nm} {mi m2 m':AMem} {w w':World} {n hi:Nat} (h:Rel C β m2 w) (hs:Sub mi m2) (h':Rel (ctxW β mi w) β' m' w') (he:Ext β β') (hfree:∀id,n≤id→id<hi→β id=none) (hin:∀id x,look (fromN n m') id=some x→n≤id∧id<hi)
 (hown:(fromN n m').all (fun x=>x.2.own)=true):Rel C β' ((AStep.many (putsW m' (woM mi)) (fromN n m')).on m2) w':=by
 have hbase:C.base≤w.heap.size:=by have:=h.size;have:=h.base;omega
 have hkeep:∀b,b<w.heap.size→¬wrS β mi b→w'.heap[b]? =w.heap[b]?:=fun b hb hn=>h'.out b hb hn
 have hkey:∀id,id∈(putsW m' (woM mi)).map (·.1)→∃y,look mi id=some y:=by
  intro id hid
  obtain⟨p,hp,rfl⟩:=List.mem_map.1 hid
  obtain⟨⟨y,h1⟩,_⟩:=putsW_mem hp
  exact⟨y,(look_woM h1).1⟩
 -- what lies where it may write stands apart from all that is no key
 have hwr:∀b,wrS β mi b→∃id y L,look mi id=some y∧look m2 id=some y∧y.own=true∧id∈(putsW m' (woM mi)).map (·.1)∧β id=some L∧L.nil=false∧L.b=b:=by
  rintro b ⟨id,y,L,h1,h2,h3,h4,h5,h6⟩
  exact⟨id,y,L,h1,hs _ _ h1,h2,putsW_own (look_woM_of h1 h3) h2,h4,h5,h6⟩
 have hnotS:∀id x L,look m2 id=some x→id∉(putsW m' (woM mi)).map (·.1)→β id=some L→L.nil=false→¬wrS β mi L.b:=by
  intro id x L hx hk hL hn hw
  obtain⟨id2,y,L2,h1,h2,h3,h4,h5,h6,h7⟩:=hwr _ hw
  exact h.sep id2 id y x L2 L h2 hx (fun e=>hk (by rw[← e];exact h4)) h3 h5 hL h6 hn h7
 have hlk:∀id x,look ((AStep.many (putsW m' (woM mi)) (fromN n m')).on m2) id=some x→
  (id∈(putsW m' (woM mi)).map (·.1)∧look m' id=some x∧isO x=false)∨(id∉(putsW m' (woM mi)).map (·.1)∧look m2 id=some x)∨(n≤id∧id<hi∧look m' id=some x∧x.own=true∧isO x=false):=by
  intro id x hx
  have hnew:look (fromN n m') id=some x→(n≤id∧id<hi∧look m' id=some x∧x.own=true∧isO x=false):=fun e=>by
   obtain⟨h1,h2,_,h3⟩:=look_fromN e
   obtain⟨g1,g2⟩:=hin id x e
   exact⟨g1,g2,h1,List.all_eq_true.1 hown _ (look_mem e),h3⟩
  simp only[AStep.on,look_append,look_delK] at hx
  cases hp:look (putsOf (putsW m' (woM mi))) id with
  |some y=>
   rw[hp] at hx
   cases hx
   have hm:=look_putsOf hp
   obtain⟨_,h2⟩:=putsW_mem hm
   obtain⟨h3,h4⟩:=cellB_some h2.symm
   exact .inl ⟨List.mem_map_of_mem (f:=(·.1)) hm,h3,h4⟩
  |none=>
   rw[hp] at hx
   by_cases hk:id∈(putsW m' (woM mi)).map (·.1)
   · simp only[hk,if_true] at hx
     exact .inr (.inr (hnew hx))
   · simp only[hk,if_false] at hx
     cases hm:look m2 id with
     |some y=>rw[hm] at hx;cases hx;exact .inr (.inl ⟨hk,rfl⟩)
     |none=>rw[hm] at hx;exact .inr (.inr (hnew hx))
 -- an own block of the call's end
 have hend:∀id x L,look m' id=some x→x.own=true→β' id=some L→L.nil=false→w.heap.size≤L.b∨wrS β mi L.b:=by
  intro id x L hx ho hL hn
  obtain⟨M,hM,hb⟩:=h'.blk id x hx
  rw[hL] at hM
  cases hM
  exact(hb.own ho hn).2.1
 have hnewge:∀id x L,n≤id→id<hi→look m' id=some x→x.own=true→β' id=some L→L.nil=false→∀id2 y L2,look m2 id2=some y→β id2=some L2→L2.nil=false→id2∉(putsW m' (woM mi)).map (·.1)→L.b≠L2.b:=by
  intro id x L _ _ hx ho hL hn id2 y L2 hy hL2 hn2 hk2 e
  obtain⟨M,hM,hb⟩:=h.blk id2 y hy
  rw[hL2] at hM
  cases hM
  rcases hend id x L hx ho hL hn with h1|h1
  · have:=hb.lt hn2;omega
  · rw[e] at h1;exact hnotS id2 y L2 hy hk2 hL2 hn2 h1
 have hconv:∀id x L,look m' id=some x→β' id=some L→BlkOk (ctxW β mi w) β' w' L x→BlkOk C β' w' L x:=by
  intro id x L hx hL hb
  refine⟨hb.sz,hb.lit,hb.cells,hb.lt,fun ho hn=>?_,hb.arrl,hb.rowc⟩
  obtain⟨o1,o2,o3⟩:=hb.own ho hn
  refine⟨o1,?_,o3⟩
  rcases o2 with o2|o2
  · exact .inl (Nat.le_trans hbase o2)
  · obtain⟨id2,y,L2,_,h2,h3,_,h5,h6,h7⟩:=hwr _ o2
    obtain⟨M,hM,hk⟩:=h.blk id2 y h2
    rw[h5] at hM
    cases hM
    have:=(hk.own h3 h6).2.1
    rw[h7] at this
    exact this
 -- an old block
 have hold:∀id x,look m2 id=some x→id∉(putsW m' (woM mi)).map (·.1)→∃L,β id=some L∧β' id=some L∧BlkOk C β' w' L x:=by
  intro id x hx hk
  obtain⟨M,hM,hb⟩:=h.blk id x hx
  exact⟨M,hM,he id M hM,hb.keep he h'.size fun hn=>hkeep _ (hb.lt hn) (hnotS id x M hx hk hM hn)⟩
 refine⟨h'.os.trans h.os,h'.tape.trans h.tape,h'.output.trans h.output,Nat.le_trans h.size h'.size,h.base,fun b h1 h2=>?_,fun id x hx=>?_,?_,h'.glob,fun id x o hx ho=>?_⟩
 · rw[hkeep b (by omega) fun hw=>?_]
   · exact h.out b h1 h2
   · obtain⟨id2,y,L2,_,g2,g3,_,g5,g6,g7⟩:=hwr _ hw
     obtain⟨M,hM,hk⟩:=h.blk id2 y g2
     rw[g5] at hM
     cases hM
     rcases (hk.own g3 g6).2.1 with q|q
     · omega
     · exact h2 (g7 ▸ q)
 · rcases hlk id x hx with⟨_,h2,_⟩|⟨h1,h2⟩|⟨_,_,h3,_,_⟩
   · obtain⟨M,hM,hb⟩:=h'.blk id x h2
     exact⟨M,hM,hconv id x M h2 hM hb⟩
   · obtain⟨L,_,g2,g3⟩:=hold id x h2 h1
     exact⟨L,g2,g3⟩
   · obtain⟨M,hM,hb⟩:=h'.blk id x h3
     exact⟨M,hM,hconv id x M h3 hM hb⟩
 · -- apart
   have hA:∀id x L,id∈(putsW m' (woM mi)).map (·.1)→look m' id=some x→β' id=some L→L.nil=false→∀id2 y L2,look m2 id2=some y→β id2=some L2→L2.nil=false→id2∉(putsW m' (woM mi)).map (·.1)→(x.own=true∨y.own=true)→L.b≠L2.b:=by
    intro id x L hid hx hL hn id2 y L2 hy hL2 hn2 hk2 ho e
    obtain⟨M2,hM2,hb2⟩:=h.blk id2 y hy
    rw[hL2] at hM2
    cases hM2
    rcases ho with ho|ho
    · rcases hend id x L hx ho hL hn with h1|h1
      · have:=hb2.lt hn2;omega
      · rw[e] at h1;exact hnotS id2 y L2 hy hk2 hL2 hn2 h1
    · obtain⟨z,hz⟩:=hkey id hid
      obtain⟨M,hM,_⟩:=h.blk id z (hs _ _ hz)
      have:=he id M hM
      rw[hL] at this
      cases this
      exact h.sep id2 id y z L2 L hy (hs _ _ hz) (fun e'=>hk2 (by rw[e'];exact hid)) ho hL2 hM hn2 hn e.symm
   have hB:∀id x L,look m2 id=some x→id∉(putsW m' (woM mi)).map (·.1)→β' id=some L→β id=some L:=by
    intro id x L hx hk hL
    obtain⟨M,g1,g2,_⟩:=hold id x hx hk
    rw[hL] at g2
    cases g2
    exact g1
   intro id id' x x' L L' hx hx' hne ho hL hL' hn hn'
   rcases hlk id x hx with⟨a1,a2,_⟩|⟨a1,a2⟩|⟨a1,a2,a3,a4,_⟩
   · rcases hlk id' x' hx' with⟨b1,b2,_⟩|⟨b1,b2⟩|⟨b1,b2,b3,b4,_⟩
     · exact h'.sep id id' x x' L L' a2 b2 hne ho hL hL' hn hn'
     · exact hA id x L a1 a2 hL hn id' x' L' b2 (hB id' x' L' b2 b1 hL') hn' b1 (.inl ho)
     · exact h'.sep id id' x x' L L' a2 b3 hne ho hL hL' hn hn'
   · have hL0:=hB id x L a2 a1 hL
     rcases hlk id' x' hx' with⟨b1,b2,_⟩|⟨b1,b2⟩|⟨b1,b2,b3,b4,_⟩
     · exact fun e=>hA id' x' L' b1 b2 hL' hn' id x L a2 hL0 hn a1 (.inr ho) e.symm
     · exact h.sep id id' x x' L L' a2 b2 hne ho hL0 (hB id' x' L' b2 b1 hL') hn hn'
     · exact fun e=>hnewge id' x' L' b1 b2 b3 b4 hL' hn' id x L a2 hL0 hn a1 e.symm
   · rcases hlk id' x' hx' with⟨b1,b2,_⟩|⟨b1,b2⟩|⟨b1,b2,b3,b4,_⟩
     · exact h'.sep id id' x x' L L' a3 b2 hne ho hL hL' hn hn'
     · exact hnewge id x L a1 a2 a3 a4 hL hn id' x' L' b2 (hB id' x' L' b2 b1 hL') hn' b1
     · exact h'.sep id id' x x' L L' a3 b3 hne ho hL hL' hn hn'
 · rcases hlk id x hx with⟨_,_,a3⟩|⟨a1,a2⟩|⟨_,_,_,_,a5⟩
   · simp[isO,ho] at a3
   · obtain⟨M,k1,k2,k3,k4,k5⟩:=h.objs id x o a2 ho
     obtain⟨M',hM',hb⟩:=h.blk id x a2
     rw[k1] at hM'
     cases hM'
     have hno:¬wrS β mi M.b:=fun hw=>by
      obtain⟨id2,y,L2,g1,g2,g3,g4,g5,g6,g7⟩:=hwr _ hw
      exact k5 id2 y L2 (fun e=>a1 (by rw[← e];exact g4)) g2 g5 g6 g7
     refine⟨M,he _ _ k1,k2,k3,k4.keep he (hkeep _ (hb.lt k2) hno),fun id' x' L' g1 g2 g3 g4=>?_⟩
     rcases hlk id' x' g2 with⟨b1,b2,_⟩|⟨b1,b2⟩|⟨b1,b2,b3,b4,_⟩
     · obtain⟨z,hz⟩:=hkey id' b1
       obtain⟨M2,hM2,_⟩:=h.blk id' z (hs _ _ hz)
       have:=he id' M2 hM2
       rw[g3] at this
       cases this
       exact k5 id' z L' g1 (hs _ _ hz) hM2 g4
     · obtain⟨M2,q1,q2,_⟩:=hold id' x' b2 b1
       rw[g3] at q2
       cases q2
       exact k5 id' x' L' g1 b2 q1 g4
     · intro e
       rcases hend id' x' L' b3 b4 g3 g4 with h1|h1
       · have:=hb.lt k2;omega
       · rw[e] at h1;exact hno h1
   · simp[isO,ho] at a5
theorem opW_ok (hE:EnvOk E) (hcf:CallOk E cf) {ops:Array Oper} {i b:Nat} {o:Oper} {mi:AMem} {s s':St} {v:AV} {z:AStep} (hwr:wrCall E.P o.op=true) (h:opW E cf ops o mi b s=some (v,z,s')) (hoi:ops[i]? =some o):
 Grow s s'∧s'.m=s.m∧s'.n=s.n∧s'.ms=s.ms∧(∀l id x,(z= .news l∨∃ps,z= .many ps l)→look l id=some x→b≤id∧id<b+s.str)∧(∀t ib bk,z= .efx (.app t ib bk)→ib=b∧ib≠t∧1≤s.str)∧(∀t∈z.tids,(∃x,look mi t=some x)∧wrOp E.P o.op=true)∧
 (Obs s'→s'.tm=s.tm∧∀r C,XStep r E.P C ops i (mask (o.looksAt ops) 0 s.tm) mi b (b+s.str) v z):=by
 unfold opW at h
 split at h
 · cases h
 · rename_i s1 hg
   cases h
   obtain⟨g1,g2,gm,g3,_⟩:=guard_ok hg
   refine⟨g3,g1,g2,gm,fun l' id x hl hx=>(by rcases hl with hl|⟨_,hl⟩<;>cases hl;cases hx),fun _ _ _ h=>(by cases h),fun t ht=>(by cases ht),fun ho=>⟨guard_tm hg ho,fun r C β a w m2 K Q hf hs hr hfree hK=>?_⟩⟩
   unfold wpOpIn
   simp only[hoi,guard_mask hg ho hf,Bool.false_eq_true,if_false]
   refine⟨fun _ _=>trivial,?_⟩
   have:=hK β undef w (Ext.refl β) (fun _ _=>rfl) rfl (by show Rel C β (m2++[]) w;rw[List.append_nil];exact hr)
   rw[hoi] at this
   exact this
 · rename_i s1 hg
   obtain⟨g1,g2,gm,g3,_⟩:=guard_ok hg
   split at h
   · rename_i f args hle haop
     simp only[Bool.and_eq_true] at hle
     have hle1:b+s1.str≤lim:=Nat.le_of_ble_eq_true hle.1
     split at h
     · rename_i r news' k ob hco hct
       obtain⟨g,hgm,hgr⟩:=ctLook_mem hct
       have hok:=hE.ct f g hgm
       split at h
       · rename_i s2 hin hneed
         simp only[Bool.and_eq_true] at hin
         cases h
         obtain⟨n1,n2,n3,nm,n4,n5⟩:=need_ok hneed
         have hk:k≤s1.str:=Nat.le_of_ble_eq_true hin.1
         refine⟨g3.trans n4,n2.trans g1,n3.trans g2,nm.trans gm,fun l' id x hl hx=>(by rcases hl with hl|⟨_,hl⟩<;>cases hl;have:=inR_ok hin.2 hx;rw[g3.str] at this;exact this),fun _ _ _ h=>(by cases h),fun t ht=>(by cases ht),fun ho=>?_⟩
         have ho1:=ho.of n4
         have htm:=guard_tm hg ho1
         refine⟨n1.trans htm,fun r C β a w m2 K Q hf hs hr hfree hK=>?_⟩
         rw[htm] at haop
         obtain⟨vs,hvs,hrun⟩:=aop_call haop hco hf hr hs
         obtain⟨⟨fn,c,c3,c4⟩,hcalls⟩:=hok
         have hc:=hcalls C β mi m2 w args b v news' k ob vs hgr (n5 ho) hs hr (fun id h1 h2=>hfree id h1 (by rw[← g3.str];omega)) (by omega) hvs
         unfold wpOpIn
         simp only[hoi,guard_mask hg ho1 hf,if_true]
         refine⟨fun _ _=>trivial,?_⟩
         rw[semAt_of haop,hrun,run_enter c3 (hE.names _ _ _ c3 c4) c4]
         refine⟨fun h=>(by cases h),CallsIn.mono (callsIn_wide.2 hc) fun e w' ⟨β',u,e1,e2,e3,e4,e5⟩=>?_⟩
         subst e1
         have:=hK β' u w' e2 (fun id hid=>e3 id (by rw[← g3.str] at hid;omega)) e4 e5
         rw[hoi] at this
         exact this
       · cases h
     · rename_i hco hct
       split at h
       · rename_i r s2 hcall
         split at h
         · rename_i hc
           simp only[Bool.and_eq_true] at hc
           cases h
           obtain⟨c1,cm,c2,⟨fn,c,c3,c4⟩,c5⟩:=hcf f args _ v s2 hcall
           have hn:s2.n≤b+s1.str:=Nat.le_of_ble_eq_true hc.1
           refine⟨⟨by show s.n≤s1.n;omega,fun x hx=>c2.ob x (g3.ob x hx),fun x hx=>c2.po x (g3.po x hx),g3.str,g3.rd⟩,g1,g2,gm,fun l' id x hl hx=>(by rcases hl with hl|⟨_,hl⟩<;>cases hl;have:=inR_ok hc.2.1 hx;rw[g3.str] at this;exact this),fun _ _ _ h=>(by cases h),fun t ht=>?_,fun ho=>?_⟩
           · obtain⟨p,hp,rfl⟩:=List.mem_map.1 ht
             obtain⟨⟨y,h1⟩,_⟩:=putsW_mem hp
             exact⟨⟨y,(look_woM h1).1⟩,by rw[wrOp,hwr,Bool.true_or]⟩
           have ho2:Obs s2:=ho.congr (s':=s2) rfl rfl
           have ho1:Obs s1:=⟨fun x hx=>ho2.1 x (c2.ob x hx),fun x hx=>ho2.2 x (c2.po x hx)⟩
           have htm:=guard_tm hg ho1
           refine⟨htm,fun r C β a w m2 K Q hf hs hr hfree hK=>?_⟩
           rw[htm] at haop
           obtain⟨vs,hvs,hrun⟩:=aop_call haop hco hf hr hs
           have hcalls:=(c5 ho2) (ctxW β mi w) β w vs hvs (hr.wr hs) (fun id h1 h2=>hfree id h1 (by rw[← g3.str];omega))
           unfold wpOpIn
           simp only[hoi,guard_mask hg ho1 hf,if_true]
           refine⟨fun _ _=>trivial,?_⟩
           rw[semAt_of haop,hrun,run_enter c3 (hE.names _ _ _ c3 c4) c4]
           refine⟨fun h=>(by cases h),CallsIn.mono (callsIn_wide.2 hcalls) fun e w' ⟨β',u,e1,e2,e3,e4,e5⟩=>?_⟩
           subst e1
           have:=hK β' u w' e2 (fun id hid=>e3 id ?_) e4 (hr.backW hs e5 e2 (hi:=b+s.str) hfree (fun id x hx=>by have:=inR_ok hc.2.1 hx;rw[g3.str] at this;exact this) hc.2.2)
           · rw[hoi] at this
             exact this
           · rw[← g3.str] at hid
             show id<b∨s2.n≤id
             omega
         · cases h
       · cases h
     · cases h
   · cases h
theorem opE_ok (hE:EnvOk E) (hcf:CallOk E cf) {ops:Array Oper} {i b:Nat} {o:Oper} {mi:AMem} {s s':St} {v:AV} {z:AStep} {wm:Bool} (h:opE E cf wm ops i o mi b s=some (v,z,s')) (hoi:ops[i]? =some o):
 Grow s s'∧s'.m=s.m∧s'.n=s.n∧s'.ms=s.ms∧(∀l id x,(z= .news l∨∃ps,z= .many ps l)→look l id=some x→b≤id∧id<b+s.str)∧(∀t ib bk,z= .efx (.app t ib bk)→ib=b∧ib≠t∧1≤s.str)∧(∀t∈z.tids,(∃x,look mi t=some x)∧wrOp E.P o.op=true)∧
 (Obs s'→s'.tm=s.tm∧∀r C,XStep r E.P C ops i (mask (o.looksAt ops) 0 s.tm) mi b (b+s.str) v z):=by
 unfold opE at h
 split at h
 · rename_i hup
   split at h
   · split at h
     · rename_i v' l s1 hq
       cases h
       obtain⟨q1,q2,q3,q4,q5,q6⟩:=opQ_ok hE hcf hq hoi
       refine⟨q1,q2,q3,q4,fun l' id x hl hx=>(by rcases hl with hl|⟨_,hl⟩<;>cases hl;exact q5 id x hx),fun _ _ _ h=>(by cases h),fun t ht=>(by cases ht),fun ho=>?_⟩
       obtain⟨t1,t2⟩:=q6 ho
       exact⟨t1,fun r C β a w m2 K Q hf hs hr hfree hK=>t2 r C β a w m2 K Q hf hs hr hfree hK⟩
     · cases h
   · rename_i hw
     simp only[Bool.and_eq_true] at hw
     exact opW_ok hE hcf hw.2 h hoi
 · rename_i hup
   split at h
   · cases h
   · rename_i s1 hg
     cases h
     obtain⟨g1,g2,gm,g3,_⟩:=guard_ok hg
     refine⟨g3,g1,g2,gm,fun l' id x hl hx=>(by rcases hl with hl|⟨_,hl⟩<;>cases hl;cases hx),fun _ _ _ h=>(by cases h),fun t ht=>(by cases ht),fun ho=>⟨guard_tm hg ho,fun r C β a w m2 K Q hf hs hr hfree hK=>?_⟩⟩
     unfold wpOpIn
     simp only[hoi,guard_mask hg ho hf,Bool.false_eq_true,if_false]
     refine⟨fun _ _=>trivial,?_⟩
     have:=hK β undef w (Ext.refl β) (fun _ _=>rfl) rfl (by show Rel C β (m2++[]) w;rw[List.append_nil];exact hr)
     rw[hoi] at this
     exact this
   · rename_i s1 hg
     obtain⟨g1,g2,gm,g3,_⟩:=guard_ok hg
     split at h
     · rename_i v' l ob hle haop
       simp only[Bool.and_eq_true] at hle
       have hle1:b+s1.str≤lim:=Nat.le_of_ble_eq_true hle.1
       have hle2:1≤s1.str:=Nat.le_of_ble_eq_true hle.2
       split at h
       · rename_i s2 hin hneed
         cases h
         obtain⟨n1,n2,n3,nm,n4,n5⟩:=need_ok hneed
         refine⟨g3.trans n4,n2.trans g1,n3.trans g2,nm.trans gm,fun l' id x hl hx=>(by rcases hl with hl|⟨_,hl⟩<;>cases hl;have:=inR_ok hin hx;rw[g3.str] at this;exact this),fun _ _ _ h=>(by cases h),fun t ht=>(by cases ht),fun ho=>?_⟩
         have ho1:=ho.of n4
         have htm:=guard_tm hg ho1
         refine⟨n1.trans htm,fun r C β a w m2 K Q hf hs hr hfree hK=>?_⟩
         rw[htm] at haop
         obtain⟨β',u,w',e1,e2,e3,e4,e5⟩:=aop_eff haop (n5 ho) hf hr hs (hfree b (Nat.le_refl _) (by rw[← g3.str];omega)) (gid_ne (by omega))
         unfold wpOpIn
         simp only[hoi,guard_mask hg ho1 hf,if_true]
         refine⟨fun _ _=>trivial,?_⟩
         rw[semAt_of haop,e1]
         have:=hK β' u w' e2 (fun id hid=>e3 id (by rw[← g3.str] at hid;omega)) e4 e5
         rw[hoi] at this
         exact this
       · cases h
     · rename_i v' e ob hle haop
       simp only[Bool.and_eq_true] at hle
       have hle1:b+s1.str≤lim:=Nat.le_of_ble_eq_true hle.1
       have hle2:1≤s1.str:=Nat.le_of_ble_eq_true hle.2
       split at h
       · rename_i s2 hne hneed
         cases h
         obtain⟨n1,n2,n3,nm,n4,n5⟩:=need_ok hneed
         refine⟨g3.trans n4,n2.trans g1,n3.trans g2,nm.trans gm,fun l' id x hl hx=>(by rcases hl with hl|⟨_,hl⟩<;>cases hl),fun t ib bk he=>?_,fun t ht=>?_,fun ho=>?_⟩
         · cases he
           simp only[efxNe,Bool.and_eq_true,Bool.not_eq_true'] at hne
           exact⟨Nat.eq_of_beq_eq_true hne.1,fun e=>by subst e;rw[Nat.beq_refl] at hne;exact absurd hne.2 (by simp),by rw[← g3.str];exact hle2⟩
         · simp only[AStep.tids,List.mem_singleton] at ht
           subst ht
           exact⟨(aop_more hup haop (Sub.refl _)).2,by rw[wrOp,hup,Bool.or_true]⟩
         · have ho1:=ho.of n4
           have htm:=guard_tm hg ho1
           refine⟨n1.trans htm,fun r C β a w m2 K Q hf hs hr hfree hK=>?_⟩
           rw[htm] at haop
           obtain⟨β',u,w',e1,e2,e3,e4,e5⟩:=aop_upd (aop_more hup haop hs).1 hup (n5 ho) hf hr (hfree b (Nat.le_refl _) (by rw[← g3.str];omega)) (gid_ne (by omega))
           unfold wpOpIn
           simp only[hoi,guard_mask hg ho1 hf,if_true]
           refine⟨fun _ _=>trivial,?_⟩
           rw[semAt_of haop]
           have:=hK β' u w' e2 (fun id hid=>e3 id (by rw[← g3.str] at hid;omega)) e4 e5
           rw[hoi] at this
           rcases e1 with e1|⟨e1,rfl⟩
           · rw[e1];exact this
           · rw[e1];exact this
       · cases h
     · cases h
theorem look_filtE {ops:Array Oper} {ts:List (Nat × Nat)} {n0 str i:Nat}:∀{m:AMem} {id:Nat} {x:ABlk},look (filtE ops ts n0 str i m) id=some x→look m id=some x∧keepE ops ts n0 str i id=true
 | [],_,_,h=>by cases h
 | (j,b)::r,id,x,h=>by
  simp only[filtE] at h
  by_cases e:id=j
  · subst e
    split at h
    · rename_i hk
      rw[look_eq] at h ⊢
      exact⟨h,hk⟩
    · rename_i hk
      have:=(look_filtE h).2
      rw[hk] at this
      cases this
  · split at h
    · rw[look_ne e] at h ⊢
      exact look_filtE h
    · rw[look_ne e]
      exact look_filtE h
theorem opsE_ok (hE:EnvOk E) (hcf:CallOk E cf) {ops:Array Oper} {wm:Bool} {vis:Nat→AMem→AMem} {keep:Nat→Nat→Prop} (hvs:∀i m id x,look (vis i m) id=some x→look m id=some x∧keep i id) {n0:Nat} {tm0:List AV} {f0:Nat→Option ABlk}:∀{l:List Oper} {i:Nat} {acc acc':List (Nat × Nat)} {s s':St} {V0:Nat→AV} {Z0:Nat→AStep} {M0:Nat→AMem},
 opsE E cf wm ops vis n0 l i acc s=some (acc',s')→(∀j,j<l.length→l[j]? =ops[i+j]?)→
 ∃ (V:Nat→AV) (Z:Nat→AStep) (mi:Nat→AMem),(∀j,j<i→V j=V0 j∧Z j=Z0 j∧mi j=M0 j)∧(∀p∈acc,p∈acc')∧Grow s s'∧s'.n=s.n∧s'.ms=s.ms∧
  (∀j,i≤j→j<i+l.length→(∀l' id x,(Z j= .news l'∨∃ps,Z j= .many ps l')→look l' id=some x→rng n0 s.str j id)∧(∀t ib bk,Z j= .efx (.app t ib bk)→rng n0 s.str j ib)∧(∀t∈(Z j).tids,(∃x,look (mi j) t=some x)∧(j,t)∈acc'∧∀o,ops[j]? =some o→wrOp E.P o.op=true)∧
   (∀id x,look (mi j) id=some x→keep j id))∧
  (Obs s'→s.tm=frD ops V0 tm0 (fun _=>true) i→(∀id,look s.m id=memF Z0 f0 (fun _=>true) i id)→
   s'.tm=frD ops V tm0 (fun _=>true) (i+l.length)∧(∀id,look s'.m id=memF Z f0 (fun _=>true) (i+l.length) id)∧
   ∀j,i≤j→j<i+l.length→∀o,ops[j]? =some o→(∀id x,look (mi j) id=some x→memF Z f0 (fun _=>true) j id=some x)∧
    ∀r C,XStep r E.P C ops j (mask (o.looksAt ops) 0 (frD ops V tm0 (fun _=>true) j)) (mi j) (n0+j*s.str) (n0+j*s.str+s.str) (V j) (Z j))
 | [],i,acc,acc',s,s',V0,Z0,M0,h,_=>by
  simp only[opsE,Option.some.injEq,Prod.mk.injEq] at h
  obtain⟨rfl,rfl⟩:=h
  exact⟨V0,Z0,M0,fun _ _=>⟨rfl,rfl,rfl⟩,fun _ h=>h,Grow.refl s,rfl,rfl,fun j h1 h2=>by simp at h2;omega,fun _ ht hm=>⟨ht,hm,fun j h1 h2=>by simp at h2;omega⟩⟩
 | o :: r,i,acc,acc',s,s',V0,Z0,M0,h,hl=>by
  have hoi:ops[i]? =some o:=by simpa using (hl 0 (by simp)).symm
  simp only[opsE] at h
  split at h
  · rename_i v z s1 hop
    obtain⟨q1,q2,q3,qm,q4,q5,q6,q7⟩:=opE_ok hE hcf hop hoi
    let V1:Nat→AV:=fun j=>if j=i then v else V0 j
    let Z1:Nat→AStep:=fun j=>if j=i then z else Z0 j
    let M1:Nat→AMem:=fun j=>if j=i then vis i s.m else M0 j
    obtain⟨V,Z,mi,h1,h2,h3,h4,h5,h6,h7⟩:=opsE_ok hE hcf hvs (tm0:=tm0) (f0:=f0) (V0:=V1) (Z0:=Z1) (M0:=M1) h (fun j hj=>by
     have:=hl (j+1) (by simp;omega)
     simp only[List.getElem?_cons_succ] at this
     rw[this]
     congr 1
     omega)
    have hVi:V i=v:=by rw[(h1 i (by omega)).1];simp[V1]
    have hZi:Z i=z:=by rw[(h1 i (by omega)).2.1];simp[Z1]
    have hMi:mi i=vis i s.m:=by rw[(h1 i (by omega)).2.2];simp[M1]
    have g1:Grow s ({s1 with m:=z.on s1.m}.put o.dst v):=⟨q1.n,q1.ob,q1.po,q1.str,q1.rd⟩
    have hstr:({s1 with m:=z.on s1.m}.put o.dst v).str=s.str:=q1.str
    refine⟨V,Z,mi,fun j hj=>⟨by rw[(h1 j (by omega)).1];simp[V1,show j≠i by omega],by rw[(h1 j (by omega)).2.1];simp[Z1,show j≠i by omega],by rw[(h1 j (by omega)).2.2];simp[M1,show j≠i by omega]⟩,
     fun p hp=>h2 p (List.mem_append.2 (.inl hp)),g1.trans h3,h4.trans q3,h5.trans qm,fun j hj1 hj2=>?_,fun ho ht hm=>?_⟩
    · by_cases e:j=i
      · subst e
        rw[hZi,hMi]
        refine⟨fun l' id x hl' hx=>q4 l' id x hl' hx,fun t ib bk he=>?_,fun t ht=>⟨(q6 t ht).1,h2 _ (List.mem_append.2 (.inr (List.mem_map_of_mem ht))),fun o' ho'=>by rw[hoi] at ho';cases ho';exact(q6 t ht).2⟩,fun id x hx=>(hvs _ _ _ _ hx).2⟩
        obtain⟨e1,_,e3⟩:=q5 t ib bk he
        subst e1
        exact⟨Nat.le_refl _,by omega⟩
      · have:=h6 j (by omega) (by simp at hj2;omega)
        rwa[hstr] at this
    · have ho1:Obs s1:=(ho.of h3).congr (s':=s1) rfl rfl
      obtain⟨t1,t2⟩:=q7 ho1
      have htm1:({s1 with m:=z.on s1.m}.put o.dst v).tm=frD ops V1 tm0 (fun _=>true) (i+1):=by
       show putA s1.tm o.dst v=_
       simp only[frD,if_true,hoi,Option.bind_some]
       rw[t1,ht,frD_congr ops tm0 _ i (V:=V0) (V':=V1) (fun j hj=>by simp[V1,show j≠i by omega])]
       simp[V1]
      have hcong:∀{A B:Nat→AStep} k,(∀j,j<k→A j=B j)→memF A f0 (fun _=>true) k=memF B f0 (fun _=>true) k:=by
       intro A B k
       induction k with
       |zero=>intro _;rfl
       |succ k ih=>intro hh;simp only[memF,if_true];rw[ih fun j hj=>hh j (by omega),hh k (by omega)]
      have hm1:∀id,look ({s1 with m:=z.on s1.m}.put o.dst v).m id=memF Z1 f0 (fun _=>true) (i+1) id:=fun id=>by
       show look (z.on s1.m) id=_
       rw[q2]
       rw[look_on hm (fun t ht=>by
        obtain⟨x,hx⟩:=(q6 t ht).1
        exact⟨x,(hvs _ _ _ _ hx).1⟩) (fun t ib bk he=>(q5 t ib bk he).2.1) id]
       simp only[memF,if_true]
       rw[show Z1 i=z by simp[Z1]]
       exact stepF_point (congrFun (hcong (A:=Z0) (B:=Z1) i fun j hj=>by simp[Z1,show j≠i by omega]) id)
      obtain⟨u1,u2,u3⟩:=h7 ho htm1 hm1
      have e1:i+(o::r).length=i+1+r.length:=by simp;omega
      rw[e1]
      refine⟨u1,u2,fun j hj1 hj2 o' ho'=>?_⟩
      by_cases e:j=i
      · subst e
        rw[hoi] at ho'
        cases ho'
        have e1:frD ops V tm0 (fun _=>true) j=s.tm:=by
         rw[ht]
         exact frD_congr ops tm0 _ j fun j' hj'=>by rw[(h1 j' (by omega)).1];simp[V1,show j'≠j by omega]
        refine⟨fun id x hx=>?_,fun r' C=>?_⟩
        · rw[hMi] at hx
          have:=(hvs _ _ _ _ hx).1
          rw[hm id] at this
          rw[← this]
          exact congrFun (hcong (A:=Z) (B:=Z0) j fun j' hj'=>by rw[(h1 j' (by omega)).2.1];simp[Z1,show j'≠j by omega]) id
        · rw[e1,hVi,hZi,hMi]
          exact t2 r' C
      · have:=u3 j (by omega) hj2 o' ho'
        rw[hstr] at this
        exact this
  · cases h
theorem eqP_eq:∀{l q:List (Nat × Nat)},eqP l q=true→l=q
 | [],[],_=>rfl
 | [],_::_,h=>by simp[eqP] at h
 |_::_,[],h=>by simp[eqP] at h
 |(a,b)::r,(c,d)::q,h=>by
  simp only[eqP,Bool.and_eq_true] at h
  rw[Nat.eq_of_beq_eq_true h.1,Nat.eq_of_beq_eq_true h.2.1,eqP_eq h.2.2]
theorem regV_ok (hE:EnvOk E) (hcf:CallOk E cf) {ops:Array Oper} {wm:Bool} {vis:Nat→AMem→AMem} {keep:Nat→Nat→Prop} (hvs:∀i m id x,look (vis i m) id=some x→look m id=some x∧keep i id) {s s1:St} {acc':List (Nat × Nat)} {id:Nat}
 (h1:opsE E cf wm ops vis s.n ops.toList 0 [] s=some (acc',s1)) (hdown:downB ops=true) (hap:apartB ops ops.size=true)
 (hkeep1:∀i id,i<ops.size→keep i id→∀j,j<ops.size→rng s.n s.str j id→waits ops i j=true)
 (hkeep2:∀i id,i<ops.size→keep i id→∀j,j<ops.size→(j,id)∈acc'→(∀o,ops[j]? =some o→wrOp E.P o.op=true)→waits ops i j=true∨waits ops j i=true∨i=j)
 (hord:∀i j,i<ops.size→j<ops.size→∀t t',(i,t)∈acc'→(j,t')∈acc'→(∀o,ops[i]? =some o→wrOp E.P o.op=true)→(∀o,ops[j]? =some o→wrOp E.P o.op=true)→i<j→waits ops j i=true):
 Grow s {s1 with n:=s.n+ops.size*s.str}∧s1.ms=s.ms∧
 (Obs s1→∀(ro:Option Nat) (C:Ctx) (β:Nm) (a:Act) (w:World) (Q:Exit→Act→World→Prop),FrOk β s.tm a.tmps→Rel C β s.m w→(∀id,s.n≤id→id<s.n+ops.size*s.str→β id=none)→
  (∀β' a' w',Ext β β'→(∀id,id<s.n∨s.n+ops.size*s.str≤id→β' id=β id)→FrOk β' s1.tm a'.tmps→a'.defers=a.defers→Rel C β' s1.m w'→Q .normal a' w')→(Code.region id ops true).wpIn (FW ro) 0 E.P Q a w):=by
 obtain⟨V,Z,mi,_,_,h3,h4,h5,h6,h7⟩:=opsE_ok hE hcf hvs (tm0:=s.tm) (f0:=look s.m) (V0:=fun _=>.any) (Z0:=fun _=>.news []) (M0:=fun _=>[]) (i:=0) h1 (fun j _=>by simp)
 rw[Nat.zero_add] at h6 h7
 have hlen:ops.toList.length=ops.size:=by simp
 rw[hlen] at h6 h7
 refine⟨⟨by show s.n≤s.n+ops.size*s.str;omega,h3.ob,h3.po,h3.str,h3.rd⟩,h5,fun ho1 ro C β a w Q hf hr hfree hQ=>?_⟩
 obtain⟨t1,t2,t3⟩:=h7 ho1 rfl (fun _=>rfl)
 have hfree:∀id,s.n≤id→id<s.n+ops.size*s.str→β id=none:=hfree
 have hQ:∀β' a' w',Ext β β'→(∀id,id<s.n∨s.n+ops.size*s.str≤id→β' id=β id)→FrOk β' s1.tm a'.tmps→a'.defers=a.defers→Rel C β' s1.m w'→Q .normal a' w':=hQ
 refine wpIn_region_any hE.mixed ?_
 -- which names an operation may see
 have hkeep:∀i,i<ops.size→∀id x,look (mi i) id=some x→(∀j,j<ops.size→rng s.n s.str j id→waits ops i j=true)∧∀j,j<ops.size→id∈(Z j).tids→waits ops i j=true∨waits ops j i=true∨i=j:=by
  intro i hi id x hx
  have hk:=(h6 i (Nat.zero_le _) hi).2.2.2 id x hx
  refine⟨hkeep1 i id hi hk,fun j hj ht=>?_⟩
  obtain⟨_,g2,g3⟩:=(h6 j (Nat.zero_le _) hj).2.2.1 id ht
  exact hkeep2 i id hi hk j hj g2 g3
 have hZ:ZOk Z s.n s.str ops.size:=⟨fun k l id x hk hz=>(h6 k (Nat.zero_le _) hk).1 l id x (.inl hz),fun k t ib bk hk=>(h6 k (Nat.zero_le _) hk).2.1 t ib bk,fun k ps l id x hk hz=>(h6 k (Nat.zero_le _) hk).1 l id x (.inr ⟨ps,hz⟩)⟩
 have hall:∀k,k≤ops.size→∀(V:Nat→AV),frD ops V s.tm (fun j=>decide (j<k)) ops.size=frD ops V s.tm (fun _=>true) k:=fun k hk V=>frD_true ops V s.tm k ops.size hk
 have hmall:∀k,k≤ops.size→∀id,memF Z (look s.m) (fun j=>decide (j<k)) ops.size id=memF Z (look s.m) (fun _=>true) k id:=fun k hk id=>by
  have e:=memF_skip (f0:=look s.m) hZ (l:=fun j=>decide (j<k)) (id:=id) (K:=k) (ops.size-k) (by omega) fun j h1 _ hl=>by simp at hl;omega
  rw[show k+(ops.size-k)=ops.size by omega] at e
  rw[e]
  exact memF_agree hZ k hk fun j hj _=>by simp[hj]
 by_cases hs0:s.str=0∧ops.size=0
 · -- nothing to do
   have he:ops.size=0:=hs0.2
   have e1:=t1
   rw[he]
   refine⟨?_,?_⟩
   · refine List.eq_nil_iff_forall_not_mem.2 fun i hi=>?_
     obtain⟨_,oi,hoi,_⟩:=mem_ready.1 hi
     have:=(Array.getElem?_eq_some_iff.1 hoi).1
     omega
   · refine hQ β a _ (Ext.refl β) (fun _ _=>rfl) ?_ rfl ?_
     · rw[t1,he];exact hf
     · refine hr.drew1.weaken fun id x hx=>?_
       rw[t2 id,he] at hx
       exact hx
 · have hgo:=draw_goE (P:=E.P) (C:=C) (ops:=ops) (r:=ro) (D:=a.defers) (V:=V) (Z:=Z) (tm0:=s.tm) (f0:=look s.m) (b:=s.n) (str:=s.str) (q:=ops.size) (β0:=β) (Q:=Q) (mi:=mi)
    hdown hap rfl hZ (fun i hi t ht=>((h6 i (Nat.zero_le _) hi).2.2.1 t ht).1) (fun i j hi hj t ht t' ht' hij=>?_)
    (fun i hi id x hx=>⟨?_,hkeep i hi id x hx⟩) (fun i hi o hoi=>?_) (fun a' w' β' m f1 f2 f3 f4 f5 f6=>?_) ops.size (Array.replicate ops.size false) a {w with drawn:=w.drawn+1} β ?_ ?_ ?_
   · exact hgo
   · obtain⟨_,m1,n1⟩:=(h6 i (Nat.zero_le _) hi).2.2.1 t ht
     obtain⟨_,m2,n2⟩:=(h6 j (Nat.zero_le _) hj).2.2.1 t' ht'
     exact hord i j hi hj t t' m1 m2 n1 n2 hij
   · rw[hmall i (by omega) id]
     exact(t3 i (Nat.zero_le _) hi _ (Array.getElem?_eq_getElem hi)).1 id x hx
   · rw[hall i (by omega)]
     exact(t3 i (Nat.zero_le _) hi o hoi).2 ro C
   · refine hQ β' a' w' f5 f6 (by rw[t1];exact f1) f2 (f4.weaken fun id x hx=>?_)
     rw[t2 id] at hx
     rw[f3 id];exact hx
   · exact⟨by simp,fun j oj _ hl=>(by rw[getD_replicate_false] at hl;cases hl),fun t _ ht=>getD_in (by simpa using ht) (getD_replicate_false _ _)⟩
   · have:(fun j=>!(Array.replicate ops.size false).getD j false)=fun _=>true:=by funext j;rw[getD_replicate_false];rfl
     rw[this];simp
   · have e:(fun j=>(Array.replicate ops.size false).getD j false)=fun _=>false:=by funext j;exact getD_replicate_false _ _
     have hfd:∀k,frD ops V s.tm (fun _=>false) k=s.tm:=by
      intro k
      induction k with
      |zero=>rfl
      |succ k ih=>simp only[frD];rw[ih];rfl
     have hmd:∀k,memF Z (look s.m) (fun _=>false) k=look s.m:=by
      intro k
      induction k with
      |zero=>rfl
      |succ k ih=>simp only[memF];rw[ih];rfl
     refine⟨by rw[e,hfd];exact hf,rfl,⟨s.m,fun id=>by rw[e,hmd],hr.drew1⟩,fun j hj _ id hrg=>?_,Ext.refl β,fun _ _=>rfl⟩
     refine hfree id (by unfold rng at hrg;omega) ?_
     have:j*s.str+s.str≤ops.size*s.str:=by rw[← Nat.succ_mul];exact Nat.mul_le_mul_right _ hj
     unfold rng at hrg
     omega
theorem regE_ok (hE:EnvOk E) (hcf:CallOk E cf) {ops:Array Oper} {s s':St} {id:Nat} (h:regE E cf ops s=some s'):Grow s s'∧s'.ms=s.ms∧
 (Obs s'→∀(ro:Option Nat) (C:Ctx) (β:Nm) (a:Act) (w:World) (Q:Exit→Act→World→Prop),FrOk β s.tm a.tmps→Rel C β s.m w→(∀id,s.n≤id→id<s'.n→β id=none)→
  (∀β' a' w',Ext β β'→(∀id,id<s.n∨s'.n≤id→β' id=β id)→FrOk β' s'.tm a'.tmps→a'.defers=a.defers→Rel C β' s'.m w'→Q .normal a' w')→(Code.region id ops true).wpIn (FW ro) 0 E.P Q a w):=by
 unfold regE at h
 split at h
 · rename_i ts s0 hd h0
   split at h
   · rename_i ts' s1 h1
     split at h
     · rename_i hc
       simp only[Option.some.injEq] at h
       subst h
       simp only[Bool.and_eq_true] at hc
       obtain⟨hts,hch⟩:=hc
       have hts:=eqP_eq hts
       subst hts
       simp only[drawE,Bool.and_eq_true] at hd
       obtain⟨_,hdown,hap⟩:=hd
       refine(fun K=>⟨K.1,K.2.1,fun ho=>K.2.2 (ho.congr (s':=s1) rfl rfl)⟩) (regV_ok hE hcf (keep:=fun i id=>keepE ops ts' s.n s.str i id=true) (id:=id) (fun i m id x hx=>look_filtE hx) h1 hdown hap (fun i id hi hk j hj hrg=>?_) (fun i id hi hk j hj hm _=>?_) (fun i j hi hj t t' m1 m2 _ _ hij=>?_))
       · simp only[keepE,Bool.and_eq_true] at hk
         have h1:Nat.ble s.n id=true:=Nat.ble_eq_true_of_le (by unfold rng at hrg;omega)
         have hlt:id<s.n+ops.size*s.str:=by
          have:j*s.str+s.str≤ops.size*s.str:=by rw[← Nat.succ_mul];exact Nat.mul_le_mul_right _ hj
          unfold rng at hrg;omega
         have h2:Nat.blt id (s.n+ops.size*s.str)=true:=by rw[Nat.blt_eq];exact hlt
         have hdiv:(id-s.n) / s.str=j:=by
          unfold rng at hrg
          have hp:0<s.str:=by omega
          rw[Nat.div_eq_iff hp]
          omega
         have hk1:=hk.1
         rw[h1,h2,Bool.and_self] at hk1
         simp only[hdiv] at hk1
         exact hk1
       · simp only[keepE,Bool.and_eq_true] at hk
         have:=List.all_eq_true.1 hk.2 _ hm
         simp only[Nat.beq_refl,Bool.not_true,Bool.false_or,Bool.or_eq_true] at this
         rcases this with h|h|h
         · exact .inl h
         · exact .inr (.inl h)
         · exact .inr (.inr (Nat.eq_of_beq_eq_true h))
       · have h1:=List.all_eq_true.1 hch _ m1
         have h2:=List.all_eq_true.1 h1 _ m2
         simp only[Bool.or_eq_true] at h2
         rcases h2 with h|h
         · have:=Nat.le_of_ble_eq_true h;omega
         · exact h
     · cases h
   · cases h
 · cases h
theorem look_filtW {ops:Array Oper} {n0 str i:Nat}:∀{m:AMem} {id:Nat} {x:ABlk},look (filtW ops n0 str i m) id=some x→look m id=some x∧keepW ops n0 str i id=true
 | [],_,_,h=>by cases h
 | (j,b)::r,id,x,h=>by
  simp only[filtW] at h
  by_cases e:id=j
  · subst e
    split at h
    · rename_i hk
      rw[look_eq] at h ⊢
      exact⟨h,hk⟩
    · rename_i hk
      have:=(look_filtW h).2
      rw[hk] at this
      cases this
  · split at h
    · rw[look_ne e] at h ⊢
      exact look_filtW h
    · rw[look_ne e]
      exact look_filtW h
theorem ordW_ok {ops:Array Oper} {i:Nat}:∀{l:List Oper} {j:Nat},ordW ops i l j=true→∀k,k<l.length→∀o,l[k]? =some o→seesM o.op=true→i=j+k∨waits ops i (j+k)=true∨waits ops (j+k) i=true
 | [],_,_,k,hk,_,_,_=>by simp at hk
 | o::r,j,h,k,hk,o',ho,hs=>by
  simp only[ordW,Bool.and_eq_true] at h
  cases k with
  |zero=>
   simp at ho
   subst ho
   have h1:=h.1
   rw[hs] at h1
   simp only[Bool.not_true,Bool.false_or,Bool.or_eq_true] at h1
   rcases h1 with h1|h1|h1
   · exact .inl (by rw[Nat.add_zero];exact Nat.eq_of_beq_eq_true h1)
   · exact .inr (.inl h1)
   · exact .inr (.inr h1)
  |succ k=>
   have:=ordW_ok h.2 k (by simpa using hk) o' (by simpa using ho) hs
   rwa[show j+(k+1)=j+1+k by omega]
theorem wOkG_ok {P:Program} {ops:Array Oper}:∀{l:List Oper} {i:Nat},wOkG P ops l i=true→∀k,k<l.length→∀o,l[k]? =some o→wrOp P o.op=true→ordW ops (i+k) ops.toList 0=true
 | [],_,_,k,hk,_,_,_=>by simp at hk
 | o::r,i,h,k,hk,o',ho,hs=>by
  simp only[wOkG,Bool.and_eq_true] at h
  cases k with
  |zero=>
   simp at ho
   subst ho
   have h1:=h.1
   rw[hs] at h1
   simpa using h1
  |succ k=>
   have:=wOkG_ok h.2 k (by simpa using hk) o' (by simpa using ho) hs
   rwa[show i+(k+1)=i+1+k by omega]
theorem seesM_wr {P:Program} {o:Op} (h:wrOp P o=true):seesM o=true:=by
 unfold seesM
 split<;>first|rfl|(simp[wrOp,wrCall,updOp] at h)
theorem waits_lt {ops:Array Oper} (hdown:downB ops=true) {i j:Nat} (hw:waits ops i j=true):j<i:=by
 have hr:=waits_reach hw
 have one:∀{i:Nat} {o:Oper} {e:Edge},ops[i]? =some o→e∈o.after.toList→Region.binds .any e=true→e.on<i:=by
  intro i o e ho he hb
  have hi:i<ops.size:=(Array.getElem?_eq_some_iff.1 ho).1
  have h1:=List.all_eq_true.1 hdown i (List.mem_range.2 hi)
  rw[ho] at h1
  have h2:=List.all_eq_true.1 h1 e he
  simp only[hb,Bool.not_true,Bool.false_or] at h2
  rwa[Nat.blt_eq] at h2
 have key:∀{i j:Nat},Reach ops i j→j<i:=by
  intro i j h
  induction h with
  |one ho he hb=>exact one ho he hb
  |step ho he hb _ ih=>exact Nat.lt_trans ih (one ho he hb)
 exact key hr
theorem regW_ok (hE:EnvOk E) (hcf:CallOk E cf) {ops:Array Oper} {s s':St} {id:Nat} (hw:wOk E.P ops=true) (h:regW E cf ops s=some s'):Grow s s'∧s'.ms=s.ms∧
 (Obs s'→∀(ro:Option Nat) (C:Ctx) (β:Nm) (a:Act) (w:World) (Q:Exit→Act→World→Prop),FrOk β s.tm a.tmps→Rel C β s.m w→(∀id,s.n≤id→id<s'.n→β id=none)→
  (∀β' a' w',Ext β β'→(∀id,id<s.n∨s'.n≤id→β' id=β id)→FrOk β' s'.tm a'.tmps→a'.defers=a.defers→Rel C β' s'.m w'→Q .normal a' w')→(Code.region id ops true).wpIn (FW ro) 0 E.P Q a w):=by
 simp only[wOk,drawE,Bool.and_eq_true] at hw
 obtain⟨_,hg,_,hdown,hap⟩:=hw
 have hlen:ops.toList.length=ops.size:=by simp
 have hpair:∀i j,i<ops.size→j<ops.size→(∀o,ops[i]? =some o→wrOp E.P o.op=true)→(∀o,ops[j]? =some o→seesM o.op=true)→i=j∨waits ops i j=true∨waits ops j i=true:=by
  intro i j hi hj h1 h2
  have e1:ops.toList[i]? =some ops[i]:=by simp[hi]
  have e2:ops.toList[j]? =some ops[j]:=by simp[hj]
  have g1:=wOkG_ok hg i (by rw[hlen];exact hi) _ e1 (h1 _ (Array.getElem?_eq_getElem hi))
  rw[Nat.zero_add] at g1
  have g2:=ordW_ok g1 j (by rw[hlen];exact hj) _ e2 (h2 _ (Array.getElem?_eq_getElem hj))
  rwa[Nat.zero_add] at g2
 unfold regW at h
 split at h
 · rename_i ts s1 h1
   simp only[Option.some.injEq] at h
   subst h
   refine(fun K=>⟨K.1,K.2.1,fun ho=>K.2.2 (ho.congr (s':=s1) rfl rfl)⟩) (regV_ok hE hcf (keep:=fun i id=>keepW ops s.n s.str i id=true∧∀o,ops[i]? =some o→seesM o.op=true) (id:=id) (fun i m id x hx=>?_) h1 hdown hap (fun i id hi hk j hj hrg=>?_) (fun i id hi hk j hj _ hwr=>?_) (fun i j hi hj t t' _ _ n1 n2 hij=>?_))
   · unfold visW at hx
     split at hx
     · rename_i o ho
       split at hx
       · rename_i hs
         obtain⟨q1,q2⟩:=look_filtW hx
         exact⟨q1,q2,fun o' ho'=>by rw[ho] at ho';cases ho';exact hs⟩
       · cases hx
     · cases hx
   · have hk:=hk.1
     simp only[keepW] at hk
     have h1:Nat.ble s.n id=true:=Nat.ble_eq_true_of_le (by unfold rng at hrg;omega)
     have hlt:id<s.n+ops.size*s.str:=by
      have:j*s.str+s.str≤ops.size*s.str:=by rw[← Nat.succ_mul];exact Nat.mul_le_mul_right _ hj
      unfold rng at hrg;omega
     have h2:Nat.blt id (s.n+ops.size*s.str)=true:=by rw[Nat.blt_eq];exact hlt
     have hdiv:(id-s.n) / s.str=j:=by
      unfold rng at hrg
      have hp:0<s.str:=by omega
      rw[Nat.div_eq_iff hp]
      omega
     rw[h1,h2,Bool.and_self] at hk
     simp only[hdiv] at hk
     exact hk
   · rcases hpair j i hj hi hwr hk.2 with h|h|h
     · exact .inr (.inr h.symm)
     · exact .inr (.inl h)
     · exact .inl h
   · rcases hpair i j hi hj n1 (fun o ho=>seesM_wr (n2 o ho)) with h|h|h
     · omega
     · have:=waits_lt hdown h;omega
     · exact h
 · cases h
end
end Go.Proofs.YtpgaplcdbbnblaaGreatDoor
end
/- The symbolic evaluator: soundness of code. No Go text is in sight. -/
section
namespace Go.Proofs.YtpgaplcdbbnblaaGreatDoor
open Go.RowKit
section
variable {E:Env} {cf:FuncId→List AV→St→Option (AV × St)} {yf:Nat→List AV→St→Option (AV × St)}
theorem nwD_false (N:Nat→AMem):∀k,nwD N (fun _=>false) k=[]
 |0=>rfl
 |k+1=>by simp only[nwD];rw[nwD_false N k];rfl
theorem frD_false (ops:Array Oper) (V:Nat→AV) (tm:List AV):∀k,frD ops V tm (fun _=>false) k=tm
 |0=>rfl
 |k+1=>by simp only[frD];rw[frD_false ops V tm k];rfl
theorem wpAnyIn_of_seq {F:Fence} {n:Nat} {P:Program} {ops:Array Oper} {md:Region.Mode} {Q':Exit→Act→World→Prop}:∀(l:List Oper) (k:Nat) (listed:Array Bool) (a:Act) (w:World),(∀j,l[j]? =ops[k+j]?)→
 Region.seqB md ops l.length k listed=true→wpListIn F n P ops Q' l a w→wpAnyIn F n P md ops Q' l.length listed a w
 | [],_,_,_,_,_,hB,h=>⟨by simpa[Region.seqB] using hB,h⟩
 |o::l,k,listed,a,w,hl,hB,h=>by
  have h0:ops[k]? =some o:=by simpa using (hl 0).symm
  simp only[List.length_cons,Region.seqB,Bool.and_eq_true,decide_eq_true_eq] at hB
  refine⟨fun h1=>(by rw[hB.1] at h1;cases h1),fun i hi=>?_⟩
  rw[hB.1] at hi
  have hik:i=k:=by simpa using hi
  subst hik
  have hw:wpOpIn F n P ops Q' i (wpListIn F n P ops Q' l) a w:=by unfold wpOpIn;simp only[h0];exact h
  exact wpOpIn_mono (fun a' w' h'=>wpAnyIn_of_seq l (i+1) _ a' w' (fun j=>by have:=hl (j+1);simpa[Nat.add_assoc,Nat.add_comm 1 j] using this) hB.2 h') hw
theorem regD_ok (hE:EnvOk E) (hcf:CallOk E cf) (hyf:YldOk E yf) {ops:Array Oper} {s s':St} {id:Nat} (h:regD E cf yf ops s=some s'):Grow s s'∧s'.ms=s.ms∧
 (Obs s'→∀(ro:Option Nat) (C:Ctx) (β:Nm) (a:Act) (w:World) (Q:Exit→Act→World→Prop),FrOk β s.tm a.tmps→Rel C β s.m w→(∀id,s.n≤id→id<s'.n→β id=none)→
  (∀β' a' w',Ext β β'→(∀id,id<s.n∨s'.n≤id→β' id=β id)→FrOk β' s'.tm a'.tmps→a'.defers=a.defers→Rel C β' s'.m w'→Q .normal a' w')→(Code.region id ops true).wpIn (FW ro) 0 E.P Q a w):=by
 unfold regD at h
 split at h
 · rename_i hok
   split at h
   · rename_i acc s1 hq
     generalize hqd:quietLen ops.toList=q at *
     simp only[drawOk,Bool.and_eq_true,Bool.or_eq_true] at hok
     obtain⟨k1,k2,k3,k4,k5,k6⟩:=hok
     have k4:q≤ops.size:=Nat.le_of_ble_eq_true k4
     have hlen:(ops.toList.take q).length=q:=by simp;omega
     obtain⟨V,N,_,h2,h3,h4,h5,hms,h6,h7⟩:=opsQ_ok hE hcf (tm0:=s.tm) (V0:=fun _=>.any) (N0:=fun _=>[]) (i:=0) hq (fun j hj=>by
      rw[hlen] at hj
      simp[List.getElem?_take,hj])
     rw[hlen,Nat.zero_add] at h2 h6 h7
     subst h2
     rw[newsAll_acc] at h
     obtain⟨g1,gm,g2⟩:=opsS_ok hE hcf hyf h
     have hstr:s1.str=s.str:=h3.str
     have gmid:Grow s1 {s1 with m:=s1.m++nwD N (fun _=>true) q,n:=s1.n+q*s1.str}:=⟨by show s1.n≤s1.n+q*s1.str;omega,fun b hb=>hb,fun p hp=>hp,rfl,rfl⟩
     have g0:=h3.trans (gmid.trans g1)
     refine⟨g0,gm.trans hms,fun ho ro C β a w Q hf hr hfree hQ=>?_⟩
     have ho1:Obs s1:=(ho.of g1).congr (s':=s1) rfl rfl
     obtain⟨t1,t2⟩:=h7 ho1 rfl
     have hn':s.n+q*s.str≤s'.n:=by have:=g1.n;simp only at this;rw[h5,hstr] at this;exact this
     refine wpIn_region_any hE.mixed ?_
     have hN:∀j id x,look ((fun j=>if j<q then N j else[]) j) id=some x→rng s.n s.str j id:=by
      intro j id x hx
      by_cases hj:j<q
      · simp only[hj,if_true] at hx;exact h6 j (Nat.zero_le _) hj id x hx
      · simp only[hj,if_false] at hx;cases hx
     have hNn:∀(l:Nat→Bool) k,k≤q→nwD (fun j=>if j<q then N j else[]) l k=nwD N l k:=by
      intro l k
      induction k with
      |zero=>intro _;rfl
      |succ k ih=>intro hk;simp only[nwD];rw[ih (by omega),if_pos (show k<q by omega)]
     have hgo:=draw_go (r:=ro) (D:=a.defers) (P:=E.P) (C:=C) (ops:=ops) (V:=V) (N:=fun j=>if j<q then N j else[]) (tm0:=s.tm) (m0:=s.m) (b:=s.n) (str:=s.str) (q:=q) (β0:=β) (Q:=Q)
      (mi:=fun j=>s.m++newsOf ops j (accN N j)) k1 k2 k3 k4 (by
       rcases k6 with h|h
       · exact .inl (Nat.eq_of_beq_eq_true h)
       · exact .inr h) hN ?_ ?_ ?_ q (Array.replicate ops.size false) a {w with drawn:=w.drawn+1} β ?_ ?_ ?_
     · rwa[show q+(ops.size-q)=ops.size by omega] at hgo
     · intro i hi id x hx
       rw[look_append] at hx
       cases hm:look s.m id with
       |some y=>rw[hm] at hx;cases hx;exact .inl rfl
       |none=>
        rw[hm] at hx
        obtain⟨p,p1,p2,p3⟩:=look_newsOf hx
        simp only[accN,List.mem_map,List.mem_range] at p1
        obtain⟨j,hj,rfl⟩:=p1
        exact .inr ⟨rfl,j,hj,p2,by simp only[show j<q by omega,if_true];exact p3⟩
     · intro i hi o hoi
       rw[frD_true ops V s.tm i q (by omega),if_pos hi]
       exact t2 i (Nat.zero_le _) hi o hoi ro C
     · intro a' w' β' f1 f2 f3 f4 f5
       rw[hNn _ q (Nat.le_refl _)] at f3
       have hwl:wpListIn (FW ro) 0 E.P ops Q (ops.toList.drop q) a' w':=by
        refine g2 ho ro C β' a' w' Q ?_ ?_ (fun id h1 h2=>?_) fun β'' a'' w'' y1 y2 y3 y4 y5=>?_
        · show FrOk β' s1.tm _
          rw[t1];exact f1
        · show Rel C β' (s1.m++_) w'
          rw[h4];exact f3
        · have h1:s1.n+q*s1.str≤id:=h1
          rw[h5,hstr] at h1
          rw[f5 id (.inr h1)]
          exact hfree id (by omega) h2
        · refine hQ β'' a'' w'' (f4.trans y1) (fun id hid=>?_) y3 (y4.trans f2) y5
          have i1:=g1.n
          simp only at i1
          rw[y2 id (by
           show id<s1.n+q*s1.str∨s'.n≤id
           rw[h5,hstr]
           rcases hid with h|h
           · exact .inl (by omega)
           · exact .inr h),f5 id (by
           rcases hid with h|h
           · exact .inl h
           · exact .inr (by omega))]
       have:=wpAnyIn_of_seq (F:=FW ro) (n:=0) (P:=E.P) (md:=.any) (Q':=Q) (ops.toList.drop q) q (firstN ops q) a' w' (fun j=>by simp[List.getElem?_drop]) (by simpa using k5) hwl
       simpa using this
     · refine⟨by simp,fun j oj _ hl=>(by rw[getD_replicate_false] at hl;cases hl),fun t _ ht=>getD_in (by simpa using ht) (getD_replicate_false _ _)⟩
     · have:(fun j=>!(Array.replicate ops.size false).getD j false)=fun _=>true:=by funext j;rw[getD_replicate_false];rfl
       rw[this];simp
     · have e:(fun j=>(Array.replicate ops.size false).getD j false)=fun _=>false:=by funext j;exact getD_replicate_false _ _
       refine⟨by rw[e,frD_false];exact hf,rfl,by rw[e,nwD_false,List.append_nil];exact hr.drew1,fun j hj _ id hrg=>?_,Ext.refl β,fun _ _=>rfl⟩
       refine hfree id (by unfold rng at hrg;omega) ?_
       have:j*s.str+s.str≤q*s.str:=by rw[← Nat.succ_mul];exact Nat.mul_le_mul_right _ hj
       unfold rng at hrg
       omega
   · cases h
 · cases h
theorem regX_ok (hE:EnvOk E) (hcf:CallOk E cf) (hyf:YldOk E yf) {ops:Array Oper} {s s':St} {id:Nat} (h:regX E cf yf ops s=some s'):Grow s s'∧s'.ms=s.ms∧
 (Obs s'→∀(ro:Option Nat) (C:Ctx) (β:Nm) (a:Act) (w:World) (Q:Exit→Act→World→Prop),FrOk β s.tm a.tmps→Rel C β s.m w→(∀id,s.n≤id→id<s'.n→β id=none)→
  (∀β' a' w',Ext β β'→(∀id,id<s.n∨s'.n≤id→β' id=β id)→FrOk β' s'.tm a'.tmps→a'.defers=a.defers→Rel C β' s'.m w'→Q .normal a' w')→(Code.region id ops true).wpIn (FW ro) 0 E.P Q a w):=by
 unfold regX at h
 split at h
 · rename_i hw
   exact regW_ok hE hcf hw h
 · split at h
   · exact regD_ok hE hcf hyf h
   · exact regE_ok hE hcf h
/-! ### results -/
def resS (tmps:Array Value):ResultVar→Sem Value
 | .tmp t=>pure (tmps.getD t undef)
 | .cell a t=>do loadVar t (← asAddr (tmps.getD a undef))
theorem resA_ok {P:Program} {C:Ctx} {β:Nm} {tm:List AV} {m:AMem} {w:World} {tmps:Array Value} (hf:FrOk β tm tmps) (hr:Rel C β m w):∀{l:List ResultVar} {rs:List AV} {ob:List Bool},resA P tm m l=some (rs,ob)→allT ob→
 ∃vs,γt β rs=some vs∧(l.mapM (resS tmps)).run P w= .ok vs w
 | [],rs,ob,h,_=>by simp only[resA,Option.some.injEq,Prod.mk.injEq] at h;obtain⟨rfl,rfl⟩:=h;exact⟨[],rfl,rfl⟩
 | .tmp t::r,rs,ob,h,ho=>by
  simp only[resA] at h
  split at h
  · rename_i x l ob' hx hl
    simp only[Option.some.injEq,Prod.mk.injEq] at h
    obtain⟨rfl,rfl⟩:=h
    obtain⟨vs,h1,h2⟩:=resA_ok hf hr hl ho
    rcases hf.2 t _ hx with h3|⟨v,h3,h4⟩
    · cases h3
    · refine⟨v::vs,?_,?_⟩
      · simp only[γt]
        rw[show γ1 β (.c x)=some v from h3,h1]
      · rw[List.mapM_cons,Sem.run_bind]
        have e:(resS tmps (.tmp t)).run P w= .ok v w:=by simp[resS,h4]
        rw[e]
        simp[h2]
  · rename_i x l ob' hx hl
    simp only[Option.some.injEq,Prod.mk.injEq] at h
    obtain⟨rfl,rfl⟩:=h
    obtain⟨vs,h1,h2⟩:=resA_ok hf hr hl ho
    rcases hf.2 t _ hx with h3|⟨v,h3,h4⟩
    · cases h3
    · refine⟨v::vs,?_,?_⟩
      · simp only[γt]
        rw[show γ1 β (.agg x)=some v from h3,h1]
      · rw[List.mapM_cons,Sem.run_bind]
        have e:(resS tmps (.tmp t)).run P w= .ok v w:=by simp[resS,h4]
        rw[e]
        simp[h2]
  · cases h
 | .cell a t ::r,rs,ob,h,ho=>by
  simp only[resA] at h
  split at h
  · rename_i x l ob' hx hl
    split at h
    · rename_i u news ob'' hload
      simp only[Option.some.injEq,Prod.mk.injEq] at h
      obtain⟨rfl,rfl⟩:=h
      rw[allT_append] at ho
      obtain⟨vs,h1,h2⟩:=resA_ok hf hr hl ho.2
      rcases hf.2 a _ hx with h3|⟨v,h3,h4⟩
      · subst h3;simp[aLoad] at hload
      · obtain⟨β',y,w',e1,e2,e3,e4,e5⟩:=aLoad_ok (lo:=0) (hi:=0) hload ho.1 h3 hr (Sub.refl m)
        have hβ:β'=β:=by funext i;exact e3 i (.inr (Nat.zero_le _))
        subst hβ
        -- the address
        have hptr:∃id k j,x= .c (.ptr id k j)∧((∃z,u= .c z)∨∃z,u= .agg z):=by
         unfold aLoad at hload
         split at hload
         · split at hload
           · cases hload;exact⟨_,_,_,rfl,.inr ⟨_,rfl⟩⟩
           · cases hload;exact⟨_,_,_,rfl,.inl ⟨_,rfl⟩⟩
           · cases hload
         · cases hload
        obtain⟨id,k,j,rfl,hu⟩:=hptr
        obtain⟨L,hL,hn,rfl⟩:=γc_ptr h3
        have hrun:(loadVar t ⟨L.b,L.o+(k*L.s+j),none⟩).run P w= .ok y w':=by
         have e1':(liftV (loadVar t ⟨L.b,L.o+(k*L.s+j),none⟩)).run P w= .ok (.value y) w':=e1
         unfold liftV at e1'
         rw[Sem.run_bind] at e1'
         cases hlv:(loadVar t ⟨L.b,L.o+(k*L.s+j),none⟩).run P w with
         |ok z w2=>rw[hlv] at e1';simp at e1';obtain⟨rfl,rfl⟩:=e1';rfl
         |halt z w2=>rw[hlv] at e1';cases e1'
        -- a load leaves the world
        have hw:w'=w:=by
         obtain⟨β2,y2,w2,d1,d2⟩:∃(b2:Nm) (y2:Value) (w2:World),(liftV (Instr.loadAt t (.pointer (some ⟨L.b,L.o+(k*L.s+j),none⟩)))).run P w= .ok (.value y2) w2∧w2=w:=by
          unfold aLoad at hload
          simp only at hload
          split at hload
          · rename_i yb ks hyb hlay
            obtain⟨q1,q2,_,_⟩:=lay_some hlay
            cases hload
            rw[allT_cons] at ho
            obtain⟨L',hL',hb⟩:=hr.blk id yb hyb
            rw[hL] at hL'
            cases hL'
            obtain⟨us,hus,hc⟩:=rd_ok hb ks j ho.1.1 ho.1.2
            have hvl:us.length=ks.length:=by rw[γs_length hus,rd_length]
            have hl2:=run_loadCells_list (P:=P) w ⟨L.b,L.o+(k*L.s+j),none⟩ us (fun i u hu=>by
             rw[Addr.add_lit]
             have:=(hc i u hu).2
             rwa[show L.o+(k*L.s+(j+i))=L.o+(k*L.s+j)+i by omega] at this)
            exact⟨β',.agg us.toArray,w,run_liftV (by simp[Instr.loadAt,Instr.sureAddr,loadVar,Sem.run_bind,run_aggB q1 w,run_sizeA q2 w,← hvl,hl2]),rfl⟩
          · rename_i yb ks hyb hlay
            obtain⟨q1,q2,q3,_⟩:=lay_some hlay
            cases hload
            rw[allT_cons] at ho
            obtain⟨L',hL',hb⟩:=hr.blk id yb hyb
            rw[hL] at hL'
            cases hL'
            obtain⟨us,hus,hc⟩:=rd_ok hb ks j ho.1.1 ho.1.2
            have q3:ks.length=1:=by simpa using q3
            have hul:us.length=1:=by rw[γs_length hus,rd_length,q3]
            obtain⟨z,rfl⟩:=List.length_eq_one_iff.1 hul
            have:=(hc 0 z rfl).2
            simp only[Nat.add_zero] at this
            exact⟨β',z,w,run_liftV (by simp[Instr.loadAt,Instr.sureAddr,loadVar,Sem.run_bind,run_aggB q1 w,load,Sem.run,this]),rfl⟩
          · cases hload
         rw[e1] at d1
         simp at d1
         rw[d1.2,d2]
        subst hw
        refine⟨y::vs,?_,?_⟩
        · have hy:γ1 β' u=some y:=by
           rcases hu with⟨z,rfl⟩|⟨z,rfl⟩<;>exact e4
          simp only[γt]
          rw[hy,h1]
        · rw[List.mapM_cons,Sem.run_bind]
          have e:(resS tmps (.cell a t)).run P w'= .ok y w':=by simp[resS,h4,asAddr,Sem.run_bind,hrun]
          rw[e]
          simp[h2]
    · cases h
  · cases h
theorem tupA_ok {β:Nm} {rs:List AV} {vs:List Value} (h:γt β rs=some vs):γ β (tupA rs)=some (if h:vs.toArray.size=1 then vs.toArray[0] else .tuple vs.toArray):=by
 match rs,vs,h with
 | [],vs,h=>simp only[γt,Option.some.injEq] at h;subst h;simp[tupA,γ,γt]
 | [x],vs,h=>
  simp only[γt] at h
  split at h
  · rename_i q qs hq hqs
    cases h
    cases hqs
    simp[tupA,γ_of1 hq]
  · cases h
 | x ::y::r,vs,h=>
  have hl:vs.length=r.length+2:=by
   have key:∀{l:List AV} {us:List Value},γt β l=some us→us.length=l.length:=by
    intro l
    induction l with
    |nil=>intro us hu;simp only[γt,Option.some.injEq] at hu;subst hu;rfl
    |cons p t ih=>
     intro us hu
     simp only[γt] at hu
     split at hu
     · rename_i q qs hq hqs;cases hu;simp[ih hqs]
     · cases hu
   have:=key h
   simpa using this
  have hne:¬vs.toArray.size=1:=by simp;omega
  simp only[tupA,γ]
  rw[h,dif_neg hne]
theorem γt_fr {β:Nm}:∀{args:List AV} {vs:List Value} {t:Nat} {av:AV},γt β args=some vs→args[t]? =some av→∃v,γ β av=some v∧vs[t]? =some v
 |args,vs,t,av,h,ht=>by
  obtain⟨q,hq,hg⟩:=γt_get h ht
  exact⟨q,γ_of1 hg,hq⟩
theorem γt_length {β:Nm}:∀{l:List AV} {us:List Value},γt β l=some us→us.length=l.length
 | [],us,hu=>by simp only[γt,Option.some.injEq] at hu;subst hu;rfl
 |p::t,us,hu=>by
  simp only[γt] at hu
  split at hu
  · rename_i q qs hq hqs;cases hu;simp[γt_length hqs]
  · cases hu
end
end Go.Proofs.YtpgaplcdbbnblaaGreatDoor
end
/- The symbolic evaluator: soundness of calls in place, of loops, of ranges over functions, of whole functions. No Go text is in sight. -/
section
namespace Go.Proofs.YtpgaplcdbbnblaaGreatDoor
open Go.RowKit
theorem FW_room (r:Option Nat) (k:Nat):(FW r).room k:=fun _ h=>by simp[FW,Fence.wide] at h
section
variable {r:Option Nat} {P:Program} {Q:Exit→Act→World→Prop} {a:Act} {w:World} {c:Code}
theorem FW_calm {b:Frame} {k:List Item} {cs:List Frame} (ha:(b.atR a k).about P w=none):(lone (b.atR a k) cs w).fenced P (FW r):=fenced_calm (n:=0) trivial (FW_room r _) ha
theorem wp_of_lwp (h:lwp r P c Q a w):(Code.loop c).wpIn (FW r) 0 P Q a w:=by
 intro b k cs hro _ _
 obtain⟨e,a',w',hq,harr⟩:=h b k cs hro
 exact⟨e,a',w',hq,.of_steps (.one (FW_calm rfl) stepR_loop) harr⟩
theorem lwp_peel (h:c.wpIn (FW r) 0 P (Exit.then (lwp r P c Q) Q) a w):lwp r P c Q a w:=by
 intro b k cs hro
 obtain⟨e,a₁,w₁,hq,harr⟩:=h b (.inLoop c::k) cs hro trivial (FW_room r _)
 cases e with
 |normal=>
  obtain⟨e₂,a₂,w₂,hq₂,harr₂⟩:=hq b k cs hro
  exact⟨e₂,a₂,w₂,hq₂,.of_steps (StepsIn.trans harr (.one (FW_calm rfl) stepR_inLoop)) harr₂⟩
 |exit id=>exact⟨_,a₁,w₁,hq,.pass (x:=.inLoop c) rfl (fun _ _=>.inl (by simp)) harr⟩
 |goto l=>exact⟨_,a₁,w₁,hq,.pass (x:=.inLoop c) rfl (fun _ _=>.inl (by simp)) harr⟩
 |ret=>exact⟨_,a₁,w₁,hq,.pass (x:=.inLoop c) rfl (fun _ _=>.inl (by simp)) harr⟩
 |panic ch=>exact⟨_,a₁,w₁,hq,.pass (x:=.inLoop c) rfl (fun _ _=>.inl (by simp)) harr⟩
 |outgrown=>exact⟨_,a₁,w₁,hq,.pass (x:=.inLoop c) rfl (fun _ _=>.inl (by simp)) harr⟩
theorem lwp_mono {Q':Exit→Act→World→Prop} (h:lwp r P c Q a w) (hq:∀e a w,Q e a w→Q' e a w):lwp r P c Q' a w:=
 fun b k cs hro=>let⟨e,a',w',q,x⟩:=h b k cs hro;⟨e,a',w',hq _ _ _ q,x⟩
theorem lwp_ind (I:Nat→Act→World→Prop) (round:∀n a w,I n a w→c.wpIn (FW r) 0 P (Exit.then (fun a' w'=>∃n',n'<n∧I n' a' w') Q) a w):∀n a w,I n a w→lwp r P c Q a w:=by
 intro n
 induction n using Nat.strongRecOn with
 |_ n ih=>
  intro a w h
  refine lwp_peel (wpIn_mono (round n a w h) fun e a' w' hq=>?_)
  cases e with
  |normal=>obtain⟨n',h1,h2⟩:=hq;exact ih n' h1 a' w' h2
  |_=>exact hq
def swp (r:Option Nat) (P:Program) (body c:Code) (Q:Exit→Act→World→Prop) (a:Act) (w:World):Prop:=
 ∀(b:Frame) (k:List Item) (cs:List Frame),b.roundOf=r→∃e a' w',Q e a' w'∧ArrivesIn (Machine.fenced P (FW r)) P (lone (b.atR a (.code c:: .inScope body::k)) cs w) b k cs e a' w'
theorem stepR_scope {b:Frame} {k:List Item} {cs:List Frame}:step P (lone (b.atR a (.code (.scope c)::k)) cs w)= .next (lone (b.atR a (.code c:: .inScope c::k)) cs w):=
 step_lone_go (by simp[stepG,stepG.exec,Frame.atR])
theorem stepR_inScope {b:Frame} {k:List Item} {cs:List Frame}:step P (lone (b.atR a (.inScope c::k)) cs w)= .next (lone (b.atR a k) cs w):=
 step_lone_go (by simp[stepG,stepG.exec,Frame.atR])
theorem wpIn_scope (h:swp r P c c Q a w):(Code.scope c).wpIn (FW r) 0 P Q a w:=by
 intro b k cs hro _ _
 obtain⟨e,a',w',hq,harr⟩:=h b k cs hro
 exact⟨e,a',w',hq,.of_steps (.one (FW_calm rfl) stepR_scope) harr⟩
theorem swp_go {body:Code} (h:c.wpIn (FW r) 0 P (fun e a' w'=>match e with | .goto l=>(match findLabel body l with|some rest=>swp r P body rest Q a' w'|none=>Q (.goto l) a' w')|e=>Q e a' w') a w):swp r P body c Q a w:=by
 intro b k cs hro
 obtain⟨e,a₁,w₁,hq,harr⟩:=h b (.inScope body::k) cs hro trivial (FW_room r _)
 cases e with
 |normal=>exact⟨.normal,a₁,w₁,hq,StepsIn.trans harr (.one (FW_calm rfl) stepR_inScope)⟩
 |exit id=>
  have hx:exitTo id (.inScope body::k)=exitTo id k:=by simp[exitTo]
  exact⟨.exit id,a₁,w₁,hq,fun k' hk=>harr.1 k' (by rw[hx];exact hk),fun hr' hk=>harr.2 hr' (by rw[hx];exact hk)⟩
 | goto l=>
  cases hf:findLabel body l with
  |some rest=>
   simp only[hf] at hq
   obtain⟨e₂,a₂,w₂,hq₂,harr₂⟩:=hq b k cs hro
   exact⟨e₂,a₂,w₂,hq₂,.of_steps (harr.1 _ (by simp[gotoIn,hf])) harr₂⟩
  |none=>
   simp only[hf] at hq
   have hx:gotoIn l (.inScope body::k)=gotoIn l k:=by simp[gotoIn,hf]
   exact⟨.goto l,a₁,w₁,hq,fun k' hk=>harr.1 k' (by rw[hx];exact hk),fun hr' hk=>harr.2 hr' (by rw[hx];exact hk)⟩
 |ret=>exact⟨_,a₁,w₁,hq,harr⟩
 |panic ch=>exact⟨_,a₁,w₁,hq,harr⟩
 |outgrown=>exact⟨_,a₁,w₁,hq,harr⟩
theorem swp_mono {Q':Exit→Act→World→Prop} {body:Code} (h:swp r P body c Q a w) (hq:∀e a w,Q e a w→Q' e a w):swp r P body c Q' a w:=
 fun b k cs hro=>let⟨e,a',w',q,x⟩:=h b k cs hro;⟨e,a',w',hq _ _ _ q,x⟩
end
def wpL (r:Option Nat) (P:Program) (c:Code) (Q:Exit→Act→World→Prop) (a:Act) (w:World):Prop:=
 match c with
 | .loop b=>lwp r P b Q a w
 |c=>c.wpIn (FW r) 0 P Q a w
theorem wp_of_wpL {r:Option Nat} {P:Program} {c:Code} {Q:Exit→Act→World→Prop} {a:Act} {w:World} (h:wpL r P c Q a w):c.wpIn (FW r) 0 P Q a w:=by
 unfold wpL at h
 split at h
 · exact wp_of_lwp h
 · exact h
section
variable {E:Env}
def PostS (C:Ctx) (β:Nm) (n n':Nat) (tm':List AV) (m':AMem) (ms':List Nat) (D:List Deferred) (e:Exit):Exit→Act→World→Prop:=
 fun e' a' w'=>e'=e∧∃β',Ext β β'∧(∀id,id<n∨n'≤id→β' id=β id)∧FrOk β' tm' a'.tmps∧DfOk β' ms' D a'.defers∧Rel C β' m' w'
def CodeOkL (E:Env) (run:Code→St→Option (Exit × St)):Prop:=
 ∀c s e s',run c s=some (e,s')→Grow s s'∧(Obs s'→∀(ro:Option Nat) (D:List Deferred) (C:Ctx) (β:Nm) (a:Act) (w:World),RdOk β s.rd ro→FrOk β s.tm a.tmps→DfOk β s.ms D a.defers→Rel C β s.m w→(∀id,s.n≤id→id<s'.n→β id=none)→
  wpL ro E.P c (PostS C β s.n s'.n s'.tm s'.m s'.ms D e) a w)
theorem scope_ok {run:Code→St→Option (Exit × St)} {x:Code} (ih:CodeOkL E run):∀(k:Nat) (c:Code) (s:St) (e:Exit) (s':St),scopeS run x k c s=some (e,s')→Grow s s'∧(Obs s'→∀(ro:Option Nat) (D:List Deferred) (C:Ctx) (β:Nm) (a:Act) (w:World),RdOk β s.rd ro→FrOk β s.tm a.tmps→DfOk β s.ms D a.defers→Rel C β s.m w→(∀id,s.n≤id→id<s'.n→β id=none)→
 swp ro E.P x c (PostS C β s.n s'.n s'.tm s'.m s'.ms D e) a w):=by
 intro k
 induction k with
 |zero=>intro c s e s' h;cases h
 | succ k ihk=>
  intro c s e s' h
  unfold scopeS at h
  split at h
  · rename_i l s1 h1
    obtain⟨g1,k1⟩:=ih _ _ _ _ h1
    split at h
    · rename_i c' hf
      obtain⟨g2,k2⟩:=ihk _ _ _ _ h
      refine⟨g1.trans g2,fun ho ro D C β a w hrd hfr hd hr hfree=>swp_go (wpIn_mono (wp_of_wpL (k1 (ho.of g2) ro D C β a w hrd hfr hd hr fun id h1 h2=>hfree id h1 (by have:=g2.n;omega))) fun e' a' w' ⟨he,β',x1,x2,x3,hd',x4⟩=>?_)⟩
      subst he
      simp only[hf]
      refine swp_mono (k2 ho ro D C β' a' w' (by rw[g1.rd];exact hrd.ext x1) x3 hd' x4 fun id h1 h2=>?_) fun e'' a'' w'' ⟨he'',β'',y1,y2,y3,hd'',y4⟩=>⟨he'',β'',x1.trans y1,fun id hid=>?_,y3,hd'',y4⟩
      · rw[x2 id (.inr h1)]
        exact hfree id (by have:=g1.n;omega) h2
      · have i1:=g1.n
        have i2:=g2.n
        rw[y2 id (by omega),x2 id (by omega)]
    · rename_i hf
      simp only[Option.some.injEq,Prod.mk.injEq] at h
      obtain⟨rfl,rfl⟩:=h
      refine⟨g1,fun ho ro D C β a w hrd hfr hd hr hfree=>swp_go (wpIn_mono (wp_of_wpL (k1 ho ro D C β a w hrd hfr hd hr hfree)) fun e' a' w' hp=>?_)⟩
      have he:e'= .goto l:=hp.1
      subst he
      simp only[hf]
      exact hp
  · rename_i hne
    obtain⟨g1,k1⟩:=ih _ _ _ _ h
    refine⟨g1,fun ho ro D C β a w hrd hfr hd hr hfree=>swp_go (wpIn_mono (wp_of_wpL (k1 ho ro D C β a w hrd hfr hd hr hfree)) fun e' a' w' hp=>?_)⟩
    have he:e'=e:=hp.1
    subst he
    cases e' with
    |goto l=>exact absurd h (hne l _)
    |_=>exact hp
theorem leaves_ok {P:Program} {fn:Func} {tmps:Array Value} {R:Ending→World→Prop} {C:Ctx} {β:Nm} {m':AMem} (hR:∀w',Rel C β m' w'→∃v,(results fn tmps).run P w'= .ok v w'∧R (.returned v) w'):
 ∀(ms:List Nat) (m:AMem) (ds:List Deferred) (w:World),closeM ms m=some m'→DfOk β ms [] ds→Rel C β m w→LeavesInM Fence.wide 0 P fn tmps R ds .returning w
 | [],m,ds,w,hc,hd,hr=>by
  have hd:ds=[]:=hd
  subst hd
  simp only[closeM,Option.some.injEq] at hc
  subst hc
  exact hR w hr
 | id ::r,m,ds,w,hc,hd,hr=>by
  obtain⟨L,t,h1,rfl,h3⟩:=hd
  simp only[closeM] at hc
  split at hc
  · rename_i x hx
    split at hc
    · rename_i ho
      obtain⟨L',g1,g2,_,g4,_⟩:=hr.objs id x _ hx ho
      rw[h1] at g1
      cases g1
      have g4:w.heap[L.b]? =some (.deferred (some [])):=g4
      exact⟨fun e=>(by cases e),.inl ⟨L.b,_,rfl,run_takeDeferred g4,leaves_ok hR r _ t _ hc h3 (hr.putO (o:=.dfr false) (ob:=.deferred none) hx ho h1 fun w' h=>h)⟩⟩
    · cases hc
  · cases hc
theorem callF_ok (hE:EnvOk E) {run:Code→St→Option (Exit × St)} (hrun:CodeOkL E run):CallOk E (callF E run):=by
 intro f args s r s' h
 unfold callF at h
 split at h
 · rename_i fn hfn
   split at h
   · rename_i c hc
     have main : ∀ e s1,(e= .ret∨e= .normal)→run c {s with tm:=args++List.replicate (fn.ntmps-args.length) (.c (.v undef)),ms:=[],rd:=none}=some (e,s1)→
      endF E.P fn s s1=some (r,s')→
      s'.tm=s.tm∧s'.ms=s.ms∧Grow s s'∧(∃(fn:Func) (c:Code),E.P.funcs[f]? =some fn∧fn.body=some c)∧
      (Obs s'→∀(C:Ctx) (β:Nm) (w:World) (vs:List Value),γt β args=some vs→Rel C β s.m w→(∀id,s.n≤id→id<s'.n→β id=none)→
       Calls E.P f vs.toArray w (fun e w'=>∃β' v,e= .returned v∧Ext β β'∧(∀id,id<s.n∨s'.n≤id→β' id=β id)∧γ β' r=some v∧Rel C β' s'.m w')):=by
      intro e s1 he hrunc hres
      unfold endF at hres
      split at hres
      · rename_i m1 hm1
        split at hres
        · rename_i l ob hl
          split at hres
          · rename_i s2 hneed
            simp only[Option.some.injEq,Prod.mk.injEq] at hres
            obtain⟨rfl,rfl⟩:=hres
            obtain⟨n1,n2,n3,nm,n4,n5⟩:=need_ok hneed
            obtain⟨g1,g2⟩:=hrun _ _ _ _ hrunc
            refine⟨rfl,rfl,⟨by show s.n≤s2.n;rw[n3];exact g1.n,fun b hb=>n4.ob b (g1.ob b hb),fun p hp=>n4.po p (g1.po p hp),n4.str.trans g1.str,rfl⟩,⟨fn,c,hfn,hc⟩,fun ho C β w vs hvs hr hfree=>?_⟩
            · have ho2:Obs s2:=ho.congr (s':=s2) rfl rfl
              have hlen:vs.length=args.length:=γt_length hvs
              have hfr:FrOk β (args++List.replicate (fn.ntmps-args.length) (.c (.v undef))) (vs.toArray++Array.replicate (fn.ntmps-vs.toArray.size) undef):=by
               refine⟨by simp[hlen],fun t av ht=>.inr ?_⟩
               by_cases hlt:t<args.length
               · rw[List.getElem?_append_left hlt] at ht
                 obtain⟨v,h1,h2⟩:=γt_fr hvs ht
                 refine⟨v,h1,?_⟩
                 rw[Array.getElem?_append_left (by simp;omega)]
                 simpa using h2
               · rw[List.getElem?_append_right (by omega),List.getElem?_replicate] at ht
                 split at ht
                 · cases ht
                   refine⟨undef,rfl,?_⟩
                   rename_i hlt2
                   rw[Array.getElem?_append_right (by simp;omega),Array.getElem?_replicate,if_pos (by simp[hlen];omega)]
                 · cases ht
              have hwp:=g2 (ho2.of n4) none [] C β {tmps:=vs.toArray++Array.replicate (fn.ntmps-vs.toArray.size) undef,defers:=[]} w trivial hfr rfl hr (fun id h1 h2=>hfree id h1 (by show id<s2.n;rw[n3];exact h2))
              have hwp':=wp_of_wpL hwp
              refine callsIn_wide.1 (callsIn_of_wp_marks (n:=0) hfn hc trivial (wpIn_mono hwp' fun e' a' w' ⟨he',β',x1,x2,x3,xd,x4⟩=>?_))
              subst he'
              have hpost:LeavesInM Fence.wide 0 E.P fn a'.tmps (fun e w'=>∃β' v,e= .returned v∧Ext β β'∧(∀id,id<s.n∨s2.n≤id→β' id=β id)∧γ β' (tupA l)=some v∧Rel C β' m1 w') a'.defers .returning w':=by
               refine leaves_ok (β:=β') (m':=m1) (C:=C) (fun w2 hr2=>?_) s1.ms s1.m a'.defers w' hm1 xd x4
               obtain⟨us,hu1,hu2⟩:=resA_ok x3 hr2 hl (n5 ho2)
               have hres2:(results fn a'.tmps).run E.P w2= .ok (if h:us.toArray.size=1 then us.toArray[0] else .tuple us.toArray) w2:=by
                have hm:(fn.results.mapM (resS a'.tmps)).run E.P w2= .ok us.toArray w2:=by
                 rw[Array.mapM_eq_mapM_toList]
                 simp[hu2]
                show (do let vs ← fn.results.mapM (resS a'.tmps);pure (if h:vs.size=1 then vs[0] else .tuple vs):Sem Value).run E.P w2=_
                rw[Sem.run_bind,hm]
                rfl
               exact⟨_,hres2,β',_,rfl,x1,fun id hid=>x2 id (by rw[n3] at hid;exact hid),tupA_ok hu1,hr2⟩
              rcases he with rfl|rfl<;>exact hpost
          · cases hres
        · cases hres
      · cases hres
     split at h
     · rename_i s1 hr1
       exact main _ s1 (.inl rfl) hr1 h
     · rename_i s1 hr1
       exact main _ s1 (.inr rfl) hr1 h
     · cases h
   · cases h
 · cases h
theorem roundPost_ok {P:Program} {l:Nat} {R:Ending→World→Prop} {e:Exit} {j:Option Code} {a:Act} {w:World} (hj:jumpOf e=some j) (h:∃v w',(Instr.endRound l j).run P w= .ok v w'∧R (.returned v) w'):roundPost P l R e a w:=by
 cases e<;>simp only[jumpOf,Option.some.injEq,reduceCtorEq] at hj<;>subst hj<;>exact h
theorem setPs_fr {β:Nm}:∀{ps:List Tmp} {args:List AV} {vs:List Value} {tm:List AV} {tmps:Array Value},γt β args=some vs→FrOk β tm tmps→
 FrOk β (setPs ps args tm) ((ps.zip vs).foldl (fun tmps (t,a)=>tmps.setIfInBounds t a) tmps)
 | [],args,vs,tm,tmps,_,hf=>by cases args<;>exact hf
 |t::ts,[],vs,tm,tmps,hv,hf=>by cases hv;exact hf
 |t::ts,x::xs,vs,tm,tmps,hv,hf=>by
  simp only[γt] at hv
  split at hv
  · rename_i v us hv1 hv2
    cases hv
    simp only[setPs,List.zip_cons_cons,List.foldl_cons]
    refine setPs_fr hv2 ?_
    have:=hf.put (a:={tmps:=tmps,defers:=[]}) (d:=some t) (γ_of1 hv1)
    exact this
  · cases hv
theorem yieldS_ok {run:Code→St→Option (Exit × St)} (hrun:CodeOkL E run):YldOk E (yieldS run):=by
 intro id args s r s' h
 unfold yieldS at h
 split at h
 · rename_i x hx
   split at h
   · rename_i st pd tm ps as bd dn hc
     split at h
     · rename_i hlen
       split at h
       · rename_i s1 h1
         split at h
         · rename_i x1 hx1
           split at h
           · rename_i pd1 tm1 ps1 as1 bd1 dn1 hc1
             split at h
             · rename_i e s2 h2
               unfold endY at h
               split at h
               · rename_i j x2 hj hx2
                 split at h
                 · rename_i st2 pd2 tm2 ps2 as2 bd2 dn2 hc2
                   simp only[Option.some.injEq,Prod.mk.injEq] at h
                   obtain⟨rfl,rfl⟩:=h
                   obtain⟨g1,k1⟩:=hrun _ _ _ _ h1
                   obtain⟨g2,k2⟩:=hrun _ _ _ _ h2
                   have i1:=g1.n
                   have i2:=g2.n
                   simp only at i1 i2
                   refine⟨rfl,rfl,⟨by show s.n≤s2.n;omega,fun b hb=>g2.ob b (g1.ob b hb),fun p hp=>g2.po p (g1.po p hp),g2.str.trans g1.str,rfl⟩,x,st,pd,tm,ps,as,bd,dn,hx,hc,Nat.eq_of_beq_eq_true hlen,fun ho C β w vs L f tmps hvs hr hfree hL hn hf=>?_⟩
                   have ho2:Obs s2:=ho.congr (s':=s2) rfl rfl
                   have ho1:Obs s1:=⟨fun b hb=>ho2.1 b (g2.ob b hb),fun p hp=>ho2.2 p (g2.po p hp)⟩
                   refine roundIn_of_wpIn (F:=Fence.wide) trivial ?_
                   have hfr:FrOk β (setPs ps.toList args tm) ((ps.zip vs.toArray).foldl (fun tmps (t,a)=>tmps.setIfInBounds t a) tmps):=by
                    have:=setPs_fr (ps:=ps.toList) hvs hf
                    have e:(ps.zip vs.toArray).foldl (fun tmps (t,a)=>tmps.setIfInBounds t a) tmps=(ps.toList.zip vs).foldl (fun tmps (t,a)=>tmps.setIfInBounds t a) tmps:=by
                     rw[← Array.foldl_toList];simp
                    rw[e];exact this
                   have hw1:=wp_of_wpL (k1 ho1 (some L.b) [] C β {tmps:=(ps.zip vs.toArray).foldl (fun tmps (t,a)=>tmps.setIfInBounds t a) tmps,defers:=[]} w ⟨L,hL,hn,rfl⟩ hfr rfl hr fun id h1 h2=>hfree id h1 (by show id<s2.n;omega))
                   refine wpIn_mono hw1 fun e' a1 w1 ⟨he',β1,x1',x2',x3',xd',x4'⟩=>?_
                   subst he'
                   obtain⟨L1,q1,q2,q3,⟨fn1,tmps1,D1,q4,q5,q6,q7⟩,_⟩:=x4'.objs id x1 _ hx1 hc1
                   have hL1:=x1' id L hL
                   rw[hL1] at q1
                   cases q1
                   refine⟨_,run_beginRound q7 rfl,?_⟩
                   have hr2:=x4'.putO (o:=.loop .busy pd1 tm1 ps1 as1 bd1 dn1) (ob:=.loop {state:=.busy,pending:=pd1,fn:=fn1,tmps:=tmps1,params:=ps1,assign:=as1,body:=bd1,defers:=D1.b}) hx1 hc1 hL1 fun w' hw'=>⟨fn1,tmps1,D1,q4,q5,q6,hw'⟩
                   have hrd:RdOk β1 s1.rd (some L.b):=by
                    have:s1.rd=some id:=g1.rd
                    rw[this];exact⟨L,hL1,hn,rfl⟩
                   have hw2:=wp_of_wpL (k2 ho2 (some L.b) [] C β1 a1 _ hrd x3' xd' hr2 fun id h1 h2=>by
                    rw[x2' id (.inr h1)]
                    exact hfree id (by have h1:s1.n≤id:=h1;omega) h2)
                   refine wpIn_mono hw2 fun e'' a2 w2 ⟨he'',β2,y1,y2,y3,_,y4⟩=>?_
                   subst he''
                   obtain⟨L2,p1,p2,p3,⟨fn2,tmps2,D2,p4,p5,p6,p7⟩,_⟩:=y4.objs id x2 _ hx2 hc2
                   have hL2:=y1 id L hL1
                   rw[hL2] at p1
                   cases p1
                   refine roundPost_ok hj ⟨_,_,run_endRound j p7,β2,_,rfl,x1'.trans y1,fun id hid=>?_,?_,?_⟩
                   · have hid:id<s.n∨s2.n≤id:=hid
                     rw[y2 id (by show id<s1.n∨s2.n≤id;omega),x2' id (by show id<s.n∨s1.n≤id;omega)]
                   · cases j<;>rfl
                   · cases j with
                     |none=>exact y4.putO (o:=.loop .ready none tm2 ps2 as2 bd2 dn2) hx2 hc2 hL2 fun w' hw'=>⟨fn2,tmps2,D2,p4,p5,p6,hw'⟩
                     |some c=>exact y4.putO (o:=.loop .done (some c) tm2 ps2 as2 bd2 dn2) hx2 hc2 hL2 fun w' hw'=>⟨fn2,tmps2,D2,p4,p5,p6,hw'⟩
                 · cases h
               · cases h
             · cases h
           · cases h
         · cases h
       · cases h
     · cases h
   · cases h
 · cases h
/-! ### ranges over functions -/
theorem aCall_res {v:AV} {args args':List AV} {g:FuncId} {β:Nm} {fv:Value} {us:List Value} (h:aCall args v=some (.call g args')) (hv:γ β v=some fv) (hu:γt β args=some us):
 ∃caps:List Value,fv= .func (.func g) #[] caps.toArray∧γt β args'=some (us++caps):=by
 unfold aCall at h
 split at h
 · cases h
   have:=γ_v hv
   exact⟨[],by simpa using this,by simpa using hu⟩
 · cases h
   simp only[γ,γ1,γc] at hv
   split at hv
   · rename_i vs hvs
     exact⟨vs,(Option.some.inj hv).symm,γt_append hu (γt_caps hvs)⟩
   · cases hv
 · cases h
 · cases h
theorem run_enterLoop_inner {P:Program} {w:World} {b:Nat} {r:Loop} (h:w.heap[b]? =some (.loop r)) (fn:FuncId) (tmps:Array Value) (ps:Array Tmp) (as bd:Code):
 (Instr.enterLoop fn tmps ps as bd (some b)).run P w= .ok (w.heap.size,[]) (w.alloc (.loop {state:=.ready,pending:=none,fn,tmps,params:=ps,assign:=as,body:=bd,defers:=r.defers})):=by
 unfold Instr.enterLoop
 simp only[Sem.run_bind,run_getLoop h,run_newObj_alloc,Result.andThen,Sem.run_pure]
theorem leaveA_ok {l:Nat} {s s':St} {e:Exit} (h:leaveA l s=some (e,s')):∃x st pd tm ps as bd dn,look s.m l=some x∧x.cs= .obj (.loop st pd tm ps as bd dn)∧st≠ .busy∧
 ((pd=none∧e= .normal)∨(pd=some .ret∧e= .ret)∨∃id,pd=some (.exit id)∧e= .exit id)∧s'= {s with m:=updM s.m l {x with cs:=.obj (.loop .exhausted pd tm ps as bd dn)}}:=by
 unfold leaveA at h
 split at h
 · rename_i x hx
   split at h
   · cases h
   · rename_i st pd tm ps as bd dn hne hc
     split at h
     · cases h;exact⟨x,st,_,tm,ps,as,bd,dn,hx,hc,fun e=>(by subst e;exact hne rfl),.inl ⟨rfl,rfl⟩,rfl⟩
     · cases h;exact⟨x,st,_,tm,ps,as,bd,dn,hx,hc,fun e=>(by subst e;exact hne rfl),.inr (.inl ⟨rfl,rfl⟩),rfl⟩
     · cases h;exact⟨x,st,_,tm,ps,as,bd,dn,hx,hc,fun e=>(by subst e;exact hne rfl),.inr (.inr ⟨_,rfl,rfl⟩),rfl⟩
     · cases h
   · cases h
 · cases h
theorem enter_ok {P:Program} {s:St} {ps:Array Tmp} {as bd:Code} {m':AMem} {ms':List Nat} (h:enterA s ps as bd=some (m',ms')) (hn:s.n+2≤lim) {ro:Option Nat} {D:List Deferred} {C:Ctx} {β:Nm} {a:Act} {w:World}
 (hrd:RdOk β s.rd ro) (hf:FrOk β s.tm a.tmps) (hdf:DfOk β s.ms D a.defers) (hr:Rel C β s.m w) (h0:β s.n=none) (h1:β (s.n+1)=none) (fn:FuncId):
 ∃(l:Nat) (mark:List Deferred) (w₁:World) (β':Nm) (L:Loc),(Instr.enterLoop fn a.tmps ps as bd ro).run P w= .ok (l,mark) w₁∧Ext β β'∧(∀id,id<s.n∨s.n+2≤id→β' id=β id)∧
  β' (s.n+1)=some L∧L.nil=false∧L.b=l∧Rel C β' m' w₁∧DfOk β' ms' D (mark++a.defers):=by
 have hg0:∀g,s.n≠gid g:=gid_ne (by omega)
 have hg1:∀g,s.n+1≠gid g:=gid_ne (by omega)
 unfold enterA at h
 split at h
 · rename_i hs
   rw[hs] at hrd
   cases ro with
   |some b=>exact hrd.elim
   | none=>
    simp only[Option.some.injEq,Prod.mk.injEq] at h
    obtain⟨rfl,rfl⟩:=h
    have hr1:=hr.newO (o:=.dfr true) (ob:=.deferred (some [])) h0 hg0 fun w' hw'=>hw'
    have e1:Ext β (ext1 β s.n ⟨w.heap.size,0,0,0,false⟩):=ext1_ext h0
    have h1':ext1 β s.n ⟨w.heap.size,0,0,0,false⟩ (s.n+1)=none:=by simp[ext1,h1]
    have hD:ext1 β s.n ⟨w.heap.size,0,0,0,false⟩ s.n=some ⟨w.heap.size,0,0,0,false⟩:=ext1_same
    have hr2:=hr1.newO (o:=.loop .ready none s.tm ps as bd s.n) (ob:=.loop {state:=.ready,pending:=none,fn:=fn,tmps:=a.tmps,params:=ps,assign:=as,body:=bd,defers:=w.heap.size}) h1' hg1
     fun w' hw'=>⟨fn,a.tmps,_,hf.ext e1,hD,rfl,hw'⟩
    refine⟨_,_,_,_,_,run_enterLoop_outer fn a.tmps ps as bd,e1.trans (ext1_ext h1'),fun id hid=>?_,ext1_same,rfl,by simp,hr2,?_⟩
    · simp only[ext1]
      rw[if_neg (by omega),if_neg (by omega)]
    · exact⟨_,_,ext1_ext h1' _ _ hD,rfl,(hdf.ext e1).ext (ext1_ext h1')⟩
 · rename_i r hs
   rw[hs] at hrd
   cases ro with
   |none=>exact hrd.elim
   |some b=>
    obtain⟨Lr,k1,k2,rfl⟩:=hrd
    split at h
    · rename_i x hx
      split at h
      · rename_i st pd tm0 ps0 as0 bd0 dn hc
        simp only[Option.some.injEq,Prod.mk.injEq] at h
        obtain⟨rfl,rfl⟩:=h
        obtain⟨L0,q1,q2,_,⟨fn0,tmps0,D0,q4,q5,q6,q7⟩,_⟩:=hr.objs r x _ hx hc
        rw[k1] at q1
        cases q1
        have hr2:=hr.newO (o:=.loop .ready none s.tm ps as bd dn) (ob:=.loop {state:=.ready,pending:=none,fn:=fn,tmps:=a.tmps,params:=ps,assign:=as,body:=bd,defers:=D0.b}) h1 hg1
         fun w' hw'=>⟨fn,a.tmps,D0,hf,q5,q6,hw'⟩
        refine⟨_,_,_,_,_,run_enterLoop_inner q7 fn a.tmps ps as bd,ext1_ext h1,fun id hid=>?_,ext1_same,rfl,rfl,hr2,hdf.ext (ext1_ext h1)⟩
        simp only[ext1]
        rw[if_neg (by omega)]
      · cases h
    · cases h
theorem sxC_ok (hE:EnvOk E):∀n,CodeOkL E (sxC E n):=by
 intro n
 induction n with
 |zero=>intro c s e s' h;cases h
 | succ n ih=>
  have hcf:CallOk E (callF E (sxC E n)):=callF_ok hE ih
  have hyf:YldOk E (yieldS (sxC E n)):=yieldS_ok ih
  intro c s e s' h
  cases c with
  |skip=>
   simp only[sxC,Option.some.injEq,Prod.mk.injEq] at h
   obtain⟨rfl,rfl⟩:=h
   exact⟨Grow.refl s,fun _ ro D C β a w _ hf hd hr _=>wpIn_skip ⟨rfl,β,Ext.refl β,fun _ _=>rfl,hf,hd,hr⟩⟩
  |label l=>
   simp only[sxC,Option.some.injEq,Prod.mk.injEq] at h
   obtain⟨rfl,rfl⟩:=h
   exact⟨Grow.refl s,fun _ ro D C β a w _ hf hd hr _=>wpIn_label ⟨rfl,β,Ext.refl β,fun _ _=>rfl,hf,hd,hr⟩⟩
  |exit id=>
   simp only[sxC,Option.some.injEq,Prod.mk.injEq] at h
   obtain⟨rfl,rfl⟩:=h
   exact⟨Grow.refl s,fun _ ro D C β a w _ hf hd hr _=>wpIn_exit ⟨rfl,β,Ext.refl β,fun _ _=>rfl,hf,hd,hr⟩⟩
  |goto l=>
   simp only[sxC,Option.some.injEq,Prod.mk.injEq] at h
   obtain⟨rfl,rfl⟩:=h
   exact⟨Grow.refl s,fun _ ro D C β a w _ hf hd hr _=>wpIn_goto ⟨rfl,β,Ext.refl β,fun _ _=>rfl,hf,hd,hr⟩⟩
  |scope x=>
   simp only[sxC] at h
   have key:=scope_ok (x:=x) ih 200 _ _ _ _ h
   exact⟨key.1,fun ho ro D C β a w hrd hf hd hr hfree=>wpIn_scope (key.2 ho ro D C β a w hrd hf hd hr hfree)⟩
  |ret=>
   simp only[sxC,Option.some.injEq,Prod.mk.injEq] at h
   obtain⟨rfl,rfl⟩:=h
   exact⟨Grow.refl s,fun _ ro D C β a w _ hf hd hr _=>wpIn_ret ⟨rfl,β,Ext.refl β,fun _ _=>rfl,hf,hd,hr⟩⟩
  |region id ops d=>
   simp only[sxC] at h
   split at h
   · split at h
     · rename_i s1 h1
       simp only[Option.some.injEq,Prod.mk.injEq] at h
       obtain⟨rfl,rfl⟩:=h
       obtain⟨g1,gm,g2⟩:=opsS_ok hE hcf hyf h1
       exact⟨g1,fun ho ro D C β a w _ hf hd hr hfree=>wpIn_region_list (g2 ho ro C β a w _ hf hr hfree fun β' a' w' x1 x2 x3 x4 x5=>⟨rfl,β',x1,x2,x3,by rw[x4,gm];exact hd.ext x1,x5⟩)⟩
     · cases h
   · split at h
     · rename_i s1 h1
       simp only[Option.some.injEq,Prod.mk.injEq] at h
       obtain⟨rfl,rfl⟩:=h
       obtain⟨g1,gm,g2⟩:=regX_ok (id:=id) hE hcf hyf h1
       exact⟨g1,fun ho ro D C β a w _ hf hd hr hfree=>g2 ho ro C β a w _ hf hr hfree fun β' a' w' x1 x2 x3 x4 x5=>⟨rfl,β',x1,x2,x3,by rw[x4,gm];exact hd.ext x1,x5⟩⟩
     · cases h
  |seq x y=>
   simp only[sxC] at h
   split at h
   · rename_i s1 h1
     obtain⟨g1,k1⟩:=ih _ _ _ _ h1
     obtain⟨g2,k2⟩:=ih _ _ _ _ h
     refine⟨g1.trans g2,fun ho ro D C β a w hrd hf hd hr hfree=>wpIn_seq (wpIn_mono (wp_of_wpL (k1 (ho.of g2) ro D C β a w hrd hf hd hr fun id h1 h2=>hfree id h1 (by have:=g2.n;omega))) fun e' a' w' ⟨he,β',x1,x2,x3,hd',x4⟩=>?_)⟩
     subst he
     refine wpIn_mono (wp_of_wpL (k2 ho ro D C β' a' w' (by rw[g1.rd];exact hrd.ext x1) x3 hd' x4 fun id h1 h2=>?_)) fun e'' a'' w'' ⟨he'',β'',y1,y2,y3,hd'',y4⟩=>⟨he'',β'',x1.trans y1,fun id hid=>?_,y3,hd'',y4⟩
     · rw[x2 id (.inr h1)]
       exact hfree id (by have:=g1.n;omega) h2
     · have i1:=g1.n
       have i2:=g2.n
       rw[y2 id (by omega),x2 id (by omega)]
   · rename_i hne
     obtain⟨g1,k1⟩:=ih _ _ _ _ h
     refine⟨g1,fun ho ro D C β a w hrd hf hd hr hfree=>wpIn_seq (wpIn_mono (wp_of_wpL (k1 ho ro D C β a w hrd hf hd hr hfree)) fun e' a' w' hp=>?_)⟩
     have he:e'=e:=hp.1
     have hen:e≠ .normal:=fun hn=>by subst hn;exact hne _ h
     subst he
     cases e' with
     |normal=>exact absurd rfl hen
     |_=>exact hp
  | cond c x y=>
   cases c with
   |tmp t=>
    simp only[sxC] at h
    split at h
    · rename_i b hb
      have key:∀(d:Bool) (z:Code) (s1:St),s.dec t b=some (d,s1)→sxC E n z s1=some (e,s')→(z=if d then x else y)→Grow s s'∧(Obs s'→∀(ro:Option Nat) (D:List Deferred) (C:Ctx) (β:Nm) (a:Act) (w:World),RdOk β s.rd ro→FrOk β s.tm a.tmps→DfOk β s.ms D a.defers→Rel C β s.m w→(∀id,s.n≤id→id<s'.n→β id=none)→
       wpL ro E.P (.cond (.tmp t) x y) (PostS C β s.n s'.n s'.tm s'.m s'.ms D e) a w):=by
       intro d z s1 hd1 hz hzd
       obtain⟨d1,d2,dm,d3,d4,_⟩:=dec_ok hd1 hb
       obtain⟨g1,k1⟩:=ih _ _ _ _ hz
       refine⟨d3.trans g1,fun ho ro D C β a w hrd hf hd hr hfree=>?_⟩
       have ho1:=ho.of g1
       have hev:a.eval (.tmp t)= .bool d:=by
        rcases hf.2 t _ hb with h5|⟨v,h5,h6⟩
        · cases h5
        · have:=γ_v h5
          subst this
          simp[Act.eval,h6,d4 ho1]
       refine wpIn_cond hev ?_
       rw[← hzd]
       have:=k1 ho ro D C β a w (by rw[d3.rd];exact hrd) (dec_fr hd1 hb ho1 hf) (by rw[dm];exact hd) (by rw[d1];exact hr) (fun id h1 h2=>hfree id (by omega) h2)
       rw[d2] at this
       exact wp_of_wpL this
      split at h
      · rename_i s1 hd1
        exact key true x s1 hd1 h rfl
      · rename_i s1 hd1
        exact key false y s1 hd1 h rfl
      · cases h
    · cases h
   | const v=>
    cases v with
    |bool b=>
     simp only[sxC] at h
     split at h
     · obtain⟨g1,k1⟩:=ih _ _ _ _ h
       exact⟨g1,fun ho ro D C β a w hrd hf hd hr hfree=>wpIn_cond_true rfl (wp_of_wpL (k1 ho ro D C β a w hrd hf hd hr hfree))⟩
     · obtain⟨g1,k1⟩:=ih _ _ _ _ h
       exact⟨g1,fun ho ro D C β a w hrd hf hd hr hfree=>wpIn_cond_false rfl (wp_of_wpL (k1 ho ro D C β a w hrd hf hd hr hfree))⟩
    |_=>simp[sxC] at h
   |_=>simp[sxC] at h
  |block id x=>
   simp only[sxC] at h
   split at h
   · rename_i id' s1 h1
     obtain⟨g1,k1⟩:=ih _ _ _ _ h1
     split at h
     · rename_i hid
       have hid:=Nat.eq_of_beq_eq_true hid
       subst hid
       simp only[Option.some.injEq,Prod.mk.injEq] at h
       obtain⟨rfl,rfl⟩:=h
       refine⟨g1,fun ho ro D C β a w hrd hf hd hr hfree=>wpIn_block (wpIn_mono (wp_of_wpL (k1 ho ro D C β a w hrd hf hd hr hfree)) fun e' a' w' hp=>?_)⟩
       obtain⟨rfl,hp⟩:=hp
       simp only[Exit.inBlock,if_true]
       exact⟨rfl,hp⟩
     · rename_i hid
       simp only[Option.some.injEq,Prod.mk.injEq] at h
       obtain⟨rfl,rfl⟩:=h
       refine⟨g1,fun ho ro D C β a w hrd hf hd hr hfree=>wpIn_block (wpIn_mono (wp_of_wpL (k1 ho ro D C β a w hrd hf hd hr hfree)) fun e' a' w' hp=>?_)⟩
       obtain⟨rfl,hp⟩:=hp
       have:id'≠id:=fun e=>by subst e;rw[Nat.beq_refl] at hid;cases hid
       simp only[Exit.inBlock,this,if_false]
       exact⟨rfl,hp⟩
   · rename_i hne
     obtain⟨g1,k1⟩:=ih _ _ _ _ h
     refine⟨g1,fun ho ro D C β a w hrd hf hd hr hfree=>wpIn_block (wpIn_mono (wp_of_wpL (k1 ho ro D C β a w hrd hf hd hr hfree)) fun e' a' w' hp=>?_)⟩
     have he:e'=e:=hp.1
     subst he
     cases e' with
     |exit id'=>exact absurd h (hne id' _)
     |_=>exact hp
  | loop x=>
   simp only[sxC] at h
   have unr:∀(t:St) (q:List (Option LSum)→List (Option LSum)),t.tm=s.tm→t.m=s.m→t.n=s.n→t.str=s.str→t.ob=s.ob→t.po=s.po→t.ms=s.ms→t.rd=s.rd→
    (match sxC E n x t with|some (.normal,s1)=>sxC E n (.loop x) {s1 with lp:=q s1.lp}|r=>r)=some (e,s')→Grow s s'∧(Obs s'→∀(ro:Option Nat) (D:List Deferred) (C:Ctx) (β:Nm) (a:Act) (w:World),RdOk β s.rd ro→FrOk β s.tm a.tmps→DfOk β s.ms D a.defers→Rel C β s.m w→(∀id,s.n≤id→id<s'.n→β id=none)→
     wpL ro E.P (.loop x) (PostS C β s.n s'.n s'.tm s'.m s'.ms D e) a w):=by
    intro t q t1 t2 t3 t4 t5 t6 t7 t8 h
    have gt:Grow s t:=⟨by omega,fun b hb=>by rw[t5];exact hb,fun p hp=>by rw[t6];exact hp,t4,t8⟩
    split at h
    · rename_i s1 h1
      obtain⟨g1,k1⟩:=ih _ _ _ _ h1
      obtain⟨g2,k2⟩:=ih _ _ _ _ h
      have g2':Grow s1 s':=⟨g2.n,g2.ob,g2.po,g2.str,g2.rd⟩
      refine⟨gt.trans (g1.trans g2'),fun ho ro D C β a w hrd hf hd hr hfree=>lwp_peel (wpIn_mono (wp_of_wpL (k1 (ho.of g2') ro D C β a w (by rw[t8];exact hrd) (by rw[t1];exact hf) (by rw[t7];exact hd) (by rw[t2];exact hr) fun id h1 h2=>hfree id (by omega) (by have:=g2'.n;omega))) fun e' a' w' ⟨he,β',x1,x2,x3,hd',x4⟩=>?_)⟩
      subst he
      have:=k2 ho ro D C β' a' w' (by show RdOk β' s1.rd ro;rw[g1.rd,t8];exact hrd.ext x1) x3 hd' x4 fun id h1 h2=>by
       rw[x2 id (.inr h1)]
       exact hfree id (by have:=g1.n;have h1:s1.n≤id:=h1;omega) h2
      refine lwp_mono this fun e'' a'' w'' ⟨he'',β'',y1,y2,y3,hd'',y4⟩=>⟨he'',β'',x1.trans y1,fun id hid=>?_,y3,hd'',y4⟩
      have i1:=g1.n
      have i2:=g2'.n
      rw[y2 id (by show id<s1.n∨s'.n≤id;omega),x2 id (by omega)]
    · rename_i hne
      obtain⟨g1,k1⟩:=ih _ _ _ _ h
      refine⟨gt.trans g1,fun ho ro D C β a w hrd hf hd hr hfree=>lwp_peel (wpIn_mono (wp_of_wpL (k1 ho ro D C β a w (by rw[t8];exact hrd) (by rw[t1];exact hf) (by rw[t7];exact hd) (by rw[t2];exact hr) fun id h1 h2=>hfree id (by omega) h2)) fun e' a' w' hp=>?_)⟩
      rw[t3] at hp
      have he:e'=e:=hp.1
      have hen:e≠ .normal:=fun hn=>by subst hn;exact hne _ h
      subst he
      cases e' with
      |normal=>exact absurd rfl hen
      |_=>exact hp
   split at h
   · rename_i slots ids tm m k e' p hpath
     split at h
     · rename_i hle
       simp only[Bool.and_eq_true] at hle
       simp only[Option.some.injEq,Prod.mk.injEq] at h
       obtain⟨rfl,rfl⟩:=h
       refine⟨⟨Nat.le_of_ble_eq_true hle.1,fun b hb=>hb,fun p hp=>List.mem_cons_of_mem _ hp,rfl,rfl⟩,fun ho ro D C β a w hrd hf hd hr hfree=>?_⟩
       exact lwp_mono (ho.2 _ (List.mem_cons_self ..) s.tm s.m rfl rfl rfl ro C β a w hrd hf hr hfree) fun e'' a'' w'' ⟨h1,h2,β',h3,h4,h5,h6⟩=>⟨h1,β',h3,h4,h5,by rw[h2];exact hd.ext h3,h6⟩
     · cases h
   · rename_i p hp
     exact unr {s with lp:=p} (fun l=>none::l) rfl rfl rfl rfl rfl rfl rfl rfl h
   · exact unr s (fun l=>l) rfl rfl rfl rfl rfl rfl rfl rfl h
  |rangeFunc f ps as bd=>
   simp only[sxC] at h
   split at h
   · rename_i v m' ms' hle hv hen
     have hle:s.n+2≤lim:=Nat.le_of_ble_eq_true hle
     split at h
     · rename_i g args hcall
       split at h
       · rename_i rv s1 h1
         obtain⟨c1,cm,c2,⟨fn0,c,c3,c4⟩,c5⟩:=callF_ok hE ih _ _ _ _ _ h1
         obtain⟨x,st,pd,tm,ps1,as1,bd1,dn,l1,l2,l3,l4,rfl⟩:=leaveA_ok h
         have i1:=c2.n
         simp only at i1
         refine⟨⟨by show s.n≤s1.n;omega,c2.ob,c2.po,c2.str,c2.rd⟩,fun ho ro D C β a w hrd hf hd hr hfree=>?_⟩
         have ho1:Obs s1:=ho.congr (s':=s1) rfl rfl
         show (Code.rangeFunc f ps as bd).wpIn (FW ro) 0 E.P _ a w
         refine wpIn_rangeFunc fun fn _=>?_
         have hfr':∀id,s.n≤id→id<s1.n→β id=none:=hfree
         obtain⟨l,mark,w₁,β1,L,e1,e2,e3,e4,e5,e6,e7,e8⟩:=enter_ok (P:=E.P) hen hle hrd hf hd hr (hfr' s.n (Nat.le_refl _) (by omega)) (hfr' (s.n+1) (by omega) (by omega)) fn
         subst e6
         have hvv:γ β v=some (a.eval f):=(evA_ok hf hr (Sub.refl _) hv).resolve_left fun e=>by subst e;simp[aCall] at hcall
         obtain⟨caps,hfv,hargs⟩:=aCall_res (us:=[.func (.yield L.b) #[] #[]]) hcall (γ_ext e2 hvv) (by simp[γt,γ1,γc,e4,e5])
         have hres:(resolve a.eval (rangeCall f L.b) 0).run E.P w₁= .ok {target:=.fn (.func g) caps.toArray,args:= #[.func (.yield L.b) #[] #[]]} w₁:=by
          simp only[resolve,hfv,Deferred.ofValue]
          rw[Sem.run_pure]
          simp[Act.eval]
         have hinv:(invoke (.fn (.func g) caps.toArray) #[.func (.yield L.b) #[] #[]]).run E.P w₁= .ok (.enter g ([Value.func (.yield L.b) #[] #[]]++caps).toArray) w₁:=by
          simp only[invoke]
          rw[run_enter c3 (hE.names _ _ _ c3 c4) c4]
          simp
         have hcalls:=(c5 ho1) C β1 w₁ _ hargs e7 fun id h1 h2=>by
          have h1:s.n+2≤id:=h1
          rw[e3 id (.inr h1)];exact hfr' id (by omega) h2
         refine⟨L.b,mark,w₁,_,w₁,g,_,w₁,e1,hres,fun _ _=>trivial,hinv,fun h=>(by cases h),CallsIn.mono (callsIn_wide.2 hcalls) fun en w3 ⟨β3,u,z1,z2,z3,_,z5⟩=>?_⟩
         subst z1
         obtain⟨L3,k1,k2,k3,⟨fn3,tmps3,D3,k4,k5,k6,k7⟩,_⟩:=z5.objs _ x _ l1 l2
         have hL3:=z2 _ _ e4
         rw[hL3] at k1
         cases k1
         have hpost:∀w4,Rel C β3 (updM s1.m (s.n+1) {x with cs:=.obj (.loop .exhausted pd tm ps1 as1 bd1 dn)}) w4→PostS C β s.n s1.n s1.tm (updM s1.m (s.n+1) {x with cs:=.obj (.loop .exhausted pd tm ps1 as1 bd1 dn)}) ms' D e e {a with defers:=mark++a.defers} w4:=fun w4 hr4=>by
          refine⟨rfl,β3,e2.trans z2,fun id hid=>?_,?_,e8.ext z2,hr4⟩
          · rw[z3 id (by show id<s.n+2∨s1.n≤id;omega),e3 id (by omega)]
          · rw[c1];exact hf.ext (e2.trans z2)
         refine⟨pd,_,run_endLoop k7 l3,?_⟩
         have hr4:=z5.putO (o:=.loop .exhausted pd tm ps1 as1 bd1 dn) (ob:=.loop {state:=.exhausted,pending:=pd,fn:=fn3,tmps:=tmps3,params:=ps1,assign:=as1,body:=bd1,defers:=D3.b}) l1 l2 hL3 fun w' hw'=>⟨fn3,tmps3,D3,k4,k5,k6,hw'⟩
         rcases l4 with⟨rfl,rfl⟩|⟨rfl,rfl⟩|⟨id,rfl,rfl⟩
         · exact hpost _ hr4
         · exact wpIn_ret (hpost _ hr4)
         · exact wpIn_exit (hpost _ hr4)
       · cases h
     · cases h
   · cases h
  |_=>cases h
theorem calls_sx (hE:EnvOk E) {n:Nat} {f:FuncId} {args:List AV} {s s':St} {r:AV} (h:callF E (sxC E n) f args s=some (r,s')) (ho:Obs s') {C:Ctx} {β:Nm} {w:World} {vs:List Value}
 (hvs:γt β args=some vs) (hr:Rel C β s.m w) (hfree:∀id,s.n≤id→id<s'.n→β id=none):
 Calls E.P f vs.toArray w (fun e w'=>∃β' v,e= .returned v∧Ext β β'∧(∀id,id<s.n∨s'.n≤id→β' id=β id)∧γ β' r=some v∧Rel C β' s'.m w'):=
 (callF_ok hE (sxC_ok hE n) f args s r s' h).2.2.2.2 ho C β w vs hvs hr hfree
end
end Go.Proofs.YtpgaplcdbbnblaaGreatDoor
end
/- The symbolic evaluator, with the next name and the stride as arguments of their own (so that the kernel has them as numerals): it finds nothing that the other one doesn't. No Go text is in sight. -/
section
namespace Go.Proofs.YtpgaplcdbbnblaaGreatDoor
open Go.RowKit
def St.at_ (s:St) (n str:Nat):St:={s with n:=n,str:=str}
def inR' (b str:Nat):AMem→Bool
 | []=>true
 |(i,_)::r=>(Nat.ble b i&&Nat.blt i (b+str))&&inR' b str r
def allOwn:AMem→Bool
 | []=>true
 |(_,b)::r=>b.own&&allOwn r
abbrev CF:=FuncId→List AV→Nat→Nat→St→Option (AV × Nat × St)
abbrev CY:=Nat→List AV→Nat→Nat→St→Option (AV × Nat × St)
abbrev CR:=Code→Nat→Nat→St→Option (Exit × Nat × St)
def fCallA (E:Env) (cf:CF) (f:FuncId) (args:List AV) (n str:Nat) (s:St):Option (AV × Nat × St):=
 match ctLook E.ct f args s.m n with
 |some (r,news,k,ob)=>match Nat.ble (n+k) lim,s.need ob with|true,some s=>some (r,n+k,{s with m:=s.m++news})|_,_=>none
 |none=>cf f args n str s
def fOpS (E:Env) (cf:CF) (yf:CY) (ops:Array Oper) (o:Oper) (n str:Nat) (s:St):Option (Nat × St):=
 match guardA ops o s with
 |none=>none
 |some (false,s)=>some (n,s.put o.dst (.c (.v undef)))
 |some (true,s)=>
  match Nat.ble (n+1) lim,aop E.P s.tm s.m n o.op with
  |true,some (.eff v news ob)=>match s.need ob with|some s=>some (n+1,{s with m:=s.m++news}.put o.dst v)|none=>none
  |true,some (.upd v e ob)=>match updOp o.op,s.need ob with|true,some s=>some (n+1,{s with m:=e.on s.m}.put o.dst v)|_,_=>none
  |true,some (.call f args)=>match callOp o.op,fCallA E cf f args n str s with|true,some (v,n',s)=>some (n',s.put o.dst v)|_,_=>none
  |true,some (.yld id args)=>match callOp o.op,yf id args n str s with|true,some (v,n',s)=>some (n',s.put o.dst v)|_,_=>none
  |_,_=>none
def fOpsS (E:Env) (cf:CF) (yf:CY) (ops:Array Oper):List Oper→Nat→Nat→St→Option (Nat × St)
 | [],n,_,s=>some (n,s)
 |o::r,n,str,s=>match fOpS E cf yf ops o n str s with|some (n,s)=>fOpsS E cf yf ops r n str s|none=>none
def fOpQ (E:Env) (cf:CF) (ops:Array Oper) (o:Oper) (mi:AMem) (b str:Nat) (s:St):Option (AV × AMem × St):=
 match guardA ops o s with
 |none=>none
 |some (false,s)=>some (.c (.v undef),[],s)
 | some (true,s)=>
  match Nat.ble (b+str) lim&&Nat.ble 1 str,aop E.P (mask (o.looksAt ops) 0 s.tm) mi b o.op with
  |true,some (.eff v news ob)=>match inR' b str news,s.need ob with|true,some s=>some (v,news,s)|_,_=>none
  | true,some (.call f args)=>
   match callOp o.op,ctLook E.ct f args mi b with
   |true,some (r,news,k,ob)=>match Nat.ble k str&&inR' b str news,s.need ob with|true,some s=>some (r,news,s)|_,_=>none
   | true,none=>
    match cf f args b (str / 100000000) {s with m:=roM mi,ms:=[],rd:=none} with
    |some (r,n',s')=>
     match Nat.ble n' (b+str)&&(inR' b str (fromN b s'.m)&&allOwn (fromN b s'.m)) with
     |true=>some (r,fromN b s'.m,{s with path:=s'.path,lp:=s'.lp,ob:=s'.ob,po:=s'.po})
     |false=>none
    |none=>none
   |_,_=>none
  |_,_=>none
def fOpsQ (E:Env) (cf:CF) (ops:Array Oper) (n0 str:Nat):List Oper→Nat→List (Nat × AMem)→St→Option (List (Nat × AMem) × St)
 | [],_,acc,s=>some (acc,s)
 |o::r,i,acc,s=>
  match fOpQ E cf ops o (s.m++newsOf ops i acc) (n0+i*str) str s with
  |some (v,news,s)=>fOpsQ E cf ops n0 str r (i+1) (acc++[(i,news)]) (s.put o.dst v)
  |none=>none
def fRegD (E:Env) (cf:CF) (yf:CY) (ops:Array Oper) (n str:Nat) (s:St):Option (Nat × St):=
 match drawOk ops (quietLen ops.toList) with
 |true=>
  match fOpsQ E cf ops n str (ops.toList.take (quietLen ops.toList)) 0 [] s with
  |some (acc,s')=>fOpsS E cf yf ops (ops.toList.drop (quietLen ops.toList)) (n+quietLen ops.toList*str) str {s' with m:=s'.m++newsAll acc}
  |none=>none
 |false=>none
def fOpW (E:Env) (cf:CF) (ops:Array Oper) (o:Oper) (mi:AMem) (b str:Nat) (s:St):Option (AV × AStep × St):=
 match guardA ops o s with
 |none=>none
 |some (false,s)=>some (.c (.v undef),.news [],s)
 | some (true,s)=>
  match Nat.ble (b+str) lim&&Nat.ble 1 str,aop E.P (mask (o.looksAt ops) 0 s.tm) mi b o.op with
  | true,some (.call f args)=>
   match callOp o.op,ctLook E.ct f args mi b with
   |true,some (r,news,k,ob)=>match Nat.ble k str&&inR' b str news,s.need ob with|true,some s=>some (r,.news news,s)|_,_=>none
   | true,none=>
    match cf f args b (str / 100000000) {s with m:=woM mi,ms:=[],rd:=none} with
    |some (r,n',s')=>
     match Nat.ble n' (b+str)&&(inR' b str (fromN b s'.m)&&allOwn (fromN b s'.m)) with
     |true=>some (r,.many (putsW s'.m (woM mi)) (fromN b s'.m),{s with path:=s'.path,lp:=s'.lp,ob:=s'.ob,po:=s'.po})
     |false=>none
    |none=>none
   |_,_=>none
  |_,_=>none
def fOpE (E:Env) (cf:CF) (wm:Bool) (ops:Array Oper) (o:Oper) (mi:AMem) (b str:Nat) (s:St):Option (AV × AStep × St):=
 match updOp o.op with
 |false=>
  match wm&&wrCall E.P o.op with
  |false=>match fOpQ E cf ops o mi b str s with|some (v,l,s)=>some (v,.news l,s)|none=>none
  |true=>fOpW E cf ops o mi b str s
 | true=>
  match guardA ops o s with
  |none=>none
  |some (false,s)=>some (.c (.v undef),.news [],s)
  |some (true,s)=>
   match Nat.ble (b+str) lim&&Nat.ble 1 str,aop E.P (mask (o.looksAt ops) 0 s.tm) mi b o.op with
   |true,some (.eff v l ob)=>match inR' b str l,s.need ob with|true,some s=>some (v,.news l,s)|_,_=>none
   |true,some (.upd v e ob)=>match efxNe b e,s.need ob with|true,some s=>some (v,.efx e,s)|_,_=>none
   |_,_=>none
def fOpsE (E:Env) (cf:CF) (wm:Bool) (ops:Array Oper) (vis:Nat→AMem→AMem) (n0 str:Nat):List Oper→Nat→List (Nat × Nat)→St→Option (List (Nat × Nat) × St)
 | [],_,acc,s=>some (acc,s)
 |o::r,i,acc,s=>
  match fOpE E cf wm ops o (vis i s.m) (n0+i*str) str s with
  |some (v,z,s)=>fOpsE E cf wm ops vis n0 str r (i+1) (acc++tidsOf i z) ({s with m:=z.on s.m}.put o.dst v)
  |none=>none
def fRegE (E:Env) (cf:CF) (ops:Array Oper) (n str:Nat) (s:St):Option (Nat × St):=
 match drawE ops,fOpsE E cf false ops (filtE ops [] n str) n str ops.toList 0 [] s with
 |true,some (ts,_)=>
  match fOpsE E cf false ops (filtE ops ts n str) n str ops.toList 0 [] s with
  |some (ts',s')=>match eqP ts' ts&&chainE ops ts with|true=>some (n+ops.size*str,s')|false=>none
  |none=>none
 |_,_=>none
def fRegW (E:Env) (cf:CF) (ops:Array Oper) (n str:Nat) (s:St):Option (Nat × St):=
 match fOpsE E cf true ops (visW ops n str) n str ops.toList 0 [] s with
 |some (_,s')=>some (n+ops.size*str,s')
 |none=>none
def fRegX (E:Env) (cf:CF) (yf:CY) (ops:Array Oper) (n str:Nat) (s:St):Option (Nat × St):=
 match wOk E.P ops with
 |true=>fRegW E cf ops n str s
 |false=>
  match drawOk ops (quietLen ops.toList) with
  |true=>fRegD E cf yf ops n str s
  |false=>fRegE E cf ops n str s
def fCallF (E:Env) (run:CR) (f:FuncId) (args:List AV) (n str:Nat) (s:St):Option (AV × Nat × St):=
 match E.P.funcs[f]? with
 | some fn=>
  match fn.body with
  |some c=>
   match run c n str {s with tm:=args++List.replicate (fn.ntmps-args.length) (.c (.v undef)),ms:=[],rd:=none} with
   |some (.ret,n',s')=>match endF E.P fn s s' with|some (v,s')=>some (v,n',s')|none=>none
   |some (.normal,n',s')=>match endF E.P fn s s' with|some (v,s')=>some (v,n',s')|none=>none
   |_=>none
  |none=>none
 |none=>none
def fYieldS (run:CR) (id:Nat) (args:List AV) (n str:Nat) (s:St):Option (AV × Nat × St):=
 match look s.m id with
 | some x=>
  match x.cs with
  | .obj (.loop _ _ tm ps as bd _)=>
   match Nat.beq args.length ps.size with
   | true=>
    match run as n str {s with tm:=setPs ps.toList args tm,ms:=[],rd:=some id} with
    | some (.normal,n1,s1)=>
     match look s1.m id with
     | some x1=>
      match x1.cs with
      | .obj (.loop .ready pd1 tm1 ps1 as1 bd1 dn1)=>
       match run bd n1 str {s1 with m:=updM s1.m id {x1 with cs:=.obj (.loop .busy pd1 tm1 ps1 as1 bd1 dn1)}} with
       |some (e,n2,s2)=>match endY id e s s2 with|some (v,s')=>some (v,n2,s')|none=>none
       |none=>none
      |_=>none
     |none=>none
    |_=>none
   |false=>none
  |_=>none
 |none=>none
def fEnterA (n:Nat) (s:St) (ps:Array Tmp) (as bd:Code):Option (AMem × List Nat):=
 match s.rd with
 |none=>some (s.m++[(n,oblk (.dfr true))]++[(n+1,oblk (.loop .ready none s.tm ps as bd n))],n::s.ms)
 |some r=>
  match look s.m r with
  |some x=>match x.cs with | .obj (.loop _ _ _ _ _ _ dn)=>some (s.m++[(n+1,oblk (.loop .ready none s.tm ps as bd dn))],s.ms)|_=>none
  |none=>none
def fScopeS (run:CR) (a:Code):Nat→Code→Nat→Nat→St→Option (Exit × Nat × St)
 |0,_,_,_,_=>none
 |k+1,c,n,str,s=>
  match run c n str s with
  |some (.goto l,n,s)=>match findLabel a l with|some c'=>fScopeS run a k c' n str s|none=>some (.goto l,n,s)
  |r=>r
def fC (E:Env):Nat→Code→Nat→Nat→St→Option (Exit × Nat × St)
 |0,_,_,_,_=>none
 | g + 1,c,n,str,s=>
  match c with
  | .skip=>some (.normal,n,s)
  | .label _=>some (.normal,n,s)
  | .region _ ops d=>
   match d with
   |false=>match fOpsS E (fCallF E (fC E g)) (fYieldS (fC E g)) ops ops.toList n str s with|some (n,s)=>some (.normal,n,s)|none=>none
   |true=>match fRegX E (fCallF E (fC E g)) (fYieldS (fC E g)) ops n str s with|some (n,s)=>some (.normal,n,s)|none=>none
  | .seq a b=>
   match fC E g a n str s with
   |some (.normal,n,s)=>fC E g b n str s
   |r=>r
  | .cond (.tmp t) a b=>
   match s.tm[t]? with
   |some (.c (.v (.bool x)))=>match s.dec t x with|some (true,s)=>fC E g a n str s|some (false,s)=>fC E g b n str s|none=>none
   |_=>none
  | .cond (.const (.bool x)) a b=>match x with|true=>fC E g a n str s|false=>fC E g b n str s
  | .block id a=>
   match fC E g a n str s with
   |some (.exit id',n,s)=>match Nat.beq id' id with|true=>some (.normal,n,s)|false=>some (.exit id',n,s)
   |r=>r
  | .loop a=>
   match s.lp with
   |some ⟨slots,ids,tm,m,k,e⟩::p=>
    match Nat.ble n k&&Nat.ble k lim with
    |true=>some (e,k,{s with tm:=tm,m:=m,lp:=p,po:=LoopV E.P a slots ids (slots.map fun t=>s.tm[t]?) (ids.map (look s.m)) s.tm.length n tm m k e s.rd::s.po})
    |false=>none
   |none::p=>match fC E g a n str {s with lp:=p} with|some (.normal,n,s)=>fC E g (.loop a) n str {s with lp:=none::s.lp}|r=>r
   | []=>match fC E g a n str s with|some (.normal,n,s)=>fC E g (.loop a) n str s|r=>r
  | .exit id=>some (.exit id,n,s)
  | .goto l=>some (.goto l,n,s)
  | .scope a=>fScopeS (fC E g) a 200 a n str s
  | .ret=>some (.ret,n,s)
  | .rangeFunc f ps as bd=>
   match Nat.ble (n+2) lim,evA s.tm s.m f,fEnterA n s ps as bd with
   | true,some v,some (m',ms')=>
    match aCall [.c (.yld (n+1))] v with
    |some (.call g' args)=>
     match fCallF E (fC E g) g' args (n+2) str {s with m:=m'} with
     |some (_,n1,s1)=>match leaveA (n+1) {s1 with ms:=ms'} with|some (e,s')=>some (e,n1,s')|none=>none
     |none=>none
    |_=>none
   |_,_,_=>none
  |_=>none
section
variable {E:Env}
theorem inR_eq (b str:Nat):∀l:AMem,inR' b str l=inR b str l
 | []=>rfl
 |(i,x)::r=>by simp only[inR',inR,List.all_cons];rw[inR_eq b str r];rfl
theorem allOwn_eq:∀l:AMem,allOwn l=l.all (fun x=>x.2.own)
 | []=>rfl
 |(i,x)::r=>by simp only[allOwn,List.all_cons];rw[allOwn_eq r]
theorem need_at {s s':St} {l:List Bool} {n str:Nat} (h:s.need l=some s'):(s.at_ n str).need l=some (s'.at_ n str):=by
 obtain⟨tm,m,n0,str0,sk,path,ob,po,ms0,rd0,lp0⟩:=s
 cases sk with
 |true=>
  simp only[St.need,St.at_] at h ⊢
  split at h
  · rename_i hl;cases h;rfl
  · cases h
 |false=>
  simp only[St.need,St.at_,Option.some.injEq] at h ⊢
  subst h;rfl
theorem dec_at {s s':St} {t:Tmp} {b d:Bool} {n str:Nat} (h:s.dec t b=some (d,s')):(s.at_ n str).dec t b=some (d,s'.at_ n str):=by
 obtain⟨tm,m,n0,str0,sk,path,ob,po,ms0,rd0,lp0⟩:=s
 cases path with
 |nil=>cases b<;>(simp only[St.dec,St.at_,Option.some.injEq,Prod.mk.injEq] at h ⊢;obtain⟨rfl,rfl⟩:=h;exact⟨rfl,rfl⟩)
 |cons q r=>
  cases q with
  |b d'=>simp only[St.dec,St.at_,Option.some.injEq,Prod.mk.injEq] at h ⊢;obtain⟨rfl,rfl⟩:=h;exact⟨rfl,rfl⟩
  |_=>cases b<;>(simp only[St.dec,St.at_,Option.some.injEq,Prod.mk.injEq] at h ⊢;obtain⟨rfl,rfl⟩:=h;exact⟨rfl,rfl⟩)
theorem guard_at {ops:Array Oper} {o:Oper} {s s':St} {d:Bool} {n str:Nat} (h:guardA ops o s=some (d,s')):guardA ops o (s.at_ n str)=some (d,s'.at_ n str):=by
 unfold guardA at h ⊢
 split at h
 · cases h;rfl
 · rename_i j want hg
   split at h
   · cases h;rfl
   · rename_i t hd
     have htm:(s.at_ n str).tm=s.tm:=rfl
     rw[htm]
     split at h
     · rename_i b hb
       split at h
       · rename_i d' s'' hdec
         rw[dec_at hdec]
         cases h;rfl
       · cases h
     · rename_i vs hb
       cases h;rfl
     · cases h
def SimY (yf:CY) (yf0:Nat→List AV→St→Option (AV × St)):Prop:=
 ∀id args n str s r n' s',yf id args n str s=some (r,n',s')→yf0 id args (s.at_ n str)=some (r,s'.at_ n' str)
def SimF (cf:CF) (cf0:FuncId→List AV→St→Option (AV × St)):Prop:=
 ∀f args n str s r n' s',cf f args n str s=some (r,n',s')→cf0 f args (s.at_ n str)=some (r,s'.at_ n' str)
theorem callA_sim {cf:CF} {cf0:FuncId→List AV→St→Option (AV × St)} (h:SimF cf cf0):SimF (fCallA E cf) (callA E cf0):=by
 intro f args n str s r n' s' hh
 unfold fCallA at hh
 unfold callA
 have e1:(s.at_ n str).m=s.m:=rfl
 have e2:(s.at_ n str).n=n:=rfl
 rw[e1,e2]
 split at hh
 · rename_i r' news k ob hct
   rw[hct]
   simp only
   split at hh
   · rename_i s1 hle hneed
     rw[hle,need_at hneed]
     cases hh;rfl
   · cases hh
 · rename_i hct
   rw[hct]
   exact h _ _ _ _ _ _ _ _ hh
theorem opS_sim {cf:CF} {cf0:FuncId→List AV→St→Option (AV × St)} {yf:CY} {yf0:Nat→List AV→St→Option (AV × St)} (hcf:SimF cf cf0) (hyf:SimY yf yf0) {ops:Array Oper} {o:Oper} {n str n':Nat} {s s':St} (h:fOpS E cf yf ops o n str s=some (n',s')):
 opS E cf0 yf0 ops o (s.at_ n str)=some (s'.at_ n' str):=by
 unfold fOpS at h
 unfold opS
 split at h
 · cases h
 · rename_i s1 hg
   rw[guard_at hg]
   cases h;rfl
 · rename_i s1 hg
   rw[guard_at hg]
   simp only
   have e1:(s1.at_ n str).m=s1.m:=rfl
   have e2:(s1.at_ n str).n=n:=rfl
   have e3:(s1.at_ n str).tm=s1.tm:=rfl
   rw[e1,e2,e3]
   split at h
   · rename_i v news ob hle haop
     rw[hle,haop]
     simp only
     split at h
     · rename_i s2 hneed
       rw[need_at hneed]
       cases h;rfl
     · cases h
   · rename_i v m' ob hle haop
     rw[hle,haop]
     simp only
     split at h
     · rename_i s2 hup hneed
       rw[hup,need_at hneed]
       cases h;rfl
     · cases h
   · rename_i f args hle haop
     rw[hle,haop]
     simp only
     split at h
     · rename_i v n2 s2 hco hcall
       rw[hco,callA_sim hcf _ _ _ _ _ _ _ _ hcall]
       cases h;rfl
     · cases h
   · rename_i id args hle haop
     rw[hle,haop]
     simp only
     split at h
     · rename_i v n2 s2 hco hcall
       rw[hco,hyf _ _ _ _ _ _ _ _ hcall]
       cases h;rfl
     · cases h
   · cases h
theorem opsS_sim {cf:CF} {cf0:FuncId→List AV→St→Option (AV × St)} {yf:CY} {yf0:Nat→List AV→St→Option (AV × St)} (hcf:SimF cf cf0) (hyf:SimY yf yf0) {ops:Array Oper}:∀{l:List Oper} {n str n':Nat} {s s':St},fOpsS E cf yf ops l n str s=some (n',s')→opsS E cf0 yf0 ops l (s.at_ n str)=some (s'.at_ n' str)
 | [],n,str,n',s,s',h=>by simp only[fOpsS,Option.some.injEq,Prod.mk.injEq] at h;obtain⟨rfl,rfl⟩:=h;rfl
 |o::r,n,str,n',s,s',h=>by
  simp only[fOpsS] at h
  simp only[opsS]
  split at h
  · rename_i n1 s1 h1
    rw[opS_sim hcf hyf h1]
    exact opsS_sim hcf hyf h
  · cases h
theorem opQ_sim {cf:CF} {cf0:FuncId→List AV→St→Option (AV × St)} (hcf:SimF cf cf0) {ops:Array Oper} {o:Oper} {i n0 b str:Nat} {mi news:AMem} {v:AV} {s s':St} (h:fOpQ E cf ops o mi b str s=some (v,news,s')):
 opQ E cf0 ops i o mi b (s.at_ n0 str)=some (v,news,s'.at_ n0 str):=by
 unfold fOpQ at h
 unfold opQ
 split at h
 · cases h
 · rename_i s1 hg
   rw[guard_at hg]
   cases h;rfl
 · rename_i s1 hg
   rw[guard_at hg]
   simp only
   have e1:(s1.at_ n0 str).str=str:=rfl
   have e3:(s1.at_ n0 str).tm=s1.tm:=rfl
   rw[e1,e3]
   split at h
   · rename_i v' news' ob hle haop
     rw[hle,haop]
     simp only
     split at h
     · rename_i s2 hin hneed
       rw[inR_eq] at hin
       rw[hin,need_at hneed]
       cases h;rfl
     · cases h
   · rename_i f args hle haop
     rw[hle,haop]
     simp only
     split at h
     · rename_i r news' k ob hco hct
       rw[hco,hct]
       simp only
       split at h
       · rename_i s2 hin hneed
         rw[inR_eq] at hin
         rw[hin,need_at hneed]
         cases h;rfl
       · cases h
     · rename_i hco hct
       rw[hco,hct]
       simp only
       split at h
       · rename_i r n2 s2 hcall
         have:=hcf _ _ _ _ _ _ _ _ hcall
         obtain⟨tm1,m1,n1,str1,sk1,path1,ob1,po1,ms1,rd1,lp1⟩:=s1
         simp only[St.at_] at this ⊢
         rw[this]
         simp only
         split at h
         · rename_i hc
           rw[inR_eq,allOwn_eq] at hc
           rw[hc]
           cases h;rfl
         · cases h
       · cases h
     · cases h
   · cases h
theorem opsQ_sim {cf:CF} {cf0:FuncId→List AV→St→Option (AV × St)} (hcf:SimF cf cf0) {ops:Array Oper} {n0 str:Nat}:∀{l:List Oper} {i:Nat} {acc acc':List (Nat × AMem)} {s s':St},fOpsQ E cf ops n0 str l i acc s=some (acc',s')→
 opsQ E cf0 ops n0 l i acc (s.at_ n0 str)=some (acc',s'.at_ n0 str)
 | [],i,acc,acc',s,s',h=>by simp only[fOpsQ,Option.some.injEq,Prod.mk.injEq] at h;obtain⟨rfl,rfl⟩:=h;rfl
 |o::r,i,acc,acc',s,s',h=>by
  simp only[fOpsQ] at h
  simp only[opsQ]
  have e1:(s.at_ n0 str).str=str:=rfl
  have e2:(s.at_ n0 str).m=s.m:=rfl
  rw[e1,e2]
  split at h
  · rename_i v news s1 h1
    rw[opQ_sim hcf h1]
    exact opsQ_sim hcf h
  · cases h
theorem regD_sim {cf:CF} {cf0:FuncId→List AV→St→Option (AV × St)} {yf:CY} {yf0:Nat→List AV→St→Option (AV × St)} (hcf:SimF cf cf0) (hyf:SimY yf yf0) {ops:Array Oper} {n str n':Nat} {s s':St} (h:fRegD E cf yf ops n str s=some (n',s')):regD E cf0 yf0 ops (s.at_ n str)=some (s'.at_ n' str):=by
 unfold fRegD at h
 unfold regD
 have e1:(s.at_ n str).n=n:=rfl
 rw[e1]
 split at h
 · rename_i hok
   rw[hok]
   simp only
   split at h
   · rename_i acc s1 hq
     rw[opsQ_sim hcf hq]
     exact opsS_sim hcf hyf h
   · cases h
 · cases h
theorem opW_sim {cf:CF} {cf0:FuncId→List AV→St→Option (AV × St)} (hcf:SimF cf cf0) {ops:Array Oper} {o:Oper} {n0 b str:Nat} {mi:AMem} {z:AStep} {v:AV} {s s':St} (h:fOpW E cf ops o mi b str s=some (v,z,s')):
 opW E cf0 ops o mi b (s.at_ n0 str)=some (v,z,s'.at_ n0 str):=by
 unfold fOpW at h
 unfold opW
 split at h
 · cases h
 · rename_i s1 hg
   rw[guard_at hg]
   cases h;rfl
 · rename_i s1 hg
   rw[guard_at hg]
   simp only
   have e1:(s1.at_ n0 str).str=str:=rfl
   have e3:(s1.at_ n0 str).tm=s1.tm:=rfl
   rw[e1,e3]
   split at h
   · rename_i f args hle haop
     rw[hle,haop]
     simp only
     split at h
     · rename_i r news' k ob hco hct
       rw[hco,hct]
       simp only
       split at h
       · rename_i s2 hin hneed
         rw[inR_eq] at hin
         rw[hin,need_at hneed]
         cases h;rfl
       · cases h
     · rename_i hco hct
       rw[hco,hct]
       simp only
       split at h
       · rename_i r n2 s2 hcall
         have:=hcf _ _ _ _ _ _ _ _ hcall
         obtain⟨tm1,m1,n1,str1,sk1,path1,ob1,po1,ms1,rd1,lp1⟩:=s1
         simp only[St.at_] at this ⊢
         rw[this]
         simp only
         split at h
         · rename_i hc
           rw[inR_eq,allOwn_eq] at hc
           rw[hc]
           cases h;rfl
         · cases h
       · cases h
     · cases h
   · cases h
theorem opE_sim {cf:CF} {cf0:FuncId→List AV→St→Option (AV × St)} (hcf:SimF cf cf0) {wm:Bool} {ops:Array Oper} {o:Oper} {i n0 b str:Nat} {mi:AMem} {z:AStep} {v:AV} {s s':St} (h:fOpE E cf wm ops o mi b str s=some (v,z,s')):
 opE E cf0 wm ops i o mi b (s.at_ n0 str)=some (v,z,s'.at_ n0 str):=by
 unfold fOpE at h
 unfold opE
 split at h
 · rename_i hu
   try rw[hu]
   try simp only
   split at h
   · rename_i hw
     try rw[hw]
     try simp only
     split at h
     · rename_i v' l s1 hq
       rw[opQ_sim hcf hq]
       cases h;rfl
     · cases h
   · rename_i hw
     try rw[hw]
     try simp only
     exact opW_sim hcf h
 · rename_i hu
   try rw[hu]
   try simp only
   split at h
   · cases h
   · rename_i s1 hg
     rw[guard_at hg]
     cases h;rfl
   · rename_i s1 hg
     rw[guard_at hg]
     simp only
     have e1:(s1.at_ n0 str).str=str:=rfl
     have e3:(s1.at_ n0 str).tm=s1.tm:=rfl
     rw[e1,e3]
     split at h
     · rename_i v' l ob hle haop
       rw[hle,haop]
       simp only
       split at h
       · rename_i s2 hin hneed
         rw[inR_eq] at hin
         rw[hin,need_at hneed]
         cases h;rfl
       · cases h
     · rename_i v' e ob hle haop
       rw[hle,haop]
       simp only
       split at h
       · rename_i s2 hne hneed
         rw[hne,need_at hneed]
         cases h;rfl
       · cases h
     · cases h
theorem opsE_sim {cf:CF} {cf0:FuncId→List AV→St→Option (AV × St)} (hcf:SimF cf cf0) {wm:Bool} {ops:Array Oper} {vis:Nat→AMem→AMem} {n0 str:Nat}:∀{l:List Oper} {i:Nat} {acc acc':List (Nat × Nat)} {s s':St},fOpsE E cf wm ops vis n0 str l i acc s=some (acc',s')→
 opsE E cf0 wm ops vis n0 l i acc (s.at_ n0 str)=some (acc',s'.at_ n0 str)
 | [],i,acc,acc',s,s',h=>by simp only[fOpsE,Option.some.injEq,Prod.mk.injEq] at h;obtain⟨rfl,rfl⟩:=h;rfl
 |o::r,i,acc,acc',s,s',h=>by
  simp only[fOpsE] at h
  simp only[opsE]
  have e1:(s.at_ n0 str).str=str:=rfl
  have e2:(s.at_ n0 str).m=s.m:=rfl
  rw[e1,e2]
  split at h
  · rename_i v z s1 h1
    rw[opE_sim hcf h1]
    exact opsE_sim hcf h
  · cases h
theorem regX_sim {cf:CF} {cf0:FuncId→List AV→St→Option (AV × St)} {yf:CY} {yf0:Nat→List AV→St→Option (AV × St)} (hcf:SimF cf cf0) (hyf:SimY yf yf0) {ops:Array Oper} {n str n':Nat} {s s':St} (h:fRegX E cf yf ops n str s=some (n',s')):regX E cf0 yf0 ops (s.at_ n str)=some (s'.at_ n' str):=by
 unfold fRegX at h
 unfold regX
 split at h
 · rename_i hw
   try rw[hw]
   try simp only
   unfold fRegW at h
   unfold regW
   have e1:(s.at_ n str).n=n:=rfl
   have e2:(s.at_ n str).str=str:=rfl
   rw[e1,e2]
   split at h
   · rename_i ts s1 h1
     rw[opsE_sim hcf h1]
     cases h;rfl
   · cases h
 · rename_i hw
   try rw[hw]
   try simp only
   split at h
   · rename_i hd
     try rw[hd]
     exact regD_sim hcf hyf h
   · rename_i hd
     try rw[hd]
     simp only
     unfold fRegE at h
     unfold regE
     have e1:(s.at_ n str).n=n:=rfl
     have e2:(s.at_ n str).str=str:=rfl
     rw[e1,e2]
     split at h
     · rename_i ts s1 hok h1
       rw[hok,opsE_sim hcf h1]
       simp only
       split at h
       · rename_i ts' s2 h2
         rw[opsE_sim hcf h2]
         simp only
         split at h
         · rename_i hc
           rw[hc]
           cases h;rfl
         · cases h
       · cases h
     · cases h
theorem endF_at {P:Program} {fn:Func} {s s' s2:St} {v:AV} {n n0 str str0:Nat} (h:endF P fn s s'=some (v,s2)):endF P fn (s.at_ n0 str0) (s'.at_ n str)=some (v,s2.at_ n str):=by
 unfold endF at h ⊢
 have e1:(s'.at_ n str).ms=s'.ms:=rfl
 have e2:(s'.at_ n str).m=s'.m:=rfl
 have e3:(s'.at_ n str).tm=s'.tm:=rfl
 rw[e1,e2,e3]
 split at h
 · rename_i m hm
   try rw[hm]
   try simp only
   split at h
   · rename_i l ob hl
     try rw[hl]
     try simp only
     split at h
     · rename_i s3 hneed
       rw[need_at hneed]
       cases h;rfl
     · cases h
   · cases h
 · cases h
theorem callF_sim {run:CR} {run0:Code→St→Option (Exit × St)} (hr:∀c n str s e n' s',run c n str s=some (e,n',s')→run0 c (s.at_ n str)=some (e,s'.at_ n' str)):SimF (fCallF E run) (callF E run0):=by
 intro f args n str s r n' s' h
 unfold fCallF at h
 unfold callF
 split at h
 · rename_i fn hfn
   rw[hfn]
   try simp only
   split at h
   · rename_i c hc
     try rw[hc]
     try simp only
     split at h
     · rename_i n1 s1 hr1
       have hr2:=hr _ _ _ _ _ _ _ hr1
       simp only[St.at_] at hr2 ⊢
       rw[hr2]
       try simp only
       split at h
       · rename_i v s2 he
         cases h
         exact endF_at he
       · cases h
     · rename_i n1 s1 hr1
       have hr2:=hr _ _ _ _ _ _ _ hr1
       simp only[St.at_] at hr2 ⊢
       rw[hr2]
       try simp only
       split at h
       · rename_i v s2 he
         cases h
         exact endF_at he
       · cases h
     · cases h
   · cases h
 · cases h
theorem endY_at {id:Nat} {e:Exit} {s s' s2:St} {v:AV} {n n0 str str0:Nat} (h:endY id e s s'=some (v,s2)):endY id e (s.at_ n0 str0) (s'.at_ n str)=some (v,s2.at_ n str):=by
 unfold endY at h ⊢
 have e2:(s'.at_ n str).m=s'.m:=rfl
 rw[e2]
 split at h
 · rename_i j x hj hx
   try rw[hj,hx]
   try simp only
   split at h
   · rename_i hc
     try rw[hc]
     cases h;rfl
   · cases h
 · cases h
theorem leaveA_at {l:Nat} {e:Exit} {s s2:St} {n str:Nat} (h:leaveA l s=some (e,s2)):leaveA l (s.at_ n str)=some (e,s2.at_ n str):=by
 unfold leaveA at h ⊢
 have e2:(s.at_ n str).m=s.m:=rfl
 rw[e2]
 split at h
 · rename_i x hx
   try rw[hx]
   try simp only
   split at h
   · cases h
   · rename_i st pd tm ps as bd dn hne hc
     try rw[hc]
     cases st with
     |busy=>exact(hne rfl).elim
     |_=>
      try simp only
      split at h
      · cases h;rfl
      · cases h;rfl
      · cases h;rfl
      · cases h
   · cases h
 · cases h
theorem yieldS_sim {run:CR} {run0:Code→St→Option (Exit × St)} (hr:∀c n str s e n' s',run c n str s=some (e,n',s')→run0 c (s.at_ n str)=some (e,s'.at_ n' str)):SimY (fYieldS run) (yieldS run0):=by
 intro id args n str s r n' s' h
 unfold fYieldS at h
 unfold yieldS
 have e2:(s.at_ n str).m=s.m:=rfl
 rw[e2]
 split at h
 · rename_i x hx
   try rw[hx]
   try simp only
   split at h
   · rename_i hc
     try rw[hc]
     try simp only
     split at h
     · rename_i hlen
       try rw[hlen]
       try simp only
       split at h
       · rename_i n1 s1 h1
         have k1:=hr _ _ _ _ _ _ _ h1
         simp only[St.at_] at k1 ⊢
         rw[k1]
         try simp only
         split at h
         · rename_i x1 hx1
           try rw[hx1]
           try simp only
           split at h
           · rename_i hc1
             try rw[hc1]
             try simp only
             split at h
             · rename_i e n2 s2 h2
               have k2:=hr _ _ _ _ _ _ _ h2
               simp only[St.at_] at k2
               rw[k2]
               try simp only
               split at h
               · rename_i v s3 he
                 cases h
                 exact endY_at he
               · cases h
             · cases h
           · cases h
         · cases h
       · cases h
     · cases h
   · cases h
 · cases h
theorem enterA_at (n str:Nat) (s:St) (ps:Array Tmp) (as bd:Code):enterA (s.at_ n str) ps as bd=fEnterA n s ps as bd:=rfl
theorem scopeS_sim {run:CR} {run0:Code→St→Option (Exit × St)} {x:Code} (hr:∀c n str s e n' s',run c n str s=some (e,n',s')→run0 c (s.at_ n str)=some (e,s'.at_ n' str)):∀k c n str s e n' s',fScopeS run x k c n str s=some (e,n',s')→scopeS run0 x k c (s.at_ n str)=some (e,s'.at_ n' str):=by
 intro k
 induction k with
 |zero=>intro c n str s e n' s' h;cases h
 |succ k ih=>
  intro c n str s e n' s' h
  unfold fScopeS at h
  unfold scopeS
  split at h
  · rename_i l n1 s1 h1
    rw[hr _ _ _ _ _ _ _ h1]
    simp only
    split at h
    · rename_i c' hf
      rw[hf]
      exact ih _ _ _ _ _ _ _ h
    · rename_i hf
      rw[hf]
      simp only[Option.some.injEq,Prod.mk.injEq] at h;obtain⟨rfl,rfl,rfl⟩:=h
      rfl
  · rename_i hne
    rw[hr _ _ _ _ _ _ _ h]
    cases e with
    |goto l=>exact absurd h (hne l _ _)
    |_=>rfl
theorem fC_sim:∀(g:Nat) (c:Code) (n str:Nat) (s:St) (e:Exit) (n':Nat) (s':St),fC E g c n str s=some (e,n',s')→sxC E g c (s.at_ n str)=some (e,s'.at_ n' str):=by
 intro g
 induction g with
 |zero=>intro c n str s e n' s' h;cases h
 | succ g ih=>
  have hcf:SimF (fCallF E (fC E g)) (callF E (sxC E g)):=callF_sim ih
  have hyf:SimY (fYieldS (fC E g)) (yieldS (sxC E g)):=yieldS_sim ih
  intro c n str s e n' s' h
  cases c with
  |skip=>simp only[fC,Option.some.injEq,Prod.mk.injEq] at h;obtain⟨rfl,rfl,rfl⟩:=h;rfl
  |label l=>simp only[fC,Option.some.injEq,Prod.mk.injEq] at h;obtain⟨rfl,rfl,rfl⟩:=h;rfl
  |exit l=>simp only[fC,Option.some.injEq,Prod.mk.injEq] at h;obtain⟨rfl,rfl,rfl⟩:=h;rfl
  |goto l=>simp only[fC,Option.some.injEq,Prod.mk.injEq] at h;obtain⟨rfl,rfl,rfl⟩:=h;rfl
  |scope x=>
   simp only[fC] at h
   simp only[sxC]
   exact scopeS_sim ih 200 _ _ _ _ _ _ _ h
  |ret=>simp only[fC,Option.some.injEq,Prod.mk.injEq] at h;obtain⟨rfl,rfl,rfl⟩:=h;rfl
  |region id ops d=>
   simp only[fC] at h
   simp only[sxC]
   split at h
   · split at h
     · rename_i n1 s1 h1
       simp only[Option.some.injEq,Prod.mk.injEq] at h;obtain⟨rfl,rfl,rfl⟩:=h
       rw[opsS_sim hcf hyf h1]
     · cases h
   · split at h
     · rename_i n1 s1 h1
       simp only[Option.some.injEq,Prod.mk.injEq] at h;obtain⟨rfl,rfl,rfl⟩:=h
       rw[regX_sim hcf hyf h1]
     · cases h
  |seq x y=>
   simp only[fC] at h
   simp only[sxC]
   split at h
   · rename_i n1 s1 h1
     rw[ih _ _ _ _ _ _ _ h1]
     exact ih _ _ _ _ _ _ _ h
   · rename_i hne
     rw[ih _ _ _ _ _ _ _ h]
     cases e with
     |normal=>exact absurd h (hne _ _)
     |_=>rfl
  | cond c x y=>
   cases c with
   |tmp t=>
    simp only[fC] at h
    simp only[sxC]
    have e3:(s.at_ n str).tm=s.tm:=rfl
    rw[e3]
    split at h
    · rename_i b hb
      rw[hb]
      simp only
      split at h
      · rename_i s1 hd1;rw[dec_at hd1];exact ih _ _ _ _ _ _ _ h
      · rename_i s1 hd1;rw[dec_at hd1];exact ih _ _ _ _ _ _ _ h
      · cases h
    · cases h
   | const v=>
    cases v with
    |bool b=>
     simp only[fC] at h
     simp only[sxC]
     split at h
     · exact ih _ _ _ _ _ _ _ h
     · exact ih _ _ _ _ _ _ _ h
    |_=>simp[fC] at h
   |_=>simp[fC] at h
  |block id x=>
   simp only[fC] at h
   simp only[sxC]
   split at h
   · rename_i id' n1 s1 h1
     rw[ih _ _ _ _ _ _ _ h1]
     simp only
     split at h
     · rename_i hid
       simp only[Option.some.injEq,Prod.mk.injEq] at h;obtain⟨rfl,rfl,rfl⟩:=h
       rw[hid]
     · rename_i hid
       simp only[Option.some.injEq,Prod.mk.injEq] at h;obtain⟨rfl,rfl,rfl⟩:=h
       rw[hid]
   · rename_i hne
     rw[ih _ _ _ _ _ _ _ h]
     cases e with
     |exit id'=>exact absurd h (hne id' _ _)
     |_=>rfl
  |loop x=>
   simp only[fC] at h
   simp only[sxC]
   have e1:(s.at_ n str).lp=s.lp:=rfl
   have e2:(s.at_ n str).n=n:=rfl
   rw[e1,e2]
   split at h
   · rename_i slots ids tm m k e' p hpath
     rw[hpath]
     simp only
     split at h
     · rename_i hle
       rw[hle]
       simp only[Option.some.injEq,Prod.mk.injEq] at h;obtain⟨rfl,rfl,rfl⟩:=h
       rfl
     · cases h
   · rename_i p hp
     rw[hp]
     simp only
     split at h
     · rename_i n1 s1 h1
       have k1:=ih _ _ _ _ _ _ _ h1
       simp only[St.at_] at k1 ⊢
       rw[k1]
       exact ih _ _ _ _ _ _ _ h
     · rename_i hne
       have k1:=ih _ _ _ _ _ _ _ h
       simp only[St.at_] at k1 ⊢
       rw[k1]
       cases e with
       |normal=>exact absurd h (hne _ _)
       |_=>rfl
   · rename_i hp
     rw[hp]
     simp only
     split at h
     · rename_i n1 s1 h1
       rw[ih _ _ _ _ _ _ _ h1]
       exact ih _ _ _ _ _ _ _ h
     · rename_i hne
       rw[ih _ _ _ _ _ _ _ h]
       cases e with
       |normal=>exact absurd h (hne _ _)
       |_=>rfl
  |rangeFunc f ps as bd=>
   simp only[fC] at h
   simp only[sxC]
   have e2:(s.at_ n str).n=n:=rfl
   have e3:(s.at_ n str).tm=s.tm:=rfl
   have e4:(s.at_ n str).m=s.m:=rfl
   rw[enterA_at,e2,e3,e4]
   split at h
   · rename_i v m' ms' hle hv hen
     rw[hle,hv,hen]
     simp only
     split at h
     · rename_i g' args hcall
       rw[hcall]
       simp only
       split at h
       · rename_i rv n1 s1 h1
         have k1:=hcf _ _ _ _ _ _ _ _ h1
         simp only[St.at_] at k1 ⊢
         rw[k1]
         simp only
         split at h
         · rename_i e' s2 he
           cases h
           exact leaveA_at he
         · cases h
       · cases h
     · cases h
   · cases h
  |_=>cases h
theorem fCallF_sim {g:Nat}:SimF (fCallF E (fC E g)) (callF E (sxC E g)):=callF_sim (fun _ _ _ _ _ _ _=>fC_sim g _ _ _ _ _ _ _)
end
end Go.Proofs.YtpgaplcdbbnblaaGreatDoor
end
