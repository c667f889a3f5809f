/- Parts of a proof. -/
import Derived.Test.YtljeokninakliaaGreatDoorJModelsCrew2
import Derived.Test.YtljeokninakliaaGreatDoorJModelsCrew4
set_option linter.unusedSimpArgs false
set_option linter.unusedVariables false
section
namespace Go.Proofs.YtljeokninakliaaGreatDoor
open Go.RowKit
section
variable {P:Program} {C:Ctx} {β:Nm} {m m2:AMem} {w:World} {tm:List AV} {a:Act} {news:AMem} {ob:List Bool} {lo hi:Nat} {x y val:AV} {u v:Value}
theorem Cq (s:Nat):∀{ps:List (Nat × AV)} {i:Nat} {l:List AC} {qs:List (Nat × Value)},WL s i ps=some l->ps.map (·.1)=qs.map (·.1)->γt β (ps.map (·.2))=some (qs.map (·.2))->
 l.all AC.one=true/\γs β l=some (qs.flatMap (·.2.cells.toList))/\WM s i qs=true
 | [],i,l,[],h,_,_=>by simp only[WL,Option.some.injEq] at h;subst h;exact⟨rfl,rfl,rfl⟩
 | (j, p) ::r,i,l,(j',q)::qs,h,hi,hg=>by
  simp only[List.map_cons,List.cons.injEq] at hi;obtain⟨rfl,hi⟩:=hi;simp only[List.map_cons,γt] at hg;split at hg
  . rename_i q' qs' hq hqs
    simp only[Option.some.injEq,List.cons.injEq] at hg;obtain⟨rfl,rfl⟩:=hg;simp only[WL] at h;split at h
    . rename_i vs l' hvs hl'
      split at h
      . rename_i hc
        simp only[Bool.and_eq_true] at hc;obtain⟨h1,h2,h3⟩:=hc;cases h;obtain⟨us,hus,hcells,_⟩:=Lo hvs (Vq hq);have hcl:q'.cells.toList=us:=hcells (List.all_eq_true.2 (NH h3 hus));obtain⟨i1,i2,i3⟩:=Cq s hl' hi hqs;have hul:=SF hus;refine⟨by rw[List.all_append,h3,i1];rfl,?_,?_⟩
        . rw[List.flatMap_cons,hcl]
          exact CB hus i2
        . unfold WM
          have e1:(j==i)=true:=by have:=Nat.eq_of_beq_eq_true h1;simp[this]
          have e2:(q'.cells.size==s)=true:=by
           have:=Nat.eq_of_beq_eq_true h2;simp[<- Array.length_toList,hcl,hul,this]
          rw[e1,e2,i3];rfl
      . cases h
    . cases h
  . cases hg
 | [],_,_,_::_,_,hi,_=>by simp at hi
 |_::_,_,_,[],_,hi,_=>by simp at hi
theorem jj88 {ib:Nat} {t:TypeId} {n:Nat} {ps:List (Nat × AV)} {qs:List (Nat × Value)} (h:VT P ib t n ps=some (.eff val news ob)) (hi:ps.map (·.1)=qs.map (·.1)) (hg:γt β (ps.map (·.2))=some (qs.map (·.2))) (hr:Rel C β m2 w)
 (hid:β ib=none) (hgl:∀g,ib≠Z2 g):ZH P C m2 w β ib (ib+1) val news (Z4 (Instr.buildSlice t n qs.toArray)):=by
 unfold VT at h;split at h
 . rename_i e hu
   split at h
   . rename_i s z l hs hz hl
     split at h
     . rename_i hc
       simp only[Bool.and_eq_true] at hc;obtain⟨h1,h2,h3,h4⟩:=hc;cases h;obtain⟨i,hinf,hsz⟩:=CD hs;obtain⟨i',q,hi',hq,rfl,_⟩:=SW hz;rw[hinf] at hi';cases hi';rw[hs,Option.getD_some] at hl;obtain⟨f1,f2,f3⟩:=Cq s hl hi hg
       have hlen:qs.length=n:=by
        have e1:ps.length=n:=Nat.eq_of_beq_eq_true h1;have e2:=congrArg List.length hi;simp at e2;omega
       have hrun:=jjj9 (P:=P) hu hinf hq n qs.toArray w;rw[if_pos ⟨by rw[hsz];exact f3,by simp[hlen],by rw[hsz];exact Nat.le_of_ble_eq_true h2,by rw[hsz];exact Nat.le_of_ble_eq_true h3⟩] at hrun;refine⟨ZU β ib ⟨w.heap.size,0,0,0,false⟩,.slice (some ⟨w.heap.size,0,none⟩) n n,_,QU hrun,Wq hid,fun id hid'=>?_,?_,Rel.new (t:=e) hr hid hgl f2 (NH f1 f2)⟩
       . simp[ZU];intro e;omega
       . simp[γ,γ1,γc,ZU]
     . cases h
   . cases h
 . cases h
theorem jjoo {t:TypeId} {ty:TypeId} {ts:List TypeId} {xs:List Value} (h:Kx P t x=some (.eff val news ob)) (hx:γ β x=some v) (hr:Rel C β m2 w):
 ZH P C m2 w β lo hi val news (Z4 (Builtin.len_ (t::ts).toArray ty (v::xs).toArray)):=by
 unfold Kx at h;split at h
 . obtain⟨L,hL,hsl⟩:=Uz hx
   split at h
   . rename_i e hu
     cases h;refine ZH.still hr ?_ rfl;rcases hsl with⟨_,rfl,_,rfl⟩|⟨_,rfl⟩<;>simp[Builtin.len_,Sem.run_bind,run_underlying hu]
   . cases h
 . have:=YZ hx;subst this
   split at h
   . rename_i e hu
     cases h;refine ZH.still hr ?_ rfl;simp[Builtin.len_,Sem.run_bind,run_underlying hu]
   . cases h
 . have:=YZ hx;subst this
   split at h
   . rename_i hu
     cases h;refine ZH.still hr ?_ rfl;simp[Builtin.len_,Sem.run_bind,run_underlying hu]
   . cases h
 . cases h
theorem jjop {t:TypeId} {ty:TypeId} {ts:List TypeId} {xs:List Value} (h:Kw P m t x=some (.eff val news ob)) (hx:γ β x=some v) (hr:Rel C β m2 w):
 ZH P C m2 w β lo hi val news (Z4 (Builtin.cap_ (t::ts).toArray ty (v::xs).toArray)):=by
 unfold Kw at h;split at h
 . rename_i id k j len
   obtain⟨L,hL,hsl⟩:=Uz hx;split at h
   . rename_i e b hu hb
     split at h
     . cases h
       refine ZH.still (v:=.int .i64 (if L.nil then 0 else ((L.cap-k:Nat):Int))) hr ?_ (by simp only[γ,γ1,γc,hL]);rcases hsl with⟨hn,_,_,rfl⟩|⟨hn,rfl⟩
       . rw[if_pos hn]
         simp[Builtin.cap_,Sem.run_bind,run_underlying hu,goInt]
       . rw[if_neg (by rw[hn];simp)]
         simp[Builtin.cap_,Sem.run_bind,run_underlying hu,goInt]
     . cases h
   . cases h
 . obtain⟨L,hL,hsl⟩:=Uz hx
   split at h
   . rename_i e hu
     cases h;refine ZH.still hr ?_ rfl;rcases hsl with⟨_,_,hc,rfl⟩|⟨_,rfl⟩
     . simp only[Option.getD_some] at hc
       subst hc;simp[Builtin.cap_,Sem.run_bind,run_underlying hu]
     . simp[Builtin.cap_,Sem.run_bind,run_underlying hu]
   . cases h
 . have:=YZ hx;subst this
   split at h
   . rename_i e hu
     cases h;refine ZH.still hr ?_ rfl;simp[Builtin.cap_,Sem.run_bind,run_underlying hu]
   . cases h
 . cases h
theorem Ex {k:IntKind}:∀{r:List AV} {n p:Int} {vs:List Value},O0 k n r=some p->γt β r=some vs->∀w,(vs.foldlM Builtin.min2 (.int k n)).run P w= .ok (.int k p) w
 | [],n,p,vs,h,hg,w=>by simp only[O0,Option.some.injEq] at h;simp only[γt,Option.some.injEq] at hg;subst h;subst hg;rfl
 | .c (.v (.int k' q))::r,n,p,vs,h,hg,w=>by
  simp only[O0] at h;simp only[γt,γ1,γc] at hg;split at hg
  . rename_i q' qs hq hqs
    cases hq;cases hg;rw[List.foldlM_cons,Sem.run_bind];simp only[Builtin.min2,Sem.run_pure,Result.andThen_ok];exact Ex h hqs w
  . cases hg
theorem EA {k:IntKind}:∀{r:List AV} {n p:Int} {vs:List Value},NY k n r=some p->γt β r=some vs->∀w,(vs.foldlM Builtin.max2 (.int k n)).run P w= .ok (.int k p) w
 | [],n,p,vs,h,hg,w=>by simp only[NY,Option.some.injEq] at h;simp only[γt,Option.some.injEq] at hg;subst h;subst hg;rfl
 | .c (.v (.int k' q))::r,n,p,vs,h,hg,w=>by
  simp only[NY] at h;simp only[γt,γ1,γc] at hg;split at hg
  . rename_i q' qs hq hqs
    cases hq;cases hg;rw[List.foldlM_cons,Sem.run_bind];simp only[Builtin.max2,Sem.run_pure,Result.andThen_ok];exact EA h hqs w
  . cases hg
theorem Cg {k:IntKind} {i:Int} {n:Nat} {c:BoundsCode} (h0:0<=i) (h1:i<=n) (w:World):(Instr.sliceBound (.int k i) n c).run P w= .ok i.toNat w:=by
 simp[Instr.sliceBound,asIntOf,Sem.run_bind,h0,h1]
def Vv (k:Option IntKind):Option Int->Option Value
 |none=>none
 |some i=>some (.int (k.getD .i64) i)
theorem jjdb {len cap:Nat} {kl kh km:Option IntKind} {l h m:Option Int} (hm0:m.isNone=true\/h.isSome=true) (h1:0<=l.getD 0) (h2:l.getD 0<=h.getD (len:Int)) (h3:h.getD (len:Int)<=m.getD (cap:Int)) (h4:m.getD (cap:Int)<=cap) (w:World):
 (Instr.sliceBounds true len cap (Vv kl l) (Vv kh h) (Vv km m)).run P w= .ok ((l.getD 0).toNat,(h.getD (len:Int)).toNat,(m.getD (cap:Int)).toNat) w:=by
 cases l<;>cases h<;>cases m<;>simp at hm0 h1 h2 h3 h4 ⊢ <;>simp[Instr.sliceBounds,Vv,Sem.run_bind]<;>
  (repeat (first|rw[Cg (by omega) (by omega)]|(rw[Sem.run_bind]))<;>simp[Cg, *]<;>try omega)
theorem Qm {t e:TypeId} {s:Nat} {A:Option Addr} {len cap:Nat} {kl kh km:Option IntKind} {l h q:Option Int} (hu:P.underlying t=some (.slice e)) (hs:Y6 P e=some s)
 (hm0:q.isNone=true\/h.isSome=true) (h1:0<=l.getD 0) (h2:l.getD 0<=h.getD (len:Int)) (h3:h.getD (len:Int)<=q.getD (cap:Int)) (h4:q.getD (cap:Int)<=cap) (w:World):
 (Instr.sliceAt t (.slice A len cap) (Vv kl l) (Vv kh h) (Vv km q)).run P w=
  .ok (.slice (if (q.getD (cap:Int)).toNat=(l.getD 0).toNat then A else A.map (·.add ((l.getD 0).toNat*s))) ((h.getD (len:Int)).toNat-(l.getD 0).toNat) ((q.getD (cap:Int)).toNat-(l.getD 0).toNat)) w:=by
 have hb:=jjdb (P:=P) (kl:=kl) (kh:=kh) (km:=km) hm0 h1 h2 h3 h4 w;unfold Instr.sliceAt;rw[Sem.run_bind,run_underlying hu];simp only[Result.andThen_ok];unfold Instr.slice;rw[Sem.run_bind,run_underlying hu];simp only[Result.andThen_ok];rw[Sem.run_bind,hb];simp only[Result.andThen_ok];rw[Sem.run_bind,Uw hs];rfl
theorem Rel.addRo {C:Ctx} {β:Nm} {m:AMem} {w:World} (h:Rel C β m w) {id:Nat} (hid:β id=none) (hg:∀g,id≠Z2 g) {id0:Nat} {x0:ABlk} {L0:Loc} (hx0:ZY m id0=some x0) (hL0:β id0=some L0) (hno0:x0.own=false) (hob0:∀o,x0.cs≠ .obj o) {y:ABlk} (hy:y.own=false) (hyo:∀o,y.cs≠ .obj o) {L:Loc} (hLb:L.nil=false->L.b=L0.b/\L0.nil=false) (hk:YV C (ZU β id L) w L y):
 Rel C (ZU β id L) (m++[(id,y)]) w:=by
 have he:Ext β (ZU β id L):=Wq hid
 have hlk:∀i z,ZY (m++[(id,y)]) i=some z->ZY m i=some z/\i≠id\/i=id/\z=y:=by
  intro i z e;rw[TV] at e
  cases e':ZY m i with
  |some z'=>
   rw[e'] at e;obtain rfl:z'=z:=Option.some.inj e;refine .inl ⟨rfl,fun h'=>?_⟩;subst h';obtain⟨M,hM,_⟩:=h.blk i z' e';rw[hid] at hM;cases hM
  |none=>
   rw[e'] at e;simp only[VK] at e
   cases hb:Nat.beq id i with
   |true=>rw[hb] at e;cases e;exact .inr ⟨(Nat.eq_of_beq_eq_true hb).symm,rfl⟩
   |false=>rw[hb] at e;cases e
 refine⟨h.os,h.tape,h.output,h.size,h.base,h.out,fun i z e=>?_,fun i i' z z' M M' e e' hne ho hM hM' hn hn'=>?_,fun g M e=>?_,fun i z o e ho=>?_⟩
 . rcases hlk i z e with⟨e1,_⟩|⟨rfl,rfl⟩
   . obtain⟨M,hM,hk'⟩:=h.blk i z e1
     exact⟨M,he i M hM,hk'.keep he (Nat.le_refl _) (fun _=>rfl)⟩
   . exact⟨L,W9,hk⟩
 . rcases hlk i z e with⟨e1,n1⟩|⟨rfl,rfl⟩
   . simp only[ZU,n1,if_false] at hM
     rcases hlk i' z' e' with⟨e2,n2⟩|⟨rfl,rfl⟩
     . simp only[ZU,n2,if_false] at hM'
       exact h.sep i i' z z' M M' e1 e2 hne ho hM hM' hn hn'
     . simp only[ZU,if_true] at hM'
       cases hM';obtain⟨b1,b2⟩:=hLb hn';rw[b1];exact h.sep i id0 z x0 M L0 e1 hx0 (fun e=>by subst e;rw[e1] at hx0;cases hx0;rw[hno0] at ho;cases ho) ho hM hL0 hn b2
   . rw[hy] at ho;cases ho
 . have:Z2 g≠id:=fun e=>hg g e.symm
   simp only[ZU,this,if_false] at e;exact h.glob g M e
 . rcases hlk i z e with⟨e1,n1⟩|⟨rfl,rfl⟩
   . obtain⟨M,g1,g2,g3,g4,g5⟩:=h.objs i z o e1 ho
     refine⟨M,he i M g1,g2,g3,g4.keep he rfl,fun i' y' K q1 q2 q3 q4=>?_⟩;rcases hlk i' y' q2 with⟨e2,n2⟩|⟨rfl,rfl⟩
     . simp only[ZU,n2,if_false] at q3
       exact g5 i' y' K q1 e2 q3 q4
     . simp only[ZU,if_true] at q3
       cases q3;obtain⟨b1,b2⟩:=hLb q4;rw[b1];exact g5 id0 x0 L0 (fun e=>by subst e;rw[e1] at hx0;cases hx0;exact hob0 o ho) hx0 hL0 b2
   . exact absurd ho (hyo o)
theorem jjgz {t :TypeId} {l h' q:Option Int} {kl kh km:Option IntKind} {ib:Nat} (h:RQ P m ib t l h' q x=some (.eff val news ob)) (hob:ZZ ob) (hx:γ β x=some v) (hr:Rel C β m2 w) (hs:Sub m m2) (hid:β ib=none) (hgl:∀g,ib≠Z2 g):
 ZH P C m2 w β ib (ib+1) val news (Z4 (Instr.sliceAt t v (Vv kl l) (Vv kh h') (Vv km q))):=by
 unfold RQ at h;split at h
 . have:=YZ hx;subst this
   split at h
   . rename_i e hu
     split at h
     . rename_i s hsz
       cases h;simp only[ZZ,List.mem_cons,List.not_mem_nil,or_false,forall_eq_or_imp,forall_eq,decide_eq_true_eq,Bool.or_eq_true] at hob;obtain⟨⟨e1,e2,e3⟩,hm0⟩:=hob;have hh:h'.getD ((0:Nat):Int)=0:=e2;have hq:q.getD ((0:Nat):Int)=0:=e3;refine ZH.still hr ?_ rfl;rw[Qm hu hsz hm0 (by omega) (by omega) (by omega) (by omega),e1,hh,hq];rfl
     . cases h
   . cases h
 . rename_i id k j len cap
   obtain⟨L,hL,hsl⟩:=Uz hx;split at h
   . rename_i e b hu hb
     obtain⟨L',hL',hbk⟩:=hr.blk id b (hs _ _ hb);rw[hL] at hL';cases hL';split at h
     . rename_i s hsz
       have key:∀(k' j':Nat),(cap=none->k'=k+(l.getD 0).toNat)->k'*L.s+j'=k*L.s+j+(l.getD 0).toNat*s->ZZ (Mk cap b k len l h' q)->
        ZH P C m2 w β ib (ib+1) (.c (.sl id k' j' (h'.getD (len:Int)-l.getD 0).toNat (V9 cap (l.getD 0) q))) [] (Z4 (Instr.sliceAt t v (Vv kl l) (Vv kh h') (Vv km q))):=by
        intro k' j' hk' hpos hob;simp only[Mk,ZZ,List.mem_cons,List.not_mem_nil,or_false,forall_eq_or_imp,forall_eq,decide_eq_true_eq,Bool.or_eq_true] at hob;obtain⟨⟨o1,o2,o3⟩,o4,o5,hm0,o6⟩:=hob;rcases hsl with⟨hn,h2,h3,rfl⟩|⟨hn,rfl⟩
        . subst h2
          have hc0:cap.getD 0=0:=h3
          have hq0:YR cap 0 q=0:=by
           have h9:0<=YR cap 0 q:=by omega
           rw[hc0] at o5;omega
          have hqd:q.getD ((0:Nat):Int)=0:=by cases q<;>simp_all[YR]
          rw[hq0] at o3
          have hcap:(V9 cap (l.getD 0) q).getD 0=0:=by
           cases q with
           |some M=>simp[YR] at hq0;simp[V9,hq0];omega
           |none=>
            cases cap with
            |none=>rfl
            |some c=>simp at hc0;simp[V9,hc0]
          refine ZH.still hr (v:=.slice none 0 0) ?_ ?_
          . rw[Qm hu hsz hm0 (by omega) (by omega) (by omega) (by omega)]
            rw[show (h'.getD ((0:Nat):Int)).toNat-(l.getD 0).toNat=0 by omega,show (q.getD ((0:Nat):Int)).toNat-(l.getD 0).toNat=0 by omega];simp
          . simp only[γ,γ1,γc,hL,hn,if_true]
            rw[if_pos ⟨by omega,hcap⟩]
        . -- the real capacity
          have hrow:cap=none->∃n f,b.cs= .arr n f/\b.row=true/\k+len<=n:=fun hc=>by
           subst hc
           cases hbc:b.cs with
           |lit _=>simp[Zt,hbc] at o6
           |obj _=>simp[Zt,hbc] at o6
           |arr n f=>
            simp[Zt,hbc] at o6;exact⟨n,f,rfl,o6.1,o6.2⟩
          have hreal:((cap.getD len:Nat):Int)<=(cap.getD (L.cap-k):Nat):=by
           cases cap with
           |none=>
            obtain⟨n,f,r1,r2,r3⟩:=hrow rfl;have:=hbk.rowc r2 hn n f r1;simp;omega
           |some c=>simp
          have hq1:q.getD ((cap.getD (L.cap-k):Nat):Int)<=(cap.getD (L.cap-k):Nat):=by
           cases q with
           |none=>simp
           |some M=>simp[YR] at o5 ⊢;omega
          have hq2:YR cap len q<=q.getD ((cap.getD (L.cap-k):Nat):Int):=by
           cases q with
           |none=>simpa[YR] using hreal
           |some M=>simp[YR]
          refine ZH.still hr (Qm hu hsz hm0 o1 o2 (by omega) hq1 w) ?_;simp only[γ,γ1,γc,hL,hn,Bool.false_eq_true,if_false,Option.some.injEq,Value.slice.injEq];refine⟨?_,by omega,?_⟩
          . by_cases h0:l.getD 0=0
            . rw[h0] at hpos ⊢
              simp at hpos;simp[Addr.add_lit,hpos]
            . rw[if_neg (by omega)]
              simp[Addr.add_lit]
              try omega
          . cases q with
            |some M=>simp[V9];try omega
            | none=>
             cases cap with
             |none=>
              have:=hk' rfl;simp[V9,this]
              try omega
             |some c=>simp[V9]
       split at h
       . rename_i n f hro hcs
         cases h;simp only[ZZ,List.mem_cons,List.not_mem_nil,or_false,forall_eq_or_imp,forall_eq,decide_eq_true_eq] at hob;obtain⟨⟨s1,rfl⟩,⟨o1,o2,o3⟩,hm0,o4⟩:=hob
         obtain⟨rfl,r2,r3⟩:cap=none/\b.row=true/\b.own=false:=by
          unfold Kf at hro;split at hro
          . simp only[Bool.and_eq_true,Bool.not_eq_true'] at hro
            exact⟨rfl,hro.1,hro.2⟩
          . cases hro
         obtain rfl:q=none:=by cases q with
          |none=>rfl
          |some _=>cases hm0
         obtain⟨a,ha⟩:∃a:Nat,l.getD 0=a:=⟨_,(Int.toNat_of_nonneg o1).symm⟩
         obtain⟨z,hz⟩:∃z:Nat,h'.getD (len:Int)=z:=⟨_,(Int.toNat_of_nonneg (by omega)).symm⟩
         have hzm:(h'.getD (len:Int)-l.getD 0).toNat=z-a:=by rw[ha,hz];omega
         have hat:(l.getD 0).toNat=a:=by rw[ha];rfl
         rw[hzm,hat];rcases hsl with⟨hn,h2,h3,rfl⟩|⟨hn,rfl⟩
         . subst h2
           have hz0:z=0:=by omega
           have ha0:a=0:=by omega
           subst hz0;subst ha0;refine⟨ZU β ib ⟨0,0,s,0,true⟩,.slice none 0 0,w,QU ?_,Wq hid,fun id hid'=>by simp[ZU];intro e;omega,by simp[γ,γ1,γc,ZU],?_⟩
           . rw[Qm hu hsz (.inl rfl) (by omega) (by omega) (by simp;omega) (by simp),ha,hz]
             simp
           . exact hr.addRo hid hgl (hs _ _ hb) hL r3 (fun o e=>by rw[hcs] at e;cases e) rfl (fun o e=>by cases e) (fun h=>by cases h) ⟨rfl,fun _ e=>(by cases e),fun k' j' hi'=>by simp[ABlk.inb] at hi',fun h=>by (cases h),fun h=>by (cases h),fun n' f' e i hi'=>by (cases e;omega),fun _ h=>by (cases h)⟩
         . have hrc:=hbk.rowc r2 hn n f hcs
           have hLs:L.s=s:=hbk.sz.trans s1;have hak:a<=z:=by omega
           have hzl:z<=len:=by omega
           have hrun:=Qm (P:=P) (A:=some ⟨L.b,L.o+(k*L.s+0),none⟩) (len:=len) (cap:=L.cap-k) (kl:=kl) (kh:=kh) (km:=km) (l:=l) (h:=h') (q:=none) hu hsz (.inl rfl) (by omega) (by omega) (by simp only[Option.getD_none];omega) (by simp) w;rw[ha,hz] at hrun;simp only[Option.getD_none,Int.toNat_natCast] at hrun;obtain⟨off,hoff⟩:∃off,off=if L.cap-k=a then L.o+(k*L.s+0) else L.o+(k*L.s+0)+a*s:=⟨_,rfl⟩
           have hval:(if L.cap-k=a then some (⟨L.b,L.o+(k*L.s+0),none⟩:Addr) else (some (⟨L.b,L.o+(k*L.s+0),none⟩:Addr)).map (·.add (a*s)))=some ⟨L.b,off,none⟩:=by
            rw[hoff];split
            . rfl
            . simp[Addr.add_lit]
           rw[hval] at hrun;refine⟨ZU β ib ⟨L.b,off,s,L.cap-k-a,false⟩,_,w,QU hrun,Wq hid,fun id hid'=>by simp[ZU];intro e;omega,by simp[γ,γ1,γc,ZU],?_⟩;refine hr.addRo hid hgl (hs _ _ hb) hL r3 (fun o e=>by rw[hcs] at e;cases e) rfl (fun o e=>by cases e) (fun _=>⟨rfl,hn⟩) ⟨rfl,fun _ e=>(by cases e),fun k' j' hi'=>⟨rfl,?_⟩,fun _=>hbk.lt hn,fun h=>by (cases h),fun n' f' e i hi'=>?_,fun _ _ n' f' e=>?_⟩
           . simp only[ABlk.inb,Bool.and_eq_true] at hi'
             have i1:k'<z-a:=of_decide_eq_true hi'.1;have i2:j'+1<=s:=of_decide_eq_true hi'.2;obtain⟨_,u,g2,g3,g4⟩:=hbk.cells (k+a+k') j' (by simp only[ABlk.inb,hcs,s1,Bool.and_eq_true,decide_eq_true_eq];omega);refine⟨u,Pa (Wq hid) (by rw[hcs] at g2;exact g2),g3,?_⟩;rw[<- g4];congr 2;rw[hoff,if_neg (by omega),hLs,Nat.add_mul,Nat.add_mul];dsimp only;omega
           . simp only[Cs.arr.injEq] at e
             obtain⟨rfl,rfl⟩:=e;show (f (k+a+i)).length=s;rw[hbk.arrl n f hcs _ (by omega),s1]
           . simp only[Cs.arr.injEq] at e
             obtain⟨rfl,rfl⟩:=e;show z-a<=L.cap-k-a;omega
       . split at h
         . rename_i n f hwd hcs
           cases h;simp only[ZZ,List.mem_cons,List.not_mem_nil,or_false,forall_eq_or_imp,forall_eq,decide_eq_true_eq] at hob;obtain⟨⟨s1,s2⟩,⟨o1,o2,o3⟩,o4,o5⟩:=hob
           obtain⟨rfl,rfl,⟨hz0,rfl⟩,r2⟩:cap=none/\q=none/\(∃hz0,h'=some hz0)/\b.row=true:=by
            unfold Kp at hwd;split at hwd
            . simp only[Bool.and_eq_true] at hwd
              exact⟨rfl,rfl,⟨_,rfl⟩,hwd.1⟩
            . cases hwd
           simp only[Option.getD_some] at o2 o3 ⊢;rcases hsl with⟨hn,h2,h3,rfl⟩|⟨hn,rfl⟩
           . have hn0:n=0:=by
              rcases Nat.eq_zero_or_pos n with h0|h0
              . exact h0
              . obtain⟨g1,_⟩:=hbk.cells 0 0 (by simp only[ABlk.inb,hcs,Bool.and_eq_true,decide_eq_true_eq];omega)
                rw[hn] at g1;cases g1
             subst h2;have e1:l.getD 0=0:=by omega
             have e2:hz0=0:=by omega
             subst e2;refine ZH.still hr (v:=.slice none 0 0) ?_ ?_
             . rw[Qm hu hsz (.inl rfl) (by omega) (by simp;omega) (by simp) (by simp),e1]
               simp
             . simp only[γ,γ1,γc,hL,hn,if_true]
               rw[if_pos ⟨by omega,rfl⟩]
           . have hrc:=hbk.rowc r2 hn n f hcs
             have hLs:L.s=s:=hbk.sz.trans s1;refine ZH.still hr (Qm hu hsz (.inl rfl) o1 (by simpa using o2) (by simp only[Option.getD_some,Option.getD_none];omega) (by simp) w) ?_;simp only[γ,γ1,γc,hL,hn,Bool.false_eq_true,if_false,Option.some.injEq,Value.slice.injEq,Option.getD_some,Option.getD_none,Int.toNat_natCast];refine⟨?_,by omega,by omega⟩;by_cases h0:l.getD 0=0
             . rw[h0]
               simp[Addr.add_lit]
             . rw[if_neg (by omega)]
               simp only[Option.map_some,Addr.add_lit,Option.some.injEq,Addr.mk.injEq,true_and,and_true];rw[hLs,Nat.add_mul];omega
         . split at h
           . rename_i hss
             cases h;exact key _ _ (fun _=>rfl) (by rw[hbk.sz,hss,Nat.add_mul];omega) hob
           . split at h
             . rename_i hss
               cases h;exact key _ _ (fun hc=>by rw[hc] at hss;exact absurd hss.2 (by simp)) (by omega) hob
             . cases h
     . cases h
   . cases h
 . cases h
end
end Go.Proofs.YtljeokninakliaaGreatDoor
end
