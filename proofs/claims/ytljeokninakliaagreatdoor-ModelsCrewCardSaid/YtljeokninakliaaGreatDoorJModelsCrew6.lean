/- Parts of a proof. -/
import Derived.Test.YtljeokninakliaaGreatDoorJModelsCrew5
import Derived.IntWalk
import Derived.Lib.AppendZeros
set_option linter.unusedSimpArgs false
set_option linter.unusedVariables false
section
namespace Go.Proofs.YtljeokninakliaaGreatDoor
open Go.RowKit
section
variable {P:Program} {C:Ctx} {β:Nm} {m m' m2:AMem} {w w':World} {tm:List AV} {a:Act} {news:AMem} {ob:List Bool} {lo hi:Nat} {x y val:AV} {u v:Value} {L:Loc} {b:ABlk}
theorem Rel.install (h:Rel C β m w) (hm:Sub m' m) {id:Nat} (hid:β id=none) (hg:∀g,id≠Z2 g) (hos:w'.os=w.os) (ht:w'.tape=w.tape) (hou:w'.output=w.output) (hsz:w.heap.size<=w'.heap.size)
 (hkeep:∀b,b<w.heap.size->w'.heap[b]? =w.heap[b]?\/((C.base<=b\/C.S b)/\∀i x M,ZY m' i=some x->β i=some M->M.nil=false->M.b≠b))
 (hap:∀i x M,ZY m' i=some x->β i=some M->M.nil=false->L.nil=false->M.b≠L.b) (hblk:YV C (ZU β id L) w' L b) (hnob:∀o,b.cs= .obj o->False:=by intro _ h;first|cases h|simp[QT] at h):
 Rel C (ZU β id L) (m'++[(id,b)]) w':=by
 have he:Ext β (ZU β id L):=Wq hid;have h':=h.weaken hm
 have hno:ZY m' id=none:=by
  cases e:ZY m' id with
  |none=>rfl
  |some x=>obtain⟨M,hM,_⟩:=h'.blk id x e;rw[hid] at hM;cases hM
 have hlk:∀i x,ZY (m'++[(id,b)]) i=some x->(ZY m' i=some x/\i≠id)\/(i=id/\x=b):=by
  intro i x e;rw[TV] at e
  cases e':ZY m' i with
  |some y=>
   rw[e'] at e;cases e;exact .inl ⟨rfl,fun h'=>by subst h';rw[hno] at e';cases e'⟩
  |none=>
   rw[e'] at e;simp only[VK] at e
   cases hb:Nat.beq id i with
   |true=>rw[hb] at e;cases e;exact .inr ⟨(Nat.eq_of_beq_eq_true hb).symm,rfl⟩
   |false=>rw[hb] at e;cases e
 refine⟨hos.trans h.os,ht.trans h.tape,hou.trans h.output,Nat.le_trans h.size hsz,h.base,fun b h1 h2=>?_,fun i x e=>?_,?_,?_,?_⟩
 . rcases hkeep b (by have:=h.size;have:=h.base;omega) with h3|⟨h3|h3,_⟩
   . rw[h3];exact h.out b h1 h2
   . omega
   . exact absurd h3 h2
 . rcases hlk i x e with⟨e1,hne⟩|⟨rfl,rfl⟩
   . obtain⟨M,hM,hb⟩:=h'.blk i x e1
     refine⟨M,he i M hM,hb.keep he hsz fun hn=>?_⟩;rcases hkeep M.b (hb.lt hn) with h3|⟨_,h3⟩
     . exact h3
     . exact absurd rfl (h3 i x M e1 hM hn)
   . exact⟨L,W9,hblk⟩
 . intro i i' x x' M M' e e' hne ho hM hM' hn hn'
   rcases hlk i x e with⟨e1,h1⟩|⟨rfl,rfl⟩
   . rcases hlk i' x' e' with⟨e2,h2⟩|⟨rfl,rfl⟩
     . simp only[ZU,h1,h2,if_false] at hM hM'
       exact h'.sep i i' x x' M M' e1 e2 hne ho hM hM' hn hn'
     . simp only[ZU,h1,if_false,if_true] at hM hM'
       cases hM';exact hap i x M e1 hM hn hn'
   . rcases hlk i' x' e' with⟨e2,h2⟩|⟨rfl,rfl⟩
     . simp only[ZU,h2,if_false,if_true] at hM hM'
       cases hM;exact(hap i' x' M' e2 hM' hn' hn).symm
     . exact absurd rfl hne
 . intro g M e
   have:Z2 g≠id:=fun e=>hg g e.symm
   simp only[ZU,this,if_false] at e;exact h.glob g M e
 . intro i x o e ho
   rcases hlk i x e with⟨e1,hne⟩|⟨rfl,rfl⟩
   . obtain⟨M,k1,k2,k3,k4,k5⟩:=h'.objs i x o e1 ho
     obtain⟨M',hM',hb⟩:=h'.blk i x e1;rw[k1] at hM';cases hM';refine⟨M,he i M k1,k2,k3,k4.keep he ?_,fun i' x' M' g1 g2 g3 g4=>?_⟩
     . rcases hkeep M.b (hb.lt k2) with h3|⟨_,h3⟩
       . exact h3
       . exact absurd rfl (h3 i x M e1 k1 k2)
     . rcases hlk i' x' g2 with⟨e2,hne2⟩|⟨rfl,rfl⟩
       . simp only[ZU,hne2,if_false] at g3
         exact k5 i' x' M' g1 e2 g3 g4
       . simp only[ZU,if_true] at g3
         cases g3;exact(hap i x M e1 k1 k2 g4).symm
   . exact(hnob o ho).elim
theorem LX {k j s n:Nat} {o:Bool} (hb:YV C β w L b) (hn:L.nil=false) (he:UW b k j s n=some o) (ho:o=true) (hs:1<=s):
 ∃news:List Value,news.length=n*s/\(∀(i:Nat) u,news[i]? =some u->u.oneCell'=true/\w.cell? ⟨L.b,L.o+(k*L.s+j)+i,none⟩=some u)/\
  ∀i,i<n->(YW b k j s i).length=s/\∀j',j'<s->∃u,news[i*s+j']? =some u/\γc β ((YW b k j s i).getD j' ZV)=some u:=by
 have key:∀i,i<n->(YW b k j s i).length=s/\∀j',j'<s->∃u,u.oneCell'=true/\w.cell? ⟨L.b,L.o+(k*L.s+j)+(i*s+j'),none⟩=some u/\γc β ((YW b k j s i).getD j' ZV)=some u:=by
  intro i hi
  cases hcs:b.cs with
  |arr q f=>
   simp only[UW,hcs] at he;split at he
   . rename_i hc
     cases he;simp at ho;obtain⟨hc1,rfl⟩:=hc;simp only[YW,hcs];refine⟨by rw[hb.arrl q f hcs (k+i) (by omega),hc1],fun j' hj'=>?_⟩;obtain⟨_,u,h1,h2,h3⟩:=hb.cells (k+i) j' (by simp[ABlk.inb,hcs];omega);refine⟨u,h2,?_,?_⟩
     . rw[<- h3]
       congr 2;rw[hb.sz,hc1,Nat.add_mul];omega
     . simpa[Cs.get,hcs] using h1
   . cases he
  |obj o=>simp[UW,hcs] at he
  |lit l=>
   simp only[UW,hcs,Option.some.injEq] at he;subst he;simp at ho;have hs0:=hb.lit l hcs;have hLs:L.s=0:=hb.sz.trans hs0;have hin:i*s+s<=n*s:=by rw[<- Nat.succ_mul];exact Nat.mul_le_mul_right _ hi
   simp only[YW,hcs];refine⟨by simp;omega,fun j' hj'=>?_⟩;obtain⟨_,u,h1,h2,h3⟩:=hb.cells 0 (j+i*s+j') (by simp[ABlk.inb,hcs];omega);refine⟨u,h2,?_,?_⟩
   . rw[<- h3]
     congr 2;simp[hLs];omega
   . simp only[Cs.get,hcs,List.getD] at h1
     simp only[List.getD,List.getElem?_take,hj',if_true,List.getElem?_drop];exact h1
 refine⟨(List.range (n*s)).map fun q=>(w.cell? ⟨L.b,L.o+(k*L.s+j)+q,none⟩).getD undef,by simp,fun i u hu=>?_,fun i hi=>⟨(key i hi).1,fun j' hj'=>?_⟩⟩
 . have hi:i<n*s:=by have:=(List.getElem?_eq_some_iff.1 hu).1;simpa using this
   have hdm:i / s*s+i % s=i:=by rw[Nat.mul_comm];exact Nat.div_add_mod i s
   have hm:i % s<s:=Nat.mod_lt _ hs
   have hd:i / s<n:=by
    rw[Nat.div_lt_iff_lt_mul hs];exact hi
   obtain⟨u',h1,h2,_⟩:=(key (i / s) hd).2 (i % s) hm;rw[hdm] at h2;simp[hi,h2] at hu;subst hu;exact⟨h1,h2⟩
 . obtain⟨u,h1,h2,h3⟩:=(key i hi).2 j' hj'
   have hlt:i*s+j'<n*s:=by
    have:=Nat.mul_le_mul_right s hi;rw[Nat.succ_mul] at this;omega
   exact⟨u,by simp[hlt,h2],h3⟩
theorem Rj (m:AMem) (id id':Nat):ZY (Uu m id) id'=if id'=id then none else ZY m id':=by
 induction m with
 |nil=>simp[Uu,ZY]
 | cons y t ih=>
  obtain⟨i,z⟩:=y;simp only[Uu]
  cases hb:Nat.beq i id with
  |true=>
   have hi:i=id:=Nat.eq_of_beq_eq_true hb;subst hi;simp only[VK];rw[ih];by_cases e:id'=i
   . simp[e]
   . have:Nat.beq i id'=false:=by
      cases h':Nat.beq i id' with
      |true=>exact absurd (Nat.eq_of_beq_eq_true h').symm e
      |false=>rfl
     simp[e,this]
  | false=>
   simp only[VK]
   cases hb':Nat.beq i id' with
   |true=>
    have hi:i=id':=Nat.eq_of_beq_eq_true hb';subst hi;have:i≠id:=fun e=>by subst e;rw[hb'] at hb;cases hb
    simp[this]
   |false=>simpa using ih
theorem HD {e:TypeId} {i:TypeInfo} (hs:1<=i.size) (hr:Rel C β m w) (hm':Sub m' m) {ib:Nat} (hid:β ib=none) (hgl:∀g,ib≠Z2 g)
 {row:Option Nat} {n:Nat} {xs:List Value} {f:Nat->List AC} (hwr:∀g,row=some g->C.base<=g\/C.S g)
 (hap:∀id x M g,ZY m' id=some x->β id=some M->M.nil=false->row=some g->M.b≠g) (hxl:xs.length=n*i.size)
 (hf:∀q,q<n->(f q).length=i.size/\∀j,j<i.size->∃u,xs[q*i.size+j]? =some u/\u.oneCell'=true/\γc β ((f q).getD j ZV)=some u)
 {q:Nat} {g0:Nat->List AC} {news:List Value} (hel:∀p,p<q->(g0 p).length=i.size/\∀j',j'<i.size->∃u,news[p*i.size+j']? =some u/\u.oneCell'=true/\γc β ((g0 p).getD j' ZV)=some u)
 {v':Value} (hown':w'.ownsRow 0 e i.size v' (n+q) (xs++news)) (hgrow:w.grownBy w' row) (hblk':v'.ownBlock=row\/v'.ownBlock=some w.heap.size):
 ∃L,γ (ZU β ib L) (.c (.sl ib 0 0 (n+q) none))=some v'/\Rel C (ZU β ib L) (m'++[(ib,QT e i.size n f q g0)]) w':=by
 have hapdl:∀n' f',(QT e i.size n f q g0).cs= .arr n' f'->∀p,p<n'->(f' p).length=i.size:=by
  intro n' f' hcs p hp;simp only[QT,Cs.arr.injEq] at hcs;obtain⟨rfl,rfl⟩:=hcs;simp only;split
  . rename_i hpn;exact(hf p hpn).1
  . exact(hel (p-n) (by omega)).1
 have hkeep:∀bb,bb<w.heap.size->w'.heap[bb]? =w.heap[bb]?\/((C.base<=bb\/C.S bb)/\∀i x M,ZY m' i=some x->β i=some M->M.nil=false->M.b≠bb):=by
  intro bb hbb;by_cases e:some bb=row
  . exact .inr ⟨hwr bb e.symm,fun id x M e1 e2 e3=>hap id x M bb e1 e2 e3 e.symm⟩
  . exact .inl (hgrow.block bb hbb e)
 rcases hown'.2 with⟨rfl,h0⟩|⟨g,cp,cur,rfl,_,hheap,hncap,hcmax,hsize,htake⟩
 . refine⟨⟨0,0,i.size,0,true⟩,?_,?_⟩
   . simp[γ,γ1,γc,ZU,h0]
   . refine Rel.install hr hm' hid hgl hgrow.os hgrow.tape hgrow.output hgrow.size hkeep (fun _ _ _ _ _ _ h=>by cases h)
      ⟨rfl,fun l hl=>by simp[QT] at hl,fun k' j' hi'=>?_,fun h=>by (cases h),fun _ h=>by (cases h),hapdl,fun _ h=>by (cases h)⟩
     have:k'<n+q/\j'+1<=i.size:=by simp only[ABlk.inb,QT,Bool.and_eq_true] at hi';exact⟨of_decide_eq_true hi'.1,of_decide_eq_true hi'.2⟩
     omega
 . have hgb:(C.base<=g\/C.S g)/\(∀id x M,ZY m' id=some x->β id=some M->M.nil=false->M.b≠g):=by
    have hgo:some g=row\/g=w.heap.size:=by
     rcases hblk' with h|h
     . exact .inl (by simpa[Value.ownBlock] using h)
     . exact .inr (by simpa[Value.ownBlock] using h)
    rcases hgo with h|h
    . exact⟨hwr g h.symm,fun id x M e1 e2 e3=>hap id x M g e1 e2 e3 h.symm⟩
    . subst h
      refine⟨.inl (by have:=hr.size;have:=hr.base;omega),fun id x M e1 e2 e3=>?_⟩;obtain⟨M',hM',hbM⟩:=hr.blk id x (hm' _ _ e1);rw[e2] at hM';cases hM';have:=hbM.lt e3;omega
   refine⟨⟨g,0,i.size,cp,false⟩,?_,?_⟩
   . simp[γ,γ1,γc,ZU]
   . refine Rel.install hr hm' hid hgl hgrow.os hgrow.tape hgrow.output hgrow.size hkeep (fun id x M e1 e2 e3 _=>hgb.2 id x M e1 e2 e3)
      ⟨rfl,fun l hl=>by simp[QT] at hl,fun k' j' hi'=>⟨rfl,?_⟩,fun _=>(Array.getElem?_eq_some_iff.1 hheap).1,fun _ _=>⟨rfl,hgb.1,cur,hheap,fun _=>⟨hsize,hs,_,_,rfl,hncap,hcmax⟩⟩,hapdl,fun _ _ n' f' hcs=>?_⟩
     . obtain⟨hk',hj'⟩:k'<n+q/\j'+1<=i.size:=by simp only[ABlk.inb,QT,Bool.and_eq_true] at hi';exact⟨of_decide_eq_true hi'.1,of_decide_eq_true hi'.2⟩
       have hpos:k'*i.size+j'<(n+q)*i.size:=by
        have:=Nat.mul_le_mul_right i.size hk';rw[Nat.succ_mul] at this;omega
       have hcur:cur[k'*i.size+j']? =(xs++news)[k'*i.size+j']?:=by
        rw[<- htake,List.getElem?_take,if_pos hpos];simp
       have hcell:w'.cell? ⟨g,0+(k'*i.size+j'),none⟩=(xs++news)[k'*i.size+j']?:=by
        rw[cell_of_row w' g _ cur e (0,0) hheap,Nat.zero_add,hcur]
       rw[hcell];have hE:Ext β (ZU β ib ⟨g,0,i.size,cp,false⟩):=Wq hid;by_cases hkn:k'<n
       . obtain⟨u,hu1,hu2,hu3⟩:=(hf k' hkn).2 j' (by omega)
         refine⟨u,Pa hE ?_,hu2,?_⟩
         . simp only[QT,Cs.get,hkn,if_true];exact hu3
         . rw[List.getElem?_append_left ?_]
           . exact hu1
           . exact(List.getElem?_eq_some_iff.1 hu1).1
       . obtain⟨u,hu1,hu2,hu3⟩:=(hel (k'-n) (by omega)).2 j' (by omega)
         refine⟨u,Pa hE ?_,hu2,?_⟩
         . simp only[QT,Cs.get,hkn,if_false];exact hu3
         . have hge:n*i.size<=k'*i.size:=Nat.mul_le_mul_right _ (by omega)
           rw[List.getElem?_append_right (by rw[hxl];omega),hxl,show k'*i.size+j'-n*i.size=(k'-n)*i.size+j' by rw[Nat.sub_mul];omega];exact hu1
     . simp only[QT,Cs.arr.injEq] at hcs
       obtain⟨rfl,rfl⟩:=hcs;exact hncap
theorem Cy {t ty e:TypeId} {i:TypeInfo} {z:Value} (hu:P.underlying t=some (.slice e)) (hi:P.info? e=some i) (hz:i.zero=some z) (hzs:z.cells.size=i.size) (hs:1<=i.size) (hby:1<=i.bytes)
 (hr:Rel C β m w) (hm':Sub m' m) {ib:Nat} (hid:β ib=none) (hgl:∀g,ib≠Z2 g)
 -- what is appended to
 {v:Value} {n:Nat} {xs:List Value} {f:Nat->List AC} (hown:w.ownsRow 0 e i.size v n xs) (hwr:∀g,v.ownBlock=some g->C.base<=g\/C.S g)
 (hap:∀id x M g,ZY m' id=some x->β id=some M->M.nil=false->v.ownBlock=some g->M.b≠g)
 (hf:∀q,q<n->(f q).length=i.size/\∀j,j<i.size->∃u,xs[q*i.size+j]? =some u/\u.oneCell'=true/\γc β ((f q).getD j ZV)=some u)
 -- what is appended
 {id k j q:Nat} {cap:Option Nat} {o:Bool} {src:Value} (hsrc:γ β (.c (.sl id k j q cap))=some src) (hb:ZY m id=some b) (he:UW b k j i.size q=some o) (ho:o=true) (hbytes:(n+q)*i.bytes<=140737488355328):
 ∃L v' w',(Builtin.append_ #[t,t] ty #[v,src]).run P w= .ok v' w'/\γ (ZU β ib L) (.c (.sl ib 0 0 (n+q) none))=some v'/\
  Rel C (ZU β ib L) (m'++[(ib,QT e i.size n f q (YW b k j i.size))]) w':=by
 obtain⟨L2,hL2,hsl⟩:=Uz hsrc;obtain⟨L2',hL2',hbk⟩:=hr.blk id b hb;rw[hL2] at hL2';cases hL2'
 -- the source as a list of cells
 obtain⟨news,A,c,hA,hSl,h1,hel⟩:∃(news:List Value) (A:Option Addr) (c:Nat),src= .slice A q c/\Sl w w.heap.size i.size A q news/\YL news=true/\
  ∀p,p<q->(YW b k j i.size p).length=i.size/\∀j',j'<i.size->∃u,news[p*i.size+j']? =some u/\u.oneCell'=true/\γc β ((YW b k j i.size p).getD j' ZV)=some u:=by
  rcases hsl with⟨hn,h2,_,rfl⟩|⟨hn,rfl⟩
  . subst h2
    exact⟨[],none,0,rfl,Sl.nil,rfl,fun p hp=>by omega⟩
  . obtain⟨news,e1,e2,e3⟩:=LX hbk hn he ho hs
    refine⟨news,_,_,rfl,⟨e1,fun hq=>⟨_,_,rfl,hbk.lt hn,fun p u hp=>(e2 p u hp).2⟩⟩,List.all_eq_true.2 fun u hu=>?_,fun p hp=>⟨(e3 p hp).1,fun j' hj'=>?_⟩⟩
    . obtain⟨p,hp⟩:=List.getElem?_of_mem hu
      exact(e2 p u hp).1
    . obtain⟨u,hu,hg⟩:=(e3 p hp).2 j' hj'
      exact⟨u,hu,(e2 _ u hu).1,hg⟩
 subst hA;have hnl:news.length=q*i.size:=hSl.len
 have h63:n+q<=maxLen:=by
  have:(n+q)*1<=(n+q)*i.bytes:=Nat.mul_le_mul_left _ hby;unfold maxLen;omega
 obtain⟨v',w',hrun,hown',hgrow,hblk'⟩:=jj8k (P:=P) w 0 t ty e i z i.size hu hi hz rfl hzs hs v n xs hown w.heap.size A q c news hSl h1 h63 hbytes (Nat.zero_le _);obtain⟨L,h2,h3⟩:=HD hs hr hm' hid hgl (row:=v.ownBlock) (fun g hg=>hwr g hg) (fun id x M g e1 e2 e3 e4=>hap id x M g e1 e2 e3 e4) hown.1 hf hel hown' hgrow hblk';exact⟨L,v',w',hrun,h2,h3⟩
theorem Di (w:World) {e:TypeId} {size need old:Nat} {z:Value} {cells:List Value} (hl:cells.length=need*size) (hzs:z.cells.size=size) (h63:need<=maxLen) {arr:Array Value} (harr:arr=cells.toArray++Builtin.zeroCells z.cells (grownCap w need old e-need)):
 (w.drew.alloc (.cells arr e)).ownsRow 0 e size (.slice (some ⟨w.heap.size,0,none⟩) need (grownCap w need old e)) need cells/\w.grownBy (w.drew.alloc (.cells arr e)) none:=by
 subst harr;have hge:=grownCap_ge w need old e;have hcm:grownCap w need old e<=maxLen:=grownCap_le_maxLen w need old e h63;refine⟨⟨hl,.inr ⟨w.heap.size,_,_,rfl,Nat.zero_le _,heap_alloc_new w.drew _,hge,hcm,?_,?_⟩⟩,⟨rfl,rfl,rfl,by simp,fun k hk _=>by first|exact heap_alloc_old w.drew _ hk|exact heap_alloc_old w.drew _ k hk⟩⟩
 . simp only[Array.size_append,List.size_toArray,size_zeroCells,hzs,hl,<- Nat.add_mul]
   congr 1;omega
 . simp only[Array.toList_append]
   rw[<- hl];exact List.take_left
def ME (P:Program) (C:Ctx) (β:Nm) (lo hi:Nat) (val:AV) (m2:AMem) (w:World) (s:Sem Value):Prop:=
 ∃β' v w',s.run P w= .ok v w'/\Ext β β'/\(∀id,id<lo\/hi<=id->β' id=β id)/\γ β' val=some v/\Rel C β' m2 w'
theorem Hh {t ty e:TypeId} {i:TypeInfo} (hu:P.underlying t=some (.slice e)) (hi:P.info? e=some i) {B:Option Addr} {n c:Nat} {A:Option Addr} {c':Nat} (hb:(B=none/\n=0)\/∃a,B=some a/\n<=c) (w:World):
 (Builtin.append_ #[t,t] ty #[.slice B n c,.slice A 0 c']).run P w= .ok (.slice B n c) w:=by
 have hsz:(sizeOf e).run P w= .ok i.size w:=by simp[sizeOf,typeInfo,hi]
 have hle:n<=c:=by
  rcases hb with⟨_,rfl⟩|⟨_,_,h⟩
  . omega
  . exact h
 have hfc:(Builtin.firstCells i.size 0 (.slice A 0 c')).run P w= .ok #[] w:=by
  cases A with
  |none=>rfl
  |some a=>simp[Builtin.firstCells,loadCells,Nat.zero_mul,loadCellsFrom]
 unfold Builtin.append_
 cases B with
 |none=>simp[Sem.run_bind,run_underlying hu,Result.andThen_ok,hsz,Builtin.lenOf,hle,hfc]
 |some a=>simp[Sem.run_bind,run_underlying hu,Result.andThen_ok,hsz,Builtin.lenOf,hle,hfc,storeCells]
theorem jjck {t t' ty:TypeId} {ib:Nat} (h:VQ P m ib t t' x y=some (.eff val news ob)) (hob:ZZ ob) (hx:γ β x=some u) (hy:γ β y=some v) (hr:Rel C β m2 w) (hs:Sub m m2) (hid:β ib=none) (hgl:∀g,ib≠Z2 g):
 ZH P C m2 w β ib (ib+1) val news (Z4 (Builtin.append_ #[t,t'] ty #[u,v])):=by
 unfold VQ at h;split at h
 . rename_i e htt hu
   have htt:t=t':=Nat.eq_of_beq_eq_true htt;subst htt;split at h
   . rename_i i z id k j n cap hi hz
     have:=YZ hx;subst this
     split at h
     . rename_i b hb
       split at h
       . rename_i o he hc
         simp only[Bool.and_eq_true] at hc;obtain⟨c1,c2,c3⟩:=hc;cases h;simp only[ZZ,List.mem_cons,List.not_mem_nil,or_false,forall_eq_or_imp,forall_eq,decide_eq_true_eq] at hob;obtain⟨i',q,hi',hq,rfl,_⟩:=SW hz;rw[hi] at hi';cases hi';have hzs:q.cells.size=i.size:=by have:=Nat.eq_of_beq_eq_true c3;simpa using this
         obtain⟨L,v',w',h1,h2,h3⟩:=Cy (P:=P) (ty:=ty) (m':=m2) (n:=0) (xs:=[]) (f:=fun _=>[]) hu hi hq hzs (Nat.le_of_ble_eq_true c1) (Nat.le_of_ble_eq_true c2) hr (Sub.refl m2) hid hgl
          (v:=.slice none 0 0) ⟨by simp,.inl ⟨rfl,rfl⟩⟩ (fun g hg=>by simp[Value.ownBlock] at hg) (fun _ _ _ g _ _ _ hg=>by simp[Value.ownBlock] at hg) (fun q hq=>by omega) hy (hs _ _ hb) he hob.1 (by rw[Nat.zero_add];exact hob.2)
         refine⟨_,v',w',QU h1,Wq hid,fun id hid'=>?_,h2,h3⟩;simp[ZU];intro e;omega
       . cases h
     . cases h
   . rename_i i z A n c hi hz
     have:=YZ hx;subst this
     have:=YZ hy;subst this
     split at h
     . rename_i hc
       simp only[Bool.and_eq_true] at hc;obtain⟨c1,c2,c3⟩:=hc;cases h;obtain⟨i',q,hi',hq,rfl,_⟩:=SW hz;rw[hi] at hi';cases hi';refine ZH.still hr ?_ rfl;exact Hh hu hi (.inl ⟨rfl,rfl⟩) w
     . cases h
   . rename_i i z id0 k0 j0 len A c hi hz
     have:=YZ hy;subst this
     split at h
     . rename_i b0 hb0
       split at h
       . rename_i n0 f0 hc hcs
         simp only[Bool.and_eq_true] at hc;obtain⟨c1,c2,c3⟩:=hc;cases h;simp only[ZZ,List.mem_cons,List.not_mem_nil,or_false,forall_eq_or_imp,forall_eq,decide_eq_true_eq] at hob;obtain⟨rfl,o2,o3⟩:=hob;obtain⟨L0,hL0,hsl⟩:=Uz hx;obtain⟨L0',hL0',hbk⟩:=hr.blk id0 b0 (hs _ _ hb0);rw[hL0] at hL0';cases hL0';refine ZH.still (v:=u) hr ?_ hx;rcases hsl with⟨hn,h2,_,rfl⟩|⟨hn,rfl⟩
         . exact Hh hu hi (.inl ⟨rfl,rfl⟩) w
         . have hcap:=hbk.rowc o3 hn n0 f0 hcs
           refine Hh hu hi (.inr ⟨_,rfl,?_⟩) w;simp;omega
       . cases h
     . cases h
   . split at h<;>first
      |cases h
      |(split at h<;>cases h)
   . rename_i i z id0 k0 j0 len cap id k j n cap' hi hz
     split at h
     . rename_i b0 b hb0 hb
       split at h
       . rename_i o0 o he0 he hc
         simp only[Bool.and_eq_true] at hc;obtain⟨c1,c2,c3⟩:=hc;cases h;simp only[ZZ,List.mem_cons,List.not_mem_nil,or_false,forall_eq_or_imp,forall_eq,decide_eq_true_eq] at hob;obtain⟨rfl,rfl,⟨o3,o3n,o3'⟩,o4⟩:=hob;obtain⟨i',q,hi',hq,rfl,_⟩:=SW hz;rw[hi] at hi';cases hi';have hzs:q.cells.size=i.size:=by have:=Nat.eq_of_beq_eq_true c3;simpa using this
         have hs1:1<=i.size:=Nat.le_of_ble_eq_true c1;have hb1:1<=i.bytes:=Nat.le_of_ble_eq_true c2;obtain⟨L0,hL0,hsl0⟩:=Uz hx;obtain⟨L0',hL0',hbk0⟩:=hr.blk id0 b0 (hs _ _ hb0);rw[hL0] at hL0';cases hL0';obtain⟨L1,hL1,hsl1⟩:=Uz hy;obtain⟨L1',hL1',hbk1⟩:=hr.blk id b (hs _ _ hb);rw[hL1] at hL1';cases hL1'
         have h63:len+n<=maxLen:=by
          have:(len+n)*1<=(len+n)*i.bytes:=Nat.mul_le_mul_left _ hb1;unfold maxLen;omega
         rcases hsl0 with⟨_,h2,_,_⟩|⟨hn0,rfl⟩
         . omega
         obtain⟨olds,p1,p2,p3⟩:=LX hbk0 hn0 he0 rfl hs1
         have hf:∀q,q<len->(YW b0 k0 j0 i.size q).length=i.size/\∀j,j<i.size->∃u,olds[q*i.size+j]? =some u/\u.oneCell'=true/\γc β ((YW b0 k0 j0 i.size q).getD j ZV)=some u:=fun q hq=>⟨(p3 q hq).1,fun j hj=>by
          obtain⟨u,hu,hg⟩:=(p3 q hq).2 j hj
          exact⟨u,hu,(p2 _ u hu).1,hg⟩⟩
         obtain⟨news,A,c,rfl,hnl,hsrc,hel⟩:∃(news:List Value) (A:Addr) (c:Nat),v= .slice (some A) n c/\news.length=n*i.size/\(∀j u,news[j]? =some u->w.cell? (A.add j)=some u)/\
          ∀p,p<n->(YW b k j i.size p).length=i.size/\∀j',j'<i.size->∃u,news[p*i.size+j']? =some u/\u.oneCell'=true/\γc β ((YW b k j i.size p).getD j' ZV)=some u:=by
          rcases hsl1 with⟨_,h2,h3,_⟩|⟨hn,rfl⟩
          . exfalso
            omega
          . obtain⟨news,e1,e2,e3⟩:=LX hbk1 hn he rfl hs1
            refine⟨news,_,_,rfl,e1,fun j' u hj'=>?_,fun p hp=>⟨(e3 p hp).1,fun j' hj'=>?_⟩⟩
            . rw[Addr.add_lit];exact(e2 j' u hj').2
            . obtain⟨u,hu,hg⟩:=(e3 p hp).2 j' hj'
              exact⟨u,hu,(e2 _ u hu).1,hg⟩
         have hrun:=run_append_grow (P:=P) w t ty e i q hu hi hq ⟨L0.b,L0.o+(k0*L0.s+j0),none⟩ len ((some cap).getD (L0.cap-k0)) olds p1 (fun j' u hj'=>by rw[Addr.add_lit];exact(p2 j' u hj').2) A n c news hnl hsrc (by simpa using o3') (by simp only[maxLen] at h63;omega) (growslice_fits (by simpa using o3') o4);obtain⟨g1,g2⟩:=Di w (e:=e) (size:=i.size) (need:=len+n) (old:=(some cap).getD (L0.cap-k0)) (z:=q) (cells:=olds++news) (by rw[List.length_append,p1,hnl,Nat.add_mul]) hzs h63 (arr:=olds.toArray++news.toArray++Builtin.zeroCells q.cells (grownCap w (len+n) ((some cap).getD (L0.cap-k0)) e-(len+n))) (by simp);obtain⟨L,h2,h3⟩:=HD hs1 hr (Sub.refl m2) hid hgl (row:=none) (fun g hg=>by cases hg) (fun _ _ _ g _ _ _ hg=>by cases hg) p1 hf hel g1 g2 (.inr rfl);exact⟨_,_,_,QU hrun,Wq hid,fun id hid'=>by simp[ZU];intro e;omega,h2,h3⟩
       . cases h
     . cases h
   . cases h
 . rename_i e htt hu
   split at h
   . rename_i kn i z k q htn hi hz
     have:=YZ hx;subst this
     have:=YZ hy;subst this
     split at h
     . rename_i hc
       simp only[Bool.and_eq_true] at hc;obtain⟨c1,c2,c3,c4⟩:=hc;cases h;simp only[ZZ,List.mem_cons,List.not_mem_nil,or_false,forall_eq,decide_eq_true_eq] at hob;obtain⟨o1,o2⟩:=hob;obtain⟨i',q0,hi',hq,rfl,_⟩:=SW hz;rw[hi] at hi';cases hi';have hzs:q0.cells.size=i.size:=by have:=Nat.eq_of_beq_eq_true c3;simpa using this
       have hs1:1<=i.size:=Nat.le_of_ble_eq_true c1;have hb1:1<=i.bytes:=Nat.le_of_ble_eq_true c2;obtain⟨n,rfl⟩:=Int.eq_ofNat_of_zero_le (show 0<=q by omega)
       have hbn:n*i.bytes<=140737488355328:=by
        have h9:((n*i.bytes:Nat):Int)<=140737488355328:=by push_cast;exact o2
        omega
       have h63:n<=maxLen:=by
        have:n*1<=n*i.bytes:=Nat.mul_le_mul_left _ hb1;unfold maxLen;omega
       have hone:∀u∈q0.cells.toList,u.oneCell'=true:=fun u hu=>List.all_eq_true.1 c4 (.v u) (List.mem_map.2 ⟨u,hu,rfl⟩)
       have hrun:=Lib.run_append_nil_zeros (P:=P) w t t' ty e i q0 k kn hu htn hi hq n (by omega) (by omega) (by simp only[maxLen] at h63;omega) (by omega);have hzl:(Builtin.zeroCells q0.cells n).toList.length=n*i.size:=by rw[Array.length_toList,size_zeroCells,hzs]
       obtain⟨g1,g2⟩:=Di w (e:=e) (size:=i.size) (need:=n) (old:=0) (z:=q0) (cells:=(Builtin.zeroCells q0.cells n).toList) hzl hzs h63 (arr:=Builtin.zeroCells q0.cells n++Builtin.zeroCells q0.cells (grownCap w n 0 e-n)) (by simp)
       have hel:∀p,p<n->(q0.cells.toList.map AC.v).length=i.size/\∀j',j'<i.size->∃u,(Builtin.zeroCells q0.cells n).toList[p*i.size+j']? =some u/\u.oneCell'=true/\γc β ((q0.cells.toList.map AC.v).getD j' ZV)=some u:=by
        intro p hp;refine⟨by simpa using hzs,fun j hj=>?_⟩
        have hlt:p*i.size+j<n*i.size:=by
         have:=Nat.mul_le_mul_right i.size hp;rw[Nat.succ_mul] at this;omega
        have hjq:j<q0.cells.size:=by omega
        refine⟨q0.cells[j],?_,hone _ (by simp),?_⟩
        . rw[Array.getElem?_toList]
          simp[Builtin.zeroCells,hzs,hlt];rw[Nat.mod_eq_of_lt hj];simp[hjq]
        . simp[List.getD,hjq,γc]
       obtain⟨L,h2,h3⟩:=HD hs1 hr (Sub.refl m2) hid hgl (row:=none) (n:=0) (xs:=[]) (f:=fun _=>[]) (q:=n) (g0:=fun _=>q0.cells.toList.map .v) (news:=(Builtin.zeroCells q0.cells n).toList) (fun g hg=>by cases hg) (fun _ _ _ g _ _ _ hg=>by cases hg) (by simp) (fun q hq=>by omega) hel (by rw[Nat.zero_add,List.nil_append];exact g1) g2 (.inr rfl);rw[Int.toNat_natCast];exact⟨_,_,_,QU hrun,Wq hid,fun id hid'=>by simp[ZU];intro e;omega,h2,h3⟩
     . cases h
   . cases h
 . cases h
theorem jjcj {t t' ty:TypeId} {ib:Nat} {ef:Efx} (h:VQ P m ib t t' x y=some (.upd val ef ob)) (hob:ZZ ob) (hx:γ β x=some u) (hy:γ β y=some v) (hr:Rel C β m w) (hid:β ib=none) (hgl:∀g,ib≠Z2 g):
 ME P C β ib (ib+1) val (ef.on m) w (Builtin.append_ #[t,t'] ty #[u,v]):=by
 unfold VQ at h;split at h
 . rename_i e htt hu
   have htt:t=t':=Nat.eq_of_beq_eq_true htt;subst htt;split at h
   . split at h<;>first
      |cases h
      |(split at h<;>cases h)
   . split at h<;>cases h
   . split at h<;>first
      |cases h
      |(split at h<;>cases h)
   . rename_i i z id0 k0 j0 len id k j n cap hi hz
     split at h
     . rename_i b0 b hb0 hb
       split at h
       . rename_i o n0 f0 he hc hcs
         simp only[Bool.and_eq_true,Bool.not_eq_true'] at hc;obtain⟨c1,c2,c3,c4,c5,c6,c7,c8,c9⟩:=hc;cases h;simp only[ZZ,List.mem_cons,List.not_mem_nil,or_false,forall_eq_or_imp,forall_eq,decide_eq_true_eq] at hob;obtain⟨o1,rfl,o3,o4⟩:=hob;have hj0:j0=0:=Nat.eq_of_beq_eq_true c8;subst hj0;have hty:b0.ty=e:=Nat.eq_of_beq_eq_true c6;have hsz:b0.sz=i.size:=Nat.eq_of_beq_eq_true c7;have hne:id0≠id:=fun e=>by subst e;rw[Nat.beq_refl] at c9;cases c9
         obtain⟨i',q,hi',hq,rfl,_⟩:=SW hz;rw[hi] at hi';cases hi';have hzs:q.cells.size=i.size:=by have:=Nat.eq_of_beq_eq_true c3;simpa using this
         obtain⟨L0,hL0,hsl⟩:=Uz hx;obtain⟨L0',hL0',hbk⟩:=hr.blk id0 b0 hb0;rw[hL0] at hL0';cases hL0';have hs1:1<=i.size:=Nat.le_of_ble_eq_true c1
         have hsub:Sub (Uu m id0) m:=fun id x e=>by
          rw[Rj] at e;split at e
          . cases e
          . exact e
         obtain ⟨xs,hown,hwr,hap,hf⟩:∃xs,w.ownsRow 0 e i.size u len xs/\(∀g,u.ownBlock=some g->C.base<=g\/C.S g)/\
          (∀id x M g,ZY (Uu m id0) id=some x->β id=some M->M.nil=false->u.ownBlock=some g->M.b≠g)/\
          (∀q,q<len->(f0 q).length=i.size/\∀j,j<i.size->∃u,xs[q*i.size+j]? =some u/\u.oneCell'=true/\γc β ((f0 q).getD j ZV)=some u):=by
          rcases hsl with⟨hn,h2,_,rfl⟩|⟨hn,rfl⟩
          . subst h2
            exact⟨[],⟨by simp,.inl ⟨rfl,rfl⟩⟩,fun g hg=>by simp[Value.ownBlock] at hg,fun _ _ _ g _ _ _ hg=>by simp[Value.ownBlock] at hg,fun q hq=>by omega⟩
          . obtain⟨r1,r2,cur,r3,r4⟩:=hbk.own c4 hn
            obtain⟨r5,r6,n1,f1,r7,r8,r9⟩:=r4 c5;rw[hcs] at r7;cases r7;have hLs:L0.s=i.size:=hbk.sz.trans hsz;have hcl:len*i.size<=cur.size:=by rw[r5,hsz];exact Nat.mul_le_mul_right _ (by omega)
            refine⟨cur.toList.take (len*i.size),⟨by simp;omega,.inr ⟨L0.b,L0.cap,cur,?_,Nat.zero_le _,by rw[<- hty];exact r3,by omega,r9,by rw[r5,hsz],rfl⟩⟩,fun g hg=>?_,fun id x M g e1 e2 e3 e4=>?_,fun q hq=>⟨by rw[hbk.arrl n0 f0 hcs q (by omega),hsz],fun j hj=>?_⟩⟩
            . simp[r1]
            . simp[Value.ownBlock] at hg
              subst hg;exact r2
            . simp[Value.ownBlock] at e4
              subst e4;rw[Rj] at e1;split at e1
              . cases e1
              . rename_i hid'
                exact(hr.sep id0 id b0 x L0 M hb0 e1 (fun e=>hid' e.symm) c4 hL0 e2 hn e3).symm
            . obtain⟨_,u,h1,h2,h3⟩:=hbk.cells q j (by simp[ABlk.inb,hcs,hsz];omega)
              rw[cell_of_row w L0.b _ cur _ (0,0) r3,r1,hLs] at h3
              have hlt:q*i.size+j<len*i.size:=by
               have:=Nat.mul_le_mul_right i.size hq;rw[Nat.succ_mul] at this;omega
              refine⟨u,?_,h2,by simpa[Cs.get,hcs] using h1⟩;rw[List.getElem?_take,if_pos hlt];simpa using h3
         obtain⟨L,v',w',h1,h2,h3⟩:=Cy (P:=P) (ty:=ty) (m':=Uu m id0) (n:=len) (f:=f0) hu hi hq hzs hs1 (Nat.le_of_ble_eq_true c2) hr hsub hid hgl hown hwr hap hf hy hb he o1 o4;exact⟨_,v',w',h1,Wq hid,fun id hid'=>by simp[ZU];intro e;omega,h2,h3⟩
       . cases h
     . cases h
   . split at h<;>first
      |cases h
      |(split at h<;>cases h)
   . cases h
 . split at h<;>first
    |cases h
    |(split at h<;>cases h)
 . cases h
theorem jjl0 {t:TypeId} {ib:Nat} (h:R4 P ib t x y=some (.eff val news ob)) (hob:ZZ ob) (hx:γ β x=some u) (hy:γ β y=some v) (hr:Rel C β m2 w) (hid:β ib=none) (hgl:∀g,ib≠Z2 g):
 ZH P C m2 w β ib (ib+1) val news (Z4 (Instr.makeSlice t u v)):=by
 unfold R4 at h;split at h
 . rename_i k1 l k2 c
   have:=YZ hx;subst this
   have:=YZ hy;subst this
   split at h
   . rename_i e hu
     split at h
     . rename_i i z hi hz
       split at h
       . rename_i hc
         simp only[Bool.and_eq_true] at hc;obtain⟨c1,c2,c3,c4⟩:=hc;cases h;simp only[ZZ,List.mem_cons,List.not_mem_nil,or_false,forall_eq,decide_eq_true_eq] at hob;obtain⟨o1,rfl,o3⟩:=hob;obtain⟨i',q,hi',hq,rfl,hzv⟩:=SW hz;rw[hi] at hi';cases hi';have hzs:q.cells.size=i.size:=by have:=Nat.eq_of_beq_eq_true c3;simpa using this
         have hs1:1<=i.size:=Nat.le_of_ble_eq_true c1;have hb1:1<=i.bytes:=Nat.le_of_ble_eq_true c2;obtain⟨n,rfl⟩:=Int.eq_ofNat_of_zero_le o1
         have hn:n<=140737488355328:=by
          have h9:((n*i.bytes:Nat):Int)<=140737488355328:=by push_cast;exact o3
          have:n*1<=n*i.bytes:=Nat.mul_le_mul_left _ hb1;omega
         have hw:IntKind.i64.wrap (n:Int)=n:=IntWalk.i64_in _ (by omega)
         have hone:∀u∈q.cells.toList,u.oneCell'=true:=by
          intro u hu;have:=List.all_eq_true.1 c4 (.v u) (List.mem_map.2 ⟨u,hu,rfl⟩);exact this
         let cs:Array Value:=(Array.range (n*i.size)).map fun p=>q.cells[p % q.cells.size]!
         have hcs:cs.size=n*i.size:=by simp[cs]
         have hcell:∀k j,k<n->j<i.size->∃u,q.cells[j]? =some u/\cs[k*i.size+j]? =some u:=by
          intro k j hk hj
          have hlt:k*i.size+j<n*i.size:=by
           have:=Nat.mul_le_mul_right i.size hk;rw[Nat.succ_mul] at this;omega
          have hjq:j<q.cells.size:=by omega
          refine⟨q.cells[j],Array.getElem?_eq_getElem hjq,?_⟩;have hmod:(k*i.size+j) % q.cells.size=j:=by rw[hzs,Nat.mul_comm,Nat.mul_add_mod];exact Nat.mod_eq_of_lt hj
          simp[cs,hlt,hmod,hjq]
         refine⟨ZU β ib ⟨w.heap.size,0,i.size,n,false⟩,.slice (some ⟨w.heap.size,0,none⟩) n n,w.alloc (.cells cs e),QU ?_,Wq hid,fun id hid'=>by simp[ZU];intro e;omega,by simp[γ,γ1,γc,ZU],?_⟩
         . have hbn:¬((i.bytes:Int)*(n:Int)>281474976710656):=by rw[Int.mul_comm];omega
           have hnn:¬((n:Int)<0):=by omega
           have hroom:¬(n*i.bytes>140737488355328):=by
            have h9:((n*i.bytes:Nat):Int)<=140737488355328:=by push_cast;exact o3
            omega
           have hr1:(askRoom (n*i.bytes)).run P w= .ok () w:=by simp[askRoom,roomBytes,hroom]
           have hz1:((if n*i.size=0 then pure #[] else do pure (<- zeroValue e).cells:Sem (Array Value))).run P w= .ok (if n*i.size=0 then #[] else q.cells) w:=by
            split
            . rfl
            . simp[hzv]
           have hcs2:((Array.range (n*i.size)).map fun p=>(if n*i.size=0 then #[] else q.cells)[p % (if n*i.size=0 then #[] else q.cells).size]!)=cs:=by
            by_cases h0:n*i.size=0
            . simp[cs,h0]
            . simp[cs,h0]
           unfold Instr.makeSlice;rw[Sem.run_bind,run_underlying hu];simp only[Result.andThen_ok];have hti:(typeInfo e).run P w= .ok i w:=by simp[typeInfo,hi]
           have hsi:(sizeOf e).run P w= .ok i.size w:=by simp[sizeOf,typeInfo,hi]
           have e48:(2:Int)^48=281474976710656:=by decide
           simp only[asInt,asIntOf,Sem.run_bind,Sem.run_pure,Result.andThen_ok,hti,hw,e48,hbn,hnn,decide_false,Bool.or_false,Bool.false_eq_true,if_false,Int.lt_irrefl,gt_iff_lt,Int.toNat_natCast,hr1,hsi];by_cases h0:n*i.size=0
           . have hc0:cs= #[]:=Array.eq_empty_of_size_eq_zero (by omega)
             simp only[h0,if_true];have hr0:∀g:Nat->Value,Array.map g (Array.range 0)= #[]:=fun g=>Array.eq_empty_of_size_eq_zero (by simp)
             simp[newRow,newObj,Sem.run,hc0,hr0]
           . simp only[h0,if_false] at hcs2 ⊢
             simp[newRow,newObj,Sem.run,hzv,hcs2]
         . have hnew:(w.alloc (.cells cs e)).heap[w.heap.size]? =some (.cells cs e (0,0)):=by show (w.heap.push _)[w.heap.size]? =_;simp
           refine Rel.install hr (Sub.refl m2) hid hgl rfl rfl rfl (by simp) (fun b hb=>.inl (Qq _ hb)) (fun id x M e1 e2 e3 _=>?_)
            ⟨rfl,fun l hl=>(by cases hl),fun k j hi'=>⟨rfl,?_⟩,fun _=>by simp,fun _ _=>⟨rfl,.inl (by have:=hr.size;have:=hr.base;simp;omega),cs,hnew,fun _=>⟨hcs,hs1,_,_,rfl,by simp,by show n<=maxLen;unfold maxLen;omega⟩⟩,fun n' f' hcs' p hp=>?_,fun _ _ n' f' hcs'=>?_⟩
           . obtain⟨M',hM',hbM⟩:=hr.blk id x e1
             rw[e2] at hM';cases hM';have:=hbM.lt e3;simp;omega
           . obtain⟨hk,hj⟩:k<(n:Int).toNat/\j+1<=i.size:=by simp only[ABlk.inb,Bool.and_eq_true] at hi';exact⟨of_decide_eq_true hi'.1,of_decide_eq_true hi'.2⟩
             obtain⟨u,h1,h2⟩:=hcell k j (by simpa using hk) (by omega);refine⟨u,?_,hone u (by rw[<- Array.getElem?_toList] at h1;exact List.mem_of_getElem? h1),?_⟩
             . simp only[Cs.get,List.getD,List.getElem?_map,Array.getElem?_toList,h1,Option.map_some,Option.getD_some]
               rfl
             . rw[cell_of_row _ _ _ cs e (0,0) hnew,Nat.zero_add]
               exact h2
           . simp only[Cs.arr.injEq] at hcs'
             obtain⟨rfl,rfl⟩:=hcs';simpa using hzs
           . simp only[Cs.arr.injEq] at hcs'
             obtain⟨rfl,rfl⟩:=hcs';simp
       . cases h
     . cases h
   . cases h
 . cases h
theorem jjh2 {ib:Nat} {t:TypeId} {ps:List (Nat × AV)} {qs:List (Nat × Value)} (h:Qc P ib t ps=some (.eff val news ob)) (hi:ps.map (·.1)=qs.map (·.1)) (hr:Rel C β m2 w) (hid:β ib=none) (hgl:∀g,ib≠Z2 g):
 ZH P C m2 w β ib (ib+1) val news (Z4 (Instr.buildSlice t 0 qs.toArray)):=by
 unfold Qc at h;split at h
 . have hq : qs=[]:=by simpa using hi.symm
   subst hq;split at h
   . rename_i e hu
     split at h
     . rename_i s hs
       split at h
       . rename_i h1
         have h1:1<=s:=Nat.le_of_ble_eq_true h1;cases h;have hnew:(w.alloc (.cells #[] e)).heap[w.heap.size]? =some (.cells #[] e (0,0)):=by show (w.heap.push _)[w.heap.size]? =_;simp
         refine⟨ZU β ib ⟨w.heap.size,0,s,0,false⟩,.slice (some ⟨w.heap.size,0,none⟩) 0 0,w.alloc (.cells #[] e),QU ?_,Wq hid,fun id hid'=>by simp[ZU];intro e;omega,by simp[γ,γ1,γc,ZU],?_⟩
         . unfold Instr.buildSlice
           simp only[Sem.run_bind,run_underlying hu,Result.andThen_ok,Uw hs];simp[Instr.fill,newRow,newObj,Sem.run];congr 2;exact Array.eq_empty_of_size_eq_zero (by simp)
         . refine Rel.install hr (Sub.refl m2) hid hgl rfl rfl rfl (by simp) (fun b hb=>.inl (Qq _ hb)) (fun id x M e1 e2 e3 _=>?_)
            ⟨rfl,fun l hl=>(by cases hl),fun k j hi'=>(by simp[ABlk.inb] at hi'),fun _=>by simp,fun _ _=>⟨rfl,.inl (by have:=hr.size;have:=hr.base;simp;omega),#[],hnew,fun _=>⟨by simp,h1,_,_,rfl,by simp,by simp⟩⟩,fun n' f' hcs' p hp=>?_,fun _ _ n' f' hcs'=>?_⟩
           . obtain⟨M',hM',hbM⟩:=hr.blk id x e1
             rw[e2] at hM';cases hM';have:=hbM.lt e3;simp;omega
           . simp only[Cs.arr.injEq] at hcs'
             obtain⟨rfl,rfl⟩:=hcs';omega
           . simp only[Cs.arr.injEq] at hcs'
             obtain⟨rfl,rfl⟩:=hcs';simp
       . cases h
     . cases h
   . cases h
 . cases h
theorem Rel.putArr (h:Rel C β m w) {id:Nat} {x:ABlk} (hx:ZY m id=some x) (ho:x.own=true) (hL:β id=some L) (hn:L.nil=false) {q:Nat} {f g:Nat->List AC} (hcs:x.cs= .arr q f) {k cnt:Nat} (hk:k+cnt<=q) {us:List Value}
 (hlen:us.length=cnt*x.sz) (hg:∀p,p<cnt->(g p).length=x.sz/\∀j,j<x.sz->∃u,us[p*x.sz+j]? =some u/\u.oneCell'=true/\γc β ((g p).getD j ZV)=some u) (h0:0<x.sz):
 Rel C β (Xz m id {x with cs:=.arr q fun p=>if k<=p/\p<k+cnt then g (p-k) else f p}) (put w L.b (L.o+(k*L.s+0)) us):=by
 obtain⟨L',hL',hb⟩:=h.blk id x hx;rw[hL] at hL';cases hL';obtain⟨ho0,hown,cs,hheap,hrow⟩:=hb.own ho hn;have hLs:L.s=x.sz:=hb.sz
 have hin:∀p j,p<q->j<x.sz->p*x.sz+j<cs.size:=fun p j hp hj=>by
  obtain⟨_,u,_,_,hc⟩:=hb.cells p j (by simp[ABlk.inb,hcs];omega);have:=NL hheap hc;rw[hLs] at this;omega
 have hqs:∀p,p<=q->p*x.sz<=cs.size:=fun p hp=>by
  rcases Nat.eq_zero_or_pos p with rfl|hpos
  . simp
  . have:=hin (p-1) (x.sz-1) (by omega) (by omega)
    have e:p*x.sz=(p-1)*x.sz+x.sz:=by rw[<- Nat.succ_mul];congr 1;omega
    omega
 have hbd:L.o+(k*L.s+0)+us.length<=cs.toList.length:=by
  have:=hqs (k+cnt) hk;rw[Nat.add_mul] at this;rw[hlen,ho0,hLs];simp;omega
 have hsame:(Y1 cs.toList (L.o+(k*L.s+0)) us).toArray.size=cs.size:=by have:=La hbd;simpa using this
 have hother:∀i y M,ZY m i=some y->i≠id->β i=some M->M.nil=false->M.b≠L.b:=fun i y M e hne hM hMn=>
  (h.sep id i x y L M hx e (fun e=>hne e.symm) ho hL hM hn hMn).symm
 have hsize:(put w L.b (L.o+(k*L.s+0)) us).heap.size=w.heap.size:=YE us;have hlk:∀i,ZY (Xz m id {x with cs:=.arr q fun p=>if k<=p/\p<k+cnt then g (p-k) else f p}) i=if i=id then some {x with cs:=.arr q fun p=>if k<=p/\p<k+cnt then g (p-k) else f p} else ZY m i:=fun i=>P1 m id i _ x hx
 refine⟨h.os,h.tape,h.output,by rw[hsize];exact h.size,h.base,fun b hb1 hb2=>?_,fun i y e=>?_,?_,h.glob,fun i y o e ho'=>?_⟩
 . have:b≠L.b:=fun e=>by
    subst e;rcases hown with h'|h'
    . omega
    . exact hb2 h'
   rw[OT this];exact h.out b hb1 hb2
 . rw [hlk i] at e
   by_cases hii:i=id
   . subst hii
     rw[if_pos rfl] at e;cases e;have hh:=Cl (o:=L.o+(k*L.s+0)) (us:=us) hheap;refine⟨L,hL,hb.sz,fun l hl=>(by cases hl),fun k' j' hi'=>⟨hn,?_⟩,fun _=>by rw[hsize];exact hb.lt hn,fun _ _=>⟨ho0,hown,_,hh,fun hrw=>?_⟩,fun n' f' hf i hi'=>?_,fun h1 h2 n' f' hf=>?_⟩
     . have hi3:k'<q/\j'+1<=x.sz:=by simpa[ABlk.inb] using hi'
       rw[cell_of_row _ L.b (L.o+(k'*L.s+j')) _ _ (0,0) hh];simp only[List.getElem?_toArray];rw[Qx hbd,ho0,hLs,hlen];simp only[Nat.zero_add,Nat.add_zero,Cs.get];by_cases hr':k<=k'/\k'<k+cnt
       . rw[if_pos hr']
         have e1:k*x.sz<=k'*x.sz:=Nat.mul_le_mul_right _ hr'.1;have e2:k'*x.sz+x.sz<=(k+cnt)*x.sz:=by rw[<- Nat.succ_mul];exact Nat.mul_le_mul_right _ hr'.2
         rw[Nat.add_mul] at e2;rw[if_pos ⟨by omega,by omega⟩];obtain⟨u,g1,g2,g3⟩:=(hg (k'-k) (by omega)).2 j' (by omega);refine⟨u,g3,g2,?_⟩;rw[<- g1,Nat.sub_mul];congr 1;omega
       . rw[if_neg hr',if_neg (fun c=>hr' ?_)]
         . obtain⟨_,u,hc,hu1,hcell⟩:=hb.cells k' j' (by simp[ABlk.inb,hcs];omega)
           refine⟨u,?_,hu1,?_⟩
           . rw[hcs] at hc;exact hc
           . rw[cell_of_row w L.b _ cs _ (0,0) hheap,ho0,hLs] at hcell
             simpa using hcell
         . refine⟨?_,?_⟩
           . rcases Nat.lt_or_ge k' k with hlt|hge
             . have:=Nat.mul_le_mul_right x.sz (show k'+1<=k by omega)
               rw[Nat.succ_mul] at this;omega
             . exact hge
           . rcases Nat.lt_or_ge k' (k+cnt) with hlt|hge
             . exact hlt
             . have:=Nat.mul_le_mul_right x.sz hge
               rw[Nat.add_mul] at this;omega
     . obtain⟨r1,r2,n0,f0,r3,r4⟩:=hrow hrw
       rw[hcs] at r3;cases r3;exact⟨by rw[hsame];exact r1,r2,_,_,rfl,r4⟩
     . simp only[Cs.arr.injEq] at hf
       obtain⟨rfl,rfl⟩:=hf;simp only;split
       . exact(hg _ (by omega)).1
       . exact hb.arrl q f hcs i hi'
     . simp only[Cs.arr.injEq] at hf
       obtain⟨rfl,rfl⟩:=hf;exact hb.rowc h1 h2 _ _ hcs
   . rw[if_neg hii] at e
     obtain⟨M,hM,hbM⟩:=h.blk i y e;exact⟨M,hM,hbM.keep (Ext.refl β) (by rw[hsize];exact Nat.le_refl _) (fun hMn=>OT (hother i y M e hii hM hMn))⟩
 . intro i i' y y' M M' e e' hne hyo hM hM' hMn hMn'
   rw[hlk] at e e';by_cases h1:i=id
   . subst h1
     rw[if_pos rfl] at e;rw[if_neg (fun e=>hne e.symm)] at e';exact h.sep i i' x y' M M' hx e' hne ho hM hM' hMn hMn'
   . rw[if_neg h1] at e
     by_cases h2:i'=id
     . subst h2
       rw[if_pos rfl] at e';exact h.sep i i' y x M M' e hx hne hyo hM hM' hMn hMn'
     . rw[if_neg h2] at e'
       exact h.sep i i' y y' M M' e e' hne hyo hM hM' hMn hMn'
 . rw[hlk] at e
   by_cases h1:i=id
   . subst h1
     rw[if_pos rfl] at e;cases e;cases ho'
   . rw[if_neg h1] at e
     obtain⟨M,k1,k2,k3,k4,k5⟩:=h.objs i y o e ho';refine⟨M,k1,k2,k3,k4.keep (Ext.refl β) (OT (hother i y M e h1 k1 k2)),fun i' x' M' g1 g2 g3 g4=>?_⟩;rw[hlk] at g2;by_cases h2:i'=id
     . subst h2
       exact k5 i' x M' g1 hx g3 g4
     . rw[if_neg h2] at g2
       exact k5 i' x' M' g1 g2 g3 g4
theorem Cp {cs:Array Value} {t:TypeId} {b o:Nat} {us:List Value} (hheap:w.heap[b]? =some (.cells cs t (0,0))) (hin:o+us.length<=cs.size) (h1:∀v∈us,v.oneCell'=true):
 (storeCells ⟨b,o,none⟩ us).run P w= .ok () (put w b o us):=by
 have hst:=run_storeCells_cells (P:=P) b o us 0 w (fun j hj=>by rw[Nat.add_zero,cell_of_row w b _ cs t (0,0) hheap];simp;omega)
  (fun i hi=>by simp[World.frozen?,hheap]) h1
 rw[Nat.add_zero] at hst;rw[KS b t us o w cs hheap hin] at hst;exact hst
theorem jjl1 {t t' ty:TypeId} {ib:Nat} {ef:Efx} (h:R3 P m t t' x y=some (.upd val ef ob)) (hob:ZZ ob) (hx:γ β x=some u) (hy:γ β y=some v) (hr:Rel C β m w):
 ME P C β ib (ib+1) val (ef.on m) w (Builtin.copy_ #[t,t'] ty #[u,v]):=by
 unfold R3 at h;split at h
 . rename_i e e' id k j n cap id' k' j' n' cap' hu hu'
   split at h
   . rename_i i b b' hi hb hb'
     split at h
     . rename_i o q f he hc hcs
       simp only[Bool.and_eq_true] at hc;obtain⟨c1,c2,c3,c4⟩:=hc;cases h;simp only[ZZ,List.mem_cons,List.not_mem_nil,or_false,forall_eq_or_imp,forall_eq,decide_eq_true_eq] at hob;obtain⟨o1,o2⟩:=hob;have hj0:j=0:=Nat.eq_of_beq_eq_true c4;subst hj0;have hsz:b.sz=i.size:=Nat.eq_of_beq_eq_true c3;have hs1:1<=i.size:=Nat.le_of_ble_eq_true c1;obtain⟨L,hL,hsl⟩:=Uz hx;obtain⟨L',hL',hbk⟩:=hr.blk id b hb;rw[hL] at hL';cases hL';obtain⟨M,hM,hsl'⟩:=Uz hy;obtain⟨M',hM',hbk'⟩:=hr.blk id' b' hb';rw[hM] at hM';cases hM';have hse:(sizeOf e).run P w= .ok i.size w:=by simp[sizeOf,typeInfo,hi]
       have hnone:min n n'=0->Xz m id {b with cs:=.arr q fun p=>if k<=p/\p<k+min n n' then YW b' k' j' i.size (p-k) else f p}=Xz m id b:=fun h0=>by
        rw[h0];congr 1
        have:(fun p=>if k<=p/\p<k+0 then YW b' k' j' i.size (p-k) else f p)=f:=by
         funext p;rw[if_neg (by omega)]
        rw[this,<- hcs]
       have hsame:min n n'=0->Rel C β (Xz m id {b with cs:=.arr q fun p=>if k<=p/\p<k+min n n' then YW b' k' j' i.size (p-k) else f p}) w:=fun h0=>by
        rw[hnone h0];refine hr.weaken fun id1 x1 h1=>?_
        rw[P1 m id id1 b b hb] at h1;split at h1
        . rename_i e1;subst e1;cases h1;exact hb
        . exact h1
       by_cases h0:min n n'=0
       . refine⟨β,goInt (min n n':Nat),w,?_,Ext.refl β,fun _ _=>rfl,rfl,hsame h0⟩
         have hfc:∀B c,(Builtin.firstCells i.size 0 (.slice B n' c)).run P w= .ok #[] w:=fun B c=>by
          cases B with
          |none=>rfl
          |some a=>simp[Builtin.firstCells,loadCells,Nat.zero_mul,loadCellsFrom]
         have h0':n'.min n=0:=by show min n' n=0;omega
         unfold Builtin.copy_
         rcases hsl with⟨_,rfl,_,rfl⟩|⟨_,rfl⟩<;>rcases hsl' with⟨_,rfl,_,rfl⟩|⟨_,rfl⟩<;>
          simp[Sem.run_bind,run_underlying hu,Builtin.lenOf,hse,hfc,h0,h0',storeCells]<;>(try (congr 1;omega))
       . have hnn:L.nil=false:=by
          rcases hsl with⟨_,rfl,_,_⟩|⟨h,_⟩
          . simp at h0
          . exact h
         have hnn':M.nil=false:=by
          rcases hsl' with⟨_,rfl,_,_⟩|⟨h,_⟩
          . simp at h0
          . exact h
         have hu2:u= .slice (some ⟨L.b,L.o+(k*L.s+0),none⟩) n (cap.getD (L.cap-k)):=by
          rcases hsl with⟨h,_⟩|⟨_,h⟩
          . rw[hnn] at h;cases h
          . exact h
         have hv2:v= .slice (some ⟨M.b,M.o+(k'*M.s+j'),none⟩) n' (cap'.getD (M.cap-k')):=by
          rcases hsl' with⟨h,_⟩|⟨_,h⟩
          . rw[hnn'] at h;cases h
          . exact h
         subst hu2;subst hv2;obtain⟨us,s1,s2,s3⟩:=LX hbk' hnn' he o1 hs1;obtain⟨ho0,_,cs,hheap,_⟩:=hbk.own c2 hnn
         have hput:=hr.putArr (g:=fun p=>YW b' k' j' i.size p) hb c2 hL hnn hcs o2 (us:=us) (by rw[s1,hsz]) (fun p hp=>by
          rw[hsz];refine⟨(s3 p hp).1,fun j hj=>?_⟩;obtain⟨z,z1,z2⟩:=(s3 p hp).2 j hj
          exact⟨z,z1,(s2 _ z z1).1,z2⟩) (by omega)
         refine⟨β,goInt (min n n':Nat),_,?_,Ext.refl β,fun _ _=>rfl,rfl,hput⟩
         have hload:=run_loadCells_list (P:=P) w ⟨M.b,M.o+(k'*M.s+j'),none⟩ us (fun p z hz=>by
          rw[Addr.add_lit];exact(s2 p z hz).2)
         rw[s1] at hload
         have hone:∀z∈us,z.oneCell'=true:=fun z hz=>by
          obtain⟨p,hp⟩:=List.getElem?_of_mem hz;exact(s2 p z hp).1
         have hbound:L.o+(k*L.s+0)+us.length<=cs.size:=by
          have hpos:0<min n n':=by omega
          obtain⟨_,z,_,_,hc⟩:=hbk.cells (k+min n n'-1) (b.sz-1) (by simp[ABlk.inb,hcs];omega);have:=NL hheap hc;rw[hbk.sz,hsz] at this;rw[s1,ho0,hbk.sz,hsz];have e1:(k+min n n'-1)*i.size+i.size=(k+min n n')*i.size:=by rw[<- Nat.succ_mul];congr 1;omega
          rw[Nat.add_mul] at e1;omega
         have hst:=Cp (P:=P) hheap hbound hone;have hmin:n'.min n=min n n':=Nat.min_comm _ _;unfold Builtin.copy_;generalize min n n'=mn at *;simp only[Nat.add_zero] at hst hload ⊢;simp[Sem.run_bind,run_underlying hu,Builtin.lenOf,hse,Builtin.firstCells,hmin,hload,hst]
     . cases h
   . cases h
 . cases h
theorem jjh3 {t ty:TypeId} {ib:Nat} {ef:Efx} (h:Tc P m t x=some (.upd val ef ob)) (hob:ZZ ob) (hx:γ β x=some u) (hr:Rel C β m w):
 ME P C β ib (ib+1) val (ef.on m) w (Builtin.clear_ #[t] ty #[u]):=by
 unfold Tc at h;split at h
 . rename_i id k j n cap
   split at h
   . rename_i e hu
     split at h
     . rename_i i z b hi hz hb
       split at h
       . rename_i q f hc hcs
         simp only[Bool.and_eq_true] at hc;obtain⟨c1,c2,c3,c4,c5,c6⟩:=hc;cases h;simp only[ZZ,List.mem_singleton,forall_eq,decide_eq_true_eq] at hob;have hj0:j=0:=Nat.eq_of_beq_eq_true c4;subst hj0;have hsz:b.sz=i.size:=Nat.eq_of_beq_eq_true c3;have hs1:1<=i.size:=Nat.le_of_ble_eq_true c1;obtain⟨i',zv,hi',hq,rfl,hzv⟩:=SW hz;rw[hi] at hi';cases hi';have hzs:zv.cells.size=i.size:=by have:=Nat.eq_of_beq_eq_true c5;simpa using this
         have hone:∀a∈zv.cells.toList,a.oneCell'=true:=fun a ha=>List.all_eq_true.1 c6 (.v a) (List.mem_map.2 ⟨a,ha,rfl⟩)
         obtain⟨L,hL,hsl⟩:=Uz hx;obtain⟨L',hL',hbk⟩:=hr.blk id b hb;rw[hL] at hL';cases hL';by_cases h0:n=0
         . subst h0
           have hrel:Rel C β (Xz m id {b with cs:=.arr q fun p=>if k<=p/\p<k+0 then zv.cells.toList.map .v else f p}) w:=by
            have:(fun p=>if k<=p/\p<k+0 then zv.cells.toList.map AC.v else f p)=f:=by
             funext p;rw[if_neg (by omega)]
            rw[this,<- hcs];refine hr.weaken fun id1 x1 h1=>?_
            rw[P1 m id id1 b b hb] at h1;split at h1
            . rename_i e1;subst e1;cases h1;exact hb
            . exact h1
           refine⟨β,.tuple #[],w,?_,Ext.refl β,fun _ _=>rfl,rfl,hrel⟩;unfold Builtin.clear_;rcases hsl with⟨_,_,_,rfl⟩|⟨_,rfl⟩<;>simp[Sem.run_bind,run_underlying hu]
         . have hnn:L.nil=false:=by
            rcases hsl with⟨_,rfl,_,_⟩|⟨h,_⟩
            . exact absurd rfl h0
            . exact h
           have hu2:u= .slice (some ⟨L.b,L.o+(k*L.s+0),none⟩) n (cap.getD (L.cap-k)):=by
            rcases hsl with⟨h,_⟩|⟨_,h⟩
            . rw[hnn] at h;cases h
            . exact h
           subst hu2;obtain⟨ho0,_,cs,hheap,_⟩:=hbk.own c2 hnn
           have hzc:∀p j,p<n->j<i.size->(Builtin.zeroCells zv.cells n).toList[p*i.size+j]? =zv.cells[j]?:=fun p j hp hj=>by
            have hlt:p*i.size+j<n*i.size:=by
             have:=Nat.mul_le_mul_right i.size hp;rw[Nat.succ_mul] at this;omega
            have hmod:(p*i.size+j) % zv.cells.size=j:=by rw[hzs,Nat.mul_comm,Nat.mul_add_mod];exact Nat.mod_eq_of_lt hj
            have hjz:j<zv.cells.size:=by omega
            simp[Builtin.zeroCells,hzs,hlt,hjz];have hmod':(p*i.size+j) % i.size=j:=by rw[<- hzs];rw[hzs] at hmod ⊢;exact hmod
            simp[Nat.mod_eq_of_lt hj,hjz]
           have hzl:(Builtin.zeroCells zv.cells n).toList.length=n*i.size:=by simp[Builtin.zeroCells,hzs]
           have hput:=hr.putArr (g:=fun _=>zv.cells.toList.map .v) hb c2 hL hnn hcs hob (us:=(Builtin.zeroCells zv.cells n).toList) (by rw[hzl,hsz]) (fun p hp=>by
            rw[hsz];refine⟨by simp[hzs],fun j hj=>?_⟩;have hjz:j<zv.cells.size:=by omega
            refine⟨zv.cells[j],by rw[hzc p j hp hj];exact Array.getElem?_eq_getElem hjz,hone _ (by simp),?_⟩
            simp[List.getD,hjz,γc]) (by omega)
           refine⟨β,.tuple #[],_,?_,Ext.refl β,fun _ _=>rfl,rfl,hput⟩
           have hbound:L.o+(k*L.s+0)+(Builtin.zeroCells zv.cells n).toList.length<=cs.size:=by
            obtain⟨_,z,_,_,hc⟩:=hbk.cells (k+n-1) (b.sz-1) (by simp[ABlk.inb,hcs];omega);have:=NL hheap hc;rw[hbk.sz,hsz] at this;rw[hzl,ho0,hbk.sz,hsz];have e1:(k+n-1)*i.size+i.size=(k+n)*i.size:=by rw[<- Nat.succ_mul];congr 1;omega
            rw[Nat.add_mul] at e1;omega
           have hst:=Cp (P:=P) hheap hbound (fun a ha=>by
            obtain⟨p,hp⟩:=List.getElem?_of_mem ha;have hlt:p<n*i.size:=by have:=(List.getElem?_eq_some_iff.1 hp).1;rwa[hzl] at this
            have hd:p / i.size<n:=by rw[Nat.div_lt_iff_lt_mul hs1];exact hlt
            have hmm:p % i.size<i.size:=Nat.mod_lt _ hs1;have hdm:p / i.size*i.size+p % i.size=p:=by rw[Nat.mul_comm];exact Nat.div_add_mod p i.size
            have:=hzc (p / i.size) (p % i.size) hd hmm;rw[hdm,hp] at this
            exact hone a (by rw[<- Array.getElem?_toList] at this;exact List.mem_of_getElem? this.symm))
           unfold Builtin.clear_;obtain⟨n',rfl⟩:∃n',n=n'+1:=⟨n-1,by omega⟩
           simp only[Nat.add_zero] at hst ⊢;simp[Sem.run_bind,run_underlying hu,hzv,hst]
       . cases h
     . cases h
   . cases h
 . cases h
end
end Go.Proofs.YtljeokninakliaaGreatDoor
end
