/- Parts of a proof. -/
import Derived.Test.YtljeokninakliaaGreatDoorJModelsCrew0
import Derived.Laws.IdiomCopy
import Derived.Deep.Draws
set_option linter.unusedSimpArgs false
set_option linter.unusedVariables false
section
namespace Go.Proofs.YtljeokninakliaaGreatDoor
open Go.RowKit
def cut (l:List Value) (o k:Nat):List Value:=(l.drop o).take k
def Y1 (l:List Value) (o:Nat) (vs:List Value):List Value:=l.take o++vs++l.drop (o+vs.length)
theorem CO {l:List Value} {o k:Nat} (h:o+k<=l.length):(cut l o k).length=k:=by simp[cut];omega
theorem ES {l:List Value} {o k j:Nat} (h:j<k):(cut l o k)[j]? =l[o+j]?:=by
 simp[cut,List.getElem?_take,h]
theorem Ty (l:List Value) (k:Nat) (h:l.length=k):cut l 0 k=l:=by subst h;simp[cut]
theorem La {l:List Value} {o:Nat} {vs:List Value} (h:o+vs.length<=l.length):(Y1 l o vs).length=l.length:=by simp[Y1];omega
theorem Tx (l:List Value) (o:Nat) (v:Value) (h:o<l.length):Y1 l o [v]=l.set o v:=by
 unfold Y1;rw[List.set_eq_take_append_cons_drop,if_pos h];simp
theorem U7 (l vs:List Value) (h:l.length=vs.length):Y1 l 0 vs=vs:=by unfold Y1;simp[<- h]
theorem Qx {l:List Value} {o:Nat} {vs:List Value} (h:o+vs.length<=l.length) (i:Nat):(Y1 l o vs)[i]? =if o<=i/\i<o+vs.length then vs[i-o]? else l[i]?:=by
 unfold Y1;by_cases h1:i<o
 . rw[if_neg (by omega),List.append_assoc,List.getElem?_append_left (by simp;omega),List.getElem?_take,if_pos h1]
 . by_cases h2:i<o+vs.length
   . rw[if_pos ⟨by omega,h2⟩,List.append_assoc,List.getElem?_append_right (by simp;omega),List.getElem?_append_left (by simp;omega)]
     congr 1;simp;omega
   . rw[if_neg (by omega),List.getElem?_append_right (by simp;omega),List.getElem?_drop]
     congr 1;simp;omega
def grab (w:World) (b o k:Nat):Option (List Value):=
 match w.heap[b]? with
 |some (.cells c _ _)=>if o+k<=c.size then some (cut c.toList o k) else none
 |_=>none
def putOk (w:World) (b o k:Nat):Bool:=
 match w.heap[b]? with
 |some (.cells c _ fr)=>decide (o+k<=c.size)&&decide (fr=(0,0))
 |_=>false
def put (w:World) (b o:Nat) (vs:List Value):World:=
 {w with heap:=w.heap.modify b fun
    | .cells c t fr=>.cells (Y1 c.toList o vs).toArray t fr
    |x=>x}
def YL (vs:List Value):Bool:=vs.all (·.oneCell')
section
variable {w:World} {b o k:Nat}
theorem jje7 {cs:List Value} (h:grab w b o k=some cs):cs.length=k/\∀j,j<k->w.cell? ⟨b,o+j,none⟩=cs[j]?:=by
 unfold grab at h;split at h
 . rename_i c t fr hb
   split at h
   . rename_i hk
     cases h;refine⟨CO (by simpa using hk),fun j hj=>?_⟩;rw[cell_of_row w b (o+j) c t fr hb,ES hj];simp
   . cases h
 . cases h
theorem jjc8 (h:putOk w b o k=true):∃c t,w.heap[b]? =some (.cells c t (0,0))/\o+k<=c.size:=by
 unfold putOk at h;split at h
 . rename_i c t fr hb
   simp only[Bool.and_eq_true,decide_eq_true_eq] at h;obtain⟨h1,rfl⟩:=h;exact⟨c,t,hb,h1⟩
 . cases h
theorem jjg8 (heap:Array Obj) (b:Nat) (f g:Obj->Obj) (h:∀x,heap[b]? =some x->f x=g x):heap.modify b f=heap.modify b g:=by
 apply Array.ext_getElem?;intro i;rw[Array.getElem?_modify,Array.getElem?_modify];split
 . rename_i e
   subst e
   cases hx:heap[b]? with
   |none=>rfl
   |some x=>simp[h x hx]
 . rfl
theorem KS (b:Nat) (t:TypeId):∀(vs:List Value) (o:Nat) (w:World) (c:Array Value),w.heap[b]? =some (.cells c t (0,0))->o+vs.length<=c.size->w.setCells b o vs=put w b o vs
 | [],o,w,c,hb,_=>by
  show w=put w b o [];unfold put
  cases w with
  |mk heap tape drawn os output=>
   congr 1;rw[jjg8 heap b _ id (fun x hx=>by rw[hb] at hx;cases hx;simp[Y1])];apply Array.ext_getElem?;intro i;rw[Array.getElem?_modify];split
   . rename_i e;subst e;simp
   . rfl
 | v ::r,o,w,c,hb,hl=>by
  simp only[List.length_cons] at hl;rw[World.setCells]
  have hb':(w.setCell ⟨b,o,none⟩ v).heap[b]? =some (.cells (c.setIfInBounds o v) t (0,0)):=by
   rw[setCell_eq_setRow w b o c t (0,0) v hb];exact setRow_heap w b c _ t _ hb
  rw[KS b t r (o+1) _ _ hb' (by simp;omega)];unfold put World.setCell;congr 1;apply Array.ext_getElem?;intro i;simp only[Array.getElem?_modify];by_cases e:b=i
  . subst e
    simp only[if_true,hb,Option.map_some]
    have :Y1 (c.setIfInBounds o v).toList (o+1) r=Y1 c.toList o (v::r):=by
     apply List.ext_getElem?;intro j;rw[Qx (by simp;omega),Qx (by simp;omega)];simp only[List.length_cons];by_cases h1:o+1<=j/\j<o+1+r.length
     . rw[if_pos h1,if_pos ⟨by omega,by omega⟩]
       rw[show j-o=(j-(o+1))+1 by omega];rfl
     . rw[if_neg h1]
       by_cases h2:j=o
       . subst h2
         rw[if_pos ⟨by omega,by omega⟩];simp[show j<c.size by omega]
       . rw[if_neg (by omega)]
         simp[List.getElem?_set,show ¬o=j by omega]
    simp only[Array.toList_setIfInBounds] at this;simp[this]
  . simp[e]
end
def U8 (t:TypeId) (x:Value):Sem Value:=Instr.loadAt t x
def TO (t:TypeId) (x v:Value):Sem Unit:=Instr.storeAt t x v
def SG (P:Program) (t:TypeId) (a:Addr) (w:World):Result Value:=(Instr.loadAt t (.pointer (some a))).run P w
def SN (P:Program) (t:TypeId) (a:Addr) (v:Value) (w:World):Result Unit:=(Instr.storeAt t (.pointer (some a)) v).run P w
def Yd (P:Program) (t:TypeId):Option Nat:=
 match P.underlying t with
 |some (.struct _)|some (.array _ _)=>(P.info? t).map (·.size)
 |_=>none
theorem Cr {P:Program} {t:TypeId} {k:Nat} (h:Yd P t=some k):(∀w,(isAgg t).run P w= .ok true w)/\(P.info? t).map (·.size)=some k:=by
 unfold Yd at h;split at h
 . rename_i fs hu
   exact⟨fun w=>by unfold isAgg;rw[Sem.run_bind,run_underlying hu w];rfl,h⟩
 . rename_i n e hu
   exact⟨fun w=>by unfold isAgg;rw[Sem.run_bind,run_underlying hu w];rfl,h⟩
 . cases h
theorem P4 {P:Program} {t:TypeId} {k:Nat} (h:Yd P t=some k) (w:World) (b o:Nat):
 (U8 t (.pointer (some ⟨b,o,none⟩))).run P w=(grab w b o k).elim (SG P t ⟨b,o,none⟩ w) (fun cs=>.ok (.agg cs.toArray) w):=by
 obtain⟨h1,h2⟩:=Cr h
 cases hg:grab w b o k with
 |none=>rfl
 | some cs=>
  obtain⟨hl,hc⟩:=jje7 hg;show (Instr.loadAt t (.pointer (some ⟨b,o,none⟩))).run P w= .ok (.agg cs.toArray) w
  have hload:(loadCells ⟨b,o,none⟩ cs.length).run P w= .ok cs.toArray w:=
   run_loadCells_list (P:=P) w ⟨b,o,none⟩ cs (fun j v hv=>by
    have hj:j<cs.length:=(List.getElem?_eq_some_iff.1 hv).1
    rw[Addr.add_lit,hc j (by omega)];exact hv)
  cases hq:P.info? t with
  |none=>simp[hq] at h2
  |some i=>
   have hs:i.size=cs.length:=by simp[hq] at h2;omega
   simp[Instr.loadAt,Instr.sureAddr,loadVar,Sem.run_bind,h1 w,sizeOf,typeInfo,hq,hs,hload]
theorem Nr {P:Program} {t:TypeId} {k:Nat} (h:Yd P t=some k) (w:World) (b o:Nat) (vs:List Value):
 (TO t (.pointer (some ⟨b,o,none⟩)) (.agg vs.toArray)).run P w=
  if putOk w b o k=true/\vs.length=k/\YL vs=true then .ok () (put w b o vs) else SN P t ⟨b,o,none⟩ (.agg vs.toArray) w:=by
 obtain⟨_,h2⟩:=Cr h;split
 . rename_i hc
   obtain⟨hp,hl,h1⟩:=hc;obtain⟨c,tt,hb,hk⟩:=jjc8 hp;have hone:∀v∈vs,v.oneCell'=true:=List.all_eq_true.1 h1
   have hst:=run_storeCells_cells (P:=P) b o vs 0 w (fun j hj=>by rw[Nat.add_zero,cell_of_row w b _ c tt (0,0) hb];simp;omega)
    (fun j hj=>by simp[World.frozen?,hb]) hone
   rw[Nat.add_zero,KS b tt vs o w c hb (by omega)] at hst;show (Instr.storeAt t (.pointer (some ⟨b,o,none⟩)) (.agg vs.toArray)).run P w=_
   cases hq:P.info? t with
   |none=>simp[hq] at h2
   |some i=>
    have hs:vs.length=i.size:=by simp[hq] at h2;omega
    simp[Instr.storeAt,Instr.sureAddr,storeVar,sizeOf,typeInfo,hq,Value.cells,hs,hst]
 . rfl
theorem jj5q {P:Program} {t:TypeId} {k:Nat} (h:Yd P t=some k) {w:World} {b o:Nat} {cs:List Value} (hg:grab w b o k=some cs):
 (loadVar t ⟨b,o,none⟩).run P w= .ok (.agg cs.toArray) w:=by
 have:=P4 h w b o;rw[hg] at this;simpa[U8,Instr.loadAt,Instr.sureAddr] using this
section
variable {P:Program} {fn:Func} {tmps:Array Value} {w:World} {p q u v t t' k k' b o b' o':Nat} {cs cs':List Value}
theorem Ri (h:fn.results= #[.cell p t]) (hk:Yd P t=some k) (hp:tmps.getD p undef= .pointer (some ⟨b,o,none⟩)) (hg:grab w b o k=some cs):
 (results fn tmps).run P w= .ok (.agg cs.toArray) w:=by
 have hp':tmps[p]?.getD undef= .pointer (some ⟨b,o,none⟩):=by simpa using hp
 simp[results,h,hp',asAddr,jj5q hk hg]
end
section
variable {w:World} {b n o k:Nat}
theorem jj8w (c:Array Value) (t:TypeId) (hn:n=w.heap.size):grab (w.alloc (.cells c t)) n o k=if o+k<=c.size then some (cut c.toList o k) else none:=by
 subst hn;have hb:(w.alloc (.cells c t)).heap[w.heap.size]? =some (.cells c t):=by show (w.heap.push _)[w.heap.size]? =_;simp
 unfold grab;rw[hb]
theorem Qq (x:Obj) (hn:n<w.heap.size):(w.alloc x).heap[n]? =w.heap[n]?:=by
 show (w.heap.push x)[n]? =_;rw[Array.getElem?_push,if_neg (by omega)]
theorem jj6p (x:Obj) (hn:n<w.heap.size):grab (w.alloc x) n o k=grab w n o k:=by unfold grab;rw[Qq x hn]
theorem jjgg:grab w.drew n o k=grab w n o k:=rfl
theorem jje6 (m:Nat):grab (w.drewN m) n o k=grab w n o k:=rfl
theorem jj7e (c:Array Value) (t:TypeId) (hn:n=w.heap.size):putOk (w.alloc (.cells c t)) n o k=decide (o+k<=c.size):=by
 subst hn;have hb:(w.alloc (.cells c t)).heap[w.heap.size]? =some (.cells c t):=by show (w.heap.push _)[w.heap.size]? =_;simp
 unfold putOk;rw[hb];simp
theorem jj5w (x:Obj) (hn:n<w.heap.size):putOk (w.alloc x) n o k=putOk w n o k:=by unfold putOk;rw[Qq x hn]
theorem jjdg:putOk w.drew n o k=putOk w n o k:=rfl
theorem jjc7 (m:Nat):putOk (w.drewN m) n o k=putOk w n o k:=rfl
theorem jj9r (c:Array Value) (t:TypeId) (vs:List Value) (hn:n=w.heap.size):put (w.alloc (.cells c t)) n o vs=w.alloc (.cells (Y1 c.toList o vs).toArray t):=by
 subst hn;unfold put World.alloc;congr 1;apply Array.ext_getElem?;intro i;simp only[Array.getElem?_modify,Array.getElem?_push];by_cases h:w.heap.size=i
 . subst h;simp
 . have h':¬i=w.heap.size:=fun e=>h e.symm
   simp[h,h']
theorem jj7d (x:Obj) (vs:List Value) (hn:n<w.heap.size):put (w.alloc x) n o vs=(put w n o vs).alloc x:=by
 unfold put World.alloc;congr 1;apply Array.ext_getElem?;intro i;simp only[Array.getElem?_modify,Array.getElem?_push,Array.size_modify];by_cases h:i=w.heap.size
 . subst h
   simp[show ¬n=w.heap.size by omega]
 . simp[h]
theorem jjjk (vs:List Value):put w.drew n o vs=(put w n o vs).drew:=rfl
theorem jjg1 (m:Nat) (vs:List Value):put (w.drewN m) n o vs=(put w n o vs).drewN m:=rfl
theorem YE (vs:List Value):(put w n o vs).heap.size=w.heap.size:=by simp[put]
theorem jja4 (p:Addr) (v:Value) (h:n≠p.block):grab (w.setCell p v) n o k=grab w n o k:=by
 unfold grab;rw[Below.heap_setCell w p v n h]
theorem jj8m (p:Addr) (v:Value) (h:n≠p.block):putOk (w.setCell p v) n o k=putOk w n o k:=by
 unfold putOk;rw[Below.heap_setCell w p v n h]
end
attribute [go_sem] jj8w jj6p jjgg jje6 jj7e jj5w jjdg jjc7 jj9r jj7d jjjk jjg1 YE jja4 jj8m Option.elim_some Option.elim_none
def setB (w:World) (b:Nat) (t:TypeId) (c:List Value):World:={w with heap:=w.heap.setIfInBounds b (.cells c.toArray t)}
def Blk (w:World) (b:Nat) (t:TypeId) (c:List Value):Prop:=w.heap[b]? =some (.cells c.toArray t)
section
variable {w w':World} {b b':Nat} {t t':TypeId} {c c':List Value}
theorem Blk.lt (h:Blk w b t c):b<w.heap.size:=(Array.getElem?_eq_some_iff.1 h).1
theorem Blk.cell (h:Blk w b t c) (o:Nat):w.cell? ⟨b,o,none⟩=c[o]?:=by rw[cell_of_row w b o c.toArray t (0,0) h];simp
theorem Blk.frozen (h:Blk w b t c) (o:Nat):w.frozen? ⟨b,o,none⟩=false:=by unfold Blk at h;simp[World.frozen?,h]
theorem Blk.grab (h:Blk w b t c) (o k:Nat):grab w b o k=if o+k<=c.length then some (cut c o k) else none:=by
 unfold Blk at h;unfold Go.Proofs.YtljeokninakliaaGreatDoor.grab;rw[h];simp
theorem Blk.putOk (h:Blk w b t c) (o k:Nat):putOk w b o k=decide (o+k<=c.length):=by
 unfold Blk at h;unfold Go.Proofs.YtljeokninakliaaGreatDoor.putOk;rw[h];simp
theorem Blk.setCell (h:Blk w b t c) (o:Nat) (v:Value):w.setCell ⟨b,o,none⟩ v=setB w b t (c.set o v):=by
 unfold Blk at h;unfold World.setCell setB;congr 1;apply Array.ext_getElem?;intro i;have hlt:=(Array.getElem?_eq_some_iff.1 h).1;have hv:=(Array.getElem?_eq_some_iff.1 h).2;simp only[Array.getElem?_modify,Array.getElem?_setIfInBounds];by_cases e:b=i
 . subst e;simp[hv,hlt]
 . simp[e]
theorem Blk.put (h:Blk w b t c) (o:Nat) (vs:List Value):put w b o vs=setB w b t (Y1 c o vs):=by
 unfold Blk at h;unfold Go.Proofs.YtljeokninakliaaGreatDoor.put setB;congr 1;apply Array.ext_getElem?;intro i;have hlt:=(Array.getElem?_eq_some_iff.1 h).1;have hv:=(Array.getElem?_eq_some_iff.1 h).2;simp only[Array.getElem?_modify,Array.getElem?_setIfInBounds];by_cases e:b=i
 . subst e;simp[hv,hlt]
 . simp[e]
theorem Blk.new (w:World) (t:TypeId) (c:List Value):Blk (w.alloc (.cells c.toArray t)) w.heap.size t c:=by
 show (w.heap.push _)[w.heap.size]? =_;simp
theorem Blk.alloc (h:Blk w b t c) (x:Obj):Blk (w.alloc x) b t c:=(Qq x h.lt).trans h
theorem Blk.below {B:Nat} (h:Blk w b t c) (hb:Below B w w') (hB:b<B):Blk w' b t c:=(hb.block b hB).trans h
theorem Blk.drew (h:Blk w b t c):Blk w.drew b t c:=h
theorem Blk.drewN (h:Blk w b t c) (m:Nat):Blk (w.drewN m) b t c:=h
theorem Blk.same (h:Blk w b t c) (c':List Value):Blk (setB w b t c') b t c':=by
 have:=h.lt;unfold Blk setB;simp[this]
theorem Blk.other (h:Blk w b t c) (hne:b≠b') (c':List Value):Blk (setB w b' t' c') b t c:=by
 unfold Blk at h ⊢;unfold setB;simp only[Array.getElem?_setIfInBounds];rw[if_neg (fun e=>hne e.symm)];exact h
theorem YH:(setB w b t c).heap.size=w.heap.size:=by simp[setB]
theorem jjf8 {B:Nat} (hB:B<=b):Below B w (setB w b t c):=
 ⟨rfl,rfl,rfl,by simp[setB],fun k hk=>by simp only[setB,Array.getElem?_setIfInBounds];rw[if_neg (by omega)]⟩
theorem jj84 (h:b<w.heap.size) (o:Nat):(setB w b t c).cell? ⟨b,o,none⟩=c[o]?:=by
 rw[cell_of_row _ b o c.toArray t (0,0) (by simp[setB,h])];simp
theorem jj6q (h:b'≠b) (o:Nat) (s:Option Nat):(setB w b t c).cell? ⟨b',o,s⟩=w.cell? ⟨b',o,s⟩:=
 World.cell?_of_block (by simp only[setB,Array.getElem?_setIfInBounds];rw[if_neg (fun e=>h e.symm)])
theorem jj67 (h:b<w.heap.size) (o:Nat):(setB w b t c).frozen? ⟨b,o,none⟩=false:=by simp[World.frozen?,setB,h]
theorem jj55 (h:b'≠b) (o:Nat) (s:Option Nat):(setB w b t c).frozen? ⟨b',o,s⟩=w.frozen? ⟨b',o,s⟩:=
 World.frozen?_of_block (by simp only[setB,Array.getElem?_setIfInBounds];rw[if_neg (fun e=>h e.symm)])
theorem jj7u (h:b<w.heap.size) (o k:Nat):grab (setB w b t c) b o k=if o+k<=c.length then some (cut c o k) else none:=by
 unfold grab setB;simp[h]
theorem jj6o (h:b'≠b) (o k:Nat):grab (setB w b t c) b' o k=grab w b' o k:=by
 unfold grab setB;simp only[Array.getElem?_setIfInBounds];rw[if_neg (fun e=>h e.symm)]
theorem jj6n (h:b<w.heap.size) (o k:Nat):putOk (setB w b t c) b o k=decide (o+k<=c.length):=by
 unfold putOk setB;simp[h]
theorem jj5v (h:b'≠b) (o k:Nat):putOk (setB w b t c) b' o k=putOk w b' o k:=by
 unfold putOk setB;simp only[Array.getElem?_setIfInBounds];rw[if_neg (fun e=>h e.symm)]
theorem HH:setB (setB w b t c) b t' c'=setB w b t' c':=by unfold setB;simp
theorem jj9h (h:b<w.heap.size) (o:Nat) (v:Value):(setB w b t c).setCell ⟨b,o,none⟩ v=setB w b t (c.set o v):=by
 have:Blk (setB w b t c) b t c:=by unfold Blk setB;simp[h]
 rw[this.setCell,HH]
theorem jjjj (h:b<w.heap.size) (o:Nat) (vs:List Value):put (setB w b t c) b o vs=setB w b t (Y1 c o vs):=by
 have:Blk (setB w b t c) b t c:=by unfold Blk setB;simp[h]
 rw[this.put,HH]
theorem jjfu:setB w.drew b t c=(setB w b t c).drew:=rfl
theorem jjd7 (m:Nat):setB (w.drewN m) b t c=(setB w b t c).drewN m:=rfl
end
attribute [go_sem] YH jj84 jj6q jj67 jj55 jj7u jj6o jj6n jj5v jj9h jjjj jjfu jjd7 HH
section
variable {B:Nat} {a w w1:World}
theorem WO (B:Nat) (w:World):Below B w w:=Below.refl B w
theorem Wp (x:Obj) (hB:B<=w.heap.size) (h:Below B a w):Below B a (w.alloc x):=h.alloc hB x
theorem TA (h:Below B a w):Below B a w.drew:=h.drew
theorem RJ (n:Nat) (h:Below B a w):Below B a (w.drewN n):=⟨h.os,h.tape,h.output,h.size,h.block⟩
theorem UB {b:Nat} {t:TypeId} {c:List Value} (hB:B<=b) (h:Below B a w):Below B a (setB w b t c):=h.trans (jjf8 hB)
theorem RH {p:Addr} {u:Value} (hB:B<=p.block) (h:Below B a w):Below B a (w.setCell p u):=h.setCell hB u
theorem Wn {b o:Nat} {vs:List Value} (hB:B<=b) (h:Below B a w):Below B a (put w b o vs):=by
 refine h.trans ⟨rfl,rfl,rfl,by simp[put],fun k hk=>?_⟩;simp only[put,Array.getElem?_modify];rw[if_neg (by omega)]
end
theorem Rh {xs ys:List Value} (h:xs=ys):Ending.returned (.agg xs.toArray)= .returned (.agg ys.toArray):=by rw[h]
end Go.Proofs.YtljeokninakliaaGreatDoor
end
