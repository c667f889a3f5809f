/- Parts of a proof. -/
import Derived.Test.YtodpbgbpifiniaaGreatDoorJModelsPlay0
import Derived.Laws.IdiomCopy
import Derived.Deep.Draws
set_option linter.unusedSimpArgs false
set_option linter.unusedVariables false
section
namespace Go.Proofs.YtodpbgbpifiniaaGreatDoor
open Go.RowKit
def BJ (l:List Value) (o k:Nat):List Value:=(l.drop o).take k
def TO (l:List Value) (o:Nat) (vs:List Value):List Value:=l.take o++vs++l.drop (o+vs.length)
theorem KX {l:List Value} {o:Nat} {vs:List Value} (h:o+vs.length<=l.length):(TO l o vs).length=l.length:=by simp[TO];omega
theorem Qs {l:List Value} {o:Nat} {vs:List Value} (h:o+vs.length<=l.length) (i:Nat):(TO l o vs)[i]? =if o<=i/\i<o+vs.length then vs[i-o]? else l[i]?:=by
 unfold TO;by_cases h1:i<o
 . rw[if_neg (by omega),List.append_assoc,List.getElem?_append_left (by simp;omega),List.getElem?_take,if_pos h1]
 . by_cases h2:i<o+vs.length
   . rw[if_pos ⟨by omega,h2⟩,List.append_assoc,List.getElem?_append_right (by simp;omega),List.getElem?_append_left (by simp;omega)]
     congr 1;simp;omega
   . rw[if_neg (by omega),List.getElem?_append_right (by simp;omega),List.getElem?_drop]
     congr 1;simp;omega
def grab (w:World) (b o k:Nat):Option (List Value):=
 match w.heap[b]? with
 |some (.cells c _ _)=>if o+k<=c.size then some (BJ c.toList o k) else none
 |_=>none
def putOk (w:World) (b o k:Nat):Bool:=
 match w.heap[b]? with
 |some (.cells c _ fr)=>decide (o+k<=c.size)&&decide (fr=(0,0))
 |_=>false
def put (w:World) (b o:Nat) (vs:List Value):World:=
 {w with heap:=w.heap.modify b fun
    | .cells c t fr=>.cells (TO c.toList o vs).toArray t fr
    |x=>x}
def Wv (vs:List Value):Bool:=vs.all (·.oneCell')
section
variable {w:World} {b o k:Nat}
theorem jjdm (heap:Array Obj) (b:Nat) (f g:Obj->Obj) (h:∀x,heap[b]? =some x->f x=g x):heap.modify b f=heap.modify b g:=by
 apply Array.ext_getElem?;intro i;rw[Array.getElem?_modify,Array.getElem?_modify];split
 . rename_i e
   subst e
   cases hx:heap[b]? with
   |none=>rfl
   |some x=>simp[h x hx]
 . rfl
theorem HR (b:Nat) (t:TypeId):∀(vs:List Value) (o:Nat) (w:World) (c:Array Value),w.heap[b]? =some (.cells c t (0,0))->o+vs.length<=c.size->w.setCells b o vs=put w b o vs
 | [],o,w,c,hb,_=>by
  show w=put w b o [];unfold put
  cases w with
  |mk heap tape drawn os output=>
   congr 1;rw[jjdm heap b _ id (fun x hx=>by rw[hb] at hx;cases hx;simp[TO])];apply Array.ext_getElem?;intro i;rw[Array.getElem?_modify];split
   . rename_i e;subst e;simp
   . rfl
 | v ::r,o,w,c,hb,hl=>by
  simp only[List.length_cons] at hl;rw[World.setCells]
  have hb':(w.setCell ⟨b,o,none⟩ v).heap[b]? =some (.cells (c.setIfInBounds o v) t (0,0)):=by
   rw[setCell_eq_setRow w b o c t (0,0) v hb];exact setRow_heap w b c _ t _ hb
  rw[HR b t r (o+1) _ _ hb' (by simp;omega)];unfold put World.setCell;congr 1;apply Array.ext_getElem?;intro i;simp only[Array.getElem?_modify];by_cases e:b=i
  . subst e
    simp only[if_true,hb,Option.map_some]
    have :TO (c.setIfInBounds o v).toList (o+1) r=TO c.toList o (v::r):=by
     apply List.ext_getElem?;intro j;rw[Qs (by simp;omega),Qs (by simp;omega)];simp only[List.length_cons];by_cases h1:o+1<=j/\j<o+1+r.length
     . rw[if_pos h1,if_pos ⟨by omega,by omega⟩]
       rw[show j-o=(j-(o+1))+1 by omega];rfl
     . rw[if_neg h1]
       by_cases h2:j=o
       . subst h2
         rw[if_pos ⟨by omega,by omega⟩];simp[show j<c.size by omega]
       . rw[if_neg (by omega)]
         simp[List.getElem?_set,show ¬o=j by omega]
    simp only[Array.toList_setIfInBounds] at this;simp[this]
  . simp[e]
end
def RY (P:Program) (t:TypeId):Option Nat:=
 match P.underlying t with
 |some (.struct _)|some (.array _ _)=>(P.info? t).map (·.size)
 |_=>none
section
variable {P:Program} {fn:Func} {tmps:Array Value} {w:World} {p q u v t t' k k' b o b' o':Nat} {cs cs':List Value}
end
section
variable {w:World} {b n o k:Nat}
theorem jj7k (c:Array Value) (t:TypeId) (hn:n=w.heap.size):grab (w.alloc (.cells c t)) n o k=if o+k<=c.size then some (BJ c.toList o k) else none:=by
 subst hn;have hb:(w.alloc (.cells c t)).heap[w.heap.size]? =some (.cells c t):=by show (w.heap.push _)[w.heap.size]? =_;simp
 unfold grab;rw[hb]
theorem Qn (x:Obj) (hn:n<w.heap.size):(w.alloc x).heap[n]? =w.heap[n]?:=by
 show (w.heap.push x)[n]? =_;rw[Array.getElem?_push,if_neg (by omega)]
theorem jj5s (x:Obj) (hn:n<w.heap.size):grab (w.alloc x) n o k=grab w n o k:=by unfold grab;rw[Qn x hn]
theorem jjdt:grab w.drew n o k=grab w n o k:=rfl
theorem jjbt (m:Nat):grab (w.drewN m) n o k=grab w n o k:=rfl
theorem jj6j (c:Array Value) (t:TypeId) (hn:n=w.heap.size):putOk (w.alloc (.cells c t)) n o k=decide (o+k<=c.size):=by
 subst hn;have hb:(w.alloc (.cells c t)).heap[w.heap.size]? =some (.cells c t):=by show (w.heap.push _)[w.heap.size]? =_;simp
 unfold putOk;rw[hb];simp
theorem jj58 (x:Obj) (hn:n<w.heap.size):putOk (w.alloc x) n o k=putOk w n o k:=by unfold putOk;rw[Qn x hn]
theorem jjb9:putOk w.drew n o k=putOk w n o k:=rfl
theorem jja6 (m:Nat):putOk (w.drewN m) n o k=putOk w n o k:=rfl
theorem jj84 (c:Array Value) (t:TypeId) (vs:List Value) (hn:n=w.heap.size):put (w.alloc (.cells c t)) n o vs=w.alloc (.cells (TO c.toList o vs).toArray t):=by
 subst hn;unfold put World.alloc;congr 1;apply Array.ext_getElem?;intro i;simp only[Array.getElem?_modify,Array.getElem?_push];by_cases h:w.heap.size=i
 . subst h;simp
 . have h':¬i=w.heap.size:=fun e=>h e.symm
   simp[h,h']
theorem jj6i (x:Obj) (vs:List Value) (hn:n<w.heap.size):put (w.alloc x) n o vs=(put w n o vs).alloc x:=by
 unfold put World.alloc;congr 1;apply Array.ext_getElem?;intro i;simp only[Array.getElem?_modify,Array.getElem?_push,Array.size_modify];by_cases h:i=w.heap.size
 . subst h
   simp[show ¬n=w.heap.size by omega]
 . simp[h]
theorem jjgu (vs:List Value):put w.drew n o vs=(put w n o vs).drew:=rfl
theorem jjde (m:Nat) (vs:List Value):put (w.drewN m) n o vs=(put w n o vs).drewN m:=rfl
theorem Lb (vs:List Value):(put w n o vs).heap.size=w.heap.size:=by simp[put]
theorem jj8e (p:Addr) (v:Value) (h:n≠p.block):grab (w.setCell p v) n o k=grab w n o k:=by
 unfold grab;rw[Below.heap_setCell w p v n h]
theorem jj7c (p:Addr) (v:Value) (h:n≠p.block):putOk (w.setCell p v) n o k=putOk w n o k:=by
 unfold putOk;rw[Below.heap_setCell w p v n h]
end
attribute [go_sem] jj7k jj5s jjdt jjbt jj6j jj58 jjb9 jja6 jj84 jj6i jjgu jjde Lb jj8e jj7c Option.elim_some Option.elim_none
def YI (w:World) (b:Nat) (t:TypeId) (c:List Value):World:={w with heap:=w.heap.setIfInBounds b (.cells c.toArray t)}
def Blk (w:World) (b:Nat) (t:TypeId) (c:List Value):Prop:=w.heap[b]? =some (.cells c.toArray t)
section
variable {w w':World} {b b':Nat} {t t':TypeId} {c c':List Value}
theorem Blk.lt (h:Blk w b t c):b<w.heap.size:=(Array.getElem?_eq_some_iff.1 h).1
theorem Blk.cell (h:Blk w b t c) (o:Nat):w.cell? ⟨b,o,none⟩=c[o]?:=by rw[cell_of_row w b o c.toArray t (0,0) h];simp
theorem Blk.frozen (h:Blk w b t c) (o:Nat):w.frozen? ⟨b,o,none⟩=false:=by unfold Blk at h;simp[World.frozen?,h]
theorem Blk.grab (h:Blk w b t c) (o k:Nat):grab w b o k=if o+k<=c.length then some (BJ c o k) else none:=by
 unfold Blk at h;unfold Go.Proofs.YtodpbgbpifiniaaGreatDoor.grab;rw[h];simp
theorem Blk.putOk (h:Blk w b t c) (o k:Nat):putOk w b o k=decide (o+k<=c.length):=by
 unfold Blk at h;unfold Go.Proofs.YtodpbgbpifiniaaGreatDoor.putOk;rw[h];simp
theorem Blk.setCell (h:Blk w b t c) (o:Nat) (v:Value):w.setCell ⟨b,o,none⟩ v=YI w b t (c.set o v):=by
 unfold Blk at h;unfold World.setCell YI;congr 1;apply Array.ext_getElem?;intro i;have hlt:=(Array.getElem?_eq_some_iff.1 h).1;have hv:=(Array.getElem?_eq_some_iff.1 h).2;simp only[Array.getElem?_modify,Array.getElem?_setIfInBounds];by_cases e:b=i
 . subst e;simp[hv,hlt]
 . simp[e]
theorem Blk.put (h:Blk w b t c) (o:Nat) (vs:List Value):put w b o vs=YI w b t (TO c o vs):=by
 unfold Blk at h;unfold Go.Proofs.YtodpbgbpifiniaaGreatDoor.put YI;congr 1;apply Array.ext_getElem?;intro i;have hlt:=(Array.getElem?_eq_some_iff.1 h).1;have hv:=(Array.getElem?_eq_some_iff.1 h).2;simp only[Array.getElem?_modify,Array.getElem?_setIfInBounds];by_cases e:b=i
 . subst e;simp[hv,hlt]
 . simp[e]
theorem Blk.new (w:World) (t:TypeId) (c:List Value):Blk (w.alloc (.cells c.toArray t)) w.heap.size t c:=by
 show (w.heap.push _)[w.heap.size]? =_;simp
theorem Blk.alloc (h:Blk w b t c) (x:Obj):Blk (w.alloc x) b t c:=(Qn x h.lt).trans h
theorem Blk.below {B:Nat} (h:Blk w b t c) (hb:Below B w w') (hB:b<B):Blk w' b t c:=(hb.block b hB).trans h
theorem Blk.drew (h:Blk w b t c):Blk w.drew b t c:=h
theorem Blk.drewN (h:Blk w b t c) (m:Nat):Blk (w.drewN m) b t c:=h
theorem Blk.same (h:Blk w b t c) (c':List Value):Blk (YI w b t c') b t c':=by
 have:=h.lt;unfold Blk YI;simp[this]
theorem jjd6:(YI w b t c).heap.size=w.heap.size:=by simp[YI]
theorem jj6z (h:b<w.heap.size) (o:Nat):(YI w b t c).cell? ⟨b,o,none⟩=c[o]?:=by
 rw[cell_of_row _ b o c.toArray t (0,0) (by simp[YI,h])];simp
theorem jj5t (h:b'≠b) (o:Nat) (s:Option Nat):(YI w b t c).cell? ⟨b',o,s⟩=w.cell? ⟨b',o,s⟩:=
 World.cell?_of_block (by simp only[YI,Array.getElem?_setIfInBounds];rw[if_neg (fun e=>h e.symm)])
theorem jj5i (h:b<w.heap.size) (o:Nat):(YI w b t c).frozen? ⟨b,o,none⟩=false:=by simp[World.frozen?,YI,h]
theorem jj4n (h:b'≠b) (o:Nat) (s:Option Nat):(YI w b t c).frozen? ⟨b',o,s⟩=w.frozen? ⟨b',o,s⟩:=
 World.frozen?_of_block (by simp only[YI,Array.getElem?_setIfInBounds];rw[if_neg (fun e=>h e.symm)])
theorem jj6u (h:b<w.heap.size) (o k:Nat):grab (YI w b t c) b o k=if o+k<=c.length then some (BJ c o k) else none:=by
 unfold grab YI;simp[h]
theorem jj5r (h:b'≠b) (o k:Nat):grab (YI w b t c) b' o k=grab w b' o k:=by
 unfold grab YI;simp only[Array.getElem?_setIfInBounds];rw[if_neg (fun e=>h e.symm)]
theorem jj5q (h:b<w.heap.size) (o k:Nat):putOk (YI w b t c) b o k=decide (o+k<=c.length):=by
 unfold putOk YI;simp[h]
theorem jj57 (h:b'≠b) (o k:Nat):putOk (YI w b t c) b' o k=putOk w b' o k:=by
 unfold putOk YI;simp only[Array.getElem?_setIfInBounds];rw[if_neg (fun e=>h e.symm)]
theorem I4:YI (YI w b t c) b t' c'=YI w b t' c':=by unfold YI;simp
theorem jj7z (h:b<w.heap.size) (o:Nat) (v:Value):(YI w b t c).setCell ⟨b,o,none⟩ v=YI w b t (c.set o v):=by
 have:Blk (YI w b t c) b t c:=by unfold Blk YI;simp[h]
 rw[this.setCell,I4]
theorem jjgt (h:b<w.heap.size) (o:Nat) (vs:List Value):put (YI w b t c) b o vs=YI w b t (TO c o vs):=by
 have:Blk (YI w b t c) b t c:=by unfold Blk YI;simp[h]
 rw[this.put,I4]
theorem jjd7:YI w.drew b t c=(YI w b t c).drew:=rfl
theorem jjb0 (m:Nat):YI (w.drewN m) b t c=(YI w b t c).drewN m:=rfl
end
attribute [go_sem] jjd6 jj6z jj5t jj5i jj4n jj6u jj5r jj5q jj57 jj7z jjgt jjd7 jjb0 I4
section
variable {B:Nat} {a w w1:World}
end
end Go.Proofs.YtodpbgbpifiniaaGreatDoor
end
