/- Parts of a proof. -/
import Derived.Test.YtljeokninakliaaGreatDoorJModelsCrew2
import Derived.Maps.Keyed
set_option linter.unusedSimpArgs false
set_option linter.unusedVariables false
section
namespace Go.Proofs.YtljeokninakliaaGreatDoor
open Go.RowKit Go.MapKept
def ZF:Nat->List (List Value × Value)->List MapEntry
 |_,[]=>[]
 |j,(k,v)::r=>⟨.agg k.toArray,v,j⟩::ZF (j+1) r
def Q9 (es:List (List Value × Value)):Obj:=.map (ZF 0 es).toArray es.length
def MBlk (w:World) (b:Nat) (es:List (List Value × Value)):Prop:=w.heap[b]? =some (Q9 es)
def setM (w:World) (b:Nat) (es:List (List Value × Value)):World:={w with heap:=w.heap.setIfInBounds b (Q9 es)}
open Classical in
noncomputable def Yl (xs:List Value):List (List Value × Value)->Nat->Option (Nat × Value)
 | [],_=>none
 |(k,v)::r,i=>if xs=k then some (i,v) else Yl xs r (i+1)
theorem KQ:∀(es:List (List Value × Value)) (j:Nat),(ZF j es).length=es.length
 | [],_=>rfl
 |(_,_)::r,j=>by simp[ZF,KQ r]
theorem S5:∀(es:List (List Value × Value)) (j i:Nat),(ZF j es)[i]? =(es[i]?).map fun p=>⟨.agg p.1.toArray,p.2,j+i⟩
 | [],_,_=>by simp[ZF]
 |(k,v)::r,j,0=>by simp[ZF]
 |(k,v)::r,j,i+1=>by
  simp only[ZF,List.getElem?_cons_succ,S5 r];rw[show j+1+i=j+(i+1) by omega]
theorem Cn (k:List Value) (v:Value):∀(es:List (List Value × Value)) (j:Nat),ZF j (es++[(k,v)])=ZF j es++[⟨.agg k.toArray,v,j+es.length⟩]
 | [],j=>by simp[ZF]
 |(k',v')::r,j=>by
  simp only[List.cons_append,ZF,Cn k v r,List.length_cons];rw[show j+1+r.length=j+(r.length+1) by omega]
structure MapT (P:Program) (T k e:TypeId) (z:Value) (ks:List (Option IntKind)) (n m:Nat):Prop where
 ht:P.underlying T=some (.map k e)
 hk:Zp P n k=some ks
 hn:n<=10000
 hm:m<=10000
 hagg:(Yd P k).isSome=true
 hwide:(match P.underlying k with|some (.array _ _)|some (.struct _)=>true|_=>false)=true
 hkt:P.keyTypeAt m k=true
 hz:∀w,(zeroValue e).run P w= .ok z w
 hlen:P.cellsOf k=ks.length
section
variable {P:Program} {T k e:TypeId} {z:Value} {ks:List (Option IntKind)} {n m:Nat}
theorem MapT.check (M:MapT P T k e z ks n m) {xs:List Value} (hx:Flat ks xs) (em:Bool) (w:World):(Instr.checkKey em 10000 k (.agg xs.toArray)).run P w= .ok () w:=by
 have h:=run_checkKey_deep (P:=P) em (10000-m) m k M.hkt w n (.agg xs.toArray) (xs.map VB) ?_ ?_
 . rwa[show 10000-m+m=10000 by have:=M.hm;omega] at h
 . have hw:=M.hwide
   unfold Value.formed;revert hw
   cases P.underlying k with
   |none=>simp
   |some d=>cases d<;>simp[M.hlen,hx.1]
 . simpa[Value.cells] using Hm n k xs ks M.hk hx
theorem MapT.asking (M:MapT P T k e z ks n m) {xs:List Value} (hx:ZK ks xs) (w:World):∀(es:List (List Value × Value)) (j i:Nat),(∀p∈es,ZK ks p.1)->
 (Instr.findAsking k (.agg xs.toArray) (ZF j es) i).run P w= .ok (Yl xs es i) w
 | [],_,_,_=>by simp[ZF,Instr.findAsking,Yl]
 |(k',v)::r,j,i,h=>by
  have he:=J5 (P:=P) (d:=10000) M.hn M.hk M.hagg hx (h (k',v) (by simp)) w;have ih:=M.asking hx w r (j+1) (i+1) (fun p hp=>h p (by simp[hp]));unfold Instr.findAsking ZF Yl;simp only[Sem.run_bind,Op.equal,Op.maxDepth,he,Result.andThen];by_cases hxk:xs=k'
  . simp[hxk]
  . simp[hxk,ih]
theorem MapT.find (M:MapT P T k e z ks n m) {xs:List Value} (hx:ZK ks xs) (w:World) (es:List (List Value × Value)) (h:∀p∈es,ZK ks p.1):
 (Instr.findKey k (.agg xs.toArray) (ZF 0 es)).run P w= .ok (Yl xs es 0) w:=by
 rw[run_findKey_eq w M.hwide];exact M.asking hx w es 0 0 h
theorem MapT.lookup (M:MapT P T k e z ks n m) {w:World} {b:Nat} {es:List (List Value × Value)} (hb:MBlk w b es) (h:∀p∈es,ZK ks p.1) {xs:List Value} (hx:Flat ks xs):
 (Instr.lookup T (.map (some b)) (.agg xs.toArray) false).run P w= .ok (((Yl xs es 0).map (·.2)).getD z) w:=by
 have hf:=M.find hx.shape w es h;unfold Instr.lookup;simp only[Sem.run_bind,run_underlying M.ht,Go.MapKept.run_getObj_map hb,M.check hx,hf,Result.andThen,Sem.run_pure,pure_bind]
 cases Yl xs es 0 with
 |none=>simp[M.hz,Result.andThen]
 |some p=>simp
theorem DT {xs:List Value}:∀{es:List (List Value × Value)} {i0 i:Nat} {v:Value},Yl xs es i0=some (i,v)->i0<=i/\es[i-i0]? =some (xs,v)
 | [],_,_,_,h=>by simp[Yl] at h
 | (k',v')::r,i0,i,v,h=>by
  unfold Yl at h;split at h
  . rename_i hx
    cases h;subst hx;simp
  . obtain⟨h1,h2⟩:=DT h
    refine⟨by omega,?_⟩;rw[show i-i0=(i-(i0+1))+1 by omega];simpa using h2
theorem jj9i {q:Option IntKind} {v:Value} (h:AM q v) (d:Nat):Instr.sameBits d v v=true:=by
 cases q with
 |none=>obtain⟨x,rfl⟩:=h;simp[Instr.sameBits]
 |some q=>obtain⟨x,rfl⟩:=h;simp[Instr.sameBits]
theorem Co (f:Value->Value->Bool):∀(l:List Value),(∀v∈l,f v v=true)->((l.zip l).all fun p=>f p.1 p.2)=true
 | [],_=>rfl
 |v::r,h=>by simp[h v (by simp)];exact fun a b hab=>by have:=Co f r (fun v hv=>h v (by simp[hv]));rw[List.all_eq_true] at this;exact this (a,b) hab
theorem jj8h {ks:List (Option IntKind)} {xs:List Value} (h:ZK ks xs):Instr.sameBits 10000 (.agg xs.toArray) (.agg xs.toArray)=true:=by
 have hall:∀v∈xs,Instr.sameBits 9999 v v=true:=by
  intro v hv;obtain⟨i,hi⟩:=List.getElem?_of_mem hv;have hlt:i<ks.length:=by rw[<- h.1];exact(List.getElem?_eq_some_iff.1 hi).1
  obtain⟨v',hv',hs⟩:=h.2 i ks[i] (by simp);rw[hi] at hv';cases hv';exact jj9i hs _
 have:=Co (Instr.sameBits 9999) xs hall;show (xs.toArray.size==xs.toArray.size&&(xs.toArray.toList.zip xs.toArray.toList).all fun (x,y)=>Instr.sameBits 9999 x y)=true;simpa using this
theorem jjfv {ks:List (Option IntKind)} {xs:List Value} (h:ZK ks xs) (w:World):(Instr.keyThatStays (.agg xs.toArray) (.agg xs.toArray)).run P w= .ok (.agg xs.toArray) w:=by
 simp[Instr.keyThatStays,jj8h h]
theorem jjdv {es:List (List Value × Value)} {i:Nat} {xs:List Value} {v:Value} (h:es[i]? =some (xs,v)):
 ((ZF 0 es).toArray.modify i fun e=>{e with key:=.agg xs.toArray})=(ZF 0 es).toArray:=by
 apply Array.ext_getElem?;intro j;rw[Array.getElem?_modify];split
 . rename_i hij
   subst hij;simp[S5,h]
 . rfl
theorem HG {w:World} {b:Nat} {es:List (List Value × Value)} (hb:MBlk w b es): {w with heap:=w.heap.setIfInBounds b (Q9 es)}=w:=by
 have:w.heap.setIfInBounds b (Q9 es)=w.heap:=by
  apply Array.ext_getElem?;intro j;rw[Array.getElem?_setIfInBounds];split
  . rename_i hij;subst hij;unfold MBlk at hb;rw[hb];have:=(Array.getElem?_eq_some_iff.1 hb).1;simp[this]
  . rfl
 rw[this]
theorem MapT.entry_at (M:MapT P T k e z ks n m) {w:World} {b:Nat} {es:List (List Value × Value)} (hb:MBlk w b es) (h:∀p∈es,ZK ks p.1) {xs:List Value} (hx:Flat ks xs) {i:Nat} {v:Value} (hf:Yl xs es 0=some (i,v)):
 (Instr.mapEntry T (.map (some b)) (.agg xs.toArray)).run P w= .ok (.tuple #[v,.int .i64 i]) w:=by
 have hfind:=M.find hx.shape w es h;have hat:=(DT hf).2;rw[Nat.sub_zero] at hat;have hget:(ZF 0 es)[i]? =some ⟨.agg xs.toArray,v,i⟩:=by rw[S5,hat];simp
 unfold Instr.mapEntry
 simp only[Sem.run_bind,run_underlying M.ht,Go.MapKept.run_getObj_map hb,M.check hx,hfind,hf,Result.andThen,List.getElem?_toArray,hget,Option.map_some,Option.getD_some,jjfv hx.shape,jjdv hat,
  run_setObj_map _ hb]
 have:=HG hb;unfold Q9 at this;simp[this,goInt]
theorem MapT.entry_new (M:MapT P T k e z ks n m) {w:World} {b:Nat} {es:List (List Value × Value)} (hb:MBlk w b es) (h:∀p∈es,ZK ks p.1) {xs:List Value} (hx:Flat ks xs) (hf:Yl xs es 0=none):
 (Instr.mapEntry T (.map (some b)) (.agg xs.toArray)).run P w= .ok (.tuple #[z,.int .i64 es.length]) (setM w b (es++[(xs,z)])):=by
 have hfind:=M.find hx.shape w es h;unfold Instr.mapEntry;simp only[Sem.run_bind,run_underlying M.ht,Go.MapKept.run_getObj_map hb,M.check hx,hfind,hf,Result.andThen,M.hz,run_setObj_map _ hb];simp[setM,Q9,Cn,goInt]
theorem jjdu {es:List (List Value × Value)} {i:Nat} {xs:List Value} {v v':Value} (h:es[i]? =some (xs,v)):
 ((ZF 0 es).toArray.modify i fun e=>{e with val:=v'})=(ZF 0 (es.set i (xs,v'))).toArray:=by
 have hlt:i<es.length:=(List.getElem?_eq_some_iff.1 h).1;apply Array.ext_getElem?;intro j;rw[Array.getElem?_modify,List.getElem?_toArray,List.getElem?_toArray,S5,S5,List.getElem?_set];by_cases hij:i=j
 . subst hij
   rw[if_pos rfl,if_pos rfl,if_pos hlt,h];rfl
 . simp[hij]
theorem find_born {es:List (List Value × Value)} {i:Nat} (h:i<es.length):((ZF 0 es).toArray.findIdx? fun e=>(e.born:Int)==(i:Int))=some i:=by
 rw[List.findIdx?_toArray,List.findIdx?_eq_some_iff_getElem]
 have hb:∀(j:Nat) (hj:j<(ZF 0 es).length),((ZF 0 es)[j]).born=j:=by
  intro j hj;have e1:=S5 es 0 j;rw[List.getElem?_eq_getElem hj] at e1;have hj':j<es.length:=by rwa[KQ] at hj
  rw[List.getElem?_eq_getElem hj'] at e1;simp only[Option.map_some,Option.some.injEq] at e1;rw[e1];simp
 refine⟨by rw[KQ];exact h,by rw[hb];simp,fun j hj=>?_⟩;rw[hb];simp;omega
theorem KV {w:World} {b:Nat} {es:List (List Value × Value)} (hb:MBlk w b es) {i:Nat} {xs:List Value} {v v':Value} (hi:es[i]? =some (xs,v)):
 (Instr.entryStore T (.map (some b)) (.int .i64 i) v').run P w= .ok () (setM w b (es.set i (xs,v'))):=by
 have hlt:i<es.length:=(List.getElem?_eq_some_iff.1 hi).1;unfold Instr.entryStore;simp only[Sem.run_bind,Go.MapKept.run_getObj_map hb,Result.andThen,asInt,asIntOf,Sem.run_pure,find_born hlt,run_setObj_map _ hb,jjdu hi];simp[setM,Q9]
theorem MBlk.new (w:World):MBlk (w.alloc (.map #[] 0)) w.heap.size []:=by
 unfold MBlk;exact(heap_alloc w _).1
theorem MBlk.lt {w:World} {b:Nat} {es:List (List Value × Value)} (hb:MBlk w b es):b<w.heap.size:=(Array.getElem?_eq_some_iff.1 hb).1
theorem MBlk.set {w:World} {b:Nat} {es:List (List Value × Value)} (hb:MBlk w b es) (es':List (List Value × Value)):MBlk (setM w b es') b es':=(heap_set hb).1
theorem MBlk.alloc {w:World} {b:Nat} {es:List (List Value × Value)} (hb:MBlk w b es) (o:Obj):MBlk (w.alloc o) b es:=((heap_alloc w o).2 b hb.lt).trans hb
theorem MBlk.drewN {w:World} {b:Nat} {es:List (List Value × Value)} (hb:MBlk w b es) (d:Nat):MBlk (w.drewN d) b es:=hb
theorem MBlk.below {w w':World} {b B:Nat} {es:List (List Value × Value)} (hb:MBlk w b es) (h:Below B w w') (hB:b<B):MBlk w' b es:=(h.block b hB).trans hb
theorem Lf (w:World) (b:Nat) (es:List (List Value × Value)):(setM w b es).heap.size=w.heap.size:=by simp[setM]
theorem Ld {B:Nat} {w:World} {b:Nat} {es:List (List Value × Value)} (hB:B<=b):Below B w (setM w b es):=
 ⟨rfl,rfl,rfl,by simp[setM],fun k hk=>by simp[setM,show b≠k by omega]⟩
theorem Lg (w:World) (b:Nat) (es es':List (List Value × Value)):setM (setM w b es) b es'=setM w b es':=by unfold setM;simp
@[go_sem] theorem Kg (t:TypeId) (w:World):(Instr.makeMap t none).run P w= .ok (.map (some w.heap.size)) (w.alloc (.map #[] 0)):=by
 simp[Instr.makeMap,Result.andThen]
theorem jjnd {w:World} {b o k:Nat} {cs:List Value} (hk:0<k) (hlen:cs.length=k) (h:∀j u,cs[j]? =some u->w.cell? ⟨b,o+j,none⟩=some u):grab w b o k=some cs:=by
 obtain⟨c,t,fr,hb⟩:∃c t fr,w.heap[b]? =some (.cells c t fr):=by
  have h0:=h 0 _ (List.getElem?_eq_getElem (by omega));unfold World.cell? at h0;split at h0
  . exact⟨_,_,_,by assumption⟩
  . cases h0
 have hc:∀j u,cs[j]? =some u->c[o+j]? =some u:=by
  intro j u hu;have:=h j u hu
  rwa[cell_of_row w b (o+j) c t fr hb] at this
 have hle:o+k<=c.size:=by
  have:=hc (k-1) _ (List.getElem?_eq_getElem (by omega));have:=(Array.getElem?_eq_some_iff.1 this).1;omega
 unfold grab;rw[hb];simp only[if_pos hle,Option.some.injEq];apply List.ext_getElem?;intro j;by_cases hj:j<k
 . rw[ES hj,List.getElem?_eq_getElem (show j<cs.length by omega)]
   have:=hc j _ (List.getElem?_eq_getElem (show j<cs.length by omega));simpa using this
 . rw[List.getElem?_eq_none (by rw[CO (by simpa using hle)];omega),List.getElem?_eq_none (by omega)]
theorem Sl.elem {α:Type} {w:World} {B sz n:Nat} {A:Option Addr} {enc:α->List Value} {l:List α} (hE:∀a,(enc a).length=sz) (hz:0<sz) (h:Sl w B sz A n (l.flatMap enc)) {k:Nat} (hk:k<n):
 ∃b o x,A=some ⟨b,o,none⟩/\b<B/\l[k]? =some x/\grab w b (o+k*sz) sz=some (enc x):=by
 have hlen:∀l:List α,(l.flatMap enc).length=l.length*sz:=by
  intro l
  induction l with
  |nil=>simp
  |cons a r ih=>simp[List.flatMap_cons,ih,hE,Nat.succ_mul];omega
 have hn:l.length=n:=by
  have h1:=h.len;rw[hlen] at h1;exact Nat.eq_of_mul_eq_mul_right hz h1
 obtain⟨b,o,e,hb,hc⟩:=h.at_ (by omega)
 have hg:∀(l:List α) (k:Nat) (x:α),l[k]? =some x->∀j,j<sz->(l.flatMap enc)[k*sz+j]? =(enc x)[j]?:=by
  intro l
  induction l with
  |nil=>intro k x hx;simp at hx
  | cons a r ih=>
   intro k x hx j hj
   cases k with
   |zero=>
    simp at hx;subst hx;rw[List.flatMap_cons,Nat.zero_mul,Nat.zero_add,List.getElem?_append_left (by rw[hE];exact hj)]
   |succ k=>
    rw[List.flatMap_cons,List.getElem?_append_right (by rw[hE,Nat.succ_mul];omega),hE,show (k+1)*sz+j-sz=k*sz+j by rw[Nat.succ_mul];omega];exact ih k x (by simpa using hx) j hj
 refine⟨b,o,l[k],e,hb,List.getElem?_eq_getElem (by omega),jjnd hz (hE _) fun j u hu=>?_⟩;have hj:j<sz:=by rw[<- hE l[k]];exact(List.getElem?_eq_some_iff.1 hu).1
 rw[Nat.add_assoc];exact hc _ _ ((hg l k _ (List.getElem?_eq_getElem (by omega)) j hj).trans hu)
theorem Blk.setM {w:World} {b b':Nat} {t:TypeId} {c:List Value} (h:Blk w b t c) (hne:b'≠b) (es:List (List Value × Value)):Blk (setM w b' es) b t c:=by
 unfold Blk at h ⊢;unfold Go.Proofs.YtljeokninakliaaGreatDoor.setM;simp[hne,h]
end
end Go.Proofs.YtljeokninakliaaGreatDoor
end
