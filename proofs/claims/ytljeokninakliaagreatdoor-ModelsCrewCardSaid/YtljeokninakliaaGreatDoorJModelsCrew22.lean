/- Parts of a proof. -/
import Derived.Test.YtljeokninakliaaGreatDoorJModelsCrew21
import Derived.Laws.IdiomRangeMap
set_option linter.unusedSimpArgs false
set_option linter.unusedVariables false
section
namespace Go.Proofs.YtljeokninakliaaGreatDoor
open Go.RowKit Go.MapKept
abbrev KM:=List (List Value × Nat)
def KM.enc (m:KM):List (List Value × Value):=m.map fun p=>(p.1,.int .i64 (p.2:Int))
open Classical in
noncomputable def KM.find (p:List Value):KM->Nat->Option (Nat × Nat)
 | [],_=>none
 |(q,c)::r,i=>if p=q then some (i,c) else KM.find p r (i+1)
noncomputable def KM.cnt (m:KM) (p:List Value):Nat:=((m.find p 0).map (·.2)).getD 0
noncomputable def KM.inc (m:KM) (p:List Value):KM:=match m.find p 0 with
 |some (i,c)=>m.set i (p,c+1)
 |none=>m++[(p,1)]
theorem Lm (p:List Value):∀(m:KM) (i:Nat),Yl p m.enc i=(KM.find p m i).map fun z=>(z.1,.int .i64 (z.2:Int))
 | [],_=>rfl
 | (q,c)::r,i=>by
  show Yl p ((q,_)::KM.enc r) i=_;unfold Yl KM.find;by_cases h:p=q
  . subst h;simp
  . rw[if_neg h,if_neg h]
    exact Lm p r (i+1)
theorem Nw {p:List Value}:∀{m:KM} {i0 i c:Nat},KM.find p m i0=some (i,c)->i0<=i/\m[i-i0]? =some (p,c)
 | [],_,_,_,h=>by simp[KM.find] at h
 | (q,c')::r,i0,i,c,h=>by
  unfold KM.find at h;split at h
  . rename_i hx;cases h;subst hx;simp
  . obtain⟨h1,h2⟩:=Nw h
    refine⟨by omega,?_⟩;rw[show i-i0=(i-(i0+1))+1 by omega];simpa using h2
theorem CL {p:List Value}:∀{m:KM} {i0:Nat},KM.find p m i0=none->p∉m.map (·.1)
 | [],_,_=>by simp
 | (q,c')::r,i0,h=>by
  unfold KM.find at h;split at h
  . cases h
  . rename_i hx
    have:=CL h;simp only[List.map_cons,List.mem_cons,not_or];exact⟨hx,this⟩
theorem DO {p:List Value} {c:Nat}:∀{m:KM} {i0:Nat},(m.map (·.1)).Nodup->(p,c)∈m->∃i,KM.find p m i0=some (i,c)
 | [],_,_,h=>by simp at h
 | (q,c')::r,i0,hn,h=>by
  have hn':q∉r.map (·.1)/\(r.map (·.1)).Nodup:=List.nodup_cons.1 hn;unfold KM.find;rcases List.mem_cons.1 h with e|h1
  . cases e;exact⟨i0,by rw[if_pos rfl]⟩
  . have hne:p≠q:=fun e=>hn'.1 (e ▸ List.mem_map.2 ⟨_,h1,rfl⟩)
    obtain⟨i,hi⟩:=DO (i0:=i0+1) hn'.2 h1;exact⟨i,by rw[if_neg hne];exact hi⟩
theorem KM.cnt_of {m:KM} (hn:(m.map (·.1)).Nodup) {p:List Value} {c:Nat} (h:(p,c)∈m):m.cnt p=c:=by
 obtain⟨i,hi⟩:=DO (i0:=0) hn h;simp[KM.cnt,hi]
theorem KM.cnt_not {m:KM} {p:List Value} (h:p∉m.map (·.1)):m.cnt p=0:=by
 unfold KM.cnt
 cases hf:KM.find p m 0 with
 |none=>rfl
 |some z=>exact absurd (List.mem_map.2 ⟨_,List.mem_of_getElem? (Nw hf).2,rfl⟩) h
open Classical in
theorem KM.keys_inc (m:KM) (p:List Value):(m.inc p).map (·.1)=if p∈m.map (·.1) then m.map (·.1) else m.map (·.1)++[p]:=by
 unfold KM.inc
 cases hf:KM.find p m 0 with
 |none=>rw[if_neg (CL hf)];simp
 |some z=>
  obtain⟨i,c⟩:=z;have h:=(Nw hf).2;rw[Nat.sub_zero] at h;rw[if_pos (List.mem_map.2 ⟨_,List.mem_of_getElem? h,rfl⟩)];simp only[List.map_set];apply List.ext_getElem?;intro j;rw[List.getElem?_set];split
  . rename_i e;subst e
    have hlt:=(List.getElem?_eq_some_iff.1 h).1;simp[hlt,h];have:=(List.getElem?_eq_some_iff.1 h).2;simp[this]
  . rfl
theorem KM.nodup_inc {m:KM} (hn:(m.map (·.1)).Nodup) (p:List Value):((m.inc p).map (·.1)).Nodup:=by
 rw[KM.keys_inc];split
 . exact hn
 . rename_i h
   rw[List.nodup_append];exact⟨hn,by simp,fun a ha b hb e=>h (by simp only[List.mem_singleton] at hb;rw[<- hb,<- e];exact ha)⟩
theorem Df {p q:List Value} {c':Nat}:∀{m:KM} {i0 i c:Nat},KM.find p m i0=some (i,c)->KM.find q (m.set (i-i0) (p,c')) i0=(open Classical in if q=p then some (i,c') else KM.find q m i0)
 | [],_,_,_,h=>by simp[KM.find] at h
 | (r,d)::m,i0,i,c,h=>by
  unfold KM.find at h;split at h
  . rename_i hx;cases h;subst hx
    simp only[Nat.sub_self,List.set_cons_zero,KM.find];split<;>rfl
  . rename_i hx
    have h1:=(Nw h).1;rw[show i-i0=(i-(i0+1))+1 by omega,List.set_cons_succ];simp only[KM.find,Df (q:=q) h];by_cases hq:q=p
    . subst hq;simp[hx]
    . simp[hq]
theorem Hz {p q:List Value} {c':Nat}:∀{m:KM} {i0:Nat},KM.find p m i0=none->KM.find q (m++[(p,c')]) i0=(open Classical in if q=p then some (i0+m.length,c') else KM.find q m i0)
 | [],_,_=>by simp[KM.find]
 | (r,d)::m,i0,h=>by
  unfold KM.find at h;split at h
  . cases h
  . rename_i hx
    simp only[List.cons_append,KM.find,Hz (q:=q) h,List.length_cons];by_cases hq:q=p
    . subst hq;simp[hx];omega
    . simp[hq]
open Classical in
theorem KM.cnt_inc (m:KM) (p q:List Value):(m.inc p).cnt q=if q=p then m.cnt p+1 else m.cnt q:=by
 unfold KM.inc
 cases hf:KM.find p m 0 with
 |none=>
  simp only[KM.cnt,Hz hf,hf];split<;>simp
 |some z=>
  obtain⟨i,c⟩:=z;have:=Df (q:=q) (c':=c+1) hf;rw[Nat.sub_zero] at this;simp only[KM.cnt,this,hf];split<;>simp
theorem KM.mem_inc {m:KM} {p q:List Value} (h:q∈(m.inc p).map (·.1)):q=p\/q∈m.map (·.1):=by
 rw[KM.keys_inc] at h;split at h
 . exact .inr h
 . rcases List.mem_append.1 h with h|h
   . exact .inr h
   . exact .inl (by simpa using h)
section
variable {P:Program} {T k e:TypeId} {ks:List (Option IntKind)} {n m':Nat}
theorem KM.bump (M:MapT P T k e (.int .i64 0) ks n m') (m:KM) (hm:∀q∈m.map (·.1),ZK ks q) (p:List Value) (hp:Flat ks p) (b:Nat):∃(es1:List (List Value × Value)) (idx:Nat),
 (∀y:World,MBlk y b m.enc->(Instr.mapEntry T (.map (some b)) (.agg p.toArray)).run P y= .ok (.tuple #[.int .i64 (m.cnt p:Int),.int .i64 idx]) (setM y b es1))/\
 (∀y:World,MBlk y b es1->(Instr.entryStore T (.map (some b)) (.int .i64 idx) (.int .i64 ((m.cnt p:Int)+1))).run P y= .ok () (setM y b (m.inc p).enc))/\
 (∀y:World,MBlk y b m.enc->MBlk (setM y b es1) b es1)/\
 (∀y:World,MBlk y b m.enc->(Instr.lookup T (.map (some b)) (.agg p.toArray) false).run P y= .ok (.int .i64 (m.cnt p:Int)) y)/\
 (∀y:World,MBlk y b es1->(Instr.lookup T (.map (some b)) (.agg p.toArray) false).run P y= .ok (.int .i64 (m.cnt p:Int)) y):=by
 have hfl:∀q∈m.enc,ZK ks q.1:=by
  intro q hq;obtain⟨z,hz,rfl⟩:=List.mem_map.1 hq;exact hm _ (List.mem_map.2 ⟨z,hz,rfl⟩)
 have hlk:∀(m:KM),(∀q∈m.enc,ZK ks q.1)->∀(y:World),MBlk y b m.enc->(Instr.lookup T (.map (some b)) (.agg p.toArray) false).run P y= .ok (.int .i64 (m.cnt p:Int)) y:=by
  intro m hm y hy;rw[M.lookup hy hm hp,Lm];unfold KM.cnt;cases KM.find p m 0<;>simp
 cases hf:KM.find p m 0 with
 |none=>
  have hc:m.cnt p=0:=by simp[KM.cnt,hf]
  have hfc:Yl p m.enc 0=none:=by rw[Lm,hf];rfl
  have he:m.enc++[(p,.int .i64 0)]=KM.enc (m++[(p,0)]):=by simp[KM.enc]
  have hl:m.enc.length=m.length:=by simp[KM.enc]
  refine⟨KM.enc (m++[(p,0)]),m.length,fun y hy=>?_,fun y hy=>?_,fun y hy=>hy.set _,hlk m hfl,fun y hy=>?_⟩
  . rw[M.entry_new hy hfl hp hfc,he,hl,hc];rfl
  . rw[KV hy (xs:=p) (v:=.int .i64 0) (by simp[KM.enc]),hc]
    congr 2;simp[KM.inc,hf,KM.enc]
  . have hfl2:∀q∈KM.enc (m++[(p,0)]),ZK ks q.1:=by
     intro q hq;rw[<- he] at hq;rcases List.mem_append.1 hq with hq|hq
     . exact hfl q hq
     . rw[List.mem_singleton.1 hq];exact hp.shape
    rw[hlk _ hfl2 y hy];congr 3;simp[KM.cnt,Hz hf,hf]
 |some z=>
  obtain⟨i,c⟩:=z;have hc:m.cnt p=c:=by simp[KM.cnt,hf]
  have hfc:Yl p m.enc 0=some (i,.int .i64 (c:Int)):=by rw[Lm,hf];rfl
  have hat:=(Nw hf).2;rw[Nat.sub_zero] at hat;refine⟨m.enc,i,fun y hy=>?_,fun y hy=>?_,fun y hy=>hy.set _,hlk m hfl,hlk m hfl⟩
  . rw[M.entry_at hy hfl hp hfc,hc]
    congr 1;exact(HG hy).symm
  . rw[KV hy (xs:=p) (v:=.int .i64 (c:Int)) (by simp[KM.enc,hat]),hc]
    congr 2;simp[KM.inc,hf,KM.enc,List.map_set]
end
def IBlk (w:World) (b bm:Nat) (since:Nat) (seen:Array Nat) (c0:Nat):Prop:=w.heap[b]? =some (.mapIter (some bm) since seen c0)
def setI (w:World) (b bm:Nat) (since:Nat) (seen:Array Nat) (c0:Nat):World:={w with heap:=w.heap.setIfInBounds b (.mapIter (some bm) since seen c0)}
theorem E5 (es:List (List Value × Value)):∀x∈(ZF 0 es).toArray.toList,∃i,i<es.length/\x.born=i/\∃p,es[i]? =some p/\x.key= .agg p.1.toArray/\x.val=p.2:=by
 intro x hx;simp only[List.toList_toArray] at hx;obtain⟨i,hi,rfl⟩:=List.mem_iff_getElem.1 hx;have e1:=S5 es 0 i;rw[List.getElem?_eq_getElem hi] at e1;rw[KQ] at hi;rw[List.getElem?_eq_getElem hi] at e1;simp only[Option.map_some,Option.some.injEq] at e1;rw[e1];exact⟨i,hi,by simp,_,List.getElem?_eq_getElem hi,rfl,rfl⟩
theorem jjc6 {P:Program} (w:World) (ty:TypeId) (bi bm:Nat) (since c0:Nat) (seen:Array Nat) (es:Array MapEntry) (clock:Nat) (hi:IBlk w bi bm since seen c0) (hb:w.heap[bm]? =some (.map es clock)) (hold:∀x∈es.toList,x.born<since) (hsc:since<=c0):
 ((leftOf es seen).size=0/\(Instr.next (.pointer (some ⟨bi,0,none⟩)) false ty).run P w= .ok (.tuple #[.bool false]) w)\/
 ∃e∈(leftOf es seen).toList,∃w1:World,(w1=w\/w1=w.drew)/\(Instr.next (.pointer (some ⟨bi,0,none⟩)) false ty).run P w= .ok (.tuple #[.bool true,e.key,e.val]) (setI w1 bi bm since (seen.push e.born) clock):=by
 unfold IBlk at hi;simp only[Instr.next,getObj,Sem.run_bind,Sem.run,hi,hb,Result.andThen,next_test_false seen es since c0 hold hsc,Bool.false_eq_true,if_false];unfold leftOf;have hmem:∀x∈(Array.filter (fun e=>!seen.contains e.born) es).toList,x.born<since:=fun x hx=>hold x (by simp at hx ⊢;exact hx.1)
 generalize Array.filter (fun e=>!seen.contains e.born) es=L at hmem ⊢;have e1:L.filter (fun x=>decide (x.born<since))=L:=Array.filter_eq_self.2 (fun x hx=>by simpa using hmem x (by simpa using hx))
 have e2:L.filter (fun x=>decide (x.born≥since))= #[]:=by
  rw[Array.filter_eq_empty_iff];intro x hx;have:=hmem x (by simpa using hx);simp;omega
 simp only[e1,e2,Array.append_empty];by_cases h0:L.size=0
 . left
   have:L= #[]:=Array.eq_empty_of_size_eq_zero h0;subst this;refine⟨rfl,?_⟩;simp[choose,Sem.run,Question.forced]
 . right
   have hne:L.isEmpty=false:=by simp[Array.isEmpty,h0]
   simp only[hne,Bool.false_eq_true,if_false,Array.empty_append,Array.size_map]
   have hch:∃(j:Nat) (w1:World),j<L.size/\(w1=w\/w1=w.drew)/\(choose (Question.mapNext L.size)).run P w= .ok j w1:=by
    by_cases hf:L.size<=1
    . exact⟨0,w,by omega,.inl rfl,by simp[choose,Sem.run,Question.forced,hf]⟩
    . exact⟨_,w.drew,Nat.mod_lt _ (by omega),.inr rfl,by
       simp only[choose,Sem.run,Question.forced,decide_eq_true_eq,hf,if_false,Question.cut]
       rfl⟩
   obtain⟨j,w1,hj,hal,hrun⟩:=hch;refine⟨L[j],by simp,w1,hal,?_⟩;have hi1:w1.heap[bi]? =some (.mapIter (some bm) since seen c0):=by rcases hal with rfl|rfl<;>exact hi
   have hset:∀(o':Obj),(setObj bi o').run P w1= .ok () {w1 with heap:=w1.heap.setIfInBounds bi o'}:=fun o'=>by
    simp only[setObj,Sem.run];rw[hi1]
   simp only[hrun,Array.getElem?_map,Array.getElem?_eq_getElem hj,Option.map_some,Sem.run_bind,hset,Result.andThen];rfl
theorem Eu {P:Program} (w:World) (ty ty':TypeId) (bi bm:Nat) (since c0:Nat) (seen:Array Nat) (es:Array MapEntry) (clock:Nat) (hi:IBlk w bi bm since seen c0) (hb:w.heap[bm]? =some (.map es clock)):(Instr.next (.pointer (some ⟨bi,0,none⟩)) false ty).run P w=(Instr.next (.pointer (some ⟨bi,0,none⟩)) false ty').run P w:=by
 unfold IBlk at hi;simp only[Instr.next,getObj,Sem.run_bind,Sem.run,hi,hb,Result.andThen]
theorem jj9l {P:Program} (w:World) (bi bm:Nat) (since c0:Nat) (seen:Array Nat) (es:Array MapEntry) (clock:Nat) (hi:IBlk w bi bm since seen c0) (hb:w.heap[bm]? =some (.map es clock)) (hold:∀x∈es.toList,x.born<since) (hsc:since<=c0):
 ((leftOf es seen).size=0/\∀ty,(Instr.next (.pointer (some ⟨bi,0,none⟩)) false ty).run P w= .ok (.tuple #[.bool false]) w)\/
 ∃e∈(leftOf es seen).toList,∃w1:World,(w1=w\/w1=w.drew)/\∀ty,(Instr.next (.pointer (some ⟨bi,0,none⟩)) false ty).run P w= .ok (.tuple #[.bool true,e.key,e.val]) (setI w1 bi bm since (seen.push e.born) clock):=by
 rcases jjc6 (P:=P) w 0 bi bm since c0 seen es clock hi hb hold hsc with⟨h1,h2⟩|⟨e,he,w1,h1,h2⟩
 . exact .inl ⟨h1,fun ty=>(Eu w ty 0 bi bm since c0 seen es clock hi hb).trans h2⟩
 . exact .inr ⟨e,he,w1,h1,fun ty=>(Eu w ty 0 bi bm since c0 seen es clock hi hb).trans h2⟩
theorem jj9o {P:Program} (w:World) (bi bm since:Nat) (seen:Array Nat) (es:Array MapEntry) (clock:Nat) (e:MapEntry) (hi:IBlk w bi bm since (seen.push e.born) clock) (hb:w.heap[bm]? =some (.map es clock)) (he:e∈es.toList) (hn:(es.toList.map (·.born)).Nodup):
 (Instr.entry (.pointer (some ⟨bi,0,none⟩))).run P w= .ok (.tuple #[e.key,e.val]) w:=by
 unfold IBlk at hi;have hf:es.find? (·.born==e.born)=some e:=by rw[<- Array.find?_toList];exact Go.find_born e es.toList hn he
 simp only[Instr.entry,getObj,Sem.run_bind,Sem.run,hi,hb,Result.andThen,Array.back?_push,bne_self_eq_false,Bool.false_eq_true,if_false,hf];rfl
theorem jjf4 (es:List (List Value × Value)):((ZF 0 es).toArray.toList.map (·.born)).Nodup:=by
 have h:(ZF 0 es).map (·.born)=List.range es.length:=by
  apply List.ext_getElem?;intro i;rw[List.getElem?_map,S5];by_cases hi:i<es.length
  . rw[List.getElem?_eq_getElem hi,List.getElem?_range hi];simp
  . rw[List.getElem?_eq_none (by omega),List.getElem?_eq_none (by simp;omega)];rfl
 simp only[List.toList_toArray];rw[h];exact List.nodup_range
theorem IBlk.lt {w:World} {b bm since c0:Nat} {seen:Array Nat} (h:IBlk w b bm since seen c0):b<w.heap.size:=(Array.getElem?_eq_some_iff.1 h).1
theorem IBlk.alloc {w:World} {b bm since c0:Nat} {seen:Array Nat} (h:IBlk w b bm since seen c0) (o:Obj):IBlk (w.alloc o) b bm since seen c0:=((heap_alloc w o).2 b h.lt).trans h
theorem IBlk.below {w w':World} {b bm since c0 B:Nat} {seen:Array Nat} (h:IBlk w b bm since seen c0) (hb:Below B w w') (hB:b<B):IBlk w' b bm since seen c0:=(hb.block b hB).trans h
theorem IBlk.new (w:World) (bm since c0:Nat) (seen:Array Nat):IBlk (w.alloc (.mapIter (some bm) since seen c0)) w.heap.size bm since seen c0:=(heap_alloc w _).1
theorem IBlk.set {w:World} {b bm since c0:Nat} {seen:Array Nat} (h:IBlk w b bm since seen c0) (seen':Array Nat) (c1:Nat):IBlk (setI w b bm since seen' c1) b bm since seen' c1:=(heap_set h).1
theorem IBlk.setB {w:World} {b bm since c0 b':Nat} {seen:Array Nat} (h:IBlk w b bm since seen c0) (hne:b'≠b) (t:TypeId) (c:List Value):IBlk (setB w b' t c) b bm since seen c0:=by
 unfold IBlk at h ⊢;simp[Go.Proofs.YtljeokninakliaaGreatDoor.setB,hne,h]
theorem jjft (w:World) (b bm since:Nat) (seen:Array Nat) (c0:Nat):(setI w b bm since seen c0).heap.size=w.heap.size:=by simp[setI]
theorem jjf7 {B:Nat} {w:World} {b:Nat} (bm since:Nat) (seen:Array Nat) (c0:Nat) (hB:B<=b):Below B w (setI w b bm since seen c0):=
 ⟨rfl,rfl,rfl,by simp[setI],fun k hk=>by simp[setI,show b≠k by omega]⟩
theorem Blk.setI {w:World} {b b':Nat} {t:TypeId} {c:List Value} (h:Blk w b t c) (hne:b'≠b) (bm since:Nat) (seen:Array Nat) (c0:Nat):Blk (setI w b' bm since seen c0) b t c:=by
 unfold Blk at h ⊢;unfold Go.Proofs.YtljeokninakliaaGreatDoor.setI;simp[hne,h]
theorem MBlk.setI {w:World} {b b':Nat} {es:List (List Value × Value)} (h:MBlk w b es) (hne:b'≠b) (bm since:Nat) (seen:Array Nat) (c0:Nat):MBlk (setI w b' bm since seen c0) b es:=by
 unfold MBlk at h ⊢;unfold Go.Proofs.YtljeokninakliaaGreatDoor.setI;simp[hne,h]
theorem Dd {w:World} {b b':Nat} {t:TypeId} {es:List (List Value × Value)} (h:MBlk w b es) (hne:b'≠b) (c:List Value):MBlk (setB w b' t c) b es:=by
 unfold MBlk at h ⊢;simp[setB,hne,h]
theorem IBlk.seen {w:World} {b bm since c0:Nat} {seen:Array Nat} (h:IBlk w b bm since seen c0):w.iterSeen b=seen:=by
 unfold IBlk at h;unfold World.iterSeen;rw[h]
end Go.Proofs.YtljeokninakliaaGreatDoor
end
