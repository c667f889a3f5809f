/- Parts of a proof. -/
import Derived.Test.YtljeokninakliaaGreatDoorJModelsCrew9
import Derived.Test.YtljeokninakliaaGreatDoorJModelsCrew22
set_option linter.unusedSimpArgs false
set_option linter.unusedVariables false
section
namespace Go.Proofs.YtljeokninakliaaGreatDoor
open Go.RowKit
section
variable {α:Type} {first:α} {cn:α->Nat}
def Best (first:α) (cn:α->Nat) (vis:α->Prop) (b:α) (m:Nat):Prop:=
 ((∀v,¬vis v)/\b=first/\m=0)\/(vis b/\m=cn b/\∀v,vis v->cn v<=m)
def TS (cn:α->Nat) (v:α) (s:α × Nat):α × Nat:=if s.2<cn v then (v,cn v) else s
theorem Best.zero {vis:α->Prop} (h:∀v,¬vis v):Best first cn vis first 0:=.inl ⟨h,rfl,rfl⟩
theorem Best.congr {vis vis':α->Prop} {b:α} {m:Nat} (h:Best first cn vis b m) (e:∀v,vis v↔vis' v):Best first cn vis' b m:=by
 have:vis=vis':=funext fun v=>propext (e v)
 rwa[<- this]
theorem Best.step {vis:α->Prop} {b:α} {m:Nat} (h:Best first cn vis b m) (v:α) (hv:0<cn v):Best first cn (fun x=>vis x\/x=v) (TS cn v (b,m)).1 (TS cn v (b,m)).2:=by
 unfold TS;by_cases hc:m<cn v
 . simp only[hc,if_true]
   refine .inr ⟨.inr rfl,rfl,fun x hx=>?_⟩;rcases hx with hx|rfl
   . rcases h with⟨h1,_,_⟩|⟨_,h2,h3⟩
     . exact absurd hx (h1 x)
     . have:=h3 x hx;omega
   . exact Nat.le_refl _
 . simp only[hc,if_false]
   rcases h with⟨_,_,h0⟩|⟨h1,h2,h3⟩
   . omega
   . refine .inr ⟨.inl h1,h2,fun x hx=>?_⟩
     rcases hx with hx|rfl
     . exact h3 x hx
     . omega
theorem Best.uniq {vis:α->Prop} {b b':α} {m m':Nat} (tot:∀a c,vis a->vis c->cn a=cn c->a=c) (h:Best first cn vis b m) (h':Best first cn vis b' m'):b=b':=by
 rcases h with⟨h1,h2,_⟩|⟨h1,h2,h3⟩
 . rcases h' with⟨_,g2,_⟩|⟨g1,_,_⟩
   . rw[h2,g2]
   . exact absurd g1 (h1 _)
 . rcases h' with⟨g1,_,_⟩|⟨g1,g2,g3⟩
   . exact absurd h1 (g1 _)
   . have a1:=h3 b' g1
     have a2:=g3 b h1;exact tot b b' h1 g1 (by omega)
def Yj (eq:α->α->Bool) (l:List α) (x:α):Nat:=(l.filter fun y=>eq y x).length
theorem E2 {eq:α->α->Bool} (hr:∀x,eq x x=true) {l:List α} {x:α} (h:x∈l):0<Yj eq l x:=List.length_pos_of_mem (List.mem_filter.2 ⟨h,hr x⟩)
theorem CP:∀(l:List α),(∀v∈l,0<cn v)->∀(vis:α->Prop) (s:α × Nat),Best first cn vis s.1 s.2->Best first cn (fun x=>vis x\/x∈l) (l.foldl (fun s v=>TS cn v s) s).1 (l.foldl (fun s v=>TS cn v s) s).2
 | [],_,vis,s,h=>h.congr fun v=>by simp
 |v::l,hp,vis,s,h=>(CP l (fun u hu=>hp u (by simp[hu])) _ _ (h.step v (hp v (by simp)))).congr fun x=>by simp[or_assoc]
def Ui (eq:α->α->Bool) (first:α) (l:List α):α:=(l.foldl (fun s v=>TS (Yj eq l) v s) (first,0)).1
theorem HB {eq:α->α->Bool} (hr:∀x,eq x x=true) (l:List α):∃m,Best first (Yj eq l) (fun x=>x∈l) (Ui eq first l) m:=
 ⟨_,(CP (first:=first) (cn:=Yj eq l) l (fun v hv=>E2 hr hv) (fun _=>False) (first,0) (Best.zero fun _=>id)).congr fun v=>by simp⟩
theorem jjky {eq:α->α->Bool} (hr:∀x,eq x x=true) {l:List α} (tot:∀a c,a∈l->c∈l->Yj eq l a=Yj eq l c->a=c) {b:α} {m:Nat} (h:Best first (Yj eq l) (fun x=>x∈l) b m):b=Ui eq first l:=
 let⟨_,g⟩:=HB hr l
 h.uniq tot g
theorem jjgv {eq:α->α->Bool} (hr:∀x,eq x x=true) (l:List α):Ui eq first l=first\/Ui eq first l∈l:=by
 obtain⟨m,h⟩:=HB (first:=first) hr l;rcases h with⟨_,h,_⟩|⟨h,_,_⟩
 . exact .inl h
 . exact .inr h
theorem jjfa {eq:α->α->Bool} (hr:∀x,eq x x=true) {l:List α} {v:α} (h:∀x∈l,x≠v->Yj eq l x<Yj eq l v) (hv:v∈l):Ui eq first l=v:=by
 obtain⟨m,hb⟩:=HB (first:=first) hr l;rcases hb with⟨h1,_,_⟩|⟨h1,h2,h3⟩
 . exact absurd hv (h1 v)
 . refine Classical.byContradiction fun e=>?_
   have:=h _ h1 e;have:=h3 v hv;omega
end
def Ww (x:List AC):Prop:=∃v:Vw,x=ZX v
theorem jjgh (a b:Vw):Vh Ud (ZX a) (ZX b)=true->ZX a=ZX b:=by
 simp only[Ud,ZX,Vw.cells,List.map_cons,List.map_nil,Vh,Zz,ZP,Bool.and_eq_true,beq_iff_eq,and_true];intro h;simp only[h]
def WK (a b:List AC):Bool:=Vh Ud a b
theorem Sd (x:List AC):WK x x=true:=by
 have h:∀(ks:List (Option IntKind)) (xs:List AC),Vh ks xs xs=true:=by
  intro ks
  induction ks with
  |nil=>intro xs;simp[Vh]
  |cons k ks ih=>
   intro xs
   cases xs with
   |nil=>cases k<;>simp[Vh]
   |cons x xs=>cases k<;>simp[Vh,ih]
 exact h _ _
theorem Qy {x y:List AC} (hx:Ww x) (hy:Ww y):WK x y=true↔x=y:=by
 obtain⟨a,rfl⟩:=hx;obtain⟨b,rfl⟩:=hy;exact⟨jjgh a b,fun h=>by rw[h];exact Sd _⟩
def PC (l:List AC):List AC:=(l.drop 14).take 42
def Yf (may:List AC->Bool) (fst:List AC) (l:List AC):Option (List AC):=match Zz (l.getD 0 ZV) with
 |true=>some (match may (PC l) with|true=>PC l|false=>fst)
 |false=>none
def Zx (may:List AC->Bool) (fst:List AC) (n:Nat) (f:Nat->List AC):List (List AC):=(List.range n).filterMap fun k=>Yf may fst (f k)
def Uh (may:List AC->Bool) (fst:List AC) (n:Nat) (f:Nat->List AC):List AC:=Ui WK fst (Zx may fst n f)
def V5 (vs:List (List AC)):Bool:=decide (∀x∈vs,∀y∈vs,Yj WK vs x=Yj WK vs y->WK x y=true)
theorem Hn (may:List AC->Bool) (fst:List AC) (n:Nat) (f:Nat->List AC):Zx may fst (n+1) f=Zx may fst n f++(Yf may fst (f n)).toList:=by
 unfold Zx;rw[List.range_succ,List.filterMap_append];congr 1
 try (cases h:Yf may fst (f n)<;>simp[h])
theorem jjk4 {may:List AC->Bool} {fst l x:List AC} (hf:Ww fst) (hl:Ww (PC l)) (h:Yf may fst l=some x):Ww x:=by
 unfold Yf at h;split at h
 . cases h
   split
   . exact hl
   . exact hf
 . cases h
theorem jjfo {may:List AC->Bool} {fst:List AC} {n:Nat} {f:Nat->List AC} (hf:Ww fst) (hl:∀k,k<n->Ww (PC (f k))):∀x∈Zx may fst n f,Ww x:=by
 intro x hx;obtain⟨k,hk,e⟩:=List.mem_filterMap.1 hx;exact jjk4 hf (hl k (by simpa using hk)) e
theorem CT (may:List AC->Bool) (fst:List AC) (n:Nat) (f:Nat->List AC):(Zx may fst n f).length<=n:=by
 have:=List.length_filterMap_le (fun k=>Yf may fst (f k)) (List.range n);simpa[Zx] using this
theorem jjoa (l:List (List AC)) (x:List AC):Yj WK l x<=l.length:=List.length_filter_le _ _
theorem Np (l:List (List AC)) (y x:List AC):Yj WK (l++[y]) x=Yj WK l x+(match WK y x with|true=>1|false=>0):=by
 unfold Yj;rw[List.filter_append,List.length_append];congr 1;cases h:WK y x<;>simp[h]
structure KInv (m:KM) (vs:List (List AC)):Prop where
 nd:(m.map (·.1)).Nodup
 ok:∀q∈m.map (·.1),∃x:View,x.Ok/\q=x.cells
 mem:∀q,q∈m.map (·.1)↔q.map AC.v∈vs
 cnt:∀x:View,x.Ok->m.cnt x.cells=Yj WK vs (x.cells.map .v)
 val:∀v∈vs,∃y:List Value,v=y.map AC.v
theorem Hv (x:View):Ww (x.cells.map .v):=⟨T4 x,by show _=(T4 x).cells.map AC.v;rw[Qp]⟩
theorem Ll {a b:List Value} (h:a.map AC.v=b.map AC.v):a=b:=by
 induction a generalizing b with
 |nil=>cases b with|nil=>rfl|cons _ _=>cases h
 | cons x a ih=>cases b with
   |nil=>cases h
   |cons y b=>simp only[List.map_cons,List.cons.injEq,AC.v.injEq] at h;rw[h.1,ih h.2]
theorem KInv.nil:KInv [] []:=⟨List.nodup_nil,fun q h=>by simp at h,fun q=>by simp,fun x _=>by simp[KM.cnt,KM.find,Yj],fun v h=>by simp at h⟩
theorem KInv.inc {m:KM} {vs:List (List AC)} (h:KInv m vs) {x:View} (hx:x.Ok):KInv (m.inc x.cells) (vs++[x.cells.map .v]):=by
 refine⟨KM.nodup_inc h.nd _,fun q hq=>?_,fun q=>?_,fun y hy=>?_,fun v hv=>by
  rcases List.mem_append.1 hv with hv|hv
  . exact h.val v hv
  . exact⟨_,List.mem_singleton.1 hv⟩⟩
 . rcases KM.mem_inc hq with rfl|hq
   . exact⟨x,hx,rfl⟩
   . exact h.ok q hq
 . rw[KM.keys_inc]
   have h1:=h.mem q;have h2:=h.mem x.cells;simp only[List.mem_append,List.mem_singleton];split
   . rename_i hc
     constructor
     . intro hq;exact .inl (h1.1 hq)
     . rintro (hq|hq)
       . exact h1.2 hq
       . rw[Ll hq];exact hc
   . rw[List.mem_append,List.mem_singleton]
     constructor
     . rintro (hq|rfl)
       . exact .inl (h1.1 hq)
       . exact .inr rfl
     . rintro (hq|hq)
       . exact .inl (h1.2 hq)
       . exact .inr (Ll hq)
 . rw [KM.cnt_inc,Np,<- h.cnt y hy]
   by_cases e:y.cells=x.cells
   . rw[if_pos e,e,Sd]
   . rw[if_neg e]
     have:WK (x.cells.map .v) (y.cells.map .v)=false:=by
      cases hq:WK (x.cells.map .v) (y.cells.map .v) with
      |false=>rfl
      |true=>exact absurd (Ll ((Qy (Hv _) (Hv _)).1 hq)).symm e
     rw[this];rfl
theorem KInv.at_ {m:KM} {vs:List (List AC)} (h:KInv m vs) {i c:Nat} {q:List Value} (hi:m[i]? =some (q,c)):∃x:View,x.Ok/\q=x.cells/\c=Yj WK vs (q.map .v)/\q.map AC.v∈vs:=by
 have hm:=List.mem_of_getElem? hi;have hk:q∈m.map (·.1):=List.mem_map.2 ⟨_,hm,rfl⟩;obtain⟨x,hx,rfl⟩:=h.ok q hk;exact⟨x,hx,rfl,by rw[<- h.cnt x hx];exact(KM.cnt_of h.nd hm).symm,(h.mem _).1 hk⟩
def QS (m:KM) (seen:Array Nat) (x:List AC):Prop:=∃i q c,seen.contains i=true/\m[i]? =some (q,c)/\x=q.map AC.v
theorem jjfn (m:KM) (x:List AC):¬QS m #[] x:=by rintro⟨i,q,c,h,_⟩;simp at h
theorem jjfm (m:KM) (seen:Array Nat) (j:Nat) {q:List Value} {c:Nat} (hj:m[j]? =some (q,c)) (x:List AC):QS m (seen.push j) x↔QS m seen x\/x=q.map AC.v:=by
 constructor
 . rintro⟨i,q',c',h1,h2,h3⟩
   rw[contains_push,Bool.or_eq_true] at h1;rcases h1 with h1|h1
   . exact .inl ⟨i,q',c',h1,h2,h3⟩
   . obtain rfl:i=j:=by simpa using h1
     rw[hj] at h2;cases h2;exact .inr h3
 . rintro (⟨i,q',c',h1,h2,h3⟩|h)
   . exact⟨i,q',c',by rw[contains_push,h1];rfl,h2,h3⟩
   . exact⟨j,q,c,by rw[contains_push];simp,hj,h⟩
theorem jjiv {m:KM} {vs:List (List AC)} (h:KInv m vs) {seen:Array Nat} (hl:(leftOf (ZF 0 m.enc).toArray seen).size=0) (x:List AC):QS m seen x↔x∈vs:=by
 constructor
 . rintro⟨i,q,c,_,h2,rfl⟩
   exact(h.at_ h2).choose_spec.2.2.2
 . intro hx
   have hall:∀i,i<m.length->seen.contains i=true:=by
    intro i hi
    cases hc:seen.contains i with
    |true=>rfl
    | false=>
     exfalso;have e1:=S5 m.enc 0 i;have hlen:i<m.enc.length:=by simp[KM.enc,hi]
     rw[List.getElem?_eq_getElem hlen] at e1
     have hm:(⟨.agg m.enc[i].1.toArray,m.enc[i].2,0+i⟩:MapEntry)∈leftOf (ZF 0 m.enc).toArray seen:=by
      unfold leftOf;rw[Array.mem_filter];refine⟨?_,by show (!seen.contains (0+i))=true;rw[Nat.zero_add,hc];rfl⟩;rw[List.mem_toArray];exact List.mem_of_getElem? e1
     have:=Array.size_pos_of_mem hm;omega
   obtain⟨y,hy⟩:=h.val x hx;subst hy;obtain⟨z,hz,hzy⟩:=List.mem_map.1 ((h.mem y).2 hx);obtain⟨i,hi,rfl⟩:=List.mem_iff_getElem.1 hz;exact⟨i,_,_,hall i hi,List.getElem?_eq_getElem hi,by rw[<- hzy];rfl⟩
end Go.Proofs.YtljeokninakliaaGreatDoor
end
