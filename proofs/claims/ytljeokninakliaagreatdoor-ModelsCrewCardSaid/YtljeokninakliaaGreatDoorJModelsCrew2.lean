/- Parts, one behind the other. Parts of a proof. -/
import Derived.Test.YtljeokninakliaaGreatDoorJModelsCrew1
import Derived.DeepKeys
import Derived.Deep.Slices
set_option linter.unusedSimpArgs false
set_option linter.unusedVariables false
section
namespace Go.Proofs.YtljeokninakliaaGreatDoor
open Go.RowKit Go.WideShapes Go.ChangeShapes
def B9:Option IntKind->Value->Prop
 |none,v=>∃b,v= .bool b
 |some k,v=>∃n,v= .int k n/\(Lit.int k n).wf=true
def Flat (ks:List (Option IntKind)) (cs:List Value):Prop:=cs.length=ks.length/\∀(i:Nat) k,ks[i]? =some k->∃v,cs[i]? =some v/\B9 k v
def Z7 (P:Program) (g:TypeId->Option (List (Option IntKind))):List Field->Nat->Option (List (Option IntKind))
 | [],_=>some []
 | f::fs,off=>
  if f.offset=off then
   match g f.type with
   |some l=>if l.length=P.cellsOf f.type then (Z7 P g fs (off+l.length)).map (l++ ·) else none
   |none=>none
  else none
def Zp (P:Program):Nat->TypeId->Option (List (Option IntKind))
 |0,_=>none
 | n+1,t=>
  match P.underlying t with
  |some .bool=>some [none]
  |some (.int k)=>some [some k]
  |some (.struct fs)=>
   match Z7 P (Zp P n) fs.toList 0 with
   |some l=>if l.length=P.cellsOf t/\fs.all (·.name != "_")=true/\P.stoodInHeld t=false then some l else none
   |none=>none
  |some (.array m e)=>
   match Zp P n e with
   |some l=>if l.length=P.cellsOf e/\m*l.length=P.cellsOf t then some ((List.replicate m l).flatten) else none
   |none=>none
  |_=>none
theorem Flat.append {k1 k2:List (Option IntKind)} {c1 c2:List Value} (h1:Flat k1 c1) (h2:Flat k2 c2):Flat (k1++k2) (c1++c2):=by
 refine⟨by simp[h1.1,h2.1],fun i k hk=>?_⟩;by_cases hi:i<k1.length
 . rw[List.getElem?_append_left hi] at hk
   rw[List.getElem?_append_left (by rw[h1.1];exact hi)];exact h1.2 i k hk
 . rw[List.getElem?_append_right (by omega)] at hk
   rw[List.getElem?_append_right (by rw[h1.1];omega),h1.1];exact h2.2 _ k hk
theorem S6 (cs:List Value) (o a b:Nat):(cs.drop o).take (a+b)=(cs.drop o).take a++(cs.drop (o+a)).take b:=by
 rw[List.take_add,List.drop_drop]
theorem Cd {P:Program} {g:TypeId->Option (List (Option IntKind))} {cs:List Value} (G:∀t l off,g t=some l->l.length=P.cellsOf t->Prop)
 (hG:∀t l off h1 h2,G t l off h1 h2->Flat l ((cs.drop off).take (P.cellsOf t))):
 ∀(fs:List Field) (off:Nat) (ks:List (Option IntKind)),Z7 P g fs off=some ks->(∀f∈fs,∀l h1 h2,G f.type l f.offset h1 h2)->Flat ks ((cs.drop off).take ks.length)
 | [],off,ks,h,_=>by
  simp[Z7] at h;subst h;exact⟨by simp,fun i k hk=>by simp at hk⟩
 | f :: fs,off,ks,h,hf=>by
  unfold Z7 at h;split at h
  . rename_i ho
    split at h
    . rename_i l hl
      split at h
      . rename_i hlen
        simp only[Option.map_eq_some_iff] at h;obtain⟨r,hr,rfl⟩:=h;have h1:=hG f.type l f.offset hl hlen (hf f (by simp) l hl hlen);rw[ho,<- hlen] at h1;have h2:=Cd G hG fs (off+l.length) r hr (fun f' hf'=>hf f' (by simp[hf']));rw[List.length_append,S6];exact h1.append h2
      . cases h
    . cases h
  . cases h
theorem Ci {cs:List Value} {l:List (Option IntKind)}:∀(m off:Nat),(∀i,i<m->Flat l ((cs.drop (off+i*l.length)).take l.length))->Flat ((List.replicate m l).flatten) ((cs.drop off).take (m*l.length))
 |0,off,_=>⟨by simp,fun i k hk=>by simp at hk⟩
 |m+1,off,h=>by
  rw[List.replicate_succ,List.flatten_cons,Nat.succ_mul,Nat.add_comm (m*l.length),S6];have h0:=h 0 (by omega);simp only[Nat.zero_mul,Nat.add_zero] at h0;refine h0.append (Ci m (off+l.length) fun i hi=>?_);have:=h (i+1) (by omega)
  rwa[show off+(i+1)*l.length=off+l.length+i*l.length by rw[Nat.succ_mul];omega] at this
section
variable {H:Type} {enc:TypeId × Value->H} {P:Program} {w:World} {base:Nat} {spare:Nat->Bool} {held:Bool}
theorem Le:∀(n fuel:Nat) (t:TypeId) (cs:List Value) (x:DataW H × List MemPlace) (ks:List (Option IntKind)),
 Zp P n t=some ks->DataW.trod enc P w base spare held fuel t cs=some x->Flat ks cs
 |0,_,_,_,_,_,h,_=>by simp[Zp] at h
 |n+1,fuel,t,cs,x,ks,h,ht=>by
  unfold Zp at h;split at h
  . rename_i hu
    cases h;obtain⟨b,rfl,_⟩:=DataW.trod_bool hu ht;exact⟨rfl,fun i k hk=>by cases i<;>simp at hk;subst hk;exact⟨_,rfl,b,rfl⟩⟩
  . rename_i q hu
    cases h;obtain⟨m,rfl,_,hw⟩:=DataW.trod_int hu ht;exact⟨rfl,fun i k hk=>by cases i<;>simp at hk;subst hk;exact⟨_,rfl,m,rfl,hw⟩⟩
  . rename_i fs hu
    split at h
    . rename_i l hl
      split at h
      . rename_i hlen
        cases h;obtain⟨xs,n',rfl,_,hcl,hxl,hf⟩:=DataW.trod_struct hu ht
        have:=Cd (P:=P) (cs:=cs) (G:=fun t' l' off' _ _=>Flat l' ((cs.drop off').take (P.cellsOf t'))) (fun _ _ _ _ _ h=>h) fs.toList 0 _ hl (fun f hfm l' h1 h2=>by
         obtain⟨i,hi⟩:=List.getElem?_of_mem hfm;rw[Array.getElem?_toList] at hi;have hi':=hf i f hi;have hx:i<xs.length:=by rw[hxl];exact(Array.getElem?_eq_some_iff.1 hi).1
         rw[List.getElem?_eq_getElem hx] at hi'
         exact Le n n' f.type _ _ l' h1 hi')
        rw[List.drop_zero,hlen.1,<- hcl,List.take_length] at this;exact this
      . cases h
    . cases h
  . rename_i m e hu
    split at h
    . rename_i l hl
      split at h
      . rename_i hlen
        cases h;obtain⟨xs,n',rfl,_,hcl,hxl,hf⟩:=DataW.trod_array hu ht
        have:=Ci (cs:=cs) (l:=l) m 0 (fun i hi=>by
         have hi':=hf i hi;rw[List.getElem?_eq_getElem (by omega)] at hi';rw[Nat.zero_add,hlen.1]
         exact Le n n' e _ _ l hl hi')
        rw[List.drop_zero,hlen.2,<- hcl,List.take_length] at this;exact this
      . cases h
    . cases h
  . cases h
end
def VB:Value->Lit
 | .bool b=>.bool b
 | .int k n=>.int k n
 |_=>.bool false
theorem Hl {α β:Type} (f:α->Option (List β)):∀(l:List α) (g:α->List β),(∀x∈l,f x=some (g x))->(l.mapM f).map List.flatten=some (l.flatMap g)
 | [],g,_=>by simp
 |x::l,g,h=>by
  have ih:=Hl f l g (fun y hy=>h y (by simp[hy]));simp only[Option.map_eq_some_iff] at ih;obtain⟨r,hr,hr2⟩:=ih;simp[List.mapM_cons,h x (by simp),hr,hr2]
theorem Ca {P:Program} {g:TypeId->Option (List (Option IntKind))} {cs:List Value}:∀(fs:List Field) (off:Nat) (ks:List (Option IntKind)),Z7 P g fs off=some ks->
 (fs.flatMap fun f=>(((cs.drop f.offset).take (P.cellsOf f.type)).map VB))=((cs.drop off).take ks.length).map VB/\∀f∈fs,∃l,g f.type=some l/\l.length=P.cellsOf f.type/\off<=f.offset/\f.offset+l.length<=off+ks.length/\
  ∀i,i<l.length->ks[f.offset-off+i]? =l[i]?
 | [],off,ks,h=>by simp[Z7] at h;subst h;simp
 | f :: fs,off,ks,h=>by
  unfold Z7 at h;split at h
  . rename_i ho
    split at h
    . rename_i l hl
      split at h
      . rename_i hlen
        simp only[Option.map_eq_some_iff] at h;obtain⟨r,hr,rfl⟩:=h;obtain⟨e1,e2⟩:=Ca (cs:=cs) fs (off+l.length) r hr;refine⟨by rw[List.flatMap_cons,e1,List.length_append,S6,List.map_append,ho,hlen],fun f' hf'=>?_⟩;rcases List.mem_cons.1 hf' with rfl|hf'
        . exact⟨l,hl,hlen,by omega,by simp;omega,fun i hi=>by rw[show f'.offset-off+i=i by omega,List.getElem?_append_left hi]⟩
        . obtain⟨l',a1,a2,a3,a4,a5⟩:=e2 f' hf'
          refine⟨l',a1,a2,by omega,by simp;omega,fun i hi=>?_⟩;rw[List.getElem?_append_right (by omega),<- a5 i hi];congr 1;omega
      . cases h
    . cases h
  . cases h
theorem Flat.piece {ks l:List (Option IntKind)} {cs:List Value} {o:Nat} (h:Flat ks cs) (ho:o+l.length<=ks.length) (hl:∀i,i<l.length->ks[o+i]? =l[i]?):Flat l ((cs.drop o).take l.length):=by
 refine⟨by simp[h.1];omega,fun i k hk=>?_⟩;have hi:i<l.length:=(List.getElem?_eq_some_iff.1 hk).1;obtain⟨v,hv,hok⟩:=h.2 (o+i) k (by rw[hl i hi,hk]);exact⟨v,by simp[List.getElem?_take,hi,hv],hok⟩
theorem KP {l:List (Option IntKind)}:∀(m i j:Nat),i<m->j<l.length->((List.replicate m l).flatten)[i*l.length+j]? =l[j]?
 |0,_,_,h,_=>by omega
 |m+1,0,j,_,hj=>by rw[List.replicate_succ,List.flatten_cons,Nat.zero_mul,Nat.zero_add,List.getElem?_append_left hj]
 |m+1,i+1,j,hi,hj=>by
  rw[List.replicate_succ,List.flatten_cons,List.getElem?_append_right (by rw[Nat.succ_mul];omega)];rw[show (i+1)*l.length+j-l.length=i*l.length+j by rw[Nat.succ_mul];omega];exact KP m i j (by omega) hj
theorem Hm {P:Program}:∀(n:Nat) (t:TypeId) (cs:List Value) (ks:List (Option IntKind)),Zp P n t=some ks->Flat ks cs->P.keyLits n t cs=some (cs.map VB)
 |0,_,_,_,h,_=>by simp[Zp] at h
 | n + 1, t,cs,ks,h,hf=>by
  unfold Zp at h;split at h
  . rename_i hu
    cases h;obtain⟨v,hv,b,rfl⟩:=hf.2 0 none rfl
    match cs,hf.1,hv with
    | [c],_,hv=>simp at hv;subst hv;simp[Program.keyLits,hu,VB]
  . rename_i q hu
    cases h;obtain⟨v,hv,m,rfl,hw⟩:=hf.2 0 (some q) rfl
    match cs,hf.1,hv with
    | [c],_,hv=>simp at hv;subst hv;simp[Program.keyLits,hu,VB,hw]
  . rename_i fs hu
    split at h
    . rename_i l hl
      split at h
      . rename_i hlen
        cases h;obtain⟨e1,e2⟩:=Ca (cs:=cs) fs.toList 0 _ hl;have hcl:cs.length=P.cellsOf t:=by rw[hf.1,hlen.1]
        unfold Program.keyLits;rw[hu];simp only[hcl,hlen.2.1,and_self,if_true]
        rw[Hl _ fs.toList (fun f=>(((cs.drop f.offset).take (P.cellsOf f.type)).map VB)) (fun f hfm=>by
         obtain⟨l',a1,a2,a3,a4,a5⟩:=e2 f hfm;refine Hm n f.type _ l' a1 ?_;rw[<- a2]
         exact hf.piece (by omega) (fun i hi=>by have:=a5 i hi;rwa[Nat.sub_zero] at this))]
        rw[e1,List.drop_zero,<- hf.1,List.take_length]
      . cases h
    . cases h
  . rename_i m e hu
    split at h
    . rename_i l hl
      split at h
      . rename_i hlen
        cases h;have hks:(List.replicate m l).flatten.length=m*l.length:=by simp
        have hcl:cs.length=P.cellsOf t:=by rw[hf.1,hks,hlen.2]
        unfold Program.keyLits;rw[hu];simp only[hcl,if_true]
        rw[Hl _ (List.range m) (fun i=>(((cs.drop (i*P.cellsOf e)).take (P.cellsOf e)).map VB)) (fun i hi=>by
         rw[List.mem_range] at hi;refine Hm n e _ l hl ?_;rw[<- hlen.1];have h1:(i+1)*l.length<=m*l.length:=Nat.mul_le_mul_right _ (by omega);rw[Nat.succ_mul] at h1
         exact hf.piece (by omega) (fun j hj=>KP m i j hi hj))]
        congr 1
        have key:∀(m o:Nat),o+m*l.length<=cs.length->((List.range m).flatMap fun i=>((cs.drop (o+i*l.length)).take l.length).map VB)=((cs.drop o).take (m*l.length)).map VB:=by
         intro m
         induction m with
         |zero=>intro o _;simp
         |succ m ih=>
          intro o ho;rw[List.range_succ,List.flatMap_append,ih o (by rw[Nat.succ_mul] at ho;omega),Nat.succ_mul,S6,List.map_append];simp
        have:=key m 0 (by rw[hcl,hlen.2];omega);simp only[Nat.zero_add,List.drop_zero] at this;rw[<- hlen.1,this,hlen.2,<- hcl,List.take_length]
      . cases h
    . cases h
  . cases h
def AM:Option IntKind->Value->Prop
 |none,v=>∃b,v= .bool b
 |some k,v=>∃n,v= .int k n
def ZK (ks:List (Option IntKind)) (cs:List Value):Prop:=cs.length=ks.length/\∀(i:Nat) k,ks[i]? =some k->∃v,cs[i]? =some v/\AM k v
theorem Flat.shape {ks:List (Option IntKind)} {cs:List Value} (h:Flat ks cs):ZK ks cs:=
 ⟨h.1,fun i k hk=>by
  obtain⟨v,hv,ok⟩:=h.2 i k hk;refine⟨v,hv,?_⟩
  cases k with
  |none=>exact ok
  |some q=>obtain⟨n,e,_⟩:=ok;exact⟨n,e⟩⟩
theorem ZK.nil:ZK [] []:=⟨rfl,fun i k hk=>by simp at hk⟩
theorem ZK.cons {k:Option IntKind} {ks:List (Option IntKind)} {c:Value} {cs:List Value} (h:AM k c) (hs:ZK ks cs):ZK (k::ks) (c::cs):=
 ⟨by simp[hs.1],fun i q hq=>by
  cases i with
  |zero=>simp at hq;subst hq;exact⟨c,rfl,h⟩
  |succ i=>simp at hq;simpa using hs.2 i q hq⟩
theorem ZK.append {k1 k2:List (Option IntKind)} {c1 c2:List Value} (h1:ZK k1 c1) (h2:ZK k2 c2):ZK (k1++k2) (c1++c2):=by
 refine⟨by simp[h1.1,h2.1],fun i k hk=>?_⟩;by_cases hi:i<k1.length
 . rw[List.getElem?_append_left hi] at hk
   rw[List.getElem?_append_left (by rw[h1.1];exact hi)];exact h1.2 i k hk
 . rw[List.getElem?_append_right (by omega)] at hk
   rw[List.getElem?_append_right (by rw[h1.1];omega),h1.1];exact h2.2 _ k hk
theorem ZK.rep {α:Type} {k:Option IntKind} {f:α->Value} (hf:∀a,AM k (f a)) (l:List α) {n:Nat} (hn:l.length=n):ZK (List.replicate n k) (l.map f):=by
 subst hn;refine⟨by simp,fun i q hq=>?_⟩;have hi:i<l.length:=by have:=(List.getElem?_eq_some_iff.1 hq).1;simpa using this
 simp[List.getElem?_replicate,hi] at hq;subst hq;exact⟨f l[i],by simp[hi],hf _⟩
theorem ZK.piece {ks l:List (Option IntKind)} {cs:List Value} {o:Nat} (h:ZK ks cs) (ho:o+l.length<=ks.length) (hl:∀i,i<l.length->ks[o+i]? =l[i]?):ZK l ((cs.drop o).take l.length):=by
 refine⟨by simp[h.1];omega,fun i k hk=>?_⟩;have hi:i<l.length:=(List.getElem?_eq_some_iff.1 hk).1;obtain⟨v,hv,hok⟩:=h.2 (o+i) k (by rw[hl i hi,hk]);exact⟨v,by simp[List.getElem?_take,hi,hv],hok⟩
def Y4 (P:Program) (t:TypeId) (cs:List Value):Value:=
 match P.underlying t with
 |some (.struct _)|some (.array _ _)=>.agg cs.toArray
 |_=>cs.headD undef
open Classical in
def AL (P:Program) (dd:Nat) (t:TypeId) (ks:List (Option IntKind)):Prop:=
 ∀(w:World) (xs ys:List Value),ZK ks xs->ZK ks ys->(Op.equalIn dd t (Y4 P t xs) (Y4 P t ys)).run P w= .ok (decide (xs=ys)) w
theorem KR {P:Program} {n:Nat} {t:TypeId} {ks:List (Option IntKind)} (h:Zp P n t=some ks) (hk:ks.length=P.cellsOf t) {cs:List Value} {o:Nat} (hf:ZK ks ((cs.drop o).take ks.length)) (w:World):
 (part t cs.toArray o).run P w= .ok (Y4 P t ((cs.drop o).take ks.length)) w:=by
 have agg:∀d,P.underlying t=some d->(∃n e',d= .array n e')\/(∃fs,d= .struct fs)->(part t cs.toArray o).run P w= .ok (.agg ((cs.drop o).take ks.length).toArray) w:=by
  intro d hu hd;obtain⟨i,hi⟩:=info_of_underlying hu
  have e1:cs.toArray.extract o (o+P.cellsOf t)=((cs.drop o).take ks.length).toArray:=by
   rw[hk];simp[List.extract]
  rw[<- e1];rcases hd with⟨n,e',rfl⟩|⟨fs,rfl⟩<;>simp[part,isAgg,run_underlying hu,run_sizeOf w hi]
 cases n with
 |zero=>simp[Zp] at h
 |succ n=>
  unfold Zp at h;split at h
  . rename_i hu
    cases h;obtain⟨v,hv,_⟩:=hf.2 0 none rfl;simp[Y4,part,isAgg,run_underlying hu,hu];simp[List.getElem?_take] at hv;rw[List.head?_take,List.head?_drop,hv];simp
  . rename_i q hu
    cases h;obtain⟨v,hv,_⟩:=hf.2 0 (some q) rfl;simp[Y4,part,isAgg,run_underlying hu,hu];simp[List.getElem?_take] at hv;rw[List.head?_take,List.head?_drop,hv];simp
  . rename_i fs hu
    rw[agg _ hu (.inr ⟨_,rfl⟩)];simp[Y4,hu]
  . rename_i m e hu
    rw[agg _ hu (.inl ⟨_,_,rfl⟩)];simp[Y4,hu]
  . cases h
open Classical in
theorem C9 {P:Program} {dd n:Nat} (IH:∀t l,Zp P n t=some l->l.length=P.cellsOf t->AL P dd t l) (w:World) (xs ys:List Value):
 ∀(fs:List Field) (off:Nat) (ks:List (Option IntKind)),Z7 P (Zp P n) fs off=some ks->(∀f∈fs,f.name≠ "_")->ZK ks ((xs.drop off).take ks.length)->ZK ks ((ys.drop off).take ks.length)->
  (Op.eqFields dd xs.toArray ys.toArray fs).run P w= .ok (decide ((xs.drop off).take ks.length=(ys.drop off).take ks.length)) w
 | [],off,ks,h,_,_,_=>by simp[Z7] at h;subst h;simp[Op.eqFields]
 | f :: fs,off,ks,h,hn,hx,hy=>by
  unfold Z7 at h;split at h
  . rename_i ho
    split at h
    . rename_i l hl
      split at h
      . rename_i hlen
        simp only[Option.map_eq_some_iff] at h;obtain⟨r,hr,rfl⟩:=h;rw[List.length_append,S6] at hx hy;have hxl:((xs.drop off).take l.length).length=l.length:=by have:=hx.1;simp at this ⊢;omega
        have hyl:((ys.drop off).take l.length).length=l.length:=by have:=hy.1;simp at this ⊢;omega
        have hx1:ZK l ((xs.drop off).take l.length):=⟨hxl,fun i k hk=>by
         have hi:i<l.length:=(List.getElem?_eq_some_iff.1 hk).1;have:=hx.2 i k (by rw[List.getElem?_append_left hi];exact hk)
         rwa[List.getElem?_append_left (by omega)] at this⟩
        have hy1:ZK l ((ys.drop off).take l.length):=⟨hyl,fun i k hk=>by
         have hi:i<l.length:=(List.getElem?_eq_some_iff.1 hk).1;have:=hy.2 i k (by rw[List.getElem?_append_left hi];exact hk)
         rwa[List.getElem?_append_left (by omega)] at this⟩
        have hx2:ZK r ((xs.drop (off+l.length)).take r.length):=⟨by have:=hx.1;rw[List.length_append,hxl] at this;simp at this ⊢;omega,fun i k hk=>by
         have:=hx.2 (l.length+i) k (by rw[List.getElem?_append_right (by omega)];simpa using hk);rw[List.getElem?_append_right (by omega),hxl] at this
         simpa using this⟩
        have hy2:ZK r ((ys.drop (off+l.length)).take r.length):=⟨by have:=hy.1;rw[List.length_append,hyl] at this;simp at this ⊢;omega,fun i k hk=>by
         have:=hy.2 (l.length+i) k (by rw[List.getElem?_append_right (by omega)];simpa using hk);rw[List.getElem?_append_right (by omega),hyl] at this
         simpa using this⟩
        have p1:=KR hl hlen hx1 w;have p2:=KR hl hlen hy1 w;have p3:=IH f.type l hl hlen w _ _ hx1 hy1;have p4:=C9 IH w xs ys fs (off+l.length) r hr (fun g hg=>hn g (by simp[hg])) hx2 hy2;simp only[Op.eqFields,hn f (by simp),ne_eq,not_false_eq_true,if_true,Sem.run_bind,ho,p1,p2,p3,Result.andThen_ok];rw[List.length_append,S6,S6];by_cases e:(xs.drop off).take l.length=(ys.drop off).take l.length
        . rw[decide_eq_true e]
          simp only[Bool.not_true,Bool.false_eq_true,if_false];rw[p4,e];congr 1;simp
        . rw[decide_eq_false e,decide_eq_false (fun e'=>e (List.append_inj e' (by omega)).1)]
          simp
      . cases h
    . cases h
  . cases h
open Classical in
theorem Cb {P:Program} {dd n:Nat} {e:TypeId} {l:List (Option IntKind)} (hl:Zp P n e=some l) (hlen:l.length=P.cellsOf e) (IH:AL P dd e l) (w:World) (xs ys:List Value):
 ∀(m i0:Nat),(∀i,i<m->ZK l ((xs.drop ((i0+i)*l.length)).take l.length))->(∀i,i<m->ZK l ((ys.drop ((i0+i)*l.length)).take l.length))->
  (Op.eqItems dd e (P.cellsOf e) xs.toArray ys.toArray (List.range' i0 m)).run P w= .ok (decide ((xs.drop (i0*l.length)).take (m*l.length)=(ys.drop (i0*l.length)).take (m*l.length))) w
 |0,i0,_,_=>by simp[Op.eqItems]
 |m+1,i0,hx,hy=>by
  have hx1:=hx 0 (by omega);have hy1:=hy 0 (by omega);rw[Nat.add_zero] at hx1 hy1;have p1:=KR hl hlen hx1 w;have p2:=KR hl hlen hy1 w;have p3:=IH w _ _ hx1 hy1;have p4:=Cb hl hlen IH w xs ys m (i0+1) (fun i hi=>by have:=hx (i+1) (by omega);rwa[show i0+(i+1)=i0+1+i by omega] at this) (fun i hi=>by have:=hy (i+1) (by omega);rwa[show i0+(i+1)=i0+1+i by omega] at this);rw[hlen] at p1 p2;rw[<- hlen] at p4;simp only[List.range'_succ,Op.eqItems,Sem.run_bind,p1,p2,Result.andThen_ok];rw[<- hlen,p3];simp only[Result.andThen_ok];rw[Nat.succ_mul m,Nat.add_comm (m*l.length),S6,S6];rw[Nat.succ_mul i0] at p4;by_cases e:(xs.drop (i0*l.length)).take l.length=(ys.drop (i0*l.length)).take l.length
  . rw[decide_eq_true e]
    simp only[Bool.not_true,Bool.false_eq_true,if_false];rw[p4,e];congr 1;simp
  . have hxl:=hx1.1
    have hyl:=hy1.1;rw[decide_eq_false e,decide_eq_false (fun e'=>e (List.append_inj e' (by omega)).1)];simp
open Classical in
theorem DR {P:Program} (d:Nat):∀(n:Nat) (t:TypeId) (ks:List (Option IntKind)),Zp P n t=some ks->AL P (d+n) t ks
 |0,_,_,h=>by simp[Zp] at h
 | n + 1, t,ks,h=>by
  intro w xs ys hx hy;have IH:∀t l,Zp P n t=some l->l.length=P.cellsOf t->AL P (d+n) t l:=fun t l hl _=>DR d n t l hl
  unfold Zp at h;split at h
  . rename_i hu
    cases h;obtain⟨v,hv,a,rfl⟩:=hx.2 0 none rfl;obtain⟨u,hu',b,rfl⟩:=hy.2 0 none rfl
    match xs,ys,hx.1,hy.1,hv,hu' with
    | [x],[y],_,_,hv,hu'=>
     simp at hv hu';subst hv;subst hu'
     simp[Y4,hu,<- Nat.add_assoc,Op.equalIn,run_underlying hu];by_cases e:a=b<;>simp[e]
  . rename_i q hu
    cases h;obtain⟨v,hv,a,rfl⟩:=hx.2 0 (some q) rfl;obtain⟨u,hu',b,rfl⟩:=hy.2 0 (some q) rfl
    match xs,ys,hx.1,hy.1,hv,hu' with
    | [x],[y],_,_,hv,hu'=>
     simp at hv hu';subst hv;subst hu'
     simp[Y4,hu,<- Nat.add_assoc,Op.equalIn,run_underlying hu];by_cases e:a=b<;>simp[e]
  . rename_i fs hu
    split at h
    . rename_i l hl
      split at h
      . rename_i hlen
        cases h;have hfo:P.fieldsOf t=fs:=by simp[Program.fieldsOf,hu]
        have hu':P.underlying t=some (.struct (P.fieldsOf t)):=by rw[hfo];exact hu
        have hnames:∀f∈fs.toList,f.name≠ "_" :=by
         intro f hf;have:=Array.all_eq_true_iff_forall_mem.1 hlen.2.1 f (by simpa using hf);simpa using this
        have p:=C9 IH w xs ys fs.toList 0 _ hl hnames (by rw[List.drop_zero,<- hx.1,List.take_length];exact hx) (by rw[List.drop_zero,<- hy.1,List.take_length];exact hy);have e1:Y4 P t xs= .agg xs.toArray:=by simp[Y4,hu]
        have e2:Y4 P t ys= .agg ys.toArray:=by simp[Y4,hu]
        rw[e1,e2,<- Nat.add_assoc,run_equalIn_struct w (d+n) t _ _ hu' hlen.2.2,hfo,p];rw[List.drop_zero,List.drop_zero,List.take_of_length_le (by rw[hx.1];omega),List.take_of_length_le (by rw[hy.1];omega)]
      . cases h
    . cases h
  . rename_i m e hu
    split at h
    . rename_i l hl
      split at h
      . rename_i hlen
        cases h;have hks:(List.replicate m l).flatten.length=m*l.length:=by simp
        have hpx:∀i,i<m->ZK l ((xs.drop ((0+i)*l.length)).take l.length):=fun i hi=>by
         have h1:(i+1)*l.length<=m*l.length:=Nat.mul_le_mul_right _ (by omega);rw[Nat.succ_mul] at h1;rw[Nat.zero_add];exact hx.piece (by omega) (fun j hj=>KP m i j hi hj)
        have hpy:∀i,i<m->ZK l ((ys.drop ((0+i)*l.length)).take l.length):=fun i hi=>by
         have h1:(i+1)*l.length<=m*l.length:=Nat.mul_le_mul_right _ (by omega);rw[Nat.succ_mul] at h1;rw[Nat.zero_add];exact hy.piece (by omega) (fun j hj=>KP m i j hi hj)
        have p:=Cb hl hlen.1 (IH e l hl hlen.1) w xs ys m 0 hpx hpy;have e1:Y4 P t xs= .agg xs.toArray:=by simp[Y4,hu]
        have e2:Y4 P t ys= .agg ys.toArray:=by simp[Y4,hu]
        have hie:∃i,P.info? e=some i:=by
         cases n with
         |zero=>simp[Zp] at hl
         | succ n=>
          unfold Zp at hl;split at hl
          all_goals first
           |(rename_i hu2;exact info_of_underlying hu2)
           |cases hl
        obtain⟨i,hi⟩:=hie;rw[e1,e2,<- Nat.add_assoc,run_equalIn_array w (d+n) _ _ hu hi,List.range_eq_range',p];rw[Nat.zero_mul,List.drop_zero,List.drop_zero,<- hks,List.take_of_length_le (by rw[hx.1];omega),List.take_of_length_le (by rw[hy.1];omega)]
      . cases h
    . cases h
  . cases h
open Classical in
theorem J5 {P:Program} {t:TypeId} {n d:Nat} {ks:List (Option IntKind)} (hn:n<=d) (hk:Zp P n t=some ks) (hagg:(Yd P t).isSome=true)
 {xs ys:List Value} (hx:ZK ks xs) (hy:ZK ks ys) (w:World):(Op.equalIn d t (.agg xs.toArray) (.agg ys.toArray)).run P w= .ok (decide (xs=ys)) w:=by
 have h:=DR (P:=P) (d-n) n t ks hk w xs ys hx hy;rw[show d-n+n=d by omega] at h
 have hp:∀zs:List Value,Y4 P t zs= .agg zs.toArray:=by
  intro zs;unfold Yd at hagg;unfold Y4;split at hagg
  . rename_i hu;rw[hu]
  . rename_i hu;rw[hu]
  . simp at hagg
 rwa[hp,hp] at h
section
variable {H:Type} {enc:TypeId × Value->H} {P:Program} {w:World} {base:Nat}
theorem jjmk {t e:TypeId} {r:Reach} {b0:Nat} {v:Value} {d:DataW H} {p:List MemPlace} (ht:P.underlying t=some (.slice e)) (hv:Value.okWide P w r b0 t v)
 (hC:0<P.cellsOf e) (h:DataW.Trod enc P w 0 (fun _=>true) true t v d p):
 ∃(A:Option Addr) (len cap:Nat) (xs:List Value),v= .slice A len cap/\len<=cap/\cap<=maxLen/\Sl w w.heap.size (P.cellsOf e) A len xs/\
  (∀i,i<len->∃n y,DataW.trod enc P w 0 (fun _=>true) true n e ((xs.drop (i*P.cellsOf e)).take (P.cellsOf e))=some y)/\(A=none->len=0/\cap=0)/\
  (d= .nil/\cap=0\/∃es sp,d= .slice es sp/\es.length+sp.length=cap):=by
 obtain⟨A,len,cap,rfl⟩:=okWide_slice ht hv;obtain⟨fuel,hf⟩:=h;rcases Go.Deep.open_slice ht hf with⟨hcs,hx⟩|⟨a,len',cap',m,n,D,Pl,hcs,hb,hl,hm,hmm,hx,hi⟩
 . simp[Value.cells] at hcs
   obtain⟨rfl,rfl,rfl⟩:=hcs;simp only[Prod.mk.injEq] at hx;exact⟨none,0,0,[],rfl,Nat.le_refl _,Nat.zero_le _,by simpa using⟨by simp,fun h=>absurd h (by omega)⟩,fun i hi=>absurd hi (by omega),fun _=>⟨rfl,rfl⟩,.inl ⟨hx.1,rfl⟩⟩
 . simp [Value.cells] at hcs
   obtain⟨rfl,rfl,rfl⟩:=hcs;simp only[if_true] at hmm;subst hmm
   have hcells:∀i,i<m->∃cs',cs'.length=P.cellsOf e/\(∀j,j<P.cellsOf e->w.cell? (a.add (i*P.cellsOf e+j))=cs'[j]?)/\DataW.trod enc P w 0 (fun _=>true) true n e cs'=some (D i,Pl i):=by
    intro i him;obtain⟨cs',hc,ht'⟩:=hi i him;obtain⟨_,hcl,hat⟩:=World.cells?_some hc;exact⟨cs',hcl,fun j hj=>by rw[<- hat j hj,Go.Deep.add_add],ht'⟩
   let xs:=(List.range (len*P.cellsOf e)).map fun j=>(w.cell? (a.add j)).getD undef
   have hxs:∀i,i<len->∀j,j<P.cellsOf e->xs[i*P.cellsOf e+j]? =w.cell? (a.add (i*P.cellsOf e+j)):=by
    intro i hil j hj;obtain⟨cs',hcl,hat,_⟩:=hcells i (by omega);have h1:(i+1)*P.cellsOf e<=len*P.cellsOf e:=Nat.mul_le_mul_right _ (by omega);rw[Nat.succ_mul] at h1;have hc2:cs'[j]? =some (cs'[j]'(by omega)):=List.getElem?_eq_getElem (by omega);rw[hat j hj,hc2];simp only[xs,List.getElem?_map,List.getElem?_range (show i*P.cellsOf e+j<len*P.cellsOf e by omega),Option.map_some,hat j hj,hc2,Option.getD_some]
   have hxl:xs.length=len*P.cellsOf e:=by simp[xs]
   refine⟨some a,len,m,xs,rfl,hl,hm,⟨hxl,fun hn=>?_⟩,fun i hil=>?_,(fun h=>by cases h),.inr ⟨_,_,(Prod.mk.inj hx).1,by simp;omega⟩⟩
   . obtain⟨b,o,s⟩:=a
     obtain⟨cs',hcl,hat,_⟩:=hcells 0 (by omega);have h2:=hat 0 hC;rw[List.getElem?_eq_getElem (by omega)] at h2;simp[Addr.add] at h2;have hs:s=none:=World.cell?_spot h2;subst hs;refine⟨b,o,rfl,World.block_lt_of_cell? w _ h2,fun i u hu=>?_⟩;have hil:i<len*P.cellsOf e:=by have:=(List.getElem?_eq_some_iff.1 hu).1;omega
     have e1:i / P.cellsOf e*P.cellsOf e+i % P.cellsOf e=i:=by rw[Nat.mul_comm];exact Nat.div_add_mod i _
     have h3:=hxs (i / P.cellsOf e) ((Nat.div_lt_iff_lt_mul hC).2 hil) (i % P.cellsOf e) (Nat.mod_lt _ hC);rw[e1,hu,Addr.add_lit] at h3;exact h3.symm
   . obtain⟨cs',hcl,hat,ht'⟩:=hcells i (by omega)
     refine⟨n,(D i,Pl i),?_⟩
     have:(xs.drop (i*P.cellsOf e)).take (P.cellsOf e)=cs':=by
      apply List.ext_getElem?;intro j;simp only[List.getElem?_take,List.getElem?_drop];split
      . rename_i hj
        rw[hxs i hil j hj,hat j hj]
      . rw[List.getElem?_eq_none (by omega)]
     rw[this];exact ht'
end
theorem Fs {α:Type} (enc:α->List Value) (C:Nat) (hC:∀a,(enc a).length=C) (ok:α->Prop):∀(n:Nat) (xs:List Value),xs.length=n*C->
 (∀i,i<n->∃a,ok a/\(xs.drop (i*C)).take C=enc a)->∃l:List α,l.length=n/\xs=l.flatMap enc/\∀a∈l,ok a
 |0,xs,hl,_=>⟨[],rfl,by simpa using hl,by simp⟩
 | n+1,xs,hl,h=>by
  obtain⟨a,ha,e⟩:=h 0 (by omega);rw[Nat.zero_mul,List.drop_zero] at e
  obtain⟨l,h1,h2,h3⟩:=Fs enc C hC ok n (xs.drop C) (by simp[hl,Nat.succ_mul]) (fun i hi=>by
   obtain⟨b,hb,eb⟩:=h (i+1) (by omega)
   exact⟨b,hb,by rw[List.drop_drop,<- eb,Nat.succ_mul,Nat.add_comm]⟩)
  refine⟨a::l,by simp[h1],?_,by simpa using⟨ha,h3⟩⟩;rw[List.flatMap_cons,<- h2,<- e,List.take_append_drop]
section
variable {H:Type} {enc:TypeId × Value->H} {P:Program} {w:World}
end
end Go.Proofs.YtljeokninakliaaGreatDoor
end
section
namespace Go.Proofs.YtljeokninakliaaGreatDoor
structure Loc where
 b:Nat
 o:Nat
 s:Nat
 cap:Nat
 nil:Bool
abbrev Nm:=Nat->Option Loc
inductive AC where
 |v (x:Value)
 |ptr (id k j:Nat)
 |sl (id k j len:Nat) (cap:Option Nat)
 |fn (f:FuncId) (caps:List (Nat × Nat × Nat))
 | yld (id:Nat)
   |cap (id k:Nat)
   |mv (f:FuncId) (id k j:Nat)
inductive AV where
 |c (x:AC)
 |agg (l:List AC)
 |tup (l:List AV)
 |any
def ad (β:Nm) (id k j:Nat):Option Addr:=
 match β id with
 |some L=>if L.nil then none else some ⟨L.b,L.o+(k*L.s+j),none⟩
 |none=>none
def γp (β:Nm):List (Nat × Nat × Nat)->Option (List Value)
 | []=>some []
 |(id,k,j)::r=>
  match ad β id k j,γp β r with
  |some a,some vs=>some (.pointer (some a)::vs)
  |_,_=>none
def γc (β:Nm):AC->Option Value
 | .v x=>some x
 | .ptr id k j=>match ad β id k j with|some a=>some (.pointer (some a))|none=>none
 | .sl id k j len cap=>
  match β id with
  |some L=>if L.nil then (if len=0/\cap.getD 0=0 then some (.slice none 0 0) else none) else some (.slice (some ⟨L.b,L.o+(k*L.s+j),none⟩) len (cap.getD (L.cap-k)))
  |none=>none
 | .fn f caps=>match γp β caps with|some vs=>some (.func (.func f) #[] vs.toArray)|none=>none
 | .yld id=>match β id with|some L=>(if L.nil then none else some (.func (.yield L.b) #[] #[]))|none=>none
 | .cap id k=>match β id with|some L=>some (.int .i64 (if L.nil then 0 else ((L.cap-k:Nat):Int)))|none=>none
 | .mv f id k j=>match ad β id k j with|some a=>some (.func (.func f) #[.pointer (some a)] #[])|none=>none
def γs (β:Nm):List AC->Option (List Value)
 | []=>some []
 |x::r=>
  match γc β x,γs β r with
  |some v,some vs=>some (v::vs)
  |_,_=>none
def γ1 (β:Nm):AV->Option Value
 | .c x=>γc β x
 | .agg l=>match γs β l with|some vs=>some (.agg vs.toArray)|none=>none
 |_=>none
def γt (β:Nm):List AV->Option (List Value)
 | []=>some []
 |x::r=>
  match γ1 β x,γt β r with
  |some v,some vs=>some (v::vs)
  |_,_=>none
def γ (β:Nm):AV->Option Value
 | .tup l=>match γt β l with|some vs=>some (.tuple vs.toArray)|none=>none
 |x=>γ1 β x
inductive AObj where
 |loop (st:LoopState) (pd:Option Code) (tm:List AV) (ps:Array Tmp) (as bd:Code) (dn:Nat)
 |dfr (op:Bool)
inductive Cs where
 |lit (l:List AC)
 |arr (n:Nat) (f:Nat->List AC)
 |obj (o:AObj)
structure ABlk where
 own:Bool
 row:Bool
 ty:TypeId
 sz:Nat
 cs:Cs
abbrev AMem:=List (Nat × ABlk)
def Xx (o:AObj):ABlk:=⟨false,false,0,0,.obj o⟩
def ZY:AMem->Nat->Option ABlk
 | [],_=>none
 |(i,b)::r,id=>match Nat.beq i id with|true=>some b|false=>ZY r id
def Xz:AMem->Nat->ABlk->AMem
 | [],_,_=>[]
 |(i,x)::r,id,b=>match Nat.beq i id with|true=>(i,b)::r|false=>(i,x)::Xz r id b
def Uu:AMem->Nat->AMem
 | [],_=>[]
 |(i,x)::r,id=>match Nat.beq i id with|true=>Uu r id|false=>(i,x)::Uu r id
inductive Efx where
 |put (id:Nat) (b:ABlk)
 |app (id0 ib:Nat) (b:ABlk)
def Efx.on:Efx->AMem->AMem
 | .put id b,m=>Xz m id b
 | .app id0 ib b,m=>Uu m id0++[(ib,b)]
def Efx.tid:Efx->Nat
 | .put id _=>id
 | .app id0 _ _=>id0
def ZV:AC:=.v undef
def Cs.get:Cs->Nat->Nat->AC
 | .lit l,_,j=>l.getD j ZV
 | .arr _ f,k,j=>(f k).getD j ZV
 | .obj _,_,_=>ZV
def ABlk.inb (x:ABlk) (k j:Nat):Bool:=
 match x.cs with
 | .lit l=>decide (k*x.sz+j<=l.length)
 | .arr n _=>decide (k<n)&&decide (j<=x.sz)
 | .obj _=>false
def ZN (b:Bool) (x y:AC):AC:=match b with|true=>x|false=>y
def UI:Nat->List AC->Nat->AC->List AC
 |_,[],_,_=>[]
 |i,y::r,j,x=>ZN (Nat.beq i j) x y::UI (i+1) r j x
theorem Ip (x:AC) (j:Nat):∀(l:List AC) (i:Nat),UI i l j x=if i<=j then l.set (j-i) x else l
 | [],i=>by unfold UI;split<;>rfl
 | y ::r,i=>by
  unfold UI;rw[Ip x j r (i+1)];unfold ZN
  cases h:Nat.beq i j with
  |true=>
   have e:i=j:=Nat.eq_of_beq_eq_true h;subst e;rw[if_pos (Nat.le_refl _),if_neg (by omega)];simp
  |false=>
   have e:i≠j:=fun e=>by subst e;simp at h
   by_cases h1:i<=j
   . have h2:i+1<=j:=by omega
     rw[if_pos h1,if_pos h2,show j-i=(j-(i+1))+1 by omega];rfl
   . rw[if_neg h1,if_neg (by omega)]
theorem DA (l:List AC) (j:Nat) (x:AC):UI 0 l j x=l.set j x:=by rw[Ip];simp
def YD:List AC->Nat->List AC->List AC
 |l,_,[]=>l
 |l,j,x::r=>YD (UI 0 l j x) (j+1) r
def Cs.put:Cs->Nat->Nat->List AC->Cs
 | .lit l,_,j,vs=>.lit (YD l j vs)
 | .arr n f,k,j,vs=>.arr n fun i=>if i=k then YD (f i) j vs else f i
 | .obj o,_,_,_=>.obj o
inductive Kd where
 |b
 |i (k:IntKind)
 |any
def Zz:AC->Bool
 | .v (.bool b)=>b
 |_=>false
def ZP:AC->Int
 | .v (.int _ n)=>n
 |_=>0
def tl:Kd->AC->AC
 | .b,x=>.v (.bool (Zz x))
 | .i k,x=>.v (.int k (ZP x))
 | .any,x=>x
def Z5:Kd->AC->Bool
 | .b,.v (.bool _)=>true
 | .i k,.v (.int k' _)=>k==k'
 | .any,_=>true
 |_,_=>false
def AC.one:AC->Bool
 | .v x=>x.oneCell'
 |_=>true
def RA (P:Program) (g:TypeId->Option (List Kd)):List Field->Nat->Option (List Kd)
 | [],_=>some []
 | f::fs,off=>
  match Nat.beq f.offset off with
  |true=>
   match g f.type with
   |some l=>match RA P g fs (off+l.length) with|some r=>some (l++r)|none=>none
   |none=>none
  |false=>none
def PX (P:Program):Nat->TypeId->Option (List Kd)
 |0,_=>none
 |n+1,t=>
  match P.underlying t with
  |some .bool=>some [.b]
  |some (.int k)=>some [.i k]
  |some (.struct fs)=>RA P (PX P n) fs.toList 0
  |some (.array m e)=>match PX P n e with|some l=>some ((List.replicate m l).flatten)|none=>none
  |some _=>match P.info? t with|some i=>(match Nat.beq i.size 1 with|true=>some [.any]|false=>none)|none=>none
  |none=>none
def MM (P:Program) (t:TypeId):Option Bool:=
 match P.underlying t with
 |some (.struct _)|some (.array _ _)=>some true
 |some _=>some false
 |none=>none
def Y6 (P:Program) (t:TypeId):Option Nat:=match P.info? t with|some i=>some i.size|none=>none
def lay? (P:Program) (t:TypeId):Option (Bool × List Kd):=
 match MM P t,PX P 9 t,Y6 P t with
 |some a,some ks,some n=>if ks.length=n/\(a=true\/n=1) then some (a,ks) else none
 |_,_,_=>none
def rd (cs:Cs) (k:Nat):Nat->List Kd->List AC
 |_,[]=>[]
 |j,kd::r=>tl kd (cs.get k j)::rd cs k (j+1) r
def K0 (cs:Cs) (k:Nat):Nat->List Kd->List Bool
 |_,[]=>[]
 |j,.any::r=>K0 cs k (j+1) r
 |j,kd::r=>Z5 kd (cs.get k j)::K0 cs k (j+1) r
def Z2 (g:Nat):Nat:=100000000000000000000000000000000000000000000000000000000000000000000000000000000+g
def Ae:Value->AV
 | .agg cs=>.agg (cs.toList.map .v)
 |x=>.c (.v x)
def WE (tm:List AV) (m:AMem):Operand->Option AV
 | .tmp t=>tm[t]?
 | .const v=>some (Ae v)
 | .global g=>match ZY m (Z2 g) with|some _=>some (.c (.ptr (Z2 g) 0 0))|none=>none
 | .func f=>some (.c (.v (.func (.func f) #[] #[])))
def H8 (tm:List AV) (m:AMem) (x:Operand):Option AV:=
 match WE tm m x with
 |some (.c y)=>some (.c y)
 |some (.agg l)=>some (.agg l)
 |_=>none
def S0 (tm:List AV) (m:AMem):List Operand->Option (List AV)
 | []=>some []
 |x::r=>
  match H8 tm m x,S0 tm m r with
  |some v,some vs=>some (v::vs)
  |_,_=>none
def OQ (tm:List AV) (m:AMem):List (Nat × Operand)->Option (List (Nat × AV))
 | []=>some []
 |(i,x)::r=>
  match H8 tm m x,OQ tm m r with
  |some v,some vs=>some ((i,v)::vs)
  |_,_=>none
def AV.cells:AV->Option (List AC)
 | .c x=>some [x]
 | .agg l=>some l
 |_=>none
inductive XO where
 |eff (val:AV) (news:AMem) (ob:List Bool)
 |upd (val:AV) (e:Efx) (ob:List Bool)
 |call (f:FuncId) (args:List AV)
 |yld (id:Nat) (args:List AV)
def Qa (P:Program) (ib:Nat) (t:TypeId):Option XO:=
 match P.info? t with
 |some i=>
  match i.zero with
  |some z=>match z.cells.toList.all (·.oneCell') with|true=>some (.eff (.c (.ptr ib 0 0)) [(ib,⟨true,false,t,0,.lit (z.cells.toList.map .v)⟩)] [])|false=>none
  |none=>none
 |none=>none
def Kv (ib:Nat) (t:TypeId) (x:AV):Option XO:=
 match x.cells with
 |some l=>match l.all AC.one with|true=>some (.eff (.c (.ptr ib 0 0)) [(ib,⟨true,false,t,0,.lit l⟩)] [])|false=>none
 |none=>none
def PR:List AC->AC
 |x::_=>x
 | []=>ZV
def Ug (P:Program) (m:AMem) (t:TypeId):AV->Option XO
 | .c (.ptr id k j)=>
  match ZY m id,lay? P t with
  |some x,some (true,ks)=>some (.eff (.agg (rd x.cs k j ks)) [] (x.inb k (j+ks.length)::K0 x.cs k j ks))
  |some x,some (false,ks)=>some (.eff (.c (PR (rd x.cs k j ks))) [] (x.inb k (j+ks.length)::K0 x.cs k j ks))
  |_,_=>none
 |_=>none
def Vd (P:Program) (m:AMem) (t:TypeId) (a x:AV):Option XO:=
 match a,x.cells,Y6 P t with
 | .c (.ptr id k j),some vs,some (n+1)=>
  match ZY m id with
  |some b=>
   match b.own&&(Nat.beq vs.length (n+1)&&vs.all AC.one) with
   |true=>some (.upd (.c (.v undef)) (.put id {b with cs:=b.cs.put k j vs}) [b.inb k (j+vs.length)])
   |false=>none
  |none=>none
 |_,_,_=>none
def RS (op:BinOp) (k:IntKind) (x y:Int):Option Int:=
 let a:=BitVec.ofInt k.bits x
 let b:=BitVec.ofInt k.bits y
 match op with
 | .and=>some (k.wrap (a &&& b).toNat)
 | .or=>some (k.wrap (a ||| b).toNat)
 | .xor=>some (k.wrap (a ^^^ b).toNat)
 | .andNot=>some (k.wrap (a &&& ~~~b).toNat)
 |_=>none
def PU (op:BinOp) (k:IntKind) (x y:Int):Option (Value × List Bool):=
 match op with
 | .add=>some (.int k (k.wrap (x+y)),[])
 | .sub=>some (.int k (k.wrap (x-y)),[])
 | .mul=>some (.int k (k.wrap (x*y)),[])
 | .quo=>some (.int k (k.wrap (x.tdiv y)),[decide (y≠0)])
 | .rem=>some (.int k (x.tmod y),[decide (y≠0)])
 | .and | .or | .xor | .andNot=>match RS op k x y with|some n=>some (.int k n,[])|none=>none
 | .eql=>some (.bool (x==y),[])
 | .neq=>some (.bool (x !=y),[])
 | .lss=>some (.bool (decide (x<y)),[])
 | .leq=>some (.bool (decide (x<=y)),[])
 | .gtr=>some (.bool (decide (x>y)),[])
 | .geq=>some (.bool (decide (x≥y)),[])
 |_=>none
def Jl (op:BinOp) (k:IntKind) (x y:Int):Option (Value × List Bool):=
 match op with
 | .shl=>some (.int k (k.wrap (x*2^(min y.toNat k.bits))),[decide (0<=y)])
 | .shr=>some (.int k (x.fdiv (2^(min y.toNat k.bits))),[decide (0<=y)])
 |_=>none
def Vh:List (Option IntKind)->List AC->List AC->Bool
 |none::ks,x::xs,y::ys=>Zz x==Zz y&&Vh ks xs ys
 |some _::ks,x::xs,y::ys=>ZP x==ZP y&&Vh ks xs ys
 |_,_,_=>true
def O4:List (Option IntKind)->List AC->List Bool
 |none::ks,x::xs=>Z5 .b x::O4 ks xs
 |some k::ks,x::xs=>Z5 (.i k) x::O4 ks xs
 |_,_=>[]
def neg? (op:BinOp) (b:Bool):Option Bool:=
 match op with
 | .eql=>some b
 | .neq=>some !b
 |_=>none
def OC (P:Program) (op:BinOp) (t:TypeId):AV->AV->Option XO
 | .c (.v (.int k x)),.c (.v (.int k' y))=>
  match op with
  | .shl | .shr=>match Jl op k x y with|some (r,ob)=>some (.eff (.c (.v r)) [] ob)|none=>none
  |_=>if k=k' then (match PU op k x y with|some (r,ob)=>some (.eff (.c (.v r)) [] ob)|none=>none) else none
 | .c (.v (.bool x)),.c (.v (.bool y))=>
  match P.underlying t,neg? op (x==y) with
  |some .bool,some r=>some (.eff (.c (.v (.bool r))) [] [])
  |_,_=>none
 | .c (.v (.pointer none)),.c (.v (.pointer none))=>
  match P.underlying t,neg? op true with
  |some (.pointer _),some r=>some (.eff (.c (.v (.bool r))) [] [])
  |_,_=>none
 | .c (.ptr _ _ _),.c (.v (.pointer none))=>
  match P.underlying t,neg? op false with
  |some (.pointer _),some r=>some (.eff (.c (.v (.bool r))) [] [])
  |_,_=>none
 | .agg xs,.agg ys=>
  match Zp P 9 t,neg? op (Vh ((Zp P 9 t).getD []) xs ys),P.eqGuardType P.depth t,(Yd P t).isSome with
  |some ks,some r,false,true=>
   match Nat.beq xs.length ks.length&&Nat.beq ys.length ks.length with
   |true=>some (.eff (.c (.v (.bool r))) [] (O4 ks xs++O4 ks ys))
   |false=>none
  |_,_,_,_=>none
 |_,_=>none
def R2 (P:Program) (m:AMem) (op:BinOp) (t:TypeId) (x y:AV):Option XO:=
 match x,y with
 | .c (.sl id _ _ _ _),.c (.v (.slice none 0 0))=>
  match P.underlying t,neg? op false,ZY m id with
  |some (.slice _),some r,some b=>some (.eff (.c (.v (.bool r))) [] [b.inb 0 1])
  |_,_,_=>none
 | .c (.v (.slice none _ _)),.c (.v (.slice none 0 0))=>
  match P.underlying t,neg? op true with
  |some (.slice _),some r=>some (.eff (.c (.v (.bool r))) [] [])
  |_,_=>none
 | .c (.v (.slice (some _) _ _)),.c (.v (.slice none 0 0))=>
  match P.underlying t,neg? op false with
  |some (.slice _),some r=>some (.eff (.c (.v (.bool r))) [] [])
  |_,_=>none
 | .c (.cap id k),.c (.v (.int .i64 y))=>
  match op,ZY m id with
  | .lss,some x=>
   match x.cs,x.row with
   | .arr n _,true=>some (.eff (.c (.v (.bool false))) [] [decide (k<n/\1<=x.sz),decide (y<=((n-k:Nat):Int))])
   |_,_=>none
  |_,_=>none
 |x,y=>OC P op t x y
def AN (op:UnOp):AV->Option XO
 | .c (.v (.bool b))=>match op with | .not=>some (.eff (.c (.v (.bool !b))) [] [])|_=>none
 | .c (.v (.int k n))=>
  match op with
  | .neg=>some (.eff (.c (.v (.int k (k.wrap (0-n))))) [] [])
  | .xor=>match RS .xor k (if k.signed then -1 else k.max) n with|some r=>some (.eff (.c (.v (.int k r))) [] [])|none=>none
  |_=>none
 |_=>none
def PG (P:Program) (src dst:TypeId):AV->Option XO
 | .c (.v (.int _ n))=>
  match P.underlying src,P.underlying dst with
  |some _,some (.int k)=>some (.eff (.c (.v (.int k (k.wrap n)))) [] [])
  |_,_=>none
 |_=>none
def Ve:List AV->Option (List (Nat × Nat × Nat))
 | []=>some []
 | .c (.ptr id k j)::r=>match Ve r with|some l=>some ((id,k,j)::l)|none=>none
 |_=>none
def Wx (P:Program) (t:TypeId) (f:Nat):AV->Option XO
 | .c (.ptr id k j)=>
  match P.underlying t with
  |some (.struct fs)=>
   match fs[f]? with
   |some fd=>match Y6 P fd.type with|some (_+1)=>some (.eff (.c (.ptr id k (j+fd.offset))) [] [])|_=>none
   |none=>none
  |_=>none
 |_=>none
def RO (P:Program) (t:TypeId) (f:Nat):AV->Option XO
 | .agg l=>
  match P.underlying t with
  | some (.struct fs)=>
   match fs[f]? with
   |some fd=>
    match MM P fd.type,Y6 P fd.type with
    |some true,some n=>some (.eff (.agg ((l.drop fd.offset).take n)) [] [])
    |some false,some _=>if fd.offset<l.length then some (.eff (.c (l.getD fd.offset ZV)) [] []) else none
    |_,_=>none
   |none=>none
  |_=>none
 |_=>none
def Xc (P:Program) (m:AMem) (t:TypeId):AV->AV->Option XO
 | .c (.ptr id k j),.c (.v (.int _ i))=>
  match P.underlying t with
  |some (.array n e)=>match Y6 P e with|some s=>some (.eff (.c (.ptr id k (j+i.toNat*s))) [] [decide (0<=i/\i<(n:Int))])|none=>none
  |_=>none
 | .c (.sl id k j len _),.c (.v (.int _ i))=>
  match P.underlying t,ZY m id with
  |some (.slice e),some x=>
   match Y6 P e with
   |some s=>if x.sz=s then some (.eff (.c (.ptr id (k+i.toNat) j)) [] [decide (0<=i/\i<(len:Int))])
      else if x.sz=0 then some (.eff (.c (.ptr id k (j+i.toNat*s))) [] [decide (0<=i/\i<(len:Int))]) else none
   |none=>none
  |_,_=>none
 |_,_=>none
def Jh (l:List AC):Nat->List Kd->List AC
 |_,[]=>[]
 |j,kd::r=>tl kd (l.getD j ZV)::Jh l (j+1) r
def JZ (l:List AC):Nat->List Kd->List Bool
 |_,[]=>[]
 |j,.any::r=>JZ l (j+1) r
 |j,kd::r=>Z5 kd (l.getD j ZV)::JZ l (j+1) r
def Td (P:Program) (t:TypeId):AV->AV->Option XO
 | .agg l,.c (.v (.int _ i))=>
  match P.underlying t with
  |some (.array n e)=>
   match lay? P e with
   |some (true,ks)=>if n*ks.length=l.length then some (.eff (.agg (Jh l (i.toNat*ks.length) ks)) [] (decide (0<=i/\i<(n:Int))::JZ l (i.toNat*ks.length) ks)) else none
   |some (false,ks)=>if n*ks.length=l.length then some (.eff (.c (PR (Jh l (i.toNat*ks.length) ks))) [] (decide (0<=i/\i<(n:Int))::JZ l (i.toNat*ks.length) ks)) else none
   |none=>none
  |_=>none
 | .c (.v (.string x)),.c (.v (.int _ i))=>
  match P.underlying t with
  |some .string=>
   match x[i.toNat]? with
   |some b=>some (.eff (.c (.v (.int .u8 b.toNat))) [] [decide (0<=i)])
   |none=>none
  |_=>none
 |_,_=>none
def UR (i:Nat):AV->Option XO
 | .tup l=>match l[i]? with|some x=>some (.eff x [] [])|none=>none
 |_=>none
def OF (f:Nat->Option (Nat × Nat)):List AC->List (Nat × AV)->Option (List AC)
 |acc,[]=>some acc
 |acc,(i,x)::r=>
  match f i,x.cells with
  |some (o,k),some vs=>match Nat.beq vs.length k&&(Nat.ble (o+k) acc.length&&vs.all AC.one) with|true=>OF f (YD acc o vs) r|false=>none
  |_,_=>none
def V6 (P:Program):List Field->Option (List (Nat × Nat))
 | []=>some []
 |f::r=>match Y6 P f.type,V6 P r with|some n,some l=>some ((f.offset,n)::l)|_,_=>none
def Us (P:Program) (t:TypeId):Option (List AC):=
 match P.info? t with
 |some i=>match i.zero with|some z=>some (z.cells.toList.map .v)|none=>none
 |none=>none
def Qb (P:Program) (t:TypeId) (ps:List (Nat × AV)):Option XO:=
 match Us P t,P.underlying t with
 |some z,some (.struct fs)=>
  match V6 P fs.toList with
  |some pl=>match OF (fun i=>pl[i]?) z ps with|some l=>some (.eff (.agg l) [] [])|none=>none
  |none=>none
 |some z,some (.array _ e)=>
  match Y6 P e with
  |some s=>match OF (fun i=>some (i*s,s)) z ps with|some l=>some (.eff (.agg l) [] [])|none=>none
  |none=>none
 |_,_=>none
def WL (s:Nat):Nat->List (Nat × AV)->Option (List AC)
 |_,[]=>some []
 |i,(j,x)::r=>
  match x.cells,WL s (i+1) r with
  |some vs,some l=>match Nat.beq i j&&(Nat.beq vs.length s&&vs.all AC.one) with|true=>some (vs++l)|false=>none
  |_,_=>none
def VT (P:Program) (ib:Nat) (t:TypeId) (n:Nat) (ps:List (Nat × AV)):Option XO:=
 match P.underlying t with
 | some (.slice e)=>
  match Y6 P e,Us P e,WL ((Y6 P e).getD 0) 0 ps with
  |some s,some z,some l=>
   match Nat.beq ps.length n&&(Nat.ble 1 (n*s)&&(Nat.ble (n*s) 16777216&&Nat.beq z.length s)) with
   |true=>some (.eff (.c (.sl ib 0 0 n (some n))) [(ib,⟨true,false,e,0,.lit l⟩)] [])
   |false=>none
  |_,_,_=>none
 |_=>none
def Qc (P:Program) (ib:Nat) (t:TypeId):List (Nat × AV)->Option XO
 | []=>
  match P.underlying t with
  |some (.slice e)=>
   match Y6 P e with
   |some s=>match Nat.ble 1 s with|true=>some (.eff (.c (.sl ib 0 0 0 none)) [(ib,⟨true,true,e,s,.arr 0 fun _=>[]⟩)] [])|false=>none
   |none=>none
  |_=>none
 |_=>none
def Pu (tm:List AV) (m:AMem):Option Operand->Option (Option Int)
 |none=>some none
 |some x=>match WE tm m x with|some (.c (.v (.int _ i)))=>some (some i)|_=>none
def YR (cap:Option Nat) (len:Nat):Option Int->Int
 |some M=>M
 |none=>((cap.getD len:Nat):Int)
def V9 (cap:Option Nat) (l:Int):Option Int->Option Nat
 |some M=>some (M-l).toNat
 |none=>match cap with|some q=>some (q-l.toNat)|none=>none
def Zt (cap:Option Nat) (x:ABlk) (k len:Nat):Bool:=
 match cap,x.cs with
 |some _,_=>true
 |none,.arr n _=>x.row&&decide (k+len<=n)
 |none,_=>false
def Mk (cap:Option Nat) (x:ABlk) (k len:Nat) (lo hi mx:Option Int):List Bool:=
 [decide (0<=lo.getD 0/\lo.getD 0<=hi.getD (len:Int)/\hi.getD (len:Int)<=YR cap len mx),decide (lo.getD 0=0\/lo.getD 0<YR cap len mx),decide (YR cap len mx<=((cap.getD len:Nat):Int)),mx.isNone||hi.isSome,Zt cap x k len]
def Kf (x:ABlk):Option Nat->Option Int->Bool
 |none,none=>x.row&&!x.own
 |_,_=>false
def Kp (x:ABlk):Option Nat->Option Int->Option Int->Bool
 |none,some _,none=>x.row&&x.own
 |_,_,_=>false
def RQ (P:Program) (m:AMem) (ib:Nat) (t:TypeId) (lo hi mx:Option Int):AV->Option XO
 | .c (.v (.slice none 0 0))=>
  match P.underlying t with
  |some (.slice e)=>match Y6 P e with|some _=>some (.eff (.c (.v (.slice none 0 0))) [] [decide (lo.getD 0=0/\hi.getD 0=0/\mx.getD 0=0),mx.isNone||hi.isSome])|none=>none
  |_=>none
 | .c (.sl id k j len cap)=>
  match P.underlying t,ZY m id with
  | some (.slice e),some x=>
   match Y6 P e with
   |some s=>
    match Kf x cap mx,x.cs with
    |true,.arr n f=>some (.eff (.c (.sl ib 0 0 (hi.getD (len:Int)-lo.getD 0).toNat none)) [(ib,⟨false,true,x.ty,s,.arr (hi.getD (len:Int)-lo.getD 0).toNat fun i=>f (k+(lo.getD 0).toNat+i)⟩)] [decide (x.sz=s/\j=0),decide (0<=lo.getD 0/\lo.getD 0<=hi.getD (len:Int)/\hi.getD (len:Int)<=len),mx.isNone,decide (k+len<=n)])
    |_,_=>
    match Kp x cap hi mx,x.cs with
    |true,.arr n _=>some (.eff (.c (.sl id (k+(lo.getD 0).toNat) j (hi.getD (len:Int)-lo.getD 0).toNat none)) [] [decide (x.sz=s/\1<=x.sz),decide (0<=lo.getD 0/\lo.getD 0<=hi.getD (len:Int)/\hi.getD (len:Int)<=((n-k:Nat):Int)),decide (lo.getD 0=0\/lo.getD 0<((n-k:Nat):Int)),decide (len=0\/k<n)])
    |_,_=>
    if x.sz=s then some (.eff (.c (.sl id (k+(lo.getD 0).toNat) j (hi.getD (len:Int)-lo.getD 0).toNat (V9 cap (lo.getD 0) mx))) [] (Mk cap x k len lo hi mx))
    else if x.sz=0/\cap.isSome=true then some (.eff (.c (.sl id k (j+(lo.getD 0).toNat*s) (hi.getD (len:Int)-lo.getD 0).toNat (V9 cap (lo.getD 0) mx))) [] (Mk cap x k len lo hi mx)) else none
   |none=>none
  |_,_=>none
 |_=>none
def Kx (P:Program) (t:TypeId):AV->Option XO
 | .c (.sl _ _ _ len _)=>match P.underlying t with|some (.slice _)=>some (.eff (.c (.v (goInt len))) [] [])|_=>none
 | .c (.v (.slice _ n _))=>match P.underlying t with|some (.slice _)=>some (.eff (.c (.v (goInt n))) [] [])|_=>none
 | .c (.v (.string s))=>match P.underlying t with|some .string=>some (.eff (.c (.v (goInt s.size))) [] [])|_=>none
 |_=>none
def Kw (P:Program) (m:AMem) (t:TypeId):AV->Option XO
 | .c (.sl id k _ _ none)=>
  match P.underlying t,ZY m id with
  |some (.slice _),some x=>match x.row with|true=>some (.eff (.c (.cap id k)) [] [])|false=>none
  |_,_=>none
 | .c (.sl _ _ _ _ (some c))=>match P.underlying t with|some (.slice _)=>some (.eff (.c (.v (goInt c))) [] [])|_=>none
 | .c (.v (.slice _ _ c))=>match P.underlying t with|some (.slice _)=>some (.eff (.c (.v (goInt c))) [] [])|_=>none
 |_=>none
def O0 (k:IntKind):Int->List AV->Option Int
 |x,[]=>some x
 |x,.c (.v (.int _ y))::r=>O0 k (if y<x then y else x) r
 |_,_=>none
def NY (k:IntKind):Int->List AV->Option Int
 |x,[]=>some x
 |x,.c (.v (.int _ y))::r=>NY k (if y>x then y else x) r
 |_,_=>none
def YW (x:ABlk) (k j s:Nat):Nat->List AC:=
 match x.cs with
 | .arr _ f=>fun i=>f (k+i)
 | .lit l=>fun i=>(l.drop (j+i*s)).take s
 | .obj _=>fun _=>[]
def UW (x:ABlk) (k j s n:Nat):Option Bool:=
 match x.cs with
 | .arr q _=>if x.sz=s/\j=0 then some (decide (k+n<=q)) else none
 | .lit l=>some (decide (j+n*s<=l.length))
 | .obj _=>none
def QT (e:TypeId) (s:Nat) (n:Nat) (f:Nat->List AC) (q:Nat) (g:Nat->List AC):ABlk:=⟨true,true,e,s,.arr (n+q) fun i=>if i<n then f i else g (i-n)⟩
def VQ (P:Program) (m:AMem) (ib:Nat) (t t':TypeId) (x y:AV):Option XO:=
 match Nat.beq t t',P.underlying t with
 | true,some (.slice e)=>
  match P.info? e,Us P e,x,y with
  | some i,some z,.c (.v (.slice none 0 0)),.c (.sl id k j n _)=>
   match ZY m id with
   |some b=>
    match UW b k j i.size n,Nat.ble 1 i.size&&(Nat.ble 1 i.bytes&&Nat.beq z.length i.size) with
    |some ob,true=>some (.eff (.c (.sl ib 0 0 (0+n) none)) [(ib,QT e i.size 0 (fun _=>[]) n (YW b k j i.size))] [ob,decide (n*i.bytes<=140737488355328)])
    |_,_=>none
   |none=>none
  |some i,some z,.c (.v (.slice none 0 0)),.c (.v (.slice _ 0 _))=>
   match Nat.ble 1 i.size&&(Nat.ble 1 i.bytes&&Nat.beq z.length i.size) with
   |true=>some (.eff (.c (.v (.slice none 0 0))) [] [])
   |false=>none
  | some i,some z,.c (.sl id0 k0 j0 len none),.c (.v (.slice _ 0 _))=>
   match ZY m id0 with
   |some b0=>
    match Nat.ble 1 i.size&&(Nat.ble 1 i.bytes&&Nat.beq z.length i.size),b0.cs with
    |true,.arr n0 _=>some (.eff (.c (.sl id0 k0 j0 len none)) [] [decide (k0=0),decide (len<=n0),b0.row])
    |_,_=>none
   |none=>none
  | some i,some z,.c (.sl id0 k0 j0 len none),.c (.sl id k j n _)=>
   match ZY m id0,ZY m id with
   | some b0,some b=>
    match UW b k j i.size n,Nat.ble 1 i.size&&(Nat.ble 1 i.bytes&&(Nat.beq z.length i.size&&(b0.own&&(b0.row&&(Nat.beq b0.ty e&&(Nat.beq b0.sz i.size&&(Nat.beq j0 0&&!(Nat.beq id0 id)))))))),b0.cs with
    |some ob,true,.arr n0 f0=>
     some (.upd (.c (.sl ib 0 0 (len+n) none)) (.app id0 ib (QT e i.size len f0 n (YW b k j i.size))) [ob,decide (k0=0),decide (len<=n0),decide ((len+n)*i.bytes<=140737488355328)])
    |_,_,_=>none
   |_,_=>none
  | some i,some z,.c (.sl id0 k0 j0 len (some cap)),.c (.sl id k j n _)=>
   match ZY m id0,ZY m id with
   |some b0,some b=>
    match UW b0 k0 j0 i.size len,UW b k j i.size n,Nat.ble 1 i.size&&(Nat.ble 1 i.bytes&&Nat.beq z.length i.size) with
    |some ob0,some ob,true=>some (.eff (.c (.sl ib 0 0 (len+n) none)) [(ib,QT e i.size len (YW b0 k0 j0 i.size) n (YW b k j i.size))] [ob0,ob,decide (1<=len/\1<=n/\cap<len+n),decide ((len+n)*i.bytes<=140737488355328)])
    |_,_,_=>none
   |_,_=>none
  |_,_,_,_=>none
 | false,some (.slice e)=>
  match P.underlying t',P.info? e,Us P e,x,y with
  |some (.int _),some i,some z,.c (.v (.slice none 0 0)),.c (.v (.int _ q))=>
   match Nat.ble 1 i.size&&(Nat.ble 1 i.bytes&&(Nat.beq z.length i.size&&z.all AC.one)) with
   |true=>some (.eff (.c (.sl ib 0 0 (0+q.toNat) none)) [(ib,QT e i.size 0 (fun _=>[]) q.toNat fun _=>z)] [decide (1<=q/\q*i.bytes<=140737488355328)])
   |false=>none
  |_,_,_,_,_=>none
 |_,_=>none
def R4 (P:Program) (ib:Nat) (t:TypeId):AV->AV->Option XO
 | .c (.v (.int _ l)),.c (.v (.int _ c))=>
  match P.underlying t with
  | some (.slice e)=>
   match P.info? e,Us P e with
   |some i,some z=>
    match Nat.ble 1 i.size&&(Nat.ble 1 i.bytes&&(Nat.beq z.length i.size&&z.all AC.one)) with
    |true=>some (.eff (.c (.sl ib 0 0 l.toNat none)) [(ib,⟨true,true,e,i.size,.arr l.toNat fun _=>z⟩)] [decide (0<=l/\l=c/\l*i.bytes<=140737488355328)])
    |false=>none
   |_,_=>none
  |_=>none
 |_,_=>none
def R3 (P:Program) (m:AMem) (t t':TypeId) (x y:AV):Option XO:=
 match P.underlying t,P.underlying t',x,y with
 | some (.slice e),some (.slice _),.c (.sl id k j n _),.c (.sl id' k' j' n' _)=>
  match P.info? e,ZY m id,ZY m id' with
  |some i,some b,some b'=>
   match UW b' k' j' i.size (min n n'),Nat.ble 1 i.size&&(b.own&&(Nat.beq b.sz i.size&&Nat.beq j 0)),b.cs with
   |some ob,true,.arr q f=>some (.upd (.c (.v (goInt (min n n':Nat)))) (.put id {b with cs:=.arr q fun p=>if k<=p/\p<k+min n n' then YW b' k' j' i.size (p-k) else f p}) [ob,decide (k+min n n'<=q)])
   |_,_,_=>none
  |_,_,_=>none
 |_,_,_,_=>none
def Tc (P:Program) (m:AMem) (t:TypeId):AV->Option XO
 | .c (.sl id k j n _)=>
  match P.underlying t with
  | some (.slice e)=>
   match P.info? e,Us P e,ZY m id with
   |some i,some z,some b=>
    match Nat.ble 1 i.size&&(b.own&&(Nat.beq b.sz i.size&&(Nat.beq j 0&&(Nat.beq z.length i.size&&z.all AC.one)))),b.cs with
    |true,.arr q f=>some (.upd (.tup []) (.put id {b with cs:=.arr q fun p=>if k<=p/\p<k+n then z else f p}) [decide (k+n<=q)])
    |_,_=>none
   |_,_,_=>none
  |_=>none
 |_=>none
def Zm (P:Program) (m:AMem) (ib:Nat) (b:Builtin) (ts:List TypeId) (args:List AV):Option XO:=
 match b,ts,args with
 | .len,t::_,x::_=>Kx P t x
 | .cap,t::_,x::_=>Kw P m t x
 | .append,[t,t'],[x,y]=>VQ P m ib t t' x y
 | .copy,[t,t'],[x,y]=>R3 P m t t' x y
 | .clear,[t],[x]=>Tc P m t x
 | .min,_,.c (.v (.int k x))::r=>match O0 k x r with|some n=>some (.eff (.c (.v (.int k n))) [] [])|none=>none
 | .max,_,.c (.v (.int k x))::r=>match NY k x r with|some n=>some (.eff (.c (.v (.int k n))) [] [])|none=>none
 |_,_,_=>none
def UQ (args:List AV):AV->Option XO
 | .c (.v (.func (.func f) ⟨[]⟩ ⟨[]⟩))=>some (.call f args)
 | .c (.fn f caps)=>some (.call f (args++caps.map fun (id,k,j)=>.c (.ptr id k j)))
 | .c (.yld id)=>some (.yld id args)
 |_=>none
def U0 (P:Program) (tm:List AV) (m:AMem) (ib:Nat) (o:Op):Option XO:=
 match o with
 | .move x | .assign x=>match WE tm m x with|some .any=>none|some v=>some (.eff v [] [])|none=>none
 | .pick c a b=>
  match WE tm m c with
  |some (.c (.v (.bool t)))=>match (match t with|true=>WE tm m a|false=>WE tm m b) with|some .any=>none|some v=>some (.eff v [] [])|none=>none
  |_=>none
 | .alloc t=>Qa P ib t
 | .box t x=>match WE tm m x with|some v=>Kv ib t v|none=>none
 | .build t ps=>match OQ tm m ps.toList with|some l=>Qb P t l|none=>none
 | .buildSlice t n ps=>match OQ tm m ps.toList with|some l=>(match n with|0=>Qc P ib t l|n'+1=>VT P ib t (n'+1) l)|none=>none
 | .load t a=>match WE tm m a with|some v=>Ug P m t v|none=>none
 | .store t a x=>match WE tm m a,WE tm m x with|some v,some u=>Vd P m t v u|_,_=>none
 | .nilCheck x=>
  match WE tm m x with
  |some (.c (.ptr id k j))=>some (.eff (.c (.ptr id k j)) [] [])
  |some (.c (.v (.func (.func f) a b)))=>some (.eff (.c (.v (.func (.func f) a b))) [] [])
  |some (.c (.fn f l))=>some (.eff (.c (.fn f l)) [] [])
  |some (.c (.yld id))=>some (.eff (.c (.yld id)) [] [])
  |_=>none
 | .binOp op t x y _=>match WE tm m x,WE tm m y with|some v,some u=>R2 P m op t v u|_,_=>none
 | .unOp op _ x=>match WE tm m x with|some v=>AN op v|none=>none
 | .convert s d x=>match WE tm m x with|some v=>PG P s d v|none=>none
 | .makeFunc (.func f) first caps=>
  match first.toList,S0 tm m caps.toList with
  | [],some l=>match Ve l with|some cs=>some (.eff (.c (.fn f cs)) [] [])|none=>none
  | [x],some []=>match WE tm m x with|some (.c (.ptr id k j))=>some (.eff (.c (.mv f id k j)) [] [])|_=>none
  |_,_=>none
 | .makeSlice t l c=>match WE tm m l,WE tm m c with|some v,some u=>R4 P ib t v u|_,_=>none
 | .slice t x lo hi mx=>
  match WE tm m x,Pu tm m lo,Pu tm m hi,Pu tm m mx with
  |some v,some l,some h,some q=>RQ P m ib t l h q v
  |_,_,_,_=>none
 | .fieldAddr t x f=>match WE tm m x with|some v=>Wx P t f v|none=>none
 | .field t x f=>match WE tm m x with|some v=>RO P t f v|none=>none
 | .indexAddr t x i=>match WE tm m x,WE tm m i with|some v,some u=>Xc P m t v u|_,_=>none
 | .index t x i=>match WE tm m x,WE tm m i with|some v,some u=>Td P t v u|_,_=>none
 | .extract x i=>match WE tm m x with|some v=>UR i v|none=>none
 | .call c=>
  match S0 tm m c.args.toList,c.callee with
  |some args,.builtin b=>Zm P m ib b c.argTypes.toList args
  |some args,.value f=>match WE tm m f with|some (.c (.mv g id k j))=>some (.call g (.c (.ptr id k j)::args))|some v=>UQ args v|none=>none
  |_,_=>none
 |_=>none
def X8:Op->Bool
 | .store _ _ _=>true
 | .call c=>match c.callee with | .builtin .append=>true | .builtin .copy=>true | .builtin .clear=>true|_=>false
 |_=>false
def Y2:Op->Bool
 | .call c=>match c.callee with | .value _=>true|_=>false
 |_=>false
abbrev zI (z:Int):AC:=AC.v (Value.int .i64 z)
abbrev zU (z:Int):AC:=AC.v (Value.int .u8 z)
abbrev zH (z:Int):AC:=AC.v (Value.int .u16 z)
abbrev zW (z:Int):AC:=AC.v (Value.int .u32 z)
abbrev zB (z:Bool):AC:=AC.v (Value.bool z)
abbrev zT:AV:=AV.c (AC.v (Value.tuple (Array.mk [])))
abbrev yv:AC:=AC.v (Value.tuple (Array.mk []))
abbrev zA:AV:=AV.any
abbrev yO (t s:Nat) (c:Cs):Option ABlk:=some (ABlk.mk true true t s c)
abbrev yR (t s:Nat) (c:Cs):Option ABlk:=some (ABlk.mk true false t s c)
abbrev yF (t s:Nat) (c:Cs):Option ABlk:=some (ABlk.mk false false t s c)
abbrev y3 (l:List Bool):List Bool:=true::true::true::l
abbrev zt (l:List Bool):List Bool:=true::true::true::true::true::true::true::true::l
abbrev zu (l:List Bool):List Bool:=zt (zt (zt (zt l)))
abbrev z8 (f:Nat->AC) (l:List AC):List AC:=f 0::f 1::f 2::f 3::f 4::f 5::f 6::f 7::l
abbrev z9 (a:AV) (l:List AV):List AV:=a::a::a::a::a::a::a::a::l
abbrev nSt:Nat:=10000000000000000000000000000000000000000
end Go.Proofs.YtljeokninakliaaGreatDoor
end
section
namespace Go.Proofs.YtljeokninakliaaGreatDoor
open Go.RowKit
def Ext (β β':Nm):Prop:=∀id L,β id=some L->β' id=some L
theorem Ext.refl (β:Nm):Ext β β:=fun _ _ h=>h
theorem Ext.trans {a b c:Nm} (h:Ext a b) (k:Ext b c):Ext a c:=fun id L e=>k id L (h id L e)
section
variable {β β':Nm}
theorem Fv (h:Ext β β') {id k j:Nat} {a:Addr} (e:ad β id k j=some a):ad β' id k j=some a:=by
 unfold ad at *
 cases hb:β id with
 |none=>simp[hb] at e
 |some L=>rw[h id L hb];simpa[hb] using e
theorem Ee (h:Ext β β'):∀{l:List (Nat × Nat × Nat)} {vs:List Value},γp β l=some vs->γp β' l=some vs
 | [],vs,e=>e
 | (id,k,j)::r,vs,e=>by
  simp only[γp] at e ⊢
  cases ha:ad β id k j with
  |none=>simp[ha] at e
  |some a=>
   cases hr:γp β r with
   |none=>simp[ha,hr] at e
   |some us=>rw[Fv h ha,Ee h hr];simpa[ha,hr] using e
theorem Pa (h:Ext β β') {x:AC} {v:Value} (e:γc β x=some v):γc β' x=some v:=by
 cases x with
 |v x=>exact e
 |ptr id k j=>
  simp only[γc] at e ⊢
  cases ha:ad β id k j with
  |none=>simp[ha] at e
  |some a=>rw[Fv h ha];simpa[ha] using e
 |sl id k j len cap=>
  simp only[γc] at e ⊢
  cases hb:β id with
  |none=>simp[hb] at e
  |some L=>rw[h id L hb];simpa[hb] using e
 |fn f caps=>
  simp only[γc] at e ⊢
  cases hp:γp β caps with
  |none=>simp[hp] at e
  |some vs=>rw[Ee h hp];simpa[hp] using e
 |yld id=>
  simp only[γc] at e ⊢
  cases hb:β id with
  |none=>simp[hb] at e
  |some L=>rw[h id L hb];simpa[hb] using e
 |cap id k=>
  simp only[γc] at e ⊢
  cases hb:β id with
  |none=>simp[hb] at e
  |some L=>rw[h id L hb];simpa[hb] using e
 |mv f id k j=>
  simp only[γc,ad] at e ⊢
  cases hb:β id with
  |none=>simp[hb] at e
  |some L=>rw[h id L hb];simpa[hb] using e
theorem LE (h:Ext β β'):∀{l:List AC} {vs:List Value},γs β l=some vs->γs β' l=some vs
 | [],vs,e=>e
 | x::r,vs,e=>by
  simp only[γs] at e ⊢
  cases hx:γc β x with
  |none=>simp[hx] at e
  |some u=>
   cases hr:γs β r with
   |none=>simp[hx,hr] at e
   |some us=>rw[Pa h hx,LE h hr];simpa[hx,hr] using e
theorem Il (h:Ext β β') {x:AV} {v:Value} (e:γ1 β x=some v):γ1 β' x=some v:=by
 cases x with
 |c x=>exact Pa h e
 |agg l=>
  simp only[γ1] at e ⊢
  cases hp:γs β l with
  |none=>simp[hp] at e
  |some vs=>rw[LE h hp];simpa[hp] using e
 |tup l=>cases e
 |any=>cases e
theorem Ec (h:Ext β β'):∀{l:List AV} {vs:List Value},γt β l=some vs->γt β' l=some vs
 | [],vs,e=>e
 | x::r,vs,e=>by
  simp only[γt] at e ⊢
  cases hx:γ1 β x with
  |none=>simp[hx] at e
  |some u=>
   cases hr:γt β r with
   |none=>simp[hx,hr] at e
   |some us=>rw[Il h hx,Ec h hr];simpa[hx,hr] using e
theorem F2 (h:Ext β β') {x:AV} {v:Value} (e:γ β x=some v):γ β' x=some v:=by
 cases x with
 |tup l=>
  simp only[γ] at e ⊢
  cases hp:γt β l with
  |none=>simp[hp] at e
  |some vs=>rw[Ec h hp];simpa[hp] using e
 |c x=>exact Il (x:=.c x) h e
 |agg x=>exact Il (x:=.agg x) h e
 |any=>cases e
theorem U5:∀{l:List AC} {vs:List Value},γs β l=some vs↔vs.length=l.length/\∀(i:Nat) x,l[i]? =some x->∃u,vs[i]? =some u/\γc β x=some u
 | [],vs=>by
  constructor
  . intro h;simp[γs] at h;subst h;simp
  . rintro⟨h,_⟩;simp at h;subst h;rfl
 | x ::r,vs=>by
  constructor
  . intro h
    simp only[γs] at h
    cases hx:γc β x with
    |none=>simp[hx] at h
    | some u=>
     cases hr:γs β r with
     |none=>simp[hx,hr] at h
     |some us=>
      simp[hx,hr] at h;subst h;obtain⟨h1,h2⟩:=U5.1 hr;refine⟨by simp[h1],fun i y hy=>?_⟩
      cases i with
      |zero=>simp at hy;subst hy;exact⟨u,rfl,hx⟩
      |succ i=>simp at hy;simpa using h2 i y hy
  . rintro⟨h1,h2⟩
    cases vs with
    |nil=>simp at h1
    |cons u us=>
     obtain⟨u',hu,hx⟩:=h2 0 x rfl;simp at hu;subst hu;have hr:γs β r=some us:=U5.2 ⟨by simpa using h1,fun i y hy=>by simpa using h2 (i+1) y (by simpa using hy)⟩;simp only[γs];rw[hx,hr]
theorem SF {l:List AC} {vs:List Value} (h:γs β l=some vs):vs.length=l.length:=(U5.1 h).1
theorem Vo {l:List AC} {vs:List Value} (h:γs β l=some vs) {i:Nat} {x:AC} (hx:l[i]? =some x):∃u,vs[i]? =some u/\γc β x=some u:=(U5.1 h).2 i x hx
theorem CB {l l':List AC} {vs vs':List Value} (h:γs β l=some vs) (h':γs β l'=some vs'):γs β (l++l')=some (vs++vs'):=by
 rw[U5];refine⟨by simp[SF h,SF h'],fun i x hx=>?_⟩;by_cases hi:i<l.length
 . rw[List.getElem?_append_left hi] at hx
   rw[List.getElem?_append_left (by rw[SF h];exact hi)];exact Vo h hx
 . rw[List.getElem?_append_right (by omega)] at hx
   rw[List.getElem?_append_right (by rw[SF h];omega),SF h];exact Vo h' hx
theorem jjis {l:List AC} {vs:List Value} (h:γs β l=some vs) (n:Nat):γs β (l.drop n)=some (vs.drop n):=by
 rw[U5];refine⟨by simp[SF h],fun i x hx=>?_⟩;rw[List.getElem?_drop] at hx ⊢;exact Vo h hx
theorem jjiq {l:List AC} {vs:List Value} (h:γs β l=some vs) (n:Nat):γs β (l.take n)=some (vs.take n):=by
 rw[U5];refine⟨by simp[SF h],fun i x hx=>?_⟩;rw[List.getElem?_take] at hx ⊢;split at hx
 . rename_i hi;rw[if_pos hi];exact Vo h hx
 . cases hx
theorem V3:∀(l:List Value),γs β (l.map AC.v)=some l
 | []=>rfl
 |x::r=>by rw[List.map_cons];simp only[γs,γc];rw[V3 r]
theorem jjox (v:Value):γ β (Ae v)=some v:=by
 cases v<;>first
  |rfl
  | (rename_i cs
     simp[Ae,γ,γ1,V3])
theorem jjmp {x:AC} {u:Value} (h:AC.one x=true) (e:γc β x=some u):u.oneCell'=true:=by
 cases x with
 |v x=>cases e;exact h
 |ptr id k j=>simp only[γc] at e;split at e<;>simp at e;subst e;rfl
 | sl id k j len cap=>
  simp only[γc] at e;split at e
  . split at e
    . split at e<;>simp at e
      subst e;rfl
    . simp at e;subst e;rfl
  . cases e
 |fn f caps=>simp only[γc] at e;split at e<;>simp at e;subst e;rfl
 |yld id=>
  simp only[γc] at e;split at e
  . split at e<;>simp at e
    subst e;rfl
  . cases e
 |cap id k=>
  simp only[γc] at e;split at e
  . cases e;rfl
  . cases e
 |mv f id k j=>simp only[γc] at e;split at e<;>simp at e;subst e;rfl
theorem NH {l:List AC} {vs:List Value} (h:l.all AC.one=true) (e:γs β l=some vs):∀v∈vs,v.oneCell'=true:=by
 intro v hv;obtain⟨i,hi⟩:=List.getElem?_of_mem hv;have hlt:i<l.length:=by have:=(List.getElem?_eq_some_iff.1 hi).1;rw[SF e] at this;exact this
 obtain⟨u,hu,hg⟩:=Vo e (List.getElem?_eq_getElem hlt);rw[hi] at hu;cases hu;exact jjmp (List.all_eq_true.1 h _ (List.getElem_mem hlt)) hg
theorem Lo {x:AV} {l:List AC} {v:Value} (h:x.cells=some l) (e:γ β x=some v):∃vs,γs β l=some vs/\(vs.all (·.oneCell')=true->v.cells.toList=vs)/\((∃y,x= .c y/\l=[y]/\vs=[v])\/(x= .agg l/\v= .agg vs.toArray)):=by
 cases x with
 |c y=>
  cases h;have e':γc β y=some v:=e;refine⟨[v],by simp only[γs];rw[e'],fun h1=>?_,.inl ⟨y,rfl,rfl,rfl⟩⟩;simp at h1;cases v<;>first|rfl|(simp[Value.oneCell'] at h1)
 |agg l'=>
  cases h;simp only[γ,γ1] at e;split at e
  . rename_i vs hvs
    cases e;exact⟨vs,hvs,fun _=>by simp[Value.cells],.inr ⟨rfl,rfl⟩⟩
  . cases e
 |tup l=>cases h
 |any=>cases h
end
def FrOk (β:Nm) (tm:List AV) (tmps:Array Value):Prop:=
 tmps.size=tm.length/\∀(t:Nat) av,tm[t]? =some av->av= .any\/∃v,γ β av=some v/\tmps[t]? =some v
theorem FrOk.ext {β β':Nm} {tm:List AV} {tmps:Array Value} (h:FrOk β tm tmps) (e:Ext β β'):FrOk β' tm tmps:=
 ⟨h.1,fun t av ht=>(h.2 t av ht).imp id fun⟨v,h1,h2⟩=>⟨v,F2 e h1,h2⟩⟩
structure Ctx where
 w0:World
 base:Nat
 S:Nat->Prop
structure YV (C:Ctx) (β:Nm) (w:World) (L:Loc) (x:ABlk):Prop where
 sz:L.s=x.sz
 lit:∀l,x.cs= .lit l->x.sz=0
 cells:∀k j,x.inb k (j+1)=true->L.nil=false/\∃u,γc β (x.cs.get k j)=some u/\u.oneCell'=true/\w.cell? ⟨L.b,L.o+(k*L.s+j),none⟩=some u
 lt:L.nil=false->L.b<w.heap.size
 own:x.own=true->L.nil=false->L.o=0/\(C.base<=L.b\/C.S L.b)/\∃cs,w.heap[L.b]? =some (.cells cs x.ty (0,0))/\
  (x.row=true->cs.size=L.cap*x.sz/\0<x.sz/\∃n f,x.cs= .arr n f/\n<=L.cap/\L.cap<=maxLen)
 arrl:∀n f,x.cs= .arr n f->∀i,i<n->(f i).length=x.sz
 rowc:x.row=true->L.nil=false->∀n f,x.cs= .arr n f->n<=L.cap
def ObjOk (β:Nm) (w:World) (b:Nat):AObj->Prop
 | .loop st pd tm ps as bd dn=>∃(fn:FuncId) (tmps:Array Value) (D:Loc),FrOk β tm tmps/\β dn=some D/\D.nil=false/\
    w.heap[b]? =some (.loop {state:=st,pending:=pd,fn:=fn,tmps:=tmps,params:=ps,assign:=as,body:=bd,defers:=D.b})
 | .dfr op=>w.heap[b]? =some (.deferred (if op then some [] else none))
theorem ObjOk.keep {β β':Nm} {w w':World} {b:Nat} {o:AObj} (h:ObjOk β w b o) (he:Ext β β') (hh:w'.heap[b]? =w.heap[b]?):ObjOk β' w' b o:=by
 cases o with
 |loop st pd tm ps as bd dn=>
  obtain⟨fn,tmps,D,h1,h2,h3,h4⟩:=h;exact⟨fn,tmps,D,h1.ext he,he _ _ h2,h3,by rw[hh];exact h4⟩
 |dfr op=>show w'.heap[b]? =_;rw[hh];exact h
structure Rel (C:Ctx) (β:Nm) (m:AMem) (w:World):Prop where
 os:w.os=C.w0.os
 tape:w.tape=C.w0.tape
 output:w.output=C.w0.output
 size:C.w0.heap.size<=w.heap.size
 base:C.base<=C.w0.heap.size
 out:∀b,b<C.base->¬C.S b->w.heap[b]? =C.w0.heap[b]?
 blk:∀id x,ZY m id=some x->∃L,β id=some L/\YV C β w L x
 sep:∀id id' x x' L L',ZY m id=some x->ZY m id'=some x'->id≠id'->x.own=true->β id=some L->β id'=some L'->L.nil=false->L'.nil=false->L.b≠L'.b
 glob:∀g L,β (Z2 g)=some L->L.b=g/\L.o=0/\L.s=0/\L.nil=false
 objs:∀id x o,ZY m id=some x->x.cs= .obj o->∃L,β id=some L/\L.nil=false/\(C.base<=L.b\/C.S L.b)/\ObjOk β w L.b o/\
  ∀id' x' L',id'≠id->ZY m id'=some x'->β id'=some L'->L'.nil=false->L'.b≠L.b
def Sub (m m2:AMem):Prop:=∀id x,ZY m id=some x->ZY m2 id=some x
theorem Sub.refl (m:AMem):Sub m m:=fun _ _ h=>h
theorem Sub.trans {a b c:AMem} (h:Sub a b) (k:Sub b c):Sub a c:=fun id x e=>k id x (h id x e)
theorem Rel.weaken {C:Ctx} {β:Nm} {m m2:AMem} {w:World} (h:Rel C β m2 w) (hs:Sub m m2):Rel C β m w:=
 ⟨h.os,h.tape,h.output,h.size,h.base,h.out,fun id x e=>h.blk id x (hs id x e),fun id id' x x' L L' e e' hne ho=>h.sep id id' x x' L L' (hs _ _ e) (hs _ _ e') hne ho,h.glob,
  fun id x o e ho=>by
   obtain⟨L,h1,h2,h3,h4,h5⟩:=h.objs id x o (hs _ _ e) ho
   exact⟨L,h1,h2,h3,h4,fun id' x' L' g1 g2=>h5 id' x' L' g1 (hs _ _ g2)⟩⟩
theorem VK (i:Nat) (b:ABlk) (r:AMem) (id:Nat):ZY ((i,b)::r) id=match Nat.beq i id with|true=>some b|false=>ZY r id:=rfl
theorem TV (m n:AMem) (id:Nat):ZY (m++n) id=match ZY m id with|some x=>some x|none=>ZY n id:=by
 induction m with
 |nil=>rfl
 |cons h t ih=>
  obtain⟨i,b⟩:=h;rw[List.cons_append,VK,VK]
  cases Nat.beq i id with
  |true=>rfl
  |false=>exact ih
theorem P1 (m:AMem) (id id':Nat) (b:ABlk) (x:ABlk) (h:ZY m id=some x):ZY (Xz m id b) id'=if id'=id then some b else ZY m id':=by
 induction m with
 |nil=>cases h
 | cons y t ih=>
  obtain⟨i,z⟩:=y;simp only[Xz];rw[VK] at h
  cases hb:Nat.beq i id with
  |true=>
   have hi:i=id:=Nat.eq_of_beq_eq_true hb;subst hi;simp only[VK];by_cases e:id'=i
   . subst e;rw[hb];simp
   . have:Nat.beq i id'=false:=by
      cases h':Nat.beq i id' with
      |true=>exact absurd (Nat.eq_of_beq_eq_true h').symm e
      |false=>rfl
     rw[this];simp[e]
  | false=>
   rw[hb] at h;simp only[VK]
   cases hb':Nat.beq i id' with
   |true=>
    have hi:i=id':=Nat.eq_of_beq_eq_true hb';subst hi;have:i≠id:=fun e=>by subst e;rw[hb'] at hb;cases hb
    simp[this]
   |false=>simpa using ih h
theorem Tz {C:Ctx} {β:Nm} {tm:List AV} {m m2:AMem} {w:World} {a:Act} {x:Operand} {av:AV} (hf:FrOk β tm a.tmps) (hr:Rel C β m2 w) (hs:Sub m m2) (h:WE tm m x=some av):
 av= .any\/γ β av=some (a.eval x):=by
 cases x with
 |tmp t=>
  simp only[WE] at h;rcases hf.2 t av h with h1|⟨v,h1,h2⟩
  . exact .inl h1
  . exact .inr (by rw[h1];simp[Act.eval,h2])
 |const v=>simp only[WE,Option.some.injEq] at h;subst h;exact .inr (jjox v)
 |global g=>
  simp only[WE] at h;split at h
  . rename_i x hx
    simp only[Option.some.injEq] at h;subst h;obtain⟨L,hL,_⟩:=hr.blk _ _ (hs _ _ hx);obtain⟨h1,h2,h3,h4⟩:=hr.glob g L hL;refine .inr ?_;simp[γ,γ1,γc,ad,hL,h1,h2,h3,h4,Act.eval]
  . cases h
 |func f=>simp only[WE,Option.some.injEq] at h;subst h;exact .inr rfl
end Go.Proofs.YtljeokninakliaaGreatDoor
end
section
namespace Go.Proofs.YtljeokninakliaaGreatDoor
open Go.RowKit
theorem Rz {kd:Kd} {x:AC} (h:Z5 kd x=true):tl kd x=x:=by
 cases kd with
 |any=>rfl
 |b=>
  cases x with
  |v x=>cases x<;>first|rfl|simp[Z5] at h
  |_=>simp[Z5] at h
 | i k=>
  cases x with
  |v x=>
   cases x<;>simp[Z5] at h
   subst h;rfl
  |_=>simp[Z5] at h
theorem NP {x:ABlk} {k j j':Nat} (h:x.inb k j=true) (hj:j'<=j):x.inb k j'=true:=by
 unfold ABlk.inb at *;split at h<;>simp_all<;>omega
def ZZ (l:List Bool):Prop:=∀b∈l,b=true
theorem Vm {b:Bool} {l:List Bool}:ZZ (b::l)↔b=true/\ZZ l:=by simp[ZZ]
theorem Cz {l l':List Bool}:ZZ (l++l')↔ZZ l/\ZZ l':=by
 constructor
 . exact fun h=>⟨fun b hb=>h b (by simp[hb]),fun b hb=>h b (by simp[hb])⟩
 . rintro⟨h1,h2⟩ b hb
   rcases List.mem_append.1 hb with h|h
   . exact h1 b h
   . exact h2 b h
section
variable {C:Ctx} {β β':Nm} {m:AMem} {w w':World} {L:Loc} {x:ABlk}
theorem Nk (cs:Cs) (k:Nat):∀(ks:List Kd) (j:Nat),(rd cs k j ks).length=ks.length
 | [],_=>rfl
 |_::r,j=>by simp[rd,Nk cs k r (j+1)]
theorem NS (hb:YV C β w L x) {k:Nat}:∀(ks:List Kd) (j:Nat),x.inb k (j+ks.length)=true->ZZ (K0 x.cs k j ks)->
 ∃vs,γs β (rd x.cs k j ks)=some vs/\∀(i:Nat) u,vs[i]? =some u->u.oneCell'=true/\w.cell? ⟨L.b,L.o+(k*L.s+(j+i)),none⟩=some u
 | [],j,_,_=>⟨[],rfl,fun i u h=>by simp at h⟩
 | kd::r,j,hi,ho=>by
  have hi':x.inb k (j+1+r.length)=true:=NP hi (by simp<;>omega)
  have ho2:ZZ (K0 x.cs k (j+1) r)/\Z5 kd (x.cs.get k j)=true:=by
   cases kd with
   |any=>exact⟨ho,rfl⟩
   |b=>simp only[K0] at ho;rw[Vm] at ho;exact⟨ho.2,ho.1⟩
   |i q=>simp only[K0] at ho;rw[Vm] at ho;exact⟨ho.2,ho.1⟩
  obtain⟨vs,h1,h2⟩:=NS hb r (j+1) hi' ho2.1;obtain⟨_,u,hu,h3,h4⟩:=hb.cells k j (NP hi (by simp<;>omega));refine⟨u::vs,?_,fun i v hv=>?_⟩
  . simp only[rd,γs]
    rw[Rz ho2.2,hu,h1]
  . cases i with
    |zero=>simp at hv;subst hv;exact⟨h3,h4⟩
    |succ i=>
     simp at hv;have:=h2 i v hv
     rwa[show j+1+i=j+(i+1) by omega] at this
theorem jjol {id k j:Nat} {a:Addr} (h:ad β id k j=some a):∃L,β id=some L/\L.nil=false/\a=⟨L.b,L.o+(k*L.s+j),none⟩:=by
 unfold ad at h;split at h
 . rename_i L hL
   split at h
   . cases h
   . rename_i hn
     cases h;exact⟨L,hL,by simpa using hn,rfl⟩
 . cases h
theorem YV.keep (hb:YV C β w L x) (he:Ext β β') (hs:w.heap.size<=w'.heap.size) (hh:L.nil=false->w'.heap[L.b]? =w.heap[L.b]?):YV C β' w' L x:=
 ⟨hb.sz,hb.lit,fun k j hi=>by
  obtain⟨hn,u,h1,h2,h3⟩:=hb.cells k j hi;refine⟨hn,u,Pa he h1,h2,?_⟩;rw[<- h3];exact World.cell?_of_block (hh hn),fun hn=>by have:=hb.lt hn;omega,fun ho hn=>by
  obtain⟨h1,h2,cs,h3,h4⟩:=hb.own ho hn
  exact⟨h1,h2,cs,by rw[hh hn];exact h3,h4⟩,hb.arrl,hb.rowc⟩
theorem Rel.keepAll (h:Rel C β m w) (hos:w'.os=w.os) (ht:w'.tape=w.tape) (hou:w'.output=w.output) (hs:w.heap.size<=w'.heap.size) (hh:∀b,b<w.heap.size->w'.heap[b]? =w.heap[b]?):Rel C β m w':=
 ⟨hos.trans h.os,ht.trans h.tape,hou.trans h.output,Nat.le_trans h.size hs,h.base,fun b h1 h2=>by rw[hh b (by have:=h.size;have:=h.base;omega)];exact h.out b h1 h2,
  fun id x e=>by
   obtain⟨L,hL,hb⟩:=h.blk id x e;exact⟨L,hL,hb.keep (Ext.refl β) hs (fun hn=>hh _ (hb.lt hn))⟩,
  h.sep,h.glob,fun id x o e ho=>by
   obtain⟨L,h1,h2,h3,h4,h5⟩:=h.objs id x o e ho;obtain⟨L',hL',hb⟩:=h.blk id x e;rw[h1] at hL';cases hL'
   exact⟨L,h1,h2,h3,h4.keep (Ext.refl β) (hh _ (hb.lt h2)),h5⟩⟩
theorem Rel.below (h:Rel C β m w) (hb:Below w.heap.size w w'):Rel C β m w':=h.keepAll hb.os hb.tape hb.output hb.size hb.block
def ZU (β:Nm) (id:Nat) (L:Loc):Nm:=fun i=>if i=id then some L else β i
theorem Wq {id:Nat} (h:β id=none):Ext β (ZU β id L):=fun i M e=>by
 unfold ZU;split
 . rename_i hi;subst hi;rw[h] at e;cases e
 . exact e
theorem W9 {id:Nat}:ZU β id L id=some L:=by simp[ZU]
theorem jjgb {l:List AC} {vs:List Value} (hg:γs β l=some vs) (h1:∀v∈vs,v.oneCell'=true) (b:Nat) (t:TypeId) (hb:w.heap[b]? =some (.cells vs.toArray t (0,0))):
 ∀k j,(⟨true,false,t,0,.lit l⟩:ABlk).inb k (j+1)=true->∃u,γc β ((Cs.lit l).get k j)=some u/\u.oneCell'=true/\w.cell? ⟨b,0+(k*0+j),none⟩=some u:=by
 intro k j hi;simp[ABlk.inb] at hi;have hj:j<l.length:=by omega
 obtain⟨u,hu,hc⟩:=Vo hg (List.getElem?_eq_getElem hj);refine⟨u,?_,h1 u (List.mem_of_getElem? hu),?_⟩
 . simp only[Cs.get,List.getD]
   rw[List.getElem?_eq_getElem hj];exact hc
 . rw[cell_of_row w b _ vs.toArray t (0,0) hb]
   simpa using hu
theorem Rel.new (h:Rel C β m w) {id:Nat} (hid:β id=none) (hg:∀g,id≠Z2 g) {l:List AC} {vs:List Value} (hl:γs β l=some vs) (h1:∀v∈vs,v.oneCell'=true) (t:TypeId):
 Rel C (ZU β id ⟨w.heap.size,0,0,0,false⟩) (m++[(id,⟨true,false,t,0,.lit l⟩)]) (w.alloc (.cells vs.toArray t)):=by
 have hnew:(w.alloc (.cells vs.toArray t)).heap[w.heap.size]? =some (.cells vs.toArray t (0,0)):=by show (w.heap.push _)[w.heap.size]? =_;simp
 have hold:∀b,b<w.heap.size->(w.alloc (.cells vs.toArray t)).heap[b]? =w.heap[b]?:=fun b hb=>Qq _ hb
 have hsz:w.heap.size<=(w.alloc (.cells vs.toArray t)).heap.size:=by simp
 have he:Ext β (ZU β id ⟨w.heap.size,0,0,0,false⟩):=Wq hid
 have hno:ZY m id=none:=by
  cases e:ZY m id with
  |none=>rfl
  |some x=>obtain⟨L,hL,_⟩:=h.blk id x e;rw[hid] at hL;cases hL
 have hlk:∀i x,ZY (m++[(id,⟨true,false,t,0,.lit l⟩)]) i=some x->(ZY m i=some x/\i≠id)\/(i=id/\x=⟨true,false,t,0,.lit l⟩):=by
  intro i x e;rw[TV] at e
  cases e':ZY m i with
  |some y=>
   rw[e'] at e;cases e;exact .inl ⟨rfl,fun h'=>by subst h';rw[hno] at e';cases e'⟩
  |none=>
   rw[e'] at e;simp only[VK] at e
   cases hb:Nat.beq id i with
   |true=>rw[hb] at e;cases e;exact .inr ⟨(Nat.eq_of_beq_eq_true hb).symm,rfl⟩
   |false=>rw[hb] at e;cases e
 refine⟨h.os,h.tape,h.output,Nat.le_trans h.size hsz,h.base,fun b h1 h2=>by rw[hold b (by have:=h.size;have:=h.base;omega)];exact h.out b h1 h2,fun i x e=>?_,?_,?_,?_⟩
 . rcases hlk i x e with⟨e1,hne⟩|⟨rfl,rfl⟩
   . obtain⟨L,hL,hb⟩:=h.blk i x e1
     exact⟨L,he i L hL,hb.keep he hsz (fun hn=>hold _ (hb.lt hn))⟩
   . refine⟨_,W9,rfl,fun _ _=>rfl,fun k j hi=>⟨rfl,?_⟩,fun _=>by simp,fun _ _=>⟨rfl,.inl ?_,_,hnew,fun h=>by cases h⟩,fun _ _ h=>(by cases h),fun h=>by cases h⟩
     . exact jjgb (LE he hl) h1 _ t hnew k j hi
     . have:=h.size;have:=h.base;simp;omega
 . intro i i' x x' L L' e e' hne ho hL hL' hn hn'
   rcases hlk i x e with⟨e1,h1⟩|⟨rfl,rfl⟩
   . rcases hlk i' x' e' with⟨e2,h2⟩|⟨rfl,rfl⟩
     . simp only[ZU,h1,h2,if_false] at hL hL'
       exact h.sep i i' x x' L L' e1 e2 hne ho hL hL' hn hn'
     . simp only[ZU,h1,if_false,if_true] at hL hL'
       cases hL';obtain⟨M,hM,hb⟩:=h.blk i x e1;rw[hM] at hL;cases hL;have:=hb.lt hn;simp;omega
   . rcases hlk i' x' e' with⟨e2,h2⟩|⟨rfl,rfl⟩
     . simp only[ZU,h2,if_false,if_true] at hL hL'
       cases hL;obtain⟨M,hM,hb⟩:=h.blk i' x' e2;rw[hM] at hL';cases hL';have:=hb.lt hn';simp;omega
     . exact absurd rfl hne
 . intro g L e
   have:Z2 g≠id:=fun e=>hg g e.symm
   simp only[ZU,this,if_false] at e;exact h.glob g L e
 . intro i x o e ho
   rcases hlk i x e with⟨e1,hne⟩|⟨rfl,rfl⟩
   . obtain⟨L,h1,h2,h3,h4,h5⟩:=h.objs i x o e1 ho
     obtain⟨L',hL',hb⟩:=h.blk i x e1;rw[h1] at hL';cases hL';refine⟨L,he i L h1,h2,h3,h4.keep he (hold _ (hb.lt h2)),fun i' x' M g1 g2 g3 g4=>?_⟩;rcases hlk i' x' g2 with⟨e2,hne2⟩|⟨rfl,rfl⟩
     . simp only[ZU,hne2,if_false] at g3
       exact h5 i' x' M g1 e2 g3 g4
     . simp only[ZU,if_true] at g3
       cases g3;have:=hb.lt h2;simp;omega
   . cases ho
theorem KY:∀(vs l:List AC) (j:Nat),(YD l j vs).length=l.length
 | [],_,_=>rfl
 |x::r,l,j=>by simp only[YD,DA];rw[KY r _ _];simp
theorem Sb:∀(vs l:List AC) (j i:Nat),j+vs.length<=l.length->(YD l j vs)[i]? =if j<=i/\i<j+vs.length then vs[i-j]? else l[i]?
 | [],l,j,i,_=>by simp[YD];omega
 |x::r,l,j,i,h=>by
  simp only[List.length_cons] at h;simp only[YD,DA];rw[Sb r _ _ i (by simp;omega)];simp only[List.length_cons];by_cases h1:j+1<=i/\i<j+1+r.length
  . rw[if_pos h1,if_pos ⟨by omega,by omega⟩,show i-j=(i-(j+1))+1 by omega];rfl
  . rw[if_neg h1]
    by_cases h2:i=j
    . subst h2
      rw[if_pos ⟨by omega,by omega⟩];simp[show i<l.length by omega]
    . rw[if_neg (by omega)]
      simp[List.getElem?_set,show ¬j=i by omega]
theorem Cl {b o:Nat} {us:List Value} {cs:Array Value} {t:TypeId} (hb:w.heap[b]? =some (.cells cs t (0,0))):(put w b o us).heap[b]? =some (.cells (Y1 cs.toList o us).toArray t (0,0)):=by
 simp only[put,Array.getElem?_modify,if_true,hb,Option.map_some]
theorem OT {b o:Nat} {us:List Value} {b':Nat} (h:b'≠b):(put w b o us).heap[b']? =w.heap[b']?:=by
 simp only[put,Array.getElem?_modify];rw[if_neg (fun e=>h e.symm)]
theorem NL {b i:Nat} {cs:Array Value} {t:TypeId} {u:Value} (hb:w.heap[b]? =some (.cells cs t (0,0))) (h:w.cell? ⟨b,i,none⟩=some u):i<cs.size:=by
 rw[cell_of_row w b i cs t (0,0) hb] at h;exact(Array.getElem?_eq_some_iff.1 h).1
theorem jjg4 {k k' s j j' n:Nat} (hk:k'≠k) (hj:j+n<=s) (hj':j'<s):¬(k*s+j<=k'*s+j'/\k'*s+j'<k*s+j+n):=by
 rintro⟨h1,h2⟩;rcases Nat.lt_or_ge k' k with h|h
 . have:=Nat.mul_le_mul_right s (show k'+1<=k by omega)
   rw[Nat.succ_mul] at this;omega
 . have:=Nat.mul_le_mul_right s (show k+1<=k' by omega)
   rw[Nat.succ_mul] at this;omega
theorem Rel.putM (h:Rel C β m w) {id k j:Nat} (hx:ZY m id=some x) (ho:x.own=true) (hL:β id=some L) (hn:L.nil=false) {vs:List AC} {us:List Value} (hg:γs β vs=some us) (h1:∀v∈us,v.oneCell'=true)
 (hi:x.inb k (j+vs.length)=true) (h0:0<vs.length):
 Rel C β (Xz m id {x with cs:=x.cs.put k j vs}) (put w L.b (L.o+(k*L.s+j)) us):=by
 obtain⟨L',hL',hb⟩:=h.blk id x hx;rw[hL] at hL';cases hL';obtain⟨ho0,hown,cs,hheap,hrow⟩:=hb.own ho hn;have hlen:=hb.arrl;have hul:us.length=vs.length:=SF hg
 have hin:∀i,i<vs.length->k*L.s+(j+i)<cs.size:=fun i hi'=>by
  obtain⟨_,u,_,_,hc⟩:=hb.cells k (j+i) (NP hi (by omega));have:=NL hheap hc;omega
 have hbd:L.o+(k*L.s+j)+us.length<=cs.toList.length:=by
  have:=hin (vs.length-1) (by omega);simp;omega
 have hsame:(Y1 cs.toList (L.o+(k*L.s+j)) us).toArray.size=cs.size:=by simp[La hbd]
 have hother:∀i y M,ZY m i=some y->i≠id->β i=some M->M.nil=false->M.b≠L.b:=fun i y M e hne hM hMn=>
  (h.sep id i x y L M hx e (fun e=>hne e.symm) ho hL hM hn hMn).symm
 have hsize:(put w L.b (L.o+(k*L.s+j)) us).heap.size=w.heap.size:=YE us;have hlk:∀i,ZY (Xz m id {x with cs:=x.cs.put k j vs}) i=if i=id then some {x with cs:=x.cs.put k j vs} else ZY m i:=fun i=>P1 m id i _ x hx
 refine⟨h.os,h.tape,h.output,by rw[hsize];exact h.size,h.base,fun b hb1 hb2=>?_,fun i y e=>?_,?_,h.glob,fun i y o e ho'=>?_⟩
 . have:b≠L.b:=fun e=>by
    subst e;rcases hown with h'|h'
    . omega
    . exact hb2 h'
   rw[OT this];exact h.out b hb1 hb2
 . rw [hlk i] at e
   by_cases hii:i=id
   . subst hii
     rw[if_pos rfl] at e;cases e;have hh:=Cl (o:=L.o+(k*L.s+j)) (us:=us) hheap;refine⟨L,hL,hb.sz,fun l hl=>?_,fun k' j' hi'=>⟨hn,?_⟩,fun _=>by rw[hsize];exact hb.lt hn,fun _ _=>⟨ho0,hown,_,hh,fun hrw=>?_⟩,fun n f hf i hi'=>?_,fun h1 h2 n f hf=>?_⟩
     . cases hcs:x.cs with
       |lit l0=>exact hb.lit l0 hcs
       |arr n f=>rw[hcs] at hl;cases hl
       |obj o=>rw[hcs] at hl;cases hl
     . have key:∀(i:Nat),L.o+(k'*L.s+j')=i->(put w L.b (L.o+(k*L.s+j)) us).cell? ⟨L.b,i,none⟩=(Y1 cs.toList (L.o+(k*L.s+j)) us)[i]?:=fun i _=>by
        rw[cell_of_row _ L.b i _ _ (0,0) hh];simp
       rw[key _ rfl];rw[Qx hbd]
       cases hcs:x.cs with
       |lit l0=>
        have hs0:=hb.lit l0 hcs;have hLs:L.s=0:=hb.sz.trans hs0;have hi2:k*x.sz+(j+vs.length)<=l0.length:=by simpa[ABlk.inb,hcs] using hi
        simp only[hs0,Nat.mul_zero,Nat.zero_add] at hi2;simp only[ABlk.inb,hcs,Cs.put,KY,decide_eq_true_eq,hs0,Nat.mul_zero,Nat.zero_add] at hi';simp only[Cs.put,Cs.get,List.getD,hLs,ho0,Nat.mul_zero,Nat.zero_add];rw[Sb vs l0 j j' hi2,hul];by_cases hin':j<=j'/\j'<j+vs.length
        . rw[if_pos hin',if_pos hin']
          have hlt:j'-j<vs.length:=by omega
          obtain⟨u,hu,hc⟩:=Vo hg (List.getElem?_eq_getElem hlt);rw[List.getElem?_eq_getElem hlt];exact⟨u,hc,h1 u (List.mem_of_getElem? hu),hu⟩
        . rw[if_neg hin',if_neg hin']
          obtain⟨_,u,hc,hu1,hcell⟩:=hb.cells k' j' (by simp[ABlk.inb,hcs,hs0];omega);refine⟨u,?_,hu1,?_⟩
          . rw[hcs] at hc;exact hc
          . rw[cell_of_row w L.b _ cs _ (0,0) hheap,hLs,ho0] at hcell
            simpa using hcell
       |obj o=>simp[ABlk.inb,hcs] at hi
       |arr n f=>
        have hi2:k<n/\j+vs.length<=x.sz:=by simpa[ABlk.inb,hcs] using hi
        have hi3:k'<n/\j'+1<=x.sz:=by simpa[ABlk.inb,hcs,Cs.put] using hi'
        simp only[Cs.put,Cs.get,List.getD,ho0,Nat.zero_add];by_cases hkk:k'=k
        . subst hkk
          rw[if_pos rfl,Sb vs (f k') j j' (by rw[hlen n f hcs k' hi2.1];exact hi2.2),hul];by_cases hin':j<=j'/\j'<j+vs.length
          . rw[if_pos hin',if_pos ⟨by omega,by omega⟩]
            have hlt:j'-j<vs.length:=by omega
            obtain⟨u,hu,hc⟩:=Vo hg (List.getElem?_eq_getElem hlt);rw[List.getElem?_eq_getElem hlt,show k'*L.s+j'-(k'*L.s+j)=j'-j by omega];exact⟨u,hc,h1 u (List.mem_of_getElem? hu),hu⟩
          . rw[if_neg hin',if_neg (by omega)]
            obtain⟨_,u,hc,hu1,hcell⟩:=hb.cells k' j' (by simp[ABlk.inb,hcs];omega);refine⟨u,?_,hu1,?_⟩
            . rw[hcs] at hc;exact hc
            . rw[cell_of_row w L.b _ cs _ (0,0) hheap,ho0] at hcell
              simpa using hcell
        . rw[if_neg hkk,if_neg (by rw[hul];exact jjg4 hkk (by rw[hb.sz];exact hi2.2) (by rw[hb.sz];omega))]
          obtain⟨_,u,hc,hu1,hcell⟩:=hb.cells k' j' (by simp[ABlk.inb,hcs];omega);refine⟨u,?_,hu1,?_⟩
          . rw[hcs] at hc;exact hc
          . rw[cell_of_row w L.b _ cs _ (0,0) hheap,ho0] at hcell
            simpa using hcell
     . obtain⟨r1,r2,n,f,r3,r4⟩:=hrow hrw
       exact⟨by rw[hsame];exact r1,r2,n,fun i=>if i=k then YD (f i) j vs else f i,by simp only[Cs.put,r3],r4⟩
     . cases hcs:x.cs with
       |lit l0=>rw[hcs] at hf;cases hf
       |obj o=>rw[hcs] at hf;cases hf
       |arr n0 f0=>
        rw[hcs] at hf;simp only[Cs.put,Cs.arr.injEq] at hf;obtain⟨rfl,rfl⟩:=hf;have:=hlen n0 f0 hcs i hi';by_cases e:i=k
        . simp only[e,if_true];rw[KY];rw[<- e];exact this
        . simp only[e,if_false];exact this
     . cases hcs:x.cs with
       |lit l0=>rw[hcs] at hf;cases hf
       |obj o=>rw[hcs] at hf;cases hf
       |arr n0 f0=>
        rw[hcs] at hf;simp only[Cs.put,Cs.arr.injEq] at hf;obtain⟨rfl,rfl⟩:=hf;exact hb.rowc h1 h2 n0 f0 hcs
   . rw[if_neg hii] at e
     obtain⟨M,hM,hbM⟩:=h.blk i y e;exact⟨M,hM,hbM.keep (Ext.refl β) (by rw[hsize];exact Nat.le_refl _) (fun hMn=>OT (hother i y M e hii hM hMn))⟩
 . intro i i' y y' M M' e e' hne hyo hM hM' hMn hMn'
   rw[hlk] at e e';by_cases h1:i=id
   . subst h1
     rw[if_pos rfl] at e;rw[if_neg (fun e=>hne e.symm)] at e';exact h.sep i i' x y' M M' hx e' hne ho hM hM' hMn hMn'
   . rw[if_neg h1] at e
     by_cases h2:i'=id
     . subst h2
       rw[if_pos rfl] at e';exact h.sep i i' y x M M' e hx hne hyo hM hM' hMn hMn'
     . rw[if_neg h2] at e'
       exact h.sep i i' y y' M M' e e' hne hyo hM hM' hMn hMn'
 . rw[hlk] at e
   by_cases h1:i=id
   . subst h1
     rw[if_pos rfl] at e;cases e
     cases hcs:x.cs with
     |lit l0=>rw[hcs] at ho';cases ho'
     |arr n f=>rw[hcs] at ho';cases ho'
     |obj o=>simp[ABlk.inb,hcs] at hi
   . rw[if_neg h1] at e
     obtain⟨M,k1,k2,k3,k4,k5⟩:=h.objs i y o e ho';refine⟨M,k1,k2,k3,k4.keep (Ext.refl β) (OT (hother i y M e h1 k1 k2)),fun i' x' M' g1 g2 g3 g4=>?_⟩;rw[hlk] at g2;by_cases h2:i'=id
     . subst h2
       exact k5 i' x M' g1 hx g3 g4
     . rw[if_neg h2] at g2
       exact k5 i' x' M' g1 g2 g3 g4
def putO (w:World) (b:Nat) (o:Obj):World:={w with heap:=w.heap.setIfInBounds b o}
theorem jjg3 {b:Nat} {o:Obj} (h:b<w.heap.size):(putO w b o).heap[b]? =some o:=by simp[putO,h]
theorem jjdh {b k:Nat} {o:Obj} (h:k≠b):(putO w b o).heap[k]? =w.heap[k]?:=by simp[putO,Array.getElem?_setIfInBounds_ne (Ne.symm h)]
theorem jjg2 {b:Nat} {o:Obj}:(putO w b o).heap.size=w.heap.size:=by simp[putO]
theorem Rel.newO (h:Rel C β m w) {id:Nat} (hid:β id=none) (hg:∀g,id≠Z2 g) {o:AObj} {ob:Obj} (ho:∀w',w'.heap[w.heap.size]? =some ob->ObjOk β w' w.heap.size o):
 Rel C (ZU β id ⟨w.heap.size,0,0,0,false⟩) (m++[(id,Xx o)]) (w.alloc ob):=by
 have hnew:(w.alloc ob).heap[w.heap.size]? =some ob:=by show (w.heap.push _)[w.heap.size]? =_;simp
 have hold:∀b,b<w.heap.size->(w.alloc ob).heap[b]? =w.heap[b]?:=fun b hb=>Qq _ hb
 have hsz:w.heap.size<=(w.alloc ob).heap.size:=by simp
 have he:Ext β (ZU β id ⟨w.heap.size,0,0,0,false⟩):=Wq hid
 have hno:ZY m id=none:=by
  cases e:ZY m id with
  |none=>rfl
  |some x=>obtain⟨L,hL,_⟩:=h.blk id x e;rw[hid] at hL;cases hL
 have hlk:∀i x,ZY (m++[(id,Xx o)]) i=some x->(ZY m i=some x/\i≠id)\/(i=id/\x=Xx o):=by
  intro i x e;rw[TV] at e
  cases e':ZY m i with
  |some y=>
   rw[e'] at e;cases e;exact .inl ⟨rfl,fun h'=>by subst h';rw[hno] at e';cases e'⟩
  |none=>
   rw[e'] at e;simp only[VK] at e
   cases hb:Nat.beq id i with
   |true=>rw[hb] at e;cases e;exact .inr ⟨(Nat.eq_of_beq_eq_true hb).symm,rfl⟩
   |false=>rw[hb] at e;cases e
 have hlt:∀i x M,ZY m i=some x->β i=some M->M.nil=false->M.b<w.heap.size:=fun i x M e hM hn=>by
  obtain⟨M',hM',hb⟩:=h.blk i x e;rw[hM] at hM';cases hM';exact hb.lt hn
 refine⟨h.os,h.tape,h.output,Nat.le_trans h.size hsz,h.base,fun b h1 h2=>by rw[hold b (by have:=h.size;have:=h.base;omega)];exact h.out b h1 h2,fun i x e=>?_,?_,?_,?_⟩
 . rcases hlk i x e with⟨e1,hne⟩|⟨rfl,rfl⟩
   . obtain⟨L,hL,hb⟩:=h.blk i x e1
     exact⟨L,he i L hL,hb.keep he hsz (fun hn=>hold _ (hb.lt hn))⟩
   . exact⟨_,W9,rfl,fun _ _=>rfl,fun k j hi=>(by simp[ABlk.inb,Xx] at hi),fun _=>(by simp),fun h=>(by cases h),fun _ _ h=>(by cases h),fun h=>(by cases h)⟩
 . intro i i' x x' L L' e e' hne ho hL hL' hn hn'
   rcases hlk i x e with⟨e1,h1⟩|⟨rfl,rfl⟩
   . rcases hlk i' x' e' with⟨e2,h2⟩|⟨rfl,rfl⟩
     . simp only[ZU,h1,h2,if_false] at hL hL'
       exact h.sep i i' x x' L L' e1 e2 hne ho hL hL' hn hn'
     . simp only[ZU,h1,if_false,if_true] at hL hL'
       cases hL';have:=hlt i x L e1 hL hn;simp;omega
   . cases ho
 . intro g L e
   have:Z2 g≠id:=fun e=>hg g e.symm
   simp only[ZU,this,if_false] at e;exact h.glob g L e
 . intro i x o' e ho'
   rcases hlk i x e with⟨e1,hne⟩|⟨rfl,rfl⟩
   . obtain⟨L,h1,h2,h3,h4,h5⟩:=h.objs i x o' e1 ho'
     have hL:=hlt i x L e1 h1 h2;refine⟨L,he i L h1,h2,h3,h4.keep he (hold _ hL),fun i' x' M g1 g2 g3 g4=>?_⟩;rcases hlk i' x' g2 with⟨e2,hne2⟩|⟨rfl,rfl⟩
     . simp only[ZU,hne2,if_false] at g3
       exact h5 i' x' M g1 e2 g3 g4
     . simp only[ZU,if_true] at g3
       cases g3;simp;omega
   . cases ho'
     refine⟨_,W9,rfl,.inl (by have:=h.size;have:=h.base;simp;omega),(ho _ hnew).keep he rfl,fun i' x' M g1 g2 g3 g4=>?_⟩;rcases hlk i' x' g2 with⟨e2,hne2⟩|⟨rfl,rfl⟩
     . simp only[ZU,hne2,if_false] at g3
       have:=hlt i' x' M e2 g3 g4;simp;omega
     . exact absurd rfl g1
theorem Rel.putO (h:Rel C β m w) {id:Nat} {o0 o:AObj} (hx:ZY m id=some x) (hc:x.cs= .obj o0) {L:Loc} (hL:β id=some L) {ob:Obj} (ho:∀w',w'.heap[L.b]? =some ob->ObjOk β w' L.b o):
 Rel C β (Xz m id {x with cs:=.obj o}) (putO w L.b ob):=by
 obtain⟨L0,k1,k2,k3,k4,k5⟩:=h.objs id x o0 hx hc;rw[hL] at k1;cases k1;obtain⟨M',hM',hbx⟩:=h.blk id x hx;rw[hL] at hM';cases hM';have hlt:L.b<w.heap.size:=hbx.lt k2
 have hno:x.own=true->False:=fun ho'=>by
  obtain⟨_,_,cs,hcs,_⟩:=hbx.own ho' k2
  cases o0 with
  |loop st pd tm ps as bd dn=>obtain⟨_,_,_,_,_,_,h4⟩:=k4;rw[hcs] at h4;cases h4
  |dfr op=>have h4:w.heap[L.b]? =_:=k4;rw[hcs] at h4;cases h4
 have hsize:(Go.Proofs.YtljeokninakliaaGreatDoor.putO w L.b ob).heap.size=w.heap.size:=jjg2;have hlk:∀i,ZY (Xz m id {x with cs:=.obj o}) i=if i=id then some {x with cs:=.obj o} else ZY m i:=fun i=>P1 m id i _ x hx
 have hsame:=jjg3 (o:=ob) hlt;have hother:∀b,b≠L.b->(Go.Proofs.YtljeokninakliaaGreatDoor.putO w L.b ob).heap[b]? =w.heap[b]?:=fun b hb=>jjdh hb
 refine⟨h.os,h.tape,h.output,by rw[hsize];exact h.size,h.base,fun b h1 h2=>?_,fun i y e=>?_,?_,h.glob,fun i y o' e ho'=>?_⟩
 . rw[hother b (fun e=>by
    subst e;rcases k3 with h'|h'
    . omega
    . exact h2 h')]
   exact h.out b h1 h2
 . rw[hlk] at e
   by_cases hi:i=id
   . subst hi
     rw[if_pos rfl] at e;cases e;exact⟨L,hL,hbx.sz,fun l hl=>(by cases hl),fun k j hi=>(by simp[ABlk.inb] at hi),fun _=>(by rw[hsize];exact hlt),fun h _=>(hno h).elim,fun _ _ h=>(by cases h),fun _ _ _ _ h=>(by cases h)⟩
   . rw[if_neg hi] at e
     obtain⟨M,hM,hbM⟩:=h.blk i y e;exact⟨M,hM,hbM.keep (Ext.refl β) (by rw[hsize];exact Nat.le_refl _) (fun hMn=>hother _ (k5 i y M hi e hM hMn))⟩
 . intro i i' y y' M M' e e' hne hyo hM hM' hMn hMn'
   rw[hlk] at e e';by_cases h1:i=id
   . subst h1
     rw[if_pos rfl] at e;cases e;exact(hno hyo).elim
   . rw[if_neg h1] at e
     by_cases h2:i'=id
     . subst h2
       rw[hL] at hM';cases hM';exact k5 i y M h1 e hM hMn
     . rw[if_neg h2] at e'
       exact h.sep i i' y y' M M' e e' hne hyo hM hM' hMn hMn'
 . rw[hlk] at e
   by_cases h1:i=id
   . subst h1
     rw[if_pos rfl] at e;cases e;cases ho';refine⟨L,hL,k2,k3,ho _ hsame,fun i' x' M g1 g2 g3 g4=>?_⟩;rw[hlk,if_neg g1] at g2;exact k5 i' x' M g1 g2 g3 g4
   . rw[if_neg h1] at e
     obtain⟨M,q1,q2,q3,q4,q5⟩:=h.objs i y o' e ho';refine⟨M,q1,q2,q3,q4.keep (Ext.refl β) (hother _ (k5 i y M h1 e q1 q2)),fun i' x' M' g1 g2 g3 g4=>?_⟩;rw[hlk] at g2;by_cases h2:i'=id
     . subst h2
       exact q5 i' x M' g1 hx g3 g4
     . rw[if_neg h2] at g2
       exact q5 i' x' M' g1 g2 g3 g4
end
end Go.Proofs.YtljeokninakliaaGreatDoor
end
section
namespace Go.Proofs.YtljeokninakliaaGreatDoor
open Go.RowKit
def OE (places:List (Nat × Nat)):List Value->List (Nat × Value)->Option (List Value)
 |acc,[]=>some acc
 |acc,(i,v)::rest=>
  match places[i]? with
  |some (o,k)=>if v.cells.size=k/\o+k<=acc.length then OE places (Y1 acc o v.cells.toList) rest else none
  |none=>none
theorem jjjz (l:List Value) (o:Nat) (v:Value) (r:List Value) (h:o+(r.length+1)<=l.length):Y1 (l.set o v) (o+1) r=Y1 l o (v::r):=by
 apply List.ext_getElem?;intro j;rw[Qx (by simp;omega),Qx (by simp;omega)];simp only[List.length_cons];by_cases h1:o+1<=j/\j<o+1+r.length
 . rw[if_pos h1,if_pos ⟨by omega,by omega⟩]
   rw[show j-o=(j-(o+1))+1 by omega];rfl
 . rw[if_neg h1]
   by_cases h2:j=o
   . subst h2
     rw[if_pos ⟨by omega,by omega⟩];simp[show j<l.length by omega]
   . rw[if_neg (by omega)]
     simp[List.getElem?_set,show ¬o=j by omega]
theorem LF (off:Nat):∀(vs:List Value) (j:Nat) (acc:Array Value),off+j+vs.length<=acc.size->
 (vs.zipIdx j).foldl (fun (cs:Array Value) (x:Value × Nat)=>cs.setIfInBounds (off+x.2) x.1) acc=(Y1 acc.toList (off+j) vs).toArray
 | [],j,acc,_=>by simp[Y1]
 |v::r,j,acc,h=>by
  simp only[List.length_cons] at h;rw[List.zipIdx_cons,List.foldl_cons,LF off r (j+1) _ (by simp;omega)];simp only[Array.toList_setIfInBounds];rw[show off+(j+1)=off+j+1 by omega,jjjz _ _ _ _ (by simp;omega)]
theorem DU (places:List (Nat × Nat)) (f:Nat->Option (Nat × Nat)) (hf:∀i,f i=places[i]?):∀(parts:List (Nat × Value)) (acc:List Value),(OE places acc parts).isSome=true->
 Instr.fill f acc.toArray parts=(OE places acc parts).map List.toArray
 | [],acc,_=>rfl
 | (i,v)::rest,acc,h=>by
  unfold OE at h ⊢;unfold Instr.fill;rw[hf i]
  cases hp:places[i]? with
  |none=>rw[hp] at h;cases h
  |some ok=>
   obtain⟨o,k⟩:=ok;rw[hp] at h;simp only at h ⊢;split at h
   . rename_i hc
     rw[if_pos hc,if_neg (by simp;omega)]
     have hz:v.cells.zipIdx.foldl (fun (cs:Array Value) (x:Value × Nat)=>cs.setIfInBounds (o+x.2) x.1) acc.toArray=(Y1 acc o v.cells.toList).toArray:=by
      have:=LF o v.cells.toList 0 acc.toArray (by simp;omega);rw[Nat.add_zero] at this;simp only[List.toList_toArray] at this;rw[<- this];rw[<- Array.foldl_toList];simp
     rw[<- DU places f hf rest _ h];congr 1
   . cases h
def RE (P:Program) (t:TypeId):Option (List (Nat × Nat) × List Value):=
 match P.info? t,P.underlying t with
 |some it,some (.struct fields)=>
  match it.zero,fields.toList.mapM (fun f=>(P.info? f.type).map fun i=>(f.offset,i.size)) with
  |some z,some places=>some (places,z.cells.toList)
  |_,_=>none
 |_,_=>none
def T5 (t:TypeId):Sem Value:=zeroValue t
def Th (t:TypeId) (parts:Array (Nat × Value)):Sem Value:=Instr.build t parts
def Sz (P:Program) (t:TypeId) (parts:Array (Nat × Value)) (w:World):Result Value:=(Instr.build t parts).run P w
theorem Ns {P:Program} {t:TypeId} {places:List (Nat × Nat)} {zero:List Value} (h:RE P t=some (places,zero)) (parts:Array (Nat × Value)) (w:World):
 (Th t parts).run P w=(OE places zero parts.toList).elim (Sz P t parts w) (fun cs=>.ok (.agg cs.toArray) w):=by
 cases hb:OE places zero parts.toList with
 |none=>rfl
 |some cs=>
  show (Instr.build t parts).run P w= .ok (.agg cs.toArray) w;apply run_build;unfold RE at h;unfold Program.built;split at h
  . rename_i it fields hi hu
    split at h
    . rename_i z pl hz hp
      simp only[Option.some.injEq,Prod.mk.injEq] at h;obtain⟨rfl,rfl⟩:=h;simp only[hi,hu,hz,hp];have hsome:(OE pl z.cells.toList parts.toList).isSome=true:=by rw[hb];rfl
      have:=DU pl (fun i=>pl.toArray[i]?) (fun i=>by simp) parts.toList z.cells.toList hsome;simp only[Array.toArray_toList] at this;rw[this,hb];rfl
    . cases h
  . cases h
def WM (k:Nat):Nat->List (Nat × Value)->Bool
 |_,[]=>true
 |i,(j,v)::r=>(j==i)&&(v.cells.size==k)&&WM k (i+1) r
theorem Dh (k:Nat):∀(parts:List (Nat × Value)) (i:Nat) (acc:List Value),WM k i parts=true->acc.length=(i+parts.length)*k->
 Instr.fill (fun j=>some (j*k,k)) acc.toArray parts=some (acc.take (i*k)++parts.flatMap (·.2.cells.toList)).toArray
 | [],i,acc,_,hl=>by
  simp only[List.length_nil,Nat.add_zero] at hl;simp[Instr.fill,<- hl]
 | (j,v)::rest,i,acc,h,hl=>by
  unfold WM at h;simp only[Bool.and_eq_true,beq_iff_eq] at h;obtain⟨⟨rfl,hk⟩,hr⟩:=h;simp only[List.length_cons] at hl;have e1:(j+(rest.length+1))*k=j*k+k+rest.length*k:=by rw[Nat.add_mul,Nat.succ_mul];omega
  unfold Instr.fill;simp only;rw[if_neg (by simp[hk];omega)]
  have hz:v.cells.zipIdx.foldl (fun (cs:Array Value) (x:Value × Nat)=>cs.setIfInBounds (j*k+x.2) x.1) acc.toArray=(Y1 acc (j*k) v.cells.toList).toArray:=by
   have:=LF (j*k) v.cells.toList 0 acc.toArray (by simp;omega);rw[Nat.add_zero] at this;rw[<- this,<- Array.foldl_toList];simp
  rw[hz,Dh k rest (j+1) _ hr (by rw[La (by simp;omega),hl,show j+1+rest.length=j+(rest.length+1) by omega])];congr 2;rw[List.flatMap_cons,<- List.append_assoc];congr 1;unfold Y1;have hkk:v.cells.toList.length=k:=by simpa using hk
  have htl:(acc.take (j*k)).length=j*k:=by simp;omega
  rw[Nat.succ_mul,List.append_assoc,List.take_append,htl,List.take_of_length_le (by omega)];congr 1;rw[show j*k+k-j*k=k by omega,List.take_append,List.take_of_length_le (by omega),hkk];simp
def bsAt (t:TypeId) (n:Nat) (parts:Array (Nat × Value)):Sem Value:=Instr.buildSlice t n parts
def Be (P:Program) (t:TypeId) (n:Nat) (parts:Array (Nat × Value)) (w:World):Result Value:=(Instr.buildSlice t n parts).run P w
theorem jjj9 {P:Program} {t e:TypeId} {i:TypeInfo} {z:Value} (ht:P.underlying t=some (.slice e)) (hi:P.info? e=some i) (hz:i.zero=some z) (n:Nat) (parts:Array (Nat × Value)) (w:World):
 (bsAt t n parts).run P w=if WM i.size 0 parts.toList=true/\parts.size=n/\0<n*i.size/\n*i.size<=16777216 then
  .ok (.slice (some ⟨w.heap.size,0,none⟩) n n) (w.alloc (.cells (parts.toList.flatMap (·.2.cells.toList)).toArray e)) else Be P t n parts w:=by
 split
 . rename_i h
   obtain⟨h1,h2,h3,h4⟩:=h;show (Instr.buildSlice t n parts).run P w=_;have hf:=Dh i.size parts.toList 0 ((List.range (n*i.size)).map fun j=>z.cells[j % z.cells.size]!) h1 (by simp[h2]);simp only[Nat.zero_mul,List.take_zero,List.nil_append] at hf
   have e1:((Array.range (n*i.size)).map fun x=>z.cells[x % z.cells.size]!)=((List.range (n*i.size)).map fun j=>z.cells[j % z.cells.size]!).toArray:=by
    apply Array.ext';simp
   have hne:¬n*i.size=0:=by omega
   have hle:¬n*i.size>2^24:=by omega
   rw[<- e1] at hf;have q1:(underlying t).run P w= .ok (.slice e) w:=run_underlying ht w;have q2:(sizeOf e).run P w= .ok i.size w:=by simp[sizeOf,typeInfo,hi]
   have q3:(zeroValue e).run P w= .ok z w:=by simp[zeroValue,typeInfo,hi,hz]
   unfold Instr.buildSlice;rw[Sem.run_bind,q1];simp only[Result.andThen_ok];rw[Sem.run_bind,q2];simp only[Result.andThen_ok];rw[if_neg hle,if_neg hne];simp only[Sem.run_bind,Sem.run_pure,Result.andThen_ok,q3,hf];rfl
 . rfl
section
variable {P:Program} {C:Ctx} {β:Nm} {m m2:AMem} {w:World} {tm:List AV} {a:Act}
theorem Fm {x:Operand} {av:AV} (hf:FrOk β tm a.tmps) (hr:Rel C β m2 w) (hs:Sub m m2) (h:H8 tm m x=some av):γ β av=some (a.eval x)/\γ1 β av=some (a.eval x)/\((∃y,av= .c y)\/∃l,av= .agg l):=by
 unfold H8 at h;split at h
 . rename_i y hy
   cases h;rcases Tz hf hr hs hy with h1|h1
   . cases h1
   . exact⟨h1,h1,.inl ⟨y,rfl⟩⟩
 . rename_i l hy
   cases h;rcases Tz hf hr hs hy with h1|h1
   . cases h1
   . exact⟨h1,h1,.inr ⟨l,rfl⟩⟩
 . cases h
theorem Sh (hf:FrOk β tm a.tmps) (hr:Rel C β m2 w) (hs:Sub m m2):∀{xs:List Operand} {l:List AV},S0 tm m xs=some l->γt β l=some (xs.map a.eval)
 | [],l,h=>by simp only[S0,Option.some.injEq] at h;subst h;rfl
 |x::r,l,h=>by
  simp only[S0] at h;split at h
  . rename_i v vs hv hvs
    cases h;simp only[γt,List.map_cons];rw[(Fm hf hr hs hv).2.1,Sh hf hr hs hvs]
  . cases h
theorem IB (hf:FrOk β tm a.tmps) (hr:Rel C β m2 w) (hs:Sub m m2):∀{xs:List (Nat × Operand)} {l:List (Nat × AV)},OQ tm m xs=some l->
 l.map (·.1)=xs.map (·.1)/\γt β (l.map (·.2))=some (xs.map fun p=>a.eval p.2)
 | [],l,h=>by simp only[OQ,Option.some.injEq] at h;subst h;exact⟨rfl,rfl⟩
 | (i,x)::r,l,h=>by
  simp only[OQ] at h;split at h
  . rename_i v vs hv hvs
    cases h;obtain⟨h1,h2⟩:=IB hf hr hs hvs;simp only[γt,List.map_cons];rw[(Fm hf hr hs hv).2.1,h1,h2];exact⟨rfl,rfl⟩
  . cases h
def ZH (P:Program) (C:Ctx) (m2:AMem) (w:World) (β:Nm) (lo hi:Nat) (val:AV) (news:AMem) (s:Sem Next):Prop:=
 ∃β' v w',s.run P w= .ok (.value v) w'/\Ext β β'/\(∀id,id<lo\/hi<=id->β' id=β id)/\γ β' val=some v/\Rel C β' (m2++news) w'
def Z4 (s:Sem Value):Sem Next:=do pure (.value (<- s))
theorem QU {s:Sem Value} {v:Value} {w w':World} (h:s.run P w= .ok v w'):(Z4 s).run P w= .ok (.value v) w':=by
 unfold Z4;simp[Sem.run_bind,h]
theorem ZH.still {s:Sem Value} {v:Value} {av:AV} {lo hi:Nat} (hr:Rel C β m2 w) (h:s.run P w= .ok v w) (hg:γ β av=some v):ZH P C m2 w β lo hi av [] (Z4 s):=
 ⟨β,v,w,QU h,Ext.refl β,fun _ _=>rfl,hg,by rw[List.append_nil];exact hr⟩
theorem CD {t:TypeId} {n:Nat} (h:Y6 P t=some n):∃i,P.info? t=some i/\i.size=n:=by
 unfold Y6 at h;split at h
 . rename_i i hi;cases h;exact⟨i,hi,rfl⟩
 . cases h
theorem Uw {t:TypeId} {n:Nat} (h:Y6 P t=some n) (w:World):(sizeOf t).run P w= .ok n w:=by
 obtain⟨i,hi,rfl⟩:=CD h;simp[sizeOf,typeInfo,hi]
theorem Rl {t:TypeId} {b:Bool} (h:MM P t=some b) (w:World):(isAgg t).run P w= .ok b w:=by
 unfold MM at h;split at h
 . rename_i fs hu;cases h;simp[isAgg,run_underlying hu]
 . rename_i n e hu;cases h;simp[isAgg,run_underlying hu]
 . rename_i d hu h1 h2
   cases h;unfold isAgg;rw[Sem.run_bind,run_underlying h2];simp only[Result.andThen_ok];cases d<;>first|rfl|exact absurd rfl (hu _)|exact absurd rfl (h1 _ _)
 . cases h
theorem P7 {t:TypeId} {b:Bool} {ks:List Kd} (h:lay? P t=some (b,ks)):MM P t=some b/\Y6 P t=some ks.length/\(b=true\/ks.length=1)/\PX P 9 t=some ks:=by
 unfold lay? at h;split at h
 . rename_i a' ks' n h1 h2 h3
   split at h
   . rename_i hc
     cases h;obtain⟨rfl,hc2⟩:=hc;exact⟨h1,h3,hc2,h2⟩
   . cases h
 . cases h
theorem CE (t:TypeId) (v:Value) (w:World):(newVar t v).run P w= .ok ⟨w.heap.size,0,none⟩ (w.alloc (.cells v.cells t)):=by
 simp[newVar,newRow,newObj,Sem.run]
theorem jjh6 {ib:Nat} {t:TypeId} {val:AV} {news:AMem} {ob:List Bool} (h:Qa P ib t=some (.eff val news ob)) (hr:Rel C β m2 w) (hid:β ib=none) (hg:∀g,ib≠Z2 g) (old:Value):
 ZH P C m2 w β ib (ib+1) val news (Z4 (Instr.alloc t true old)):=by
 unfold Qa at h;split at h
 . rename_i i hi
   split at h
   . rename_i z hz
     split at h
     . rename_i h1
       cases h;refine⟨ZU β ib ⟨w.heap.size,0,0,0,false⟩,.pointer (some ⟨w.heap.size,0,none⟩),_,QU ?_,Wq hid,fun id hid'=>?_,?_,Rel.new (t:=t) hr hid hg (V3 z.cells.toList) (List.all_eq_true.1 h1)⟩
       . simp[Instr.alloc,zeroValue,typeInfo,hi,hz,CE]
       . simp[ZU];intro e;omega
       . simp[γ,γ1,γc,ad,ZU]
     . cases h
   . cases h
 . cases h
theorem jjoq {ib:Nat} {t:TypeId} {x val:AV} {v:Value} {news:AMem} {ob:List Bool} (h:Kv ib t x=some (.eff val news ob)) (hx:γ β x=some v) (hr:Rel C β m2 w) (hid:β ib=none) (hg:∀g,ib≠Z2 g):
 ZH P C m2 w β ib (ib+1) val news (Z4 (Instr.box t v)):=by
 unfold Kv at h;split at h
 . rename_i l hl
   split at h
   . rename_i h1
     cases h;obtain⟨vs,hvs,hc,_⟩:=Lo hl hx;have ho:=NH h1 hvs;have hcv:v.cells.toList=vs:=hc (List.all_eq_true.2 ho);refine⟨ZU β ib ⟨w.heap.size,0,0,0,false⟩,.pointer (some ⟨w.heap.size,0,none⟩),_,QU ?_,Wq hid,fun id hid'=>?_,?_,Rel.new (t:=t) hr hid hg hvs ho⟩
     . simp[Instr.box,CE,<- hcv]
     . simp[ZU];intro e;omega
     . simp[γ,γ1,γc,ad,ZU]
   . cases h
 . cases h
theorem Qw {id k j:Nat} {v:Value} (h:γ β (.c (.ptr id k j))=some v):∃L,β id=some L/\L.nil=false/\v= .pointer (some ⟨L.b,L.o+(k*L.s+j),none⟩):=by
 simp only[γ,γ1,γc] at h;split at h
 . rename_i a ha
   cases h;obtain⟨L,h1,h2,rfl⟩:=jjol ha;exact⟨L,h1,h2,rfl⟩
 . cases h
theorem E8 {t:TypeId} {x val:AV} {v:Value} {news:AMem} {ob:List Bool} {lo hi:Nat} (h:Ug P m t x=some (.eff val news ob)) (hob:ZZ ob) (hx:γ β x=some v) (hr:Rel C β m2 w) (hs:Sub m m2):
 ZH P C m2 w β lo hi val news (Z4 (Instr.loadAt t v)):=by
 unfold Ug at h;split at h
 . rename_i id k j
   obtain⟨L,hL,hn,rfl⟩:=Qw hx;split at h
   . rename_i y ks hy hlay
     cases h;obtain⟨h1,h2,_,_⟩:=P7 hlay;rw[Vm] at hob;obtain⟨L',hL',hb⟩:=hr.blk id y (hs _ _ hy);rw[hL] at hL';cases hL';obtain⟨vs,hvs,hc⟩:=NS hb ks j hob.1 hob.2;have hvl:vs.length=ks.length:=by rw[SF hvs,Nk]
     refine ZH.still (v:=.agg vs.toArray) hr ?_ (by simp only[γ,γ1];rw[hvs])
     have hload:=run_loadCells_list (P:=P) w ⟨L.b,L.o+(k*L.s+j),none⟩ vs (fun i u hu=>by
      rw[Addr.add_lit];have:=(hc i u hu).2
      rwa[show L.o+(k*L.s+(j+i))=L.o+(k*L.s+j)+i by omega] at this)
     simp[Instr.loadAt,Instr.sureAddr,loadVar,Sem.run_bind,Rl h1 w,Uw h2 w,<- hvl,hload]
   . rename_i y ks hy hlay
     cases h;obtain⟨h1,h2,h3,_⟩:=P7 hlay;have h3:ks.length=1:=by simpa using h3
     rw[Vm] at hob;obtain⟨L',hL',hb⟩:=hr.blk id y (hs _ _ hy);rw[hL] at hL';cases hL';obtain⟨vs,hvs,hc⟩:=NS hb ks j hob.1 hob.2;have hrl:(rd y.cs k j ks).length=1:=by rw[Nk];exact h3
     obtain⟨z,hz⟩:=List.length_eq_one_iff.1 hrl;rw[hz] at hvs ⊢;obtain⟨u,hu,hcz⟩:=Vo hvs (i:=0) (x:=z) rfl;refine ZH.still (v:=u) hr ?_ hcz;have:=(hc 0 u hu).2;simp only[Nat.add_zero] at this;simp[Instr.loadAt,Instr.sureAddr,loadVar,Sem.run_bind,Rl h1 w,load,Sem.run,this]
   . cases h
 . cases h
theorem jjgy {t:TypeId} {x y val:AV} {v u:Value} {e:Efx} {ob:List Bool} (h:Vd P m t x y=some (.upd val e ob)) (hob:ZZ ob) (hx:γ β x=some v) (hy:γ β y=some u) (hr:Rel C β m w):
 ∃w',(Instr.storeAt t v u).run P w= .ok () w'/\Rel C β (e.on m) w'/\val= .c (.v undef)/\w'.heap.size=w.heap.size:=by
 unfold Vd at h;split at h
 . rename_i id k j vs n hvs hn
   split at h
   . rename_i b hb
     split at h
     . rename_i hc
       simp only[Bool.and_eq_true] at hc;cases h;obtain⟨ho,hlen,hone⟩:=hc;have hlen:vs.length=n+1:=Nat.eq_of_beq_eq_true hlen;obtain⟨L,hL,hnil,rfl⟩:=Qw hx;obtain⟨us,hus,hcells,_⟩:=Lo hvs hy;have hone':=NH hone hus;have huc:u.cells.toList=us:=hcells (List.all_eq_true.2 hone');rw[Vm] at hob;have hput:=Rel.putM hr hb ho hL hnil hus hone' hob.1 (by omega);obtain⟨L',hL',hbk⟩:=hr.blk id b hb;rw[hL] at hL';cases hL';obtain⟨_,_,cs,hheap,_⟩:=hbk.own ho hnil;have hul:us.length=vs.length:=SF hus
       have hst:=run_storeCells_cells (P:=P) L.b (L.o+(k*L.s+j)) us 0 w (fun i hi=>by
        obtain⟨_,q,_,_,hq⟩:=hbk.cells k (j+i) (NP hob.1 (by omega))
        rw[show L.o+(k*L.s+j)+0+i=L.o+(k*L.s+(j+i)) by omega,hq];rfl)
        (fun i hi=>by simp[World.frozen?,hheap]) hone'
       rw[Nat.add_zero] at hst
       have hsc:w.setCells L.b (L.o+(k*L.s+j)) us=put w L.b (L.o+(k*L.s+j)) us:=by
        refine KS L.b b.ty us _ w cs hheap ?_;obtain⟨_,q,_,_,hq⟩:=hbk.cells k (j+(us.length-1)) (NP hob.1 (by omega));have:=NL hheap hq;omega
       rw[hsc] at hst;refine⟨_,?_,hput,rfl,YE us⟩;have hsz:=Uw hn w;simp[Instr.storeAt,Instr.sureAddr,storeVar,hsz,huc,hul,hlen,hst,show u.cells.size=n+1 by rw[<- Array.length_toList,huc,hul,hlen]]
     . cases h
   . cases h
 . cases h
theorem YZ {x v:Value} (h:γ β (.c (.v x))=some v):v=x:=by cases h;rfl
theorem Dp {op:BinOp} {k:IntKind} {x y n:Int} (h:RS op k x y=some n) (w:World):(Op.intBits op k x y).run P w= .ok (.int k n) w:=by
 unfold RS at h;cases op<;>first|(cases h;done)|(simp only[Option.some.injEq] at h;subst h;rfl)
theorem jj9m {op:BinOp} {k:IntKind} {t:TypeId} {x y:Int} {r:Value} {ob:List Bool} (hs:op≠ .shl/\op≠ .shr) (h:PU op k x y=some (r,ob)) (hob:ZZ ob) (w:World):
 (binOp op t (.int k x) (.int k y)).run P w= .ok r w:=by
 unfold PU at h
 split at h<;>first
  |(simp only[Option.some.injEq,Prod.mk.injEq] at h;obtain⟨rfl,rfl⟩:=h;simp[ZZ] at hob;simp[binOp,Op.intArith,Op.intCmp,Op.intDiv,hob];done)
  | (split at h
     . rename_i n hn
       simp only[Option.some.injEq,Prod.mk.injEq] at h;obtain⟨rfl,rfl⟩:=h;have:=Dp (P:=P) hn w;simpa[binOp] using this
     . cases h)
  |cases h
theorem Ct {op:BinOp} {k k':IntKind} {t:TypeId} {x y:Int} {r:Value} {ob:List Bool} (h:Jl op k x y=some (r,ob)) (hob:ZZ ob) (w:World):
 (binOp op t (.int k x) (.int k' y)).run P w= .ok r w:=by
 unfold Jl at h
 split at h<;>first
  |(simp only[Option.some.injEq,Prod.mk.injEq] at h;obtain⟨rfl,rfl⟩:=h;simp[ZZ] at hob;simp[binOp,Op.shift,show ¬y<0 by omega];done)
  |cases h
theorem Hg (op:BinOp) (t:TypeId) (x y:Operand) (k k':IntKind) (a b:Int) (w:World):(eqGuard op t x y (.int k a) (.int k' b)).run P w= .ok () w:=by
 cases op<;>rfl
theorem jj5r (op:BinOp) (t:TypeId) (x y:Operand) (a b:Bool) (w:World):(eqGuard op t x y (.bool a) (.bool b)).run P w= .ok () w:=by
 cases op<;>rfl
theorem Cc (op:BinOp) (t:TypeId) (x y:Operand) (a b:Option Addr) (w:World):(eqGuard op t x y (.pointer a) (.pointer b)).run P w= .ok () w:=by
 cases op<;>rfl
theorem jj5s (op:BinOp) (t:TypeId) (x y:Operand) (a b:Array Value) (w:World) (h:P.eqGuardType P.depth t=false):(eqGuard op t x y (.agg a) (.agg b)).run P w= .ok () w:=by
 cases op<;>simp[eqGuard,program,Sem.run,h]
theorem Ls:∀{ks:List (Option IntKind)} {xs:List AC} {vs:List Value},xs.length=ks.length->ZZ (O4 ks xs)->γs β xs=some vs->ZK ks vs
 | [],[],vs,_,_,h=>by cases h;exact ZK.nil
 | k ::ks,x::xs,vs,hl,ho,h=>by
  simp only[γs] at h;split at h
  . rename_i v us hv hus
    cases h;have hl':xs.length=ks.length:=by simpa using hl
    cases k with
    |none=>
     simp only[O4] at ho;rw[Vm] at ho;refine ZK.cons ?_ (Ls hl' ho.2 hus);have:=Rz ho.1;rw[<- this] at hv;cases hv;exact⟨_,rfl⟩
    |some k=>
     simp only[O4] at ho;rw[Vm] at ho;refine ZK.cons ?_ (Ls hl' ho.2 hus);have:=Rz ho.1;rw[<- this] at hv;cases hv;exact⟨_,rfl⟩
  . cases h
 | [],_::_,_,hl,_,_=>by simp at hl
 |_::_,[],_,hl,_,_=>by simp at hl
open Classical in
theorem IU:∀{ks:List (Option IntKind)} {xs ys:List AC} {vs us:List Value},xs.length=ks.length->ys.length=ks.length->ZZ (O4 ks xs)->ZZ (O4 ks ys)->γs β xs=some vs->γs β ys=some us->
 decide (vs=us)=Vh ks xs ys
 | [],[],[],vs,us,_,_,_,_,h,h'=>by cases h;cases h';simp[Vh]
 |k::ks,x::xs,y::ys,vs,us,hl,hl',ho,ho',h,h'=>by
  simp only[γs] at h h';split at h
  . rename_i v vs hv hvs
    split at h'
    . rename_i u us hu hus
      cases h;cases h';have hl1:xs.length=ks.length:=by simpa using hl
      have hl2:ys.length=ks.length:=by simpa using hl'
      cases k with
      |none=>
       simp only[O4] at ho ho';rw[Vm] at ho ho';rw[<- Rz ho.1] at hv;rw[<- Rz ho'.1] at hu;cases hv;cases hu;simp only[Vh,<- IU hl1 hl2 ho.2 ho'.2 hvs hus];by_cases e:Zz x=Zz y
       . simp[e]
       . simp[e]
      |some k=>
       simp only[O4] at ho ho';rw[Vm] at ho ho';rw[<- Rz ho.1] at hv;rw[<- Rz ho'.1] at hu;cases hv;cases hu;simp only[Vh,<- IU hl1 hl2 ho.2 ho'.2 hvs hus];by_cases e:ZP x=ZP y
       . simp[e]
       . simp[e]
    . cases h'
  . cases h
 | [],_::_,_,_,_,hl,_,_,_,_,_=>by simp at hl
 | [],_,_::_,_,_,_,hl,_,_,_,_=>by simp at hl
 |_::_,[],_,_,_,hl,_,_,_,_,_=>by simp at hl
 |_::_,_,[],_,_,_,hl,_,_,_,_=>by simp at hl
def Ti (P:Program) (op:BinOp) (t:TypeId) (x y:Operand) (u v:Value):Sem Value:=do eqGuard op t x y u v;binOp op t u v
theorem jjq2 {op:BinOp} {b r:Bool} (h:neg? op b=some r):(op= .eql/\r=b)\/(op= .neq/\r=!b):=by
 unfold neg? at h;split at h<;>cases h<;>simp
theorem NF {op:BinOp} {t:TypeId} {u v:Value} {b r:Bool} (hn:neg? op b=some r) (he:(Op.equal t u v).run P w= .ok b w)
 (h1:binOp .eql t u v=do pure (.bool (<- Op.equal t u v))) (h2:binOp .neq t u v=do pure (.bool (!(<- Op.equal t u v)))):(binOp op t u v).run P w= .ok (.bool r) w:=by
 rcases jjq2 hn with⟨rfl,rfl⟩|⟨rfl,rfl⟩
 . rw[h1,Sem.run_bind,he];rfl
 . rw[h2,Sem.run_bind,he];rfl
theorem jj7a {t:TypeId} {a b:Bool} (hu:P.underlying t=some .bool):(Op.equal t (.bool a) (.bool b)).run P w= .ok (a==b) w:=by
 show (Op.equalIn (9999+1) t _ _).run P w=_;rw[Op.equalIn,Sem.run_bind,run_underlying hu];rfl
theorem Ck {t e:TypeId} {a:Option Addr} (hu:P.underlying t=some (.pointer e)):(Op.equal t (.pointer a) (.pointer none)).run P w= .ok a.isNone w:=by
 show (Op.equalIn (9999+1) t _ _).run P w=_;rw[Op.equalIn,Sem.run_bind,run_underlying hu];cases a<;>rfl
theorem EY {op:BinOp} {t:TypeId} {ox oy:Operand} {x y val:AV} {u v:Value} {news:AMem} {ob:List Bool} {lo hi:Nat} (h:OC P op t x y=some (.eff val news ob)) (hob:ZZ ob) (hx:γ β x=some u) (hy:γ β y=some v)
 (hr:Rel C β m2 w):ZH P C m2 w β lo hi val news (Z4 (Ti P op t ox oy u v)):=by
 unfold OC at h;split at h
 . rename_i k p k' q
   have:=YZ hx;subst this;have:=YZ hy;subst this;split at h
   . split at h
     . rename_i r ob' hsh
       cases h;refine ZH.still hr ?_ rfl;unfold Ti;rw[Sem.run_bind,Hg];exact Ct hsh hob w
     . cases h
   . split at h
     . rename_i r ob' hsh
       cases h;refine ZH.still hr ?_ rfl;unfold Ti;rw[Sem.run_bind,Hg];exact Ct hsh hob w
     . cases h
   . rename_i n1 n2
     split at h
     . rename_i hk
       subst hk;split at h
       . rename_i r ob' hi'
         cases h;refine ZH.still hr ?_ rfl;unfold Ti;rw[Sem.run_bind,Hg];exact jj9m ⟨n1,n2⟩ hi' hob w
       . cases h
     . cases h
 . rename_i p q
   have:=YZ hx;subst this;have:=YZ hy;subst this;split at h
   . rename_i r hu hn
     cases h;refine ZH.still hr ?_ rfl;unfold Ti;rw[Sem.run_bind,jj5r];exact NF hn (jj7a hu) rfl rfl
   . cases h
 . have:=YZ hx
   subst this;have:=YZ hy;subst this;split at h
   . rename_i r hu hn
     cases h;refine ZH.still hr ?_ rfl;unfold Ti;rw[Sem.run_bind,Cc];exact NF hn (Ck hu) rfl rfl
   . cases h
 . have:=YZ hy
   subst this;obtain⟨L,hL,hn,rfl⟩:=Qw hx;split at h
   . rename_i r hu hn
     cases h;refine ZH.still hr ?_ rfl;unfold Ti;rw[Sem.run_bind,Cc];exact NF hn (Ck hu) rfl rfl
   . cases h
 . rename_i xs ys
   split at h
   . rename_i ks r hk hn hg hagg
     split at h
     . rename_i hl
       simp only[Bool.and_eq_true] at hl;cases h;rw[hk,Option.getD_some] at hn;simp only[γ,γ1] at hx hy;split at hx
       . rename_i vs hvs
         split at hy
         . rename_i us hus
           cases hx;cases hy;have h1:xs.length=ks.length:=Nat.eq_of_beq_eq_true hl.1;have h2:ys.length=ks.length:=Nat.eq_of_beq_eq_true hl.2;rw[Cz] at hob;refine ZH.still hr ?_ rfl;unfold Ti;rw[Sem.run_bind,jj5s _ _ _ _ _ _ _ hg];have he:=J5 (P:=P) (d:=10000) (by omega) hk hagg (Ls h1 hob.1 hvs) (Ls h2 hob.2 hus) w;rw[IU h1 h2 hob.1 hob.2 hvs hus] at he;exact NF hn he rfl rfl
         . cases hy
       . cases hx
     . cases h
   . cases h
 . cases h
theorem jj7b (op:BinOp) (t:TypeId) (x y:Operand) (A B:Option Addr) (n c n' c':Nat) (w:World):(eqGuard op t x y (.slice A n c) (.slice B n' c')).run P w= .ok () w:=by
 cases op<;>rfl
theorem jj9n {t e:TypeId} {A:Option Addr} {n c:Nat} (hu:P.underlying t=some (.slice e)):(Op.equal t (.slice A n c) (.slice none 0 0)).run P w= .ok A.isNone w:=by
 show (Op.equalIn (9999+1) t _ _).run P w=_;rw[Op.equalIn,Sem.run_bind,run_underlying hu];cases A<;>rfl
theorem jjl3 {op:BinOp} {t:TypeId} {ox oy:Operand} {x y val:AV} {u v:Value} {news:AMem} {ob:List Bool} {lo hi:Nat} (h:R2 P m op t x y=some (.eff val news ob)) (hob:ZZ ob) (hx:γ β x=some u) (hy:γ β y=some v)
 (hr:Rel C β m2 w) (hs:Sub m m2):ZH P C m2 w β lo hi val news (Z4 (Ti P op t ox oy u v)):=by
 have key:∀{A:Option Addr} {n c:Nat} {e:TypeId} {r:Bool},P.underlying t=some (.slice e)->neg? op A.isNone=some r->ZH P C m2 w β lo hi (.c (.v (.bool r))) [] (Z4 (Ti P op t ox oy (.slice A n c) (.slice none 0 0))):=by
  intro A n c e r hu hn;refine ZH.still hr ?_ rfl;unfold Ti;rw[Sem.run_bind,jj7b];exact NF hn (jj9n hu) rfl rfl
 unfold R2 at h;split at h
 . rename_i id k j len cap
   have:=YZ hy;subst this
   split at h
   . rename_i e r b hu hn hb
     cases h;obtain⟨L,hL,hbk⟩:=hr.blk id b (hs _ _ hb);simp only[ZZ,List.mem_singleton,forall_eq] at hob;obtain⟨hnil,_⟩:=hbk.cells 0 0 hob;have hx2:=hx;simp only[γ,γ1,γc,hL,hnil,Bool.false_eq_true,if_false,Option.some.injEq] at hx2;subst hx2;exact key hu hn
   . cases h
 . have:=YZ hx;subst this
   have:=YZ hy;subst this
   split at h
   . rename_i e r hu hn;cases h;exact key hu hn
   . cases h
 . have:=YZ hx;subst this
   have:=YZ hy;subst this
   split at h
   . rename_i e r hu hn;cases h;exact key hu hn
   . cases h
 . rename_i id k y
   have:=YZ hy;subst this
   split at h
   . rename_i b hb
     split at h
     . rename_i n f hcs hrow
       cases h;simp only[ZZ,List.mem_cons,List.not_mem_nil,or_false,forall_eq_or_imp,forall_eq,decide_eq_true_eq] at hob;obtain⟨⟨o1,o2⟩,o3⟩:=hob;obtain⟨L,hL,hbk⟩:=hr.blk id b (hs _ _ hb);obtain⟨hnil,_⟩:=hbk.cells k 0 (by simp only[ABlk.inb,hcs,Bool.and_eq_true,decide_eq_true_eq];omega);have hc:=hbk.rowc hrow hnil n f hcs;simp only[γ,γ1,γc,hL,hnil,Bool.false_eq_true,if_false,Option.some.injEq] at hx;subst hx;have hd:decide (((L.cap-k:Nat):Int)<y)=false:=decide_eq_false (by omega);exact EY (x:=.c (.v (.int .i64 ((L.cap-k:Nat):Int)))) (y:=.c (.v (.int .i64 y))) (ob:=[]) (by simp only[OC,PU,hd,if_true]) (by simp[ZZ]) rfl rfl hr
     . cases h
   . cases h
 . exact EY h hob hx hy hr
end
end Go.Proofs.YtljeokninakliaaGreatDoor
end
section
namespace Go.Proofs.YtljeokninakliaaGreatDoor
open Go.RowKit
section
variable {P:Program} {C:Ctx} {β:Nm} {m m2:AMem} {w:World} {tm:List AV} {a:Act} {news:AMem} {ob:List Bool} {lo hi hi':Nat} {x y val:AV} {u v:Value}
theorem jjre {op:UnOp} (h:AN op x=some (.eff val news ob)) (hx:γ β x=some v) (hr:Rel C β m2 w):ZH P C m2 w β lo hi val news (Z4 (Op.unary op v)):=by
 unfold AN at h;split at h
 . have:=YZ hx;subst this
   split at h
   . cases h;exact ZH.still hr rfl rfl
   . cases h
 . have:=YZ hx;subst this
   split at h
   . cases h;exact ZH.still hr rfl rfl
   . split at h
     . rename_i r hb
       cases h;exact ZH.still hr (Dp hb w) rfl
     . cases h
   . cases h
 . cases h
theorem jjl2 {s d:TypeId} (h:PG P s d x=some (.eff val news ob)) (hx:γ β x=some v) (hr:Rel C β m2 w):ZH P C m2 w β lo hi val news (Z4 (convert s d v)):=by
 unfold PG at h;split at h
 . have:=YZ hx;subst this
   split at h
   . rename_i ds k hs hd
     cases h;refine ZH.still hr ?_ rfl;unfold convert;rw[Sem.run_bind,run_underlying hs];simp only[Result.andThen_ok];rw[Sem.run_bind,run_underlying hd];simp only[Result.andThen_ok];rfl
   . cases h
 . cases h
theorem jj99 {t:TypeId} {f:Nat} (h:Wx P t f x=some (.eff val news ob)) (hx:γ β x=some v) (hr:Rel C β m2 w):ZH P C m2 w β lo hi val news (Z4 (Instr.fieldAt t v f)):=by
 unfold Wx at h;split at h
 . rename_i id k j
   obtain⟨L,hL,hn,rfl⟩:=Qw hx;split at h
   . rename_i fs hu
     split at h
     . rename_i fd hfd
       split at h
       . rename_i n hs
         cases h;refine ZH.still (v:=.pointer (some ⟨L.b,L.o+(k*L.s+(j+fd.offset)),none⟩)) hr ?_ (by simp[γ,γ1,γc,ad,hL,hn]);unfold Instr.fieldAt;rw[Sem.run_bind,run_underlying hu];simp[hfd,Instr.sureAddr,fieldPlace,Uw hs,Addr.add_lit,Nat.add_assoc]
       . cases h
     . cases h
   . cases h
 . cases h
theorem F3 {l:List AC} (h:γ β (.agg l)=some v):∃vs,γs β l=some vs/\v= .agg vs.toArray:=by
 simp only[γ,γ1] at h;split at h
 . rename_i vs hvs;cases h;exact⟨vs,hvs,rfl⟩
 . cases h
theorem jjh1 {t:TypeId} {f:Nat} (h:RO P t f x=some (.eff val news ob)) (hx:γ β x=some v) (hr:Rel C β m2 w):ZH P C m2 w β lo hi val news (Z4 (Instr.field t v f)):=by
 unfold RO at h;split at h
 . rename_i l
   obtain⟨vs,hvs,rfl⟩:=F3 hx;split at h
   . rename_i fs hu
     split at h
     . rename_i fd hfd
       split at h
       . rename_i n ha hs
         cases h;refine ZH.still (v:=.agg ((vs.drop fd.offset).take n).toArray) hr ?_ (by simp only[γ,γ1];rw[jjiq (jjis hvs fd.offset) n]);unfold Instr.field;rw[Sem.run_bind,run_underlying hu];simp[hfd,asAgg,part,Sem.run_bind,Rl ha,Uw hs,List.extract]
       . rename_i n ha hs
         split at h
         . rename_i hlt
           cases h;obtain⟨q,hq,hc⟩:=Vo hvs (List.getElem?_eq_getElem hlt);refine ZH.still (v:=q) hr ?_ (by simp only[γ,γ1,List.getD,List.getElem?_eq_getElem hlt];exact hc);unfold Instr.field;rw[Sem.run_bind,run_underlying hu];simp[hfd,asAgg,part,Sem.run_bind,Rl ha,hq]
         . cases h
       . cases h
     . cases h
   . cases h
 . cases h
theorem Uz {id k j len:Nat} {cap:Option Nat} (h:γ β (.c (.sl id k j len cap))=some v):∃L,β id=some L/\((L.nil=true/\len=0/\cap.getD 0=0/\v= .slice none 0 0)\/(L.nil=false/\v= .slice (some ⟨L.b,L.o+(k*L.s+j),none⟩) len (cap.getD (L.cap-k)))):=by
 simp only[γ,γ1,γc] at h;split at h
 . rename_i L hL
   split at h
   . rename_i hn
     split at h
     . rename_i hc
       cases h;exact⟨L,hL,.inl ⟨hn,hc.1,hc.2,rfl⟩⟩
     . cases h
   . rename_i hn
     cases h;exact⟨L,hL,.inr ⟨by simpa using hn,rfl⟩⟩
 . cases h
theorem jj98 {t:TypeId} (h:Xc P m t x y=some (.eff val news ob)) (hob:ZZ ob) (hx:γ β x=some u) (hy:γ β y=some v) (hr:Rel C β m2 w) (hs:Sub m m2):
 ZH P C m2 w β lo hi val news (Z4 (Instr.indexAt t u v)):=by
 unfold Xc at h;split at h
 . rename_i id k j q i
   have:=YZ hy;subst this
   obtain⟨L,hL,hn,rfl⟩:=Qw hx;split at h
   . rename_i n e hu
     split at h
     . rename_i s hsz
       cases h;simp[ZZ] at hob;refine ZH.still (v:=.pointer (some ⟨L.b,L.o+(k*L.s+(j+i.toNat*s)),none⟩)) hr ?_ (by simp[γ,γ1,γc,ad,hL,hn]);simp[Instr.indexAt,asIntOf,Sem.run_bind,run_underlying hu,Instr.sureAddr,hob.1,hob.2,Uw hsz,Addr.add_lit,Nat.add_assoc]
     . cases h
   . cases h
 . rename_i id k j len cap q i
   have:=YZ hy;subst this
   obtain⟨L,hL,hsl⟩:=Uz hx;split at h
   . rename_i e b hu hb
     obtain⟨L',hL',hbk⟩:=hr.blk id b (hs _ _ hb);rw[hL] at hL';cases hL';split at h
     . rename_i s hsz
       have key:∀(k' j':Nat),0<=i->i<(len:Int)->k'*L.s+j'=k*L.s+j+i.toNat*s->ZH P C m2 w β lo hi (.c (.ptr id k' j')) [] (Z4 (Instr.indexAt t u (.int q i))):=by
        intro k' j' h0 h1 hpos;rcases hsl with⟨hn,h2,_,_⟩|⟨hn,rfl⟩
        . subst h2;omega
        . refine ZH.still (v:=.pointer (some ⟨L.b,L.o+(k'*L.s+j'),none⟩)) hr ?_ (by simp[γ,γ1,γc,ad,hL,hn])
          simp[Instr.indexAt,asIntOf,Sem.run_bind,run_underlying hu,h0,h1,Uw hsz,Addr.add_lit]
          try omega
       split at h
       . rename_i hss
         cases h;simp[ZZ] at hob;exact key _ _ hob.1 hob.2 (by rw[hbk.sz,hss,Nat.add_mul];omega)
       . split at h
         . rename_i hss
           cases h;simp[ZZ] at hob;exact key _ _ hob.1 hob.2 (by omega)
         . cases h
     . cases h
   . cases h
 . cases h
theorem IQ {l:List AC} {vs:List Value} (hl:γs β l=some vs):∀(ks:List Kd) (j:Nat),j+ks.length<=l.length->ZZ (JZ l j ks)->γs β (Jh l j ks)=some ((vs.drop j).take ks.length)
 | [],j,_,_=>by simp[Jh,γs]
 | kd::r,j,hi,ho=>by
  simp only[List.length_cons] at hi
  have ho2:ZZ (JZ l (j+1) r)/\Z5 kd (l.getD j ZV)=true:=by
   cases kd with
   |any=>exact⟨ho,rfl⟩
   |b=>simp only[JZ] at ho;rw[Vm] at ho;exact⟨ho.2,ho.1⟩
   |i q=>simp only[JZ] at ho;rw[Vm] at ho;exact⟨ho.2,ho.1⟩
  have h1:=IQ hl r (j+1) (by omega) ho2.1;have hj:j<l.length:=by omega
  obtain⟨z,hz,hc⟩:=Vo hl (List.getElem?_eq_getElem hj);have hjv:j<vs.length:=by rw[SF hl];exact hj
  simp only[Jh,γs];rw[Rz ho2.2];simp only[List.getD,List.getElem?_eq_getElem hj,Option.getD_some];rw[hc,h1];simp only[List.length_cons];rw[List.drop_eq_getElem_cons hjv,List.take_succ_cons];have:vs[j]=z:=by rw[List.getElem?_eq_getElem hjv] at hz;cases hz;rfl
  rw[this]
theorem jjh0 {t:TypeId} (h:Td P t x y=some (.eff val news ob)) (hob:ZZ ob) (hx:γ β x=some u) (hy:γ β y=some v) (hr:Rel C β m2 w):
 ZH P C m2 w β lo hi val news (Z4 (Instr.index t u v)):=by
 unfold Td at h;split at h
 . rename_i l q i
   have:=YZ hy;subst this
   obtain⟨vs,hvs,rfl⟩:=F3 hx;split at h
   . rename_i n e hu
     split at h
     . rename_i ks hlay
       split at h
       . rename_i hlen
         cases h;rw[Vm] at hob;obtain⟨hb,ho⟩:=hob;simp at hb;obtain⟨h1,h2,_,_⟩:=P7 hlay
         have hin:i.toNat*ks.length+ks.length<=l.length:=by
          rw[<- hlen,<- Nat.succ_mul];exact Nat.mul_le_mul_right _ (by omega)
         have hrd:=IQ hvs ks (i.toNat*ks.length) hin ho;refine ZH.still (v:=.agg ((vs.drop (i.toNat*ks.length)).take ks.length).toArray) hr ?_ (by simp only[γ,γ1];rw[hrd]);simp[Instr.index,asIntOf,Sem.run_bind,run_underlying hu,hb.1,hb.2,part,Rl h1,Uw h2,List.extract]
       . cases h
     . rename_i ks hlay
       split at h
       . rename_i hlen
         cases h;rw[Vm] at hob;obtain⟨hb,ho⟩:=hob;simp at hb;obtain⟨h1,h2,h3,_⟩:=P7 hlay;have h3:ks.length=1:=by simpa using h3
         have hin:i.toNat*ks.length+ks.length<=l.length:=by
          rw[<- hlen,<- Nat.succ_mul];exact Nat.mul_le_mul_right _ (by omega)
         have hrd:=IQ hvs ks (i.toNat*ks.length) hin ho
         match ks,h3,hlay with
         | [kd],_,hlay=>
          simp only[Jh,PR] at hrd ⊢;simp only[List.length_cons,List.length_nil,Nat.zero_add,Nat.mul_one] at hrd hin ⊢;obtain⟨z,hz,hc⟩:=Vo hrd (i:=0) (x:=tl kd (l.getD i.toNat ZV)) rfl;refine ZH.still (v:=z) hr ?_ hc;have hz':vs[i.toNat]? =some z:=by simpa[List.getElem?_take,List.getElem?_drop] using hz
          have h2:Y6 P e=some 1:=h2;simp[Instr.index,asIntOf,Sem.run_bind,run_underlying hu,hb.1,hb.2,part,Rl h1,Uw h2,hz']
       . cases h
     . cases h
   . cases h
 . rename_i s q i
   have:=YZ hx;subst this
   have:=YZ hy;subst this
   split at h
   . rename_i hu
     split at h
     . rename_i b hb
       cases h;simp only[ZZ,List.mem_singleton,forall_eq,decide_eq_true_eq] at hob;refine ZH.still hr ?_ rfl;simp[Instr.index,asIntOf,Sem.run_bind,run_underlying hu,hob,hb]
     . cases h
   . cases h
 . cases h
theorem Ij:∀{l:List AV} {vs:List Value},γt β l=some vs->∀{i:Nat} {z:AV},l[i]? =some z->∃q,vs[i]? =some q/\γ1 β z=some q
 | [],vs,h,i,z,hz=>by simp at hz
 |p::r,vs,h,i,z,hz=>by
  simp only[γt] at h;split at h
  . rename_i q qs hq hqs
    cases h
    cases i with
    |zero=>simp at hz;subst hz;exact⟨q,rfl,hq⟩
    |succ i=>simp at hz;simpa using Ij hqs hz
  . cases h
theorem Vq {z:AV} {q:Value} (h:γ1 β z=some q):γ β z=some q:=by
 cases z with
 |tup l=>cases h
 |c y=>exact h
 |agg l=>exact h
 |any=>exact h
theorem jjci {i:Nat} (h:UR i x=some (.eff val news ob)) (hx:γ β x=some v) (hr:Rel C β m2 w):ZH P C m2 w β lo hi val news (Z4 (Instr.extract v i)):=by
 unfold UR at h;split at h
 . rename_i l
   simp only[γ] at hx;split at hx
   . rename_i vs hvs
     cases hx;split at h
     . rename_i z hz
       cases h;obtain⟨q,hq,hg⟩:=Ij hvs hz;refine ZH.still (v:=q) hr ?_ (Vq hg);simp[Instr.extract,hq]
     . cases h
   . cases hx
 . cases h
theorem jjir:∀{vs l:List AC} {j:Nat} {us ls:List Value},j+vs.length<=l.length->γs β vs=some us->γs β l=some ls->γs β (YD l j vs)=some (Y1 ls j us):=by
 intro vs l j us ls hlen hv hl;rw[U5];have h1:=SF hv;have h2:=SF hl;refine⟨by rw[KY,La (by omega),h2],fun i z hz=>?_⟩;rw[Sb _ _ _ _ hlen] at hz;rw[Qx (by omega),h1];by_cases hc:j<=i/\i<j+vs.length
 . rw[if_pos hc] at hz ⊢
   exact Vo hv hz
 . rw[if_neg hc] at hz ⊢
   exact Vo hl hz
theorem II (f:Nat->Option (Nat × Nat)):∀{ps:List (Nat × AV)} {acc l:List AC} {qs:List (Nat × Value)} {ls:List Value},OF f acc ps=some l->ps.map (·.1)=qs.map (·.1)->γt β (ps.map (·.2))=some (qs.map (·.2))->
 γs β acc=some ls->∃rs,γs β l=some rs/\Instr.fill f ls.toArray qs=some rs.toArray
 | [],acc,l,[],ls,h,_,_,hl=>by simp only[OF,Option.some.injEq] at h;subst h;exact⟨ls,hl,rfl⟩
 | (i,p)::r,acc,l,(i',q)::qs,ls,h,hi,hg,hl=>by
  simp only[List.map_cons,List.cons.injEq] at hi;obtain⟨rfl,hi⟩:=hi;simp only[List.map_cons,γt] at hg;split at hg
  . rename_i q' qs' hq hqs
    simp only[Option.some.injEq,List.cons.injEq] at hg;obtain⟨rfl,rfl⟩:=hg;simp only[OF] at h;split at h
    . rename_i o k vs hf hvs
      split at h
      . rename_i hc
        simp only[Bool.and_eq_true] at hc;obtain⟨hc1,hc2,hc3⟩:=hc;have hk:vs.length=k:=Nat.eq_of_beq_eq_true hc1;have hle:o+k<=acc.length:=Nat.le_of_ble_eq_true hc2;obtain⟨us,hus,hcells,_⟩:=Lo hvs (Vq hq);have hul:=SF hus;have hll:=SF hl;have hcl:q'.cells.toList=us:=hcells (List.all_eq_true.2 (NH hc3 hus));obtain⟨rs,h1,h2⟩:=II f h hi hqs (jjir (by omega) hus hl);refine⟨rs,h1,?_⟩;have hsz:q'.cells.size=k:=by rw[<- Array.length_toList,hcl];omega
        unfold Instr.fill;rw[hf];simp only;rw[if_neg (by simp[hsz];omega)]
        have hz:q'.cells.zipIdx.foldl (fun (cs:Array Value) (x:Value × Nat)=>cs.setIfInBounds (o+x.2) x.1) ls.toArray=(Y1 ls o us).toArray:=by
         have:=LF o q'.cells.toList 0 ls.toArray (by simp;omega);rw[Nat.add_zero] at this;simp only[List.toList_toArray] at this;rw[hcl] at this;rw[<- this,<- hcl,<- Array.foldl_toList];simp
        rw[<- h2,<- hz]
      . cases h
    . cases h
  . cases hg
 | [],_,_,_::_,_,_,hi,_,_=>by simp at hi
 |_::_,_,_,[],_,_,hi,_,_=>by simp at hi
theorem CH:∀{fs:List Field} {pl:List (Nat × Nat)},V6 P fs=some pl->∀w,(List.mapM (fun f=>Functor.map (Prod.mk f.offset) (sizeOf f.type)) fs:Sem (List (Nat × Nat))).run P w= .ok pl w
 | [],pl,h,w=>by simp only[V6,Option.some.injEq] at h;subst h;rfl
 |f::r,pl,h,w=>by
  simp only[V6] at h;split at h
  . rename_i n l hn hl
    cases h;rw[List.mapM_cons,Sem.run_bind];simp[Uw hn,CH hl]
  . cases h
theorem SW {t:TypeId} {z:List AC} (h:Us P t=some z):∃i q,P.info? t=some i/\i.zero=some q/\z=q.cells.toList.map .v/\∀w,(zeroValue t).run P w= .ok q w:=by
 unfold Us at h;split at h
 . rename_i i hi
   split at h
   . rename_i q hq
     cases h;exact⟨i,q,hi,hq,rfl,fun w=>by simp[zeroValue,typeInfo,hi,hq]⟩
   . cases h
 . cases h
theorem jjh5 {t:TypeId} {ps:List (Nat × AV)} {qs:List (Nat × Value)} (h:Qb P t ps=some (.eff val news ob)) (hi:ps.map (·.1)=qs.map (·.1)) (hg:γt β (ps.map (·.2))=some (qs.map (·.2))) (hr:Rel C β m2 w):
 ZH P C m2 w β lo hi' val news (Z4 (Instr.build t qs.toArray)):=by
 unfold Qb at h;split at h
 . rename_i z fs hz hu
   obtain⟨i,q,h1,h2,rfl,h3⟩:=SW hz;split at h
   . rename_i pl hpl
     split at h
     . rename_i l hl
       cases h;obtain⟨rs,hrs,hfill⟩:=II (fun i=>pl[i]?) hl hi hg (V3 q.cells.toList);refine ZH.still (v:=.agg rs.toArray) hr ?_ (by simp only[γ,γ1];rw[hrs]);unfold Instr.build;have hp:=CH hpl w
       have hp':(fs.mapM (fun f=>Functor.map (Prod.mk f.offset) (sizeOf f.type)):Sem (Array (Nat × Nat))).run P w= .ok pl.toArray w:=by
        rw[Array.mapM_eq_mapM_toList];simp[hp]
       simp only[Array.toArray_toList] at hfill;simp[Sem.run_bind,h3,run_underlying hu,hp',hfill]
     . cases h
   . cases h
 . rename_i z n e hz hu
   obtain⟨i,q,h1,h2,rfl,h3⟩:=SW hz;split at h
   . rename_i s hs
     split at h
     . rename_i l hl
       cases h;obtain⟨rs,hrs,hfill⟩:=II (fun i=>some (i*s,s)) hl hi hg (V3 q.cells.toList);refine ZH.still (v:=.agg rs.toArray) hr ?_ (by simp only[γ,γ1];rw[hrs]);unfold Instr.build;simp only[Array.toArray_toList] at hfill;simp[Sem.run_bind,h3,run_underlying hu,Uw hs,hfill]
     . cases h
   . cases h
 . cases h
end
end Go.Proofs.YtljeokninakliaaGreatDoor
end
section
namespace Go.Proofs.YtljeokninakliaaGreatDoor
open Go.RowKit
def Yo {α:Type} {n:Nat} (d:α) (v:Vector α n) (k:Nat):α:=v[k]?.getD d
theorem Rw {α β:Type} {n:Nat} (d:α) (f:α->β) (v:Vector α n) (k:Nat) (h:k<n):(v.toList.map f)[k]? =some (f (Yo d v k)):=by
 simp[Yo,h]
theorem Nq {α β:Type} {n:Nat} {f:α->β} (hf:∀a b,f a=f b->a=b) {u v:Vector α n} (h:u.toList.map f=v.toList.map f):u=v:=by
 have:=(List.map_inj_right (fun a b=>hf a b)).1 h;exact Vector.toList_inj.1 this
theorem Flat.uncons {k:Option IntKind} {ks:List (Option IntKind)} {cs:List Value} (h:Flat (k::ks) cs):∃c r,cs=c::r/\B9 k c/\Flat ks r:=by
 match cs,h.1 with
 |c::r,hl=>
  obtain⟨v,hv,ok⟩:=h.2 0 k rfl;simp at hv;subst hv;exact⟨c,r,rfl,ok,by simpa using hl,fun i q hq=>by simpa using h.2 (i+1) q (by simpa using hq)⟩
theorem Flat.unapp {k1 k2:List (Option IntKind)} {cs:List Value} (h:Flat (k1++k2) cs):∃c1 c2,cs=c1++c2/\Flat k1 c1/\Flat k2 c2:=by
 have hl:=h.1;simp only[List.length_append] at hl;refine⟨cs.take k1.length,cs.drop k1.length,by simp,⟨by simp;omega,fun i q hq=>?_⟩,⟨by simp;omega,fun i q hq=>?_⟩⟩
 . have hi:i<k1.length:=(List.getElem?_eq_some_iff.1 hq).1
   obtain⟨v,hv,ok⟩:=h.2 i q (by rw[List.getElem?_append_left hi];exact hq);exact⟨v,by simp[List.getElem?_take,hi,hv],ok⟩
 . obtain⟨v,hv,ok⟩:=h.2 (k1.length+i) q (by rw[List.getElem?_append_right (by omega)];simpa using hq)
   exact⟨v,by simpa using hv,ok⟩
theorem Flat.unnil {cs:List Value} (h:Flat [] cs):cs=[]:=by simpa using h.1
theorem Flat.unrepB:∀{n:Nat} {cs:List Value},Flat (List.replicate n none) cs->∃v:Vector Bool n,cs=v.toList.map Value.bool
 |0,cs,h=>⟨Vector.mk #[] rfl,by simpa using h.unnil⟩
 |n+1,cs,h=>by
  rw[List.replicate_succ] at h;obtain⟨c,r,rfl,⟨b,rfl⟩,h2⟩:=h.uncons;obtain⟨v,rfl⟩:=h2.unrepB;exact⟨⟨(b::v.toList).toArray,by simp⟩,by simp[Vector.toList]⟩
theorem Flat.unrepI {q:IntKind}:∀{n:Nat} {cs:List Value},Flat (List.replicate n (some q)) cs->∃v:Vector Int n,cs=v.toList.map (Value.int q)/\∀k,k<n->(Lit.int q (Yo 0 v k)).wf=true
 |0,cs,h=>⟨Vector.mk #[] rfl,by simpa using h.unnil,fun k hk=>absurd hk (by omega)⟩
 | n+1,cs,h=>by
  rw[List.replicate_succ] at h;obtain⟨c,r,rfl,⟨b,rfl,hb⟩,h2⟩:=h.uncons;obtain⟨v,rfl,hv⟩:=h2.unrepI;refine⟨⟨(b::v.toList).toArray,by simp⟩,by simp[Vector.toList],fun k hk=>?_⟩
  cases k with
  |zero=>simpa[Yo] using hb
  | succ k=>
   have:=hv k (by omega);simp only[Yo] at this ⊢
   have e:(⟨(b::v.toList).toArray,by simp⟩:Vector Int (n+1))[k+1]? =v[k]?:=by
    simp only[Vector.getElem?_mk,List.getElem?_toArray,List.getElem?_cons_succ];simp[Vector.toList]
   rw[e];exact this
structure Payload where
 kind:Int
 st:Int
 seq:Int
 val:Int
deriving DecidableEq
def Payload.cells (x:Payload):List Value:=[.int .u8 x.kind,.int .u8 x.st,.int .u32 x.seq,.int .u32 x.val]
def Payload.zero:Payload:={kind:=0,st:=0,seq:=0,val:=0}
theorem Payload.len (x:Payload):x.cells.length=4:=rfl
theorem Payload.one (x:Payload):YL x.cells=true:=rfl
theorem Payload.get0 (x:Payload):x.cells[0]? =some (.int .u8 x.kind):=rfl
theorem Payload.gea0 (x:Payload):x.cells.toArray[0]? =some (.int .u8 x.kind):=by rw[List.getElem?_toArray];exact x.get0
theorem Payload.gee0 (x:Payload) (h:0<x.cells.length):x.cells[0]= .int .u8 x.kind:=(List.getElem_eq_iff h).2 x.get0
theorem Payload.set0 (x:Payload) (v:Int):x.cells.set 0 (.int .u8 v)=({x with kind:=v}:Payload).cells:=rfl
theorem Payload.get1 (x:Payload):x.cells[1]? =some (.int .u8 x.st):=rfl
theorem Payload.gea1 (x:Payload):x.cells.toArray[1]? =some (.int .u8 x.st):=by rw[List.getElem?_toArray];exact x.get1
theorem Payload.gee1 (x:Payload) (h:1<x.cells.length):x.cells[1]= .int .u8 x.st:=(List.getElem_eq_iff h).2 x.get1
theorem Payload.set1 (x:Payload) (v:Int):x.cells.set 1 (.int .u8 v)=({x with st:=v}:Payload).cells:=rfl
theorem Payload.get2 (x:Payload):x.cells[2]? =some (.int .u32 x.seq):=rfl
theorem Payload.gea2 (x:Payload):x.cells.toArray[2]? =some (.int .u32 x.seq):=by rw[List.getElem?_toArray];exact x.get2
theorem Payload.gee2 (x:Payload) (h:2<x.cells.length):x.cells[2]= .int .u32 x.seq:=(List.getElem_eq_iff h).2 x.get2
theorem Payload.set2 (x:Payload) (v:Int):x.cells.set 2 (.int .u32 v)=({x with seq:=v}:Payload).cells:=rfl
theorem Payload.get3 (x:Payload):x.cells[3]? =some (.int .u32 x.val):=rfl
theorem Payload.gea3 (x:Payload):x.cells.toArray[3]? =some (.int .u32 x.val):=by rw[List.getElem?_toArray];exact x.get3
theorem Payload.gee3 (x:Payload) (h:3<x.cells.length):x.cells[3]= .int .u32 x.val:=(List.getElem_eq_iff h).2 x.get3
theorem Payload.set3 (x:Payload) (v:Int):x.cells.set 3 (.int .u32 v)=({x with val:=v}:Payload).cells:=rfl
theorem Payload.cutAll (x:Payload):cut x.cells 0 4=x.cells:=Ty _ _ x.len
theorem Payload.layAll (x y:Payload):Y1 x.cells 0 y.cells=y.cells:=U7 _ _ (by rw[x.len,y.len])
theorem Payload.layS0 (x:Payload) (v:Int):Y1 x.cells 0 [.int .u8 v]=({x with kind:=v}:Payload).cells:=(Tx _ _ _ (by rw[x.len];omega)).trans (x.set0 v)
theorem Payload.layS1 (x:Payload) (v:Int):Y1 x.cells 1 [.int .u8 v]=({x with st:=v}:Payload).cells:=(Tx _ _ _ (by rw[x.len];omega)).trans (x.set1 v)
theorem Payload.layS2 (x:Payload) (v:Int):Y1 x.cells 2 [.int .u32 v]=({x with seq:=v}:Payload).cells:=(Tx _ _ _ (by rw[x.len];omega)).trans (x.set2 v)
theorem Payload.layS3 (x:Payload) (v:Int):Y1 x.cells 3 [.int .u32 v]=({x with val:=v}:Payload).cells:=(Tx _ _ _ (by rw[x.len];omega)).trans (x.set3 v)
def Payload.ks:List (Option IntKind):=some .u8::some .u8::some .u32::some .u32::[]
def Payload.Ok (x:Payload):Prop:=(0<=x.kind/\x.kind<=255)/\(0<=x.st/\x.st<=255)/\(0<=x.seq/\x.seq<=4294967295)/\(0<=x.val/\x.val<=4294967295)
theorem Payload.shape (x:Payload):ZK Payload.ks x.cells:=by
 have h:ZK Payload.ks _:=(ZK.cons (c:=.int .u8 x.kind) ⟨_,rfl⟩ (ZK.cons (c:=.int .u8 x.st) ⟨_,rfl⟩ (ZK.cons (c:=.int .u32 x.seq) ⟨_,rfl⟩ (ZK.cons (c:=.int .u32 x.val) ⟨_,rfl⟩ ZK.nil))))
 simpa[Payload.cells] using h
theorem Payload.inj {x y:Payload} (h:x.cells=y.cells):x=y:=by
 cases x;cases y
 simpa[Payload.cells] using h
theorem Payload.of_flat {cs:List Value} (h0:Flat Payload.ks cs):∃x:Payload,x.Ok/\cs=x.cells:=by
 obtain⟨c0,r0,rfl,⟨v0,rfl,w0⟩,h1⟩:=h0.uncons;obtain⟨c1,r1,rfl,⟨v1,rfl,w1⟩,h2⟩:=h1.uncons;obtain⟨c2,r2,rfl,⟨v2,rfl,w2⟩,h3⟩:=h2.uncons;obtain⟨c3,r3,rfl,⟨v3,rfl,w3⟩,h4⟩:=h3.uncons;obtain rfl:=h4.unnil;exact⟨⟨v0,v1,v2,v3⟩,⟨bounds_u8 w0,bounds_u8 w1,bounds_u32 w2,bounds_u32 w3⟩,by simp[Payload.cells]⟩
attribute [go_sem] Payload.len Payload.one Payload.get0 Payload.set0 Payload.get1 Payload.set1 Payload.get2 Payload.set2 Payload.get3 Payload.set3 Payload.cutAll Payload.layAll Payload.layS0 Payload.layS1 Payload.layS2 Payload.layS3
attribute [go_sem high] Payload.gea0 Payload.gee0 Payload.gea1 Payload.gee1 Payload.gea2 Payload.gee2 Payload.gea3 Payload.gee3
structure Said where
 is:Bool
 at_:Int
 p:Payload
deriving DecidableEq
def Said.cells (x:Said):List Value:=[.bool x.is,.int .i64 x.at_,.int .u8 x.p.kind,.int .u8 x.p.st,.int .u32 x.p.seq,.int .u32 x.p.val]
def Said.zero:Said:={is:=false,at_:=0,p:=Payload.zero}
theorem Said.len (x:Said):x.cells.length=6:=rfl
theorem Said.one (x:Said):YL x.cells=true:=rfl
theorem Said.get0 (x:Said):x.cells[0]? =some (.bool x.is):=rfl
theorem Said.gea0 (x:Said):x.cells.toArray[0]? =some (.bool x.is):=by rw[List.getElem?_toArray];exact x.get0
theorem Said.gee0 (x:Said) (h:0<x.cells.length):x.cells[0]= .bool x.is:=(List.getElem_eq_iff h).2 x.get0
theorem Said.set0 (x:Said) (v:Bool):x.cells.set 0 (.bool v)=({x with is:=v}:Said).cells:=rfl
theorem Said.get1 (x:Said):x.cells[1]? =some (.int .i64 x.at_):=rfl
theorem Said.gea1 (x:Said):x.cells.toArray[1]? =some (.int .i64 x.at_):=by rw[List.getElem?_toArray];exact x.get1
theorem Said.gee1 (x:Said) (h:1<x.cells.length):x.cells[1]= .int .i64 x.at_:=(List.getElem_eq_iff h).2 x.get1
theorem Said.set1 (x:Said) (v:Int):x.cells.set 1 (.int .i64 v)=({x with at_:=v}:Said).cells:=rfl
theorem Said.get2 (x:Said):x.cells[2]? =some (.int .u8 x.p.kind):=rfl
theorem Said.gea2 (x:Said):x.cells.toArray[2]? =some (.int .u8 x.p.kind):=by rw[List.getElem?_toArray];exact x.get2
theorem Said.gee2 (x:Said) (h:2<x.cells.length):x.cells[2]= .int .u8 x.p.kind:=(List.getElem_eq_iff h).2 x.get2
theorem Said.set2 (x:Said) (v:Int):x.cells.set 2 (.int .u8 v)=({x with p.kind:=v}:Said).cells:=rfl
theorem Said.get3 (x:Said):x.cells[3]? =some (.int .u8 x.p.st):=rfl
theorem Said.gea3 (x:Said):x.cells.toArray[3]? =some (.int .u8 x.p.st):=by rw[List.getElem?_toArray];exact x.get3
theorem Said.gee3 (x:Said) (h:3<x.cells.length):x.cells[3]= .int .u8 x.p.st:=(List.getElem_eq_iff h).2 x.get3
theorem Said.set3 (x:Said) (v:Int):x.cells.set 3 (.int .u8 v)=({x with p.st:=v}:Said).cells:=rfl
theorem Said.get4 (x:Said):x.cells[4]? =some (.int .u32 x.p.seq):=rfl
theorem Said.gea4 (x:Said):x.cells.toArray[4]? =some (.int .u32 x.p.seq):=by rw[List.getElem?_toArray];exact x.get4
theorem Said.gee4 (x:Said) (h:4<x.cells.length):x.cells[4]= .int .u32 x.p.seq:=(List.getElem_eq_iff h).2 x.get4
theorem Said.set4 (x:Said) (v:Int):x.cells.set 4 (.int .u32 v)=({x with p.seq:=v}:Said).cells:=rfl
theorem Said.get5 (x:Said):x.cells[5]? =some (.int .u32 x.p.val):=rfl
theorem Said.gea5 (x:Said):x.cells.toArray[5]? =some (.int .u32 x.p.val):=by rw[List.getElem?_toArray];exact x.get5
theorem Said.gee5 (x:Said) (h:5<x.cells.length):x.cells[5]= .int .u32 x.p.val:=(List.getElem_eq_iff h).2 x.get5
theorem Said.set5 (x:Said) (v:Int):x.cells.set 5 (.int .u32 v)=({x with p.val:=v}:Said).cells:=rfl
theorem Said.cut2_4 (x:Said):cut x.cells 2 4=x.p.cells:=rfl
theorem Said.lay2_4 (x:Said) (y:Payload):Y1 x.cells 2 y.cells=({x with p:=y}:Said).cells:=rfl
theorem Said.cutAll (x:Said):cut x.cells 0 6=x.cells:=Ty _ _ x.len
theorem Said.layAll (x y:Said):Y1 x.cells 0 y.cells=y.cells:=U7 _ _ (by rw[x.len,y.len])
theorem Said.layS0 (x:Said) (v:Bool):Y1 x.cells 0 [.bool v]=({x with is:=v}:Said).cells:=(Tx _ _ _ (by rw[x.len];omega)).trans (x.set0 v)
theorem Said.layS1 (x:Said) (v:Int):Y1 x.cells 1 [.int .i64 v]=({x with at_:=v}:Said).cells:=(Tx _ _ _ (by rw[x.len];omega)).trans (x.set1 v)
theorem Said.layS2 (x:Said) (v:Int):Y1 x.cells 2 [.int .u8 v]=({x with p.kind:=v}:Said).cells:=(Tx _ _ _ (by rw[x.len];omega)).trans (x.set2 v)
theorem Said.layS3 (x:Said) (v:Int):Y1 x.cells 3 [.int .u8 v]=({x with p.st:=v}:Said).cells:=(Tx _ _ _ (by rw[x.len];omega)).trans (x.set3 v)
theorem Said.layS4 (x:Said) (v:Int):Y1 x.cells 4 [.int .u32 v]=({x with p.seq:=v}:Said).cells:=(Tx _ _ _ (by rw[x.len];omega)).trans (x.set4 v)
theorem Said.layS5 (x:Said) (v:Int):Y1 x.cells 5 [.int .u32 v]=({x with p.val:=v}:Said).cells:=(Tx _ _ _ (by rw[x.len];omega)).trans (x.set5 v)
def Said.ks:List (Option IntKind):=none::some .i64::(Payload.ks++([]))
def Said.Ok (x:Said):Prop:=(-9223372036854775808<=x.at_/\x.at_<=9223372036854775807)/\x.p.Ok
theorem Said.shape (x:Said):ZK Said.ks x.cells:=by
 have h:ZK Said.ks _:=(ZK.cons (c:=.bool x.is) ⟨_,rfl⟩ (ZK.cons (c:=.int .i64 x.at_) ⟨_,rfl⟩ (x.p.shape.append (ZK.nil))))
 simpa[Said.cells,Payload.cells] using h
theorem Said.inj {x y:Said} (h:x.cells=y.cells):x=y:=by
 cases x;cases y
 simp only[Said.cells,List.cons.injEq,Value.bool.injEq,Value.int.injEq,true_and,and_true] at h;obtain⟨h0,h1,h2,h3,h4,h5⟩:=h;rename_i a0 a1 a2 b0 b1 b2;have q0:a0=b0:=h0;have q1:a1=b1:=h1;have q2:a2=b2:=Payload.inj (by simp only[Payload.cells];simp[h2,h3,h4,h5]);simp[q0,q1,q2]
theorem Said.of_flat {cs:List Value} (h0:Flat Said.ks cs):∃x:Said,x.Ok/\cs=x.cells:=by
 obtain⟨c0,r0,rfl,⟨v0,rfl⟩,h1⟩:=h0.uncons;obtain⟨c1,r1,rfl,⟨v1,rfl,w1⟩,h2⟩:=h1.uncons;obtain⟨c2,r2,rfl,g2,h3⟩:=h2.unapp;obtain⟨v2,w2,rfl⟩:=Payload.of_flat g2;obtain rfl:=h3.unnil;exact⟨⟨v0,v1,v2⟩,⟨bounds_i64 w1,w2⟩,by simp[Said.cells,Payload.cells]⟩
attribute [go_sem] Said.len Said.one Said.get0 Said.set0 Said.get1 Said.set1 Said.get2 Said.set2 Said.get3 Said.set3 Said.get4 Said.set4 Said.get5 Said.set5 Said.cut2_4 Said.lay2_4 Said.cutAll Said.layAll Said.layS0 Said.layS1 Said.layS2 Said.layS3 Said.layS4 Said.layS5
attribute [go_sem high] Said.gea0 Said.gee0 Said.gea1 Said.gee1 Said.gea2 Said.gee2 Said.gea3 Said.gee3 Said.gea4 Said.gee4 Said.gea5 Said.gee5
structure View where
 inn:Vector Bool 8
 miss:Vector Int 8
 good:Vector Int 8
 score:Vector Int 8
 got:Vector Bool 8
 command:Int
 mode:Int
deriving DecidableEq
def View.cells (x:View):List Value:=x.inn.toList.map Value.bool++x.miss.toList.map (Value.int .u8)++x.good.toList.map (Value.int .u8)++x.score.toList.map (Value.int .u16)++x.got.toList.map Value.bool++[.int .i8 x.command,.int .u8 x.mode]
def View.zero:View:={inn:=Vector.replicate 8 false,miss:=Vector.replicate 8 0,good:=Vector.replicate 8 0,score:=Vector.replicate 8 0,got:=Vector.replicate 8 false,command:=0,mode:=0}
theorem View.len (x:View):x.cells.length=42:=by simp[View.cells]
theorem View.one (x:View):YL x.cells=true:=by simp[View.cells,YL,Value.oneCell']
theorem View.cutAll (x:View):cut x.cells 0 42=x.cells:=Ty _ _ x.len
theorem View.layAll (x y:View):Y1 x.cells 0 y.cells=y.cells:=U7 _ _ (by rw[x.len,y.len])
def View.ks:List (Option IntKind):=(List.replicate 8 none++((List.replicate 8 (some .u8)++((List.replicate 8 (some .u8)++((List.replicate 8 (some .u16)++((List.replicate 8 none++(some .i8::some .u8::[]))))))))))
def View.Ok (x:View):Prop:=(∀k,k<8->0<=Yo 0 x.miss k/\Yo 0 x.miss k<=255)/\(∀k,k<8->0<=Yo 0 x.good k/\Yo 0 x.good k<=255)/\(∀k,k<8->0<=Yo 0 x.score k/\Yo 0 x.score k<=65535)/\(-128<=x.command/\x.command<=127)/\(0<=x.mode/\x.mode<=255)
theorem View.shape (x:View):ZK View.ks x.cells:=by
 have h:ZK View.ks _:=((ZK.rep (k:=none) (f:=Value.bool) (fun a=>(⟨a,rfl⟩:∃b,Value.bool a=Value.bool b)) x.inn.toList (n:=8) (by simp)).append (((ZK.rep (k:=some .u8) (f:=(Value.int .u8)) (fun a=>(⟨a,rfl⟩:∃b,Value.int .u8 a=Value.int .u8 b)) x.miss.toList (n:=8) (by simp)).append (((ZK.rep (k:=some .u8) (f:=(Value.int .u8)) (fun a=>(⟨a,rfl⟩:∃b,Value.int .u8 a=Value.int .u8 b)) x.good.toList (n:=8) (by simp)).append (((ZK.rep (k:=some .u16) (f:=(Value.int .u16)) (fun a=>(⟨a,rfl⟩:∃b,Value.int .u16 a=Value.int .u16 b)) x.score.toList (n:=8) (by simp)).append (((ZK.rep (k:=none) (f:=Value.bool) (fun a=>(⟨a,rfl⟩:∃b,Value.bool a=Value.bool b)) x.got.toList (n:=8) (by simp)).append ((ZK.cons (c:=.int .i8 x.command) ⟨_,rfl⟩ (ZK.cons (c:=.int .u8 x.mode) ⟨_,rfl⟩ ZK.nil))))))))))))
 simpa[View.cells] using h
theorem View.inj {x y:View} (h:x.cells=y.cells):x=y:=by
 cases x;cases y
 rename_i a0 a1 a2 a3 a4 a5 a6 b0 b1 b2 b3 b4 b5 b6;simp only[View.cells,List.append_assoc,List.cons_append,List.nil_append] at h;obtain⟨h0,h⟩:=List.append_inj h (by simp);have q0:a0=b0:=Nq (f:=Value.bool) (fun _ _ e=>by injection e) h0;obtain⟨h1,h⟩:=List.append_inj h (by simp);have q1:a1=b1:=Nq (f:=(Value.int .u8)) (fun _ _ e=>by injection e) h1;obtain⟨h2,h⟩:=List.append_inj h (by simp);have q2:a2=b2:=Nq (f:=(Value.int .u8)) (fun _ _ e=>by injection e) h2;obtain⟨h3,h⟩:=List.append_inj h (by simp);have q3:a3=b3:=Nq (f:=(Value.int .u16)) (fun _ _ e=>by injection e) h3;obtain⟨h4,h⟩:=List.append_inj h (by simp);have q4:a4=b4:=Nq (f:=Value.bool) (fun _ _ e=>by injection e) h4;obtain⟨g5,h⟩:=List.cons.inj h;have q5:a5=b5:=by injection g5
 obtain⟨g6,h⟩:=List.cons.inj h;have q6:a6=b6:=by injection g6
 simp[q0,q1,q2,q3,q4,q5,q6]
theorem View.of_flat {cs:List Value} (h0:Flat View.ks cs):∃x:View,x.Ok/\cs=x.cells:=by
 obtain⟨c0,r0,rfl,g0,h1⟩:=h0.unapp;obtain⟨v0,rfl⟩:=g0.unrepB;obtain⟨c1,r1,rfl,g1,h2⟩:=h1.unapp;obtain⟨v1,rfl,w1⟩:=g1.unrepI;obtain⟨c2,r2,rfl,g2,h3⟩:=h2.unapp;obtain⟨v2,rfl,w2⟩:=g2.unrepI;obtain⟨c3,r3,rfl,g3,h4⟩:=h3.unapp;obtain⟨v3,rfl,w3⟩:=g3.unrepI;obtain⟨c4,r4,rfl,g4,h5⟩:=h4.unapp;obtain⟨v4,rfl⟩:=g4.unrepB;obtain⟨c5,r5,rfl,⟨v5,rfl,w5⟩,h6⟩:=h5.uncons;obtain⟨c6,r6,rfl,⟨v6,rfl,w6⟩,h7⟩:=h6.uncons;obtain rfl:=h7.unnil;exact⟨⟨v0,v1,v2,v3,v4,v5,v6⟩,⟨fun k hk=>bounds_u8 (w1 k hk),fun k hk=>bounds_u8 (w2 k hk),fun k hk=>bounds_u16 (w3 k hk),bounds_i8 w5,bounds_u8 w6⟩,by simp[View.cells]⟩
attribute [go_sem] View.len View.one
attribute [go_sem] View.cutAll View.layAll
structure Cell where
 age:Int
 offer:Said
 report:Said
 view:View
deriving DecidableEq
def Cell.cells (x:Cell):List Value:=[.int .i64 x.age,.bool x.offer.is,.int .i64 x.offer.at_,.int .u8 x.offer.p.kind,.int .u8 x.offer.p.st,.int .u32 x.offer.p.seq,.int .u32 x.offer.p.val,.bool x.report.is,.int .i64 x.report.at_,.int .u8 x.report.p.kind,.int .u8 x.report.p.st,.int .u32 x.report.p.seq,.int .u32 x.report.p.val]++x.view.cells
def Cell.zero:Cell:={age:=0,offer:=Said.zero,report:=Said.zero,view:=View.zero}
theorem Cell.len (x:Cell):x.cells.length=55:=by simp[Cell.cells,Said.cells,Payload.cells,View.cells]
theorem Cell.one (x:Cell):YL x.cells=true:=by simp[Cell.cells,Said.cells,Payload.cells,View.cells,YL,Value.oneCell']
theorem Cell.cut1_6 (x:Cell):cut x.cells 1 6=x.offer.cells:=by simp[Cell.cells,Said.cells,Payload.cells,View.cells,cut,List.drop_append,List.take_append,List.take_of_length_le]
theorem Cell.cut3_4 (x:Cell):cut x.cells 3 4=x.offer.p.cells:=by simp[Cell.cells,Said.cells,Payload.cells,View.cells,cut,List.drop_append,List.take_append,List.take_of_length_le]
theorem Cell.cut7_6 (x:Cell):cut x.cells 7 6=x.report.cells:=by simp[Cell.cells,Said.cells,Payload.cells,View.cells,cut,List.drop_append,List.take_append,List.take_of_length_le]
theorem Cell.cut9_4 (x:Cell):cut x.cells 9 4=x.report.p.cells:=by simp[Cell.cells,Said.cells,Payload.cells,View.cells,cut,List.drop_append,List.take_append,List.take_of_length_le]
theorem Cell.cut13_42 (x:Cell):cut x.cells 13 42=x.view.cells:=by simp[Cell.cells,Said.cells,Payload.cells,View.cells,cut,List.drop_append,List.take_append,List.take_of_length_le]
theorem Cell.cutAll (x:Cell):cut x.cells 0 55=x.cells:=Ty _ _ x.len
theorem Cell.layAll (x y:Cell):Y1 x.cells 0 y.cells=y.cells:=U7 _ _ (by rw[x.len,y.len])
def Cell.ks:List (Option IntKind):=some .i64::(Said.ks++((Said.ks++((View.ks++([]))))))
def Cell.Ok (x:Cell):Prop:=(-9223372036854775808<=x.age/\x.age<=9223372036854775807)/\x.offer.Ok/\x.report.Ok/\x.view.Ok
theorem Cell.shape (x:Cell):ZK Cell.ks x.cells:=by
 have h:ZK Cell.ks _:=(ZK.cons (c:=.int .i64 x.age) ⟨_,rfl⟩ (x.offer.shape.append ((x.report.shape.append ((x.view.shape.append (ZK.nil)))))))
 simpa[Cell.cells,Said.cells,Payload.cells,View.cells] using h
theorem Cell.inj {x y:Cell} (h:x.cells=y.cells):x=y:=by
 cases x;cases y
 rename_i a0 a1 a2 a3 b0 b1 b2 b3;simp only[Cell.cells,List.append_assoc,List.cons_append,List.nil_append] at h;obtain⟨g0,h⟩:=List.cons.inj h;have q0:a0=b0:=by injection g0
 obtain⟨g1_0,h⟩:=List.cons.inj h;obtain⟨g1_1,h⟩:=List.cons.inj h;obtain⟨g1_2,h⟩:=List.cons.inj h;obtain⟨g1_3,h⟩:=List.cons.inj h;obtain⟨g1_4,h⟩:=List.cons.inj h;obtain⟨g1_5,h⟩:=List.cons.inj h;have q1:a1=b1:=Said.inj (by simp only[Said.cells,List.cons.injEq];exact⟨g1_0,g1_1,g1_2,g1_3,g1_4,g1_5,trivial⟩);obtain⟨g2_0,h⟩:=List.cons.inj h;obtain⟨g2_1,h⟩:=List.cons.inj h;obtain⟨g2_2,h⟩:=List.cons.inj h;obtain⟨g2_3,h⟩:=List.cons.inj h;obtain⟨g2_4,h⟩:=List.cons.inj h;obtain⟨g2_5,h⟩:=List.cons.inj h;have q2:a2=b2:=Said.inj (by simp only[Said.cells,List.cons.injEq];exact⟨g2_0,g2_1,g2_2,g2_3,g2_4,g2_5,trivial⟩);have h3:=h;have q3:a3=b3:=View.inj h3;simp[q0,q1,q2,q3]
theorem Cell.of_flat {cs:List Value} (h0:Flat Cell.ks cs):∃x:Cell,x.Ok/\cs=x.cells:=by
 obtain⟨c0,r0,rfl,⟨v0,rfl,w0⟩,h1⟩:=h0.uncons;obtain⟨c1,r1,rfl,g1,h2⟩:=h1.unapp;obtain⟨v1,w1,rfl⟩:=Said.of_flat g1;obtain⟨c2,r2,rfl,g2,h3⟩:=h2.unapp;obtain⟨v2,w2,rfl⟩:=Said.of_flat g2;obtain⟨c3,r3,rfl,g3,h4⟩:=h3.unapp;obtain⟨v3,w3,rfl⟩:=View.of_flat g3;obtain rfl:=h4.unnil;exact⟨⟨v0,v1,v2,v3⟩,⟨bounds_i64 w0,w1,w2,w3⟩,by simp[Cell.cells,Said.cells,Payload.cells,View.cells]⟩
attribute [go_sem] Cell.len Cell.one
attribute [go_sem] Cell.cut1_6 Cell.cut3_4 Cell.cut7_6 Cell.cut9_4 Cell.cut13_42 Cell.cutAll Cell.layAll
structure Held where
 is:Bool
 cell:Cell
deriving DecidableEq
def Held.cells (x:Held):List Value:=[.bool x.is]++x.cell.cells
def Held.zero:Held:={is:=false,cell:=Cell.zero}
theorem Held.len (x:Held):x.cells.length=56:=by simp[Held.cells,Cell.cells,Said.cells,Payload.cells,View.cells]
theorem Held.one (x:Held):YL x.cells=true:=by simp[Held.cells,Cell.cells,Said.cells,Payload.cells,View.cells,YL,Value.oneCell']
theorem Held.get0 (x:Held):x.cells[0]? =some (.bool x.is):=by simp[Held.cells,Cell.cells,Said.cells,Payload.cells,View.cells]
theorem Held.gea0 (x:Held):x.cells.toArray[0]? =some (.bool x.is):=by rw[List.getElem?_toArray];exact x.get0
theorem Held.gee0 (x:Held) (h:0<x.cells.length):x.cells[0]= .bool x.is:=(List.getElem_eq_iff h).2 x.get0
theorem Held.set0 (x:Held) (v:Bool):x.cells.set 0 (.bool v)=({x with is:=v}:Held).cells:=by simp[Held.cells,Cell.cells,Said.cells,Payload.cells,View.cells]
theorem Held.cut1_55 (x:Held):cut x.cells 1 55=x.cell.cells:=by simp[Held.cells,Cell.cells,Said.cells,Payload.cells,View.cells,cut,List.drop_append,List.take_append,List.take_of_length_le]
theorem Held.lay1_55 (x:Held) (y:Cell):Y1 x.cells 1 y.cells=({x with cell:=y}:Held).cells:=by simp[Held.cells,Cell.cells,Said.cells,Payload.cells,View.cells,Y1,List.drop_append,List.take_append,List.take_of_length_le]
theorem Held.cut2_6 (x:Held):cut x.cells 2 6=x.cell.offer.cells:=by simp[Held.cells,Cell.cells,Said.cells,Payload.cells,View.cells,cut,List.drop_append,List.take_append,List.take_of_length_le]
theorem Held.lay2_6 (x:Held) (y:Said):Y1 x.cells 2 y.cells=({x with cell.offer:=y}:Held).cells:=by simp[Held.cells,Cell.cells,Said.cells,Payload.cells,View.cells,Y1,List.drop_append,List.take_append,List.take_of_length_le]
theorem Held.cut4_4 (x:Held):cut x.cells 4 4=x.cell.offer.p.cells:=by simp[Held.cells,Cell.cells,Said.cells,Payload.cells,View.cells,cut,List.drop_append,List.take_append,List.take_of_length_le]
theorem Held.lay4_4 (x:Held) (y:Payload):Y1 x.cells 4 y.cells=({x with cell.offer.p:=y}:Held).cells:=by simp[Held.cells,Cell.cells,Said.cells,Payload.cells,View.cells,Y1,List.drop_append,List.take_append,List.take_of_length_le]
theorem Held.cut8_6 (x:Held):cut x.cells 8 6=x.cell.report.cells:=by simp[Held.cells,Cell.cells,Said.cells,Payload.cells,View.cells,cut,List.drop_append,List.take_append,List.take_of_length_le]
theorem Held.lay8_6 (x:Held) (y:Said):Y1 x.cells 8 y.cells=({x with cell.report:=y}:Held).cells:=by simp[Held.cells,Cell.cells,Said.cells,Payload.cells,View.cells,Y1,List.drop_append,List.take_append,List.take_of_length_le]
theorem Held.cut10_4 (x:Held):cut x.cells 10 4=x.cell.report.p.cells:=by simp[Held.cells,Cell.cells,Said.cells,Payload.cells,View.cells,cut,List.drop_append,List.take_append,List.take_of_length_le]
theorem Held.lay10_4 (x:Held) (y:Payload):Y1 x.cells 10 y.cells=({x with cell.report.p:=y}:Held).cells:=by simp[Held.cells,Cell.cells,Said.cells,Payload.cells,View.cells,Y1,List.drop_append,List.take_append,List.take_of_length_le]
theorem Held.cut14_42 (x:Held):cut x.cells 14 42=x.cell.view.cells:=by simp[Held.cells,Cell.cells,Said.cells,Payload.cells,View.cells,cut,List.drop_append,List.take_append,List.take_of_length_le]
theorem Held.lay14_42 (x:Held) (y:View):Y1 x.cells 14 y.cells=({x with cell.view:=y}:Held).cells:=by simp[Held.cells,Cell.cells,Said.cells,Payload.cells,View.cells,Y1,List.drop_append,List.take_append,List.take_of_length_le]
theorem Held.cutAll (x:Held):cut x.cells 0 56=x.cells:=Ty _ _ x.len
theorem Held.layAll (x y:Held):Y1 x.cells 0 y.cells=y.cells:=U7 _ _ (by rw[x.len,y.len])
theorem Held.layS0 (x:Held) (v:Bool):Y1 x.cells 0 [.bool v]=({x with is:=v}:Held).cells:=(Tx _ _ _ (by rw[x.len];omega)).trans (x.set0 v)
def Held.ks:List (Option IntKind):=none::(Cell.ks++([]))
def Held.Ok (x:Held):Prop:=x.cell.Ok
theorem Held.shape (x:Held):ZK Held.ks x.cells:=by
 have h:ZK Held.ks _:=(ZK.cons (c:=.bool x.is) ⟨_,rfl⟩ (x.cell.shape.append (ZK.nil)))
 simpa[Held.cells,Cell.cells,Said.cells,Payload.cells,View.cells] using h
theorem Held.inj {x y:Held} (h:x.cells=y.cells):x=y:=by
 cases x;cases y
 rename_i a0 a1 b0 b1;simp only[Held.cells,List.append_assoc,List.cons_append,List.nil_append] at h;obtain⟨g0,h⟩:=List.cons.inj h;have q0:a0=b0:=by injection g0
 have h1:=h;have q1:a1=b1:=Cell.inj h1;simp[q0,q1]
theorem Held.of_flat {cs:List Value} (h0:Flat Held.ks cs):∃x:Held,x.Ok/\cs=x.cells:=by
 obtain⟨c0,r0,rfl,⟨v0,rfl⟩,h1⟩:=h0.uncons;obtain⟨c1,r1,rfl,g1,h2⟩:=h1.unapp;obtain⟨v1,w1,rfl⟩:=Cell.of_flat g1;obtain rfl:=h2.unnil;exact⟨⟨v0,v1⟩,w1,by simp[Held.cells,Cell.cells,Said.cells,Payload.cells,View.cells]⟩
attribute [go_sem] Held.len Held.one Held.get0 Held.set0 Held.cut1_55 Held.lay1_55 Held.cut2_6 Held.lay2_6 Held.cut4_4 Held.lay4_4 Held.cut8_6 Held.lay8_6 Held.cut10_4 Held.lay10_4 Held.cut14_42 Held.lay14_42 Held.cutAll Held.layAll Held.layS0
attribute [go_sem high] Held.gea0 Held.gee0
structure Station where
 node:Int
 safe:Int
 hold:Int
deriving DecidableEq
def Station.cells (x:Station):List Value:=[.int .i64 x.node,.int .u32 x.safe,.int .i64 x.hold]
def Station.zero:Station:={node:=0,safe:=0,hold:=0}
theorem Station.len (x:Station):x.cells.length=3:=rfl
def Station.ks:List (Option IntKind):=(some .i64::(some .u32::(some .i64::[])))
def Station.Ok (x:Station):Prop:=(-9223372036854775808<=x.node/\x.node<=9223372036854775807)/\(0<=x.safe/\x.safe<=4294967295)/\(-9223372036854775808<=x.hold/\x.hold<=9223372036854775807)
theorem Station.of_flat {cs:List Value} (h0:Flat Station.ks cs):∃x:Station,x.Ok/\cs=x.cells:=by
 obtain⟨c0,r0,rfl,⟨v0,rfl,w0⟩,h1⟩:=h0.uncons;obtain⟨c1,r1,rfl,⟨v1,rfl,w1⟩,h2⟩:=h1.uncons;obtain⟨c2,r2,rfl,⟨v2,rfl,w2⟩,h3⟩:=h2.uncons;obtain rfl:=h3.unnil;exact⟨⟨v0,v1,v2⟩,⟨bounds_i64 w0,bounds_u32 w1,bounds_i64 w2⟩,by simp[Station.cells,Said.cells,Payload.cells]⟩
theorem F5 {α β:Type} (d:α) (f:α->β) (v:Vector α 8):v.toList.map f=[f (Yo d v 0),f (Yo d v 1),f (Yo d v 2),f (Yo d v 3),f (Yo d v 4),f (Yo d v 5),f (Yo d v 6),f (Yo d v 7)]:=by
 apply List.ext_getElem?;intro i
 match i with
 |0=>rw[Rw d f v _ (by omega)];rfl
 |1=>rw[Rw d f v _ (by omega)];rfl
 |2=>rw[Rw d f v _ (by omega)];rfl
 |3=>rw[Rw d f v _ (by omega)];rfl
 |4=>rw[Rw d f v _ (by omega)];rfl
 |5=>rw[Rw d f v _ (by omega)];rfl
 |6=>rw[Rw d f v _ (by omega)];rfl
 |7=>rw[Rw d f v _ (by omega)];rfl
 |i+8=>simp
def View.cellsE (x:View):List Value:=[.bool (Yo false x.inn 0),.bool (Yo false x.inn 1),.bool (Yo false x.inn 2),.bool (Yo false x.inn 3),.bool (Yo false x.inn 4),.bool (Yo false x.inn 5),.bool (Yo false x.inn 6),.bool (Yo false x.inn 7),.int .u8 (Yo 0 x.miss 0),.int .u8 (Yo 0 x.miss 1),.int .u8 (Yo 0 x.miss 2),.int .u8 (Yo 0 x.miss 3),.int .u8 (Yo 0 x.miss 4),.int .u8 (Yo 0 x.miss 5),.int .u8 (Yo 0 x.miss 6),.int .u8 (Yo 0 x.miss 7),.int .u8 (Yo 0 x.good 0),.int .u8 (Yo 0 x.good 1),.int .u8 (Yo 0 x.good 2),.int .u8 (Yo 0 x.good 3),.int .u8 (Yo 0 x.good 4),.int .u8 (Yo 0 x.good 5),.int .u8 (Yo 0 x.good 6),.int .u8 (Yo 0 x.good 7),.int .u16 (Yo 0 x.score 0),.int .u16 (Yo 0 x.score 1),.int .u16 (Yo 0 x.score 2),.int .u16 (Yo 0 x.score 3),.int .u16 (Yo 0 x.score 4),.int .u16 (Yo 0 x.score 5),.int .u16 (Yo 0 x.score 6),.int .u16 (Yo 0 x.score 7),.bool (Yo false x.got 0),.bool (Yo false x.got 1),.bool (Yo false x.got 2),.bool (Yo false x.got 3),.bool (Yo false x.got 4),.bool (Yo false x.got 5),.bool (Yo false x.got 6),.bool (Yo false x.got 7),.int .i8 x.command,.int .u8 x.mode]
theorem View.cellsE_eq (x:View):x.cellsE=x.cells:=by
 simp only[View.cellsE,View.cells,F5 false,F5 (0:Int),List.cons_append,List.nil_append,List.append_nil]
end Go.Proofs.YtljeokninakliaaGreatDoor
end
section
namespace Go.Proofs.YtljeokninakliaaGreatDoor
open Go.RowKit Go.WideShapes Go.ChangeShapes
section
variable {H:Type} {enc:TypeId × Value->H} {P:Program} {w:World}
def Ku (w:World) (A:Option Addr) (n c:Nat):Prop:=(A=none/\n=0/\c=0)\/∃b o,A=some ⟨b,o,none⟩/\b<w.heap.size
theorem jjca {t e:TypeId} {r:Reach} {b0:Nat} {A:Option Addr} {n c:Nat} (ht:P.underlying t=some (.slice e)) (hv:Value.okWide P w r b0 t (.slice A n c)):Ku w A n c:=by
 simp only[Value.okWide,ht,Cell.okWide,Cell.ok] at hv;split at hv<;>try contradiction
 . rename_i h1 h2
   cases h2;exact .inl ⟨rfl,rfl,rfl⟩
 . rename_i a _ _ h1 h2
   cases h2;obtain⟨_,_,_,hs,row,cells,hsh,_⟩:=hv;obtain⟨b,o,s⟩:=a;subst hs;refine .inr ⟨b,o,rfl,?_⟩;rcases Nat.lt_or_ge b w.heap.size with h|h
   . exact h
   . unfold World.shape? at hsh
     simp[show w.heap[b]? =none by simp[h]] at hsh
theorem Ho {S:Type} {t e:TypeId} {r:Reach} {b0 m C:Nat} {v:Value} {d:DataW H} {p:List MemPlace} {ks:List (Option IntKind)} (ht:P.underlying t=some (.slice e)) (cells:S->List Value) (ok:S->Prop) (hlen:∀x,(cells x).length=C)
 (hk:Zp P m e=some ks) (hC:P.cellsOf e=C) (hof:∀cs,Flat ks cs->∃x,ok x/\cs=cells x) (hpos:0<C) (hv:Value.okWide P w r b0 t v) (h:DataW.Trod enc P w 0 (fun _=>true) true t v d p):
 ∃(A:Option Addr) (n c:Nat) (l:List S),v= .slice A n c/\n<=c/\c<=maxLen/\Ku w A n c/\Sl w w.heap.size C A n (l.flatMap cells)/\l.length=n/\∀x∈l,ok x:=by
 obtain⟨A,n,c,xs,rfl,h1,h2,h3,h4,_⟩:=jjmk ht hv (by rw[hC];omega) h;rw[hC] at h3 h4
 obtain⟨l,hl,rfl,hok⟩:=Fs cells C hlen ok n xs h3.len (fun i hi=>by
  obtain⟨k,y,hy⟩:=h4 i hi;obtain⟨x,hx1,hx2⟩:=hof _ (Le _ _ _ _ _ _ hk hy)
  exact⟨x,hx1,hx2⟩)
 exact⟨A,n,c,l,rfl,h1,h2,jjca ht hv,h3,hl,hok⟩
theorem jjju {t:TypeId} {r:Reach} {b0 m:Nat} {v:Value} {d:DataW H} {p:List MemPlace} {ks:List (Option IntKind)} (hs:(Yd P t).isSome=true) (hk:Zp P m t=some ks) (hv:Value.okWide P w r b0 t v) (h:DataW.Trod enc P w 0 (fun _=>true) true t v d p):
 ∃cs:List Value,Flat ks cs/\v= .agg cs.toArray:=by
 obtain⟨cs,rfl⟩:∃cs,v= .agg cs:=by
  simp only[Value.okWide] at hv;unfold Yd at hs;split at hv
  . obtain⟨cs,rfl,_⟩:=hv;exact⟨cs,rfl⟩
  . obtain⟨cs,rfl,_⟩:=hv;exact⟨cs,rfl⟩
  . split at hs<;>simp_all
 obtain⟨fuel,hf⟩:=h;exact⟨cs.toList,Le _ _ _ _ _ _ hk hf,by simp⟩
end
end Go.Proofs.YtljeokninakliaaGreatDoor
end
section
namespace Go.Proofs.YtljeokninakliaaGreatDoor
open Go.RowKit
structure RunL where
 s:Said
 h:Held
def RunL.cells (x:RunL):List Value:=x.s.cells++x.h.cells
def RunL.zero:RunL:=⟨Said.zero,Held.zero⟩
theorem RunL.len (x:RunL):x.cells.length=62:=by
 unfold RunL.cells;rw[List.length_append,Said.len,Held.len]
theorem RunL.one (x:RunL):YL x.cells=true:=by simp[RunL.cells,Held.cells,Cell.cells,Said.cells,Payload.cells,View.cells,YL,Value.oneCell']
def RunL.ks:List (Option IntKind):=Said.ks++(Held.ks++[])
def RunL.Ok (x:RunL):Prop:=x.s.Ok/\x.h.Ok
theorem RunL.of_flat {cs:List Value} (h0:Flat RunL.ks cs):∃x:RunL,x.Ok/\cs=x.cells:=by
 obtain⟨c0,r0,rfl,g0,h1⟩:=h0.unapp;obtain⟨v0,w0,rfl⟩:=Said.of_flat g0;obtain⟨c1,r1,rfl,g1,h2⟩:=h1.unapp;obtain⟨v1,w1,rfl⟩:=Held.of_flat g1;obtain rfl:=h2.unnil;exact⟨⟨v0,v1⟩,⟨w0,w1⟩,by simp[RunL.cells]⟩
end Go.Proofs.YtljeokninakliaaGreatDoor
end
