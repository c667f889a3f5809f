/- Parts, one behind the other. Values of types that are made of bools and integers alone, to whatever depth: their cells, one by one; '==' between two of them. No Go text is in sight. -/
import Derived.Test.YtpgaplcdbbnblaaGreatDoorJMembersView2
import Derived.DeepKeys
import Derived.Deep.Slices
set_option linter.unusedSimpArgs false
set_option linter.unusedVariables false
/- Values of types that are made of bools and integers alone, to whatever depth: their cells, one by one; '==' between two of them. No Go text is in sight. -/
section
namespace Go.Proofs.YtpgaplcdbbnblaaGreatDoor
open Go.RowKit Go.WideShapes Go.ChangeShapes
def KOk:Option IntKind→Value→Prop
 |none,v=>∃b,v= .bool b
 |some k,v=>∃n,v= .int k n∧(Lit.int k n).wf=true
def Flat (ks:List (Option IntKind)) (cs:List Value):Prop:=cs.length=ks.length∧∀(i:Nat) k,ks[i]? =some k→∃v,cs[i]? =some v∧KOk k v
def flatFields (P:Program) (g:TypeId→Option (List (Option IntKind))):List Field→Nat→Option (List (Option IntKind))
 | [],_=>some []
 | f::fs,off=>
  if f.offset=off then
   match g f.type with
   |some l=>if l.length=P.cellsOf f.type then (flatFields P g fs (off+l.length)).map (l++ ·) else none
   |none=>none
  else none
def flatOf (P:Program):Nat→TypeId→Option (List (Option IntKind))
 |0,_=>none
 | n+1,t=>
  match P.underlying t with
  |some .bool=>some [none]
  |some (.int k)=>some [some k]
  |some (.struct fs)=>
   match flatFields P (flatOf P n) fs.toList 0 with
   |some l=>if l.length=P.cellsOf t∧fs.all (·.name != "_")=true∧P.stoodInHeld t=false then some l else none
   |none=>none
  |some (.array m e)=>
   match flatOf P n e with
   |some l=>if l.length=P.cellsOf e∧m*l.length=P.cellsOf t then some ((List.replicate m l).flatten) else none
   |none=>none
  |_=>none
theorem Flat.append {k1 k2:List (Option IntKind)} {c1 c2:List Value} (h1:Flat k1 c1) (h2:Flat k2 c2):Flat (k1++k2) (c1++c2):=by
 refine⟨by simp[h1.1,h2.1],fun i k hk=>?_⟩
 by_cases hi:i<k1.length
 · rw[List.getElem?_append_left hi] at hk
   rw[List.getElem?_append_left (by rw[h1.1];exact hi)]
   exact h1.2 i k hk
 · rw[List.getElem?_append_right (by omega)] at hk
   rw[List.getElem?_append_right (by rw[h1.1];omega),h1.1]
   exact h2.2 _ k hk
theorem take_split (cs:List Value) (o a b:Nat):(cs.drop o).take (a+b)=(cs.drop o).take a++(cs.drop (o+a)).take b:=by
 rw[List.take_add,List.drop_drop]
theorem flatFields_flat {P:Program} {g:TypeId→Option (List (Option IntKind))} {cs:List Value} (G:∀t l off,g t=some l→l.length=P.cellsOf t→Prop)
 (hG:∀t l off h1 h2,G t l off h1 h2→Flat l ((cs.drop off).take (P.cellsOf t))):
 ∀(fs:List Field) (off:Nat) (ks:List (Option IntKind)),flatFields P g fs off=some ks→(∀f∈fs,∀l h1 h2,G f.type l f.offset h1 h2)→Flat ks ((cs.drop off).take ks.length)
 | [],off,ks,h,_=>by
  simp[flatFields] at h
  subst h
  exact⟨by simp,fun i k hk=>by simp at hk⟩
 | f :: fs,off,ks,h,hf=>by
  unfold flatFields at h
  split at h
  · rename_i ho
    split at h
    · rename_i l hl
      split at h
      · rename_i hlen
        simp only[Option.map_eq_some_iff] at h
        obtain⟨r,hr,rfl⟩:=h
        have h1:=hG f.type l f.offset hl hlen (hf f (by simp) l hl hlen)
        rw[ho,← hlen] at h1
        have h2:=flatFields_flat G hG fs (off+l.length) r hr (fun f' hf'=>hf f' (by simp[hf']))
        rw[List.length_append,take_split]
        exact h1.append h2
      · cases h
    · cases h
  · cases h
theorem flat_replicate {cs:List Value} {l:List (Option IntKind)}:∀(m off:Nat),(∀i,i<m→Flat l ((cs.drop (off+i*l.length)).take l.length))→Flat ((List.replicate m l).flatten) ((cs.drop off).take (m*l.length))
 |0,off,_=>⟨by simp,fun i k hk=>by simp at hk⟩
 |m+1,off,h=>by
  rw[List.replicate_succ,List.flatten_cons,Nat.succ_mul,Nat.add_comm (m*l.length),take_split]
  have h0:=h 0 (by omega)
  simp only[Nat.zero_mul,Nat.add_zero] at h0
  refine h0.append (flat_replicate m (off+l.length) fun i hi=>?_)
  have:=h (i+1) (by omega)
  rwa[show off+(i+1)*l.length=off+l.length+i*l.length by rw[Nat.succ_mul];omega] at this
section
variable {H:Type} {enc:TypeId × Value→H} {P:Program} {w:World} {base:Nat} {spare:Nat→Bool} {held:Bool}
theorem trod_flat:∀(n fuel:Nat) (t:TypeId) (cs:List Value) (x:DataW H × List MemPlace) (ks:List (Option IntKind)),
 flatOf P n t=some ks→DataW.trod enc P w base spare held fuel t cs=some x→Flat ks cs
 |0,_,_,_,_,_,h,_=>by simp[flatOf] at h
 |n+1,fuel,t,cs,x,ks,h,ht=>by
  unfold flatOf at h
  split at h
  · rename_i hu
    cases h
    obtain⟨b,rfl,_⟩:=DataW.trod_bool hu ht
    exact⟨rfl,fun i k hk=>by cases i<;>simp at hk;subst hk;exact⟨_,rfl,b,rfl⟩⟩
  · rename_i q hu
    cases h
    obtain⟨m,rfl,_,hw⟩:=DataW.trod_int hu ht
    exact⟨rfl,fun i k hk=>by cases i<;>simp at hk;subst hk;exact⟨_,rfl,m,rfl,hw⟩⟩
  · rename_i fs hu
    split at h
    · rename_i l hl
      split at h
      · rename_i hlen
        cases h
        obtain⟨xs,n',rfl,_,hcl,hxl,hf⟩:=DataW.trod_struct hu ht
        have:=flatFields_flat (P:=P) (cs:=cs) (G:=fun t' l' off' _ _=>Flat l' ((cs.drop off').take (P.cellsOf t'))) (fun _ _ _ _ _ h=>h) fs.toList 0 _ hl (fun f hfm l' h1 h2=>by
         obtain⟨i,hi⟩:=List.getElem?_of_mem hfm
         rw[Array.getElem?_toList] at hi
         have hi':=hf i f hi
         have hx:i<xs.length:=by rw[hxl];exact(Array.getElem?_eq_some_iff.1 hi).1
         rw[List.getElem?_eq_getElem hx] at hi'
         exact trod_flat n n' f.type _ _ l' h1 hi')
        rw[List.drop_zero,hlen.1,← hcl,List.take_length] at this
        exact this
      · cases h
    · cases h
  · rename_i m e hu
    split at h
    · rename_i l hl
      split at h
      · rename_i hlen
        cases h
        obtain⟨xs,n',rfl,_,hcl,hxl,hf⟩:=DataW.trod_array hu ht
        have:=flat_replicate (cs:=cs) (l:=l) m 0 (fun i hi=>by
         have hi':=hf i hi
         rw[List.getElem?_eq_getElem (by omega)] at hi'
         rw[Nat.zero_add,hlen.1]
         exact trod_flat n n' e _ _ l hl hi')
        rw[List.drop_zero,hlen.2,← hcl,List.take_length] at this
        exact this
      · cases h
    · cases h
  · cases h
end
theorem Flat.piece {ks l:List (Option IntKind)} {cs:List Value} {o:Nat} (h:Flat ks cs) (ho:o+l.length≤ks.length) (hl:∀i,i<l.length→ks[o+i]? =l[i]?):Flat l ((cs.drop o).take l.length):=by
 refine⟨by simp[h.1];omega,fun i k hk=>?_⟩
 have hi:i<l.length:=(List.getElem?_eq_some_iff.1 hk).1
 obtain⟨v,hv,hok⟩:=h.2 (o+i) k (by rw[hl i hi,hk])
 exact⟨v,by simp[List.getElem?_take,hi,hv],hok⟩
theorem replicate_piece {l:List (Option IntKind)}:∀(m i j:Nat),i<m→j<l.length→((List.replicate m l).flatten)[i*l.length+j]? =l[j]?
 |0,_,_,h,_=>by omega
 |m+1,0,j,_,hj=>by rw[List.replicate_succ,List.flatten_cons,Nat.zero_mul,Nat.zero_add,List.getElem?_append_left hj]
 |m+1,i+1,j,hi,hj=>by
  rw[List.replicate_succ,List.flatten_cons,List.getElem?_append_right (by rw[Nat.succ_mul];omega)]
  rw[show (i+1)*l.length+j-l.length=i*l.length+j by rw[Nat.succ_mul];omega]
  exact replicate_piece m i j (by omega) hj
/-! ### '==' between two values of a flat type: the kinds alone are asked -/
def Shp:Option IntKind→Value→Prop
 |none,v=>∃b,v= .bool b
 |some k,v=>∃n,v= .int k n
def FlatS (ks:List (Option IntKind)) (cs:List Value):Prop:=cs.length=ks.length∧∀(i:Nat) k,ks[i]? =some k→∃v,cs[i]? =some v∧Shp k v
theorem FlatS.nil:FlatS [] []:=⟨rfl,fun i k hk=>by simp at hk⟩
theorem FlatS.cons {k:Option IntKind} {ks:List (Option IntKind)} {c:Value} {cs:List Value} (h:Shp k c) (hs:FlatS ks cs):FlatS (k::ks) (c::cs):=
 ⟨by simp[hs.1],fun i q hq=>by
  cases i with
  |zero=>simp at hq;subst hq;exact⟨c,rfl,h⟩
  |succ i=>simp at hq;simpa using hs.2 i q hq⟩
theorem FlatS.append {k1 k2:List (Option IntKind)} {c1 c2:List Value} (h1:FlatS k1 c1) (h2:FlatS k2 c2):FlatS (k1++k2) (c1++c2):=by
 refine⟨by simp[h1.1,h2.1],fun i k hk=>?_⟩
 by_cases hi:i<k1.length
 · rw[List.getElem?_append_left hi] at hk
   rw[List.getElem?_append_left (by rw[h1.1];exact hi)]
   exact h1.2 i k hk
 · rw[List.getElem?_append_right (by omega)] at hk
   rw[List.getElem?_append_right (by rw[h1.1];omega),h1.1]
   exact h2.2 _ k hk
theorem FlatS.rep {α:Type} {k:Option IntKind} {f:α→Value} (hf:∀a,Shp k (f a)) (l:List α) {n:Nat} (hn:l.length=n):FlatS (List.replicate n k) (l.map f):=by
 subst hn
 refine⟨by simp,fun i q hq=>?_⟩
 have hi:i<l.length:=by have:=(List.getElem?_eq_some_iff.1 hq).1;simpa using this
 simp[List.getElem?_replicate,hi] at hq
 subst hq
 exact⟨f l[i],by simp[hi],hf _⟩
theorem FlatS.piece {ks l:List (Option IntKind)} {cs:List Value} {o:Nat} (h:FlatS ks cs) (ho:o+l.length≤ks.length) (hl:∀i,i<l.length→ks[o+i]? =l[i]?):FlatS l ((cs.drop o).take l.length):=by
 refine⟨by simp[h.1];omega,fun i k hk=>?_⟩
 have hi:i<l.length:=(List.getElem?_eq_some_iff.1 hk).1
 obtain⟨v,hv,hok⟩:=h.2 (o+i) k (by rw[hl i hi,hk])
 exact⟨v,by simp[List.getElem?_take,hi,hv],hok⟩
def packV (P:Program) (t:TypeId) (cs:List Value):Value:=
 match P.underlying t with
 |some (.struct _)|some (.array _ _)=>.agg cs.toArray
 |_=>cs.headD undef
open Classical in
def EqS (P:Program) (dd:Nat) (t:TypeId) (ks:List (Option IntKind)):Prop:=
 ∀(w:World) (xs ys:List Value),FlatS ks xs→FlatS ks ys→(Op.equalIn dd t (packV P t xs) (packV P t ys)).run P w= .ok (decide (xs=ys)) w
theorem run_part_pack {P:Program} {n:Nat} {t:TypeId} {ks:List (Option IntKind)} (h:flatOf P n t=some ks) (hk:ks.length=P.cellsOf t) {cs:List Value} {o:Nat} (hf:FlatS ks ((cs.drop o).take ks.length)) (w:World):
 (part t cs.toArray o).run P w= .ok (packV P t ((cs.drop o).take ks.length)) w:=by
 have agg:∀d,P.underlying t=some d→(∃n e',d= .array n e')∨(∃fs,d= .struct fs)→(part t cs.toArray o).run P w= .ok (.agg ((cs.drop o).take ks.length).toArray) w:=by
  intro d hu hd
  obtain⟨i,hi⟩:=info_of_underlying hu
  have e1:cs.toArray.extract o (o+P.cellsOf t)=((cs.drop o).take ks.length).toArray:=by
   rw[hk]
   simp[List.extract]
  rw[← e1]
  rcases hd with⟨n,e',rfl⟩|⟨fs,rfl⟩<;>simp[part,isAgg,run_underlying hu,run_sizeOf w hi]
 cases n with
 |zero=>simp[flatOf] at h
 |succ n=>
  unfold flatOf at h
  split at h
  · rename_i hu
    cases h
    obtain⟨v,hv,_⟩:=hf.2 0 none rfl
    simp[packV,part,isAgg,run_underlying hu,hu]
    simp[List.getElem?_take] at hv
    rw[List.head?_take,List.head?_drop,hv]
    simp
  · rename_i q hu
    cases h
    obtain⟨v,hv,_⟩:=hf.2 0 (some q) rfl
    simp[packV,part,isAgg,run_underlying hu,hu]
    simp[List.getElem?_take] at hv
    rw[List.head?_take,List.head?_drop,hv]
    simp
  · rename_i fs hu
    rw[agg _ hu (.inr ⟨_,rfl⟩)]
    simp[packV,hu]
  · rename_i m e hu
    rw[agg _ hu (.inl ⟨_,_,rfl⟩)]
    simp[packV,hu]
  · cases h
open Classical in
theorem run_eqFields_flat {P:Program} {dd n:Nat} (IH:∀t l,flatOf P n t=some l→l.length=P.cellsOf t→EqS P dd t l) (w:World) (xs ys:List Value):
 ∀(fs:List Field) (off:Nat) (ks:List (Option IntKind)),flatFields P (flatOf P n) fs off=some ks→(∀f∈fs,f.name≠ "_")→FlatS ks ((xs.drop off).take ks.length)→FlatS ks ((ys.drop off).take ks.length)→
  (Op.eqFields dd xs.toArray ys.toArray fs).run P w= .ok (decide ((xs.drop off).take ks.length=(ys.drop off).take ks.length)) w
 | [],off,ks,h,_,_,_=>by simp[flatFields] at h;subst h;simp[Op.eqFields]
 | f :: fs,off,ks,h,hn,hx,hy=>by
  unfold flatFields at h
  split at h
  · rename_i ho
    split at h
    · rename_i l hl
      split at h
      · rename_i hlen
        simp only[Option.map_eq_some_iff] at h
        obtain⟨r,hr,rfl⟩:=h
        rw[List.length_append,take_split] at hx hy
        have hxl:((xs.drop off).take l.length).length=l.length:=by have:=hx.1;simp at this ⊢;omega
        have hyl:((ys.drop off).take l.length).length=l.length:=by have:=hy.1;simp at this ⊢;omega
        have hx1:FlatS l ((xs.drop off).take l.length):=⟨hxl,fun i k hk=>by
         have hi:i<l.length:=(List.getElem?_eq_some_iff.1 hk).1
         have:=hx.2 i k (by rw[List.getElem?_append_left hi];exact hk)
         rwa[List.getElem?_append_left (by omega)] at this⟩
        have hy1:FlatS l ((ys.drop off).take l.length):=⟨hyl,fun i k hk=>by
         have hi:i<l.length:=(List.getElem?_eq_some_iff.1 hk).1
         have:=hy.2 i k (by rw[List.getElem?_append_left hi];exact hk)
         rwa[List.getElem?_append_left (by omega)] at this⟩
        have hx2:FlatS r ((xs.drop (off+l.length)).take r.length):=⟨by have:=hx.1;rw[List.length_append,hxl] at this;simp at this ⊢;omega,fun i k hk=>by
         have:=hx.2 (l.length+i) k (by rw[List.getElem?_append_right (by omega)];simpa using hk)
         rw[List.getElem?_append_right (by omega),hxl] at this
         simpa using this⟩
        have hy2:FlatS r ((ys.drop (off+l.length)).take r.length):=⟨by have:=hy.1;rw[List.length_append,hyl] at this;simp at this ⊢;omega,fun i k hk=>by
         have:=hy.2 (l.length+i) k (by rw[List.getElem?_append_right (by omega)];simpa using hk)
         rw[List.getElem?_append_right (by omega),hyl] at this
         simpa using this⟩
        have p1:=run_part_pack hl hlen hx1 w
        have p2:=run_part_pack hl hlen hy1 w
        have p3:=IH f.type l hl hlen w _ _ hx1 hy1
        have p4:=run_eqFields_flat IH w xs ys fs (off+l.length) r hr (fun g hg=>hn g (by simp[hg])) hx2 hy2
        simp only[Op.eqFields,hn f (by simp),ne_eq,not_false_eq_true,if_true,Sem.run_bind,ho,p1,p2,p3,Result.andThen_ok]
        rw[List.length_append,take_split,take_split]
        by_cases e:(xs.drop off).take l.length=(ys.drop off).take l.length
        · rw[decide_eq_true e]
          simp only[Bool.not_true,Bool.false_eq_true,if_false]
          rw[p4,e]
          congr 1
          simp
        · rw[decide_eq_false e,decide_eq_false (fun e'=>e (List.append_inj e' (by omega)).1)]
          simp
      · cases h
    · cases h
  · cases h
open Classical in
theorem run_eqItems_flat {P:Program} {dd n:Nat} {e:TypeId} {l:List (Option IntKind)} (hl:flatOf P n e=some l) (hlen:l.length=P.cellsOf e) (IH:EqS P dd e l) (w:World) (xs ys:List Value):
 ∀(m i0:Nat),(∀i,i<m→FlatS l ((xs.drop ((i0+i)*l.length)).take l.length))→(∀i,i<m→FlatS l ((ys.drop ((i0+i)*l.length)).take l.length))→
  (Op.eqItems dd e (P.cellsOf e) xs.toArray ys.toArray (List.range' i0 m)).run P w= .ok (decide ((xs.drop (i0*l.length)).take (m*l.length)=(ys.drop (i0*l.length)).take (m*l.length))) w
 |0,i0,_,_=>by simp[Op.eqItems]
 |m+1,i0,hx,hy=>by
  have hx1:=hx 0 (by omega)
  have hy1:=hy 0 (by omega)
  rw[Nat.add_zero] at hx1 hy1
  have p1:=run_part_pack hl hlen hx1 w
  have p2:=run_part_pack hl hlen hy1 w
  have p3:=IH w _ _ hx1 hy1
  have p4:=run_eqItems_flat hl hlen IH w xs ys m (i0+1) (fun i hi=>by have:=hx (i+1) (by omega);rwa[show i0+(i+1)=i0+1+i by omega] at this) (fun i hi=>by have:=hy (i+1) (by omega);rwa[show i0+(i+1)=i0+1+i by omega] at this)
  rw[hlen] at p1 p2
  rw[← hlen] at p4
  simp only[List.range'_succ,Op.eqItems,Sem.run_bind,p1,p2,Result.andThen_ok]
  rw[← hlen,p3]
  simp only[Result.andThen_ok]
  rw[Nat.succ_mul m,Nat.add_comm (m*l.length),take_split,take_split]
  rw[Nat.succ_mul i0] at p4
  by_cases e:(xs.drop (i0*l.length)).take l.length=(ys.drop (i0*l.length)).take l.length
  · rw[decide_eq_true e]
    simp only[Bool.not_true,Bool.false_eq_true,if_false]
    rw[p4,e]
    congr 1
    simp
  · have hxl:=hx1.1
    have hyl:=hy1.1
    rw[decide_eq_false e,decide_eq_false (fun e'=>e (List.append_inj e' (by omega)).1)]
    simp
open Classical in
theorem flat_eqS {P:Program} (d:Nat):∀(n:Nat) (t:TypeId) (ks:List (Option IntKind)),flatOf P n t=some ks→EqS P (d+n) t ks
 |0,_,_,h=>by simp[flatOf] at h
 | n + 1, t,ks,h=>by
  intro w xs ys hx hy
  have IH:∀t l,flatOf P n t=some l→l.length=P.cellsOf t→EqS P (d+n) t l:=fun t l hl _=>flat_eqS d n t l hl
  unfold flatOf at h
  split at h
  · rename_i hu
    cases h
    obtain⟨v,hv,a,rfl⟩:=hx.2 0 none rfl
    obtain⟨u,hu',b,rfl⟩:=hy.2 0 none rfl
    match xs,ys,hx.1,hy.1,hv,hu' with
    | [x],[y],_,_,hv,hu'=>
     simp at hv hu'
     subst hv;subst hu'
     simp[packV,hu,← Nat.add_assoc,Op.equalIn,run_underlying hu]
     by_cases e:a=b<;>simp[e]
  · rename_i q hu
    cases h
    obtain⟨v,hv,a,rfl⟩:=hx.2 0 (some q) rfl
    obtain⟨u,hu',b,rfl⟩:=hy.2 0 (some q) rfl
    match xs,ys,hx.1,hy.1,hv,hu' with
    | [x],[y],_,_,hv,hu'=>
     simp at hv hu'
     subst hv;subst hu'
     simp[packV,hu,← Nat.add_assoc,Op.equalIn,run_underlying hu]
     by_cases e:a=b<;>simp[e]
  · rename_i fs hu
    split at h
    · rename_i l hl
      split at h
      · rename_i hlen
        cases h
        have hfo:P.fieldsOf t=fs:=by simp[Program.fieldsOf,hu]
        have hu':P.underlying t=some (.struct (P.fieldsOf t)):=by rw[hfo];exact hu
        have hnames:∀f∈fs.toList,f.name≠ "_" :=by
         intro f hf
         have:=Array.all_eq_true_iff_forall_mem.1 hlen.2.1 f (by simpa using hf)
         simpa using this
        have p:=run_eqFields_flat IH w xs ys fs.toList 0 _ hl hnames (by rw[List.drop_zero,← hx.1,List.take_length];exact hx) (by rw[List.drop_zero,← hy.1,List.take_length];exact hy)
        have e1:packV P t xs= .agg xs.toArray:=by simp[packV,hu]
        have e2:packV P t ys= .agg ys.toArray:=by simp[packV,hu]
        rw[e1,e2,← Nat.add_assoc,run_equalIn_struct w (d+n) t _ _ hu' hlen.2.2,hfo,p]
        rw[List.drop_zero,List.drop_zero,List.take_of_length_le (by rw[hx.1];omega),List.take_of_length_le (by rw[hy.1];omega)]
      · cases h
    · cases h
  · rename_i m e hu
    split at h
    · rename_i l hl
      split at h
      · rename_i hlen
        cases h
        have hks:(List.replicate m l).flatten.length=m*l.length:=by simp
        have hpx:∀i,i<m→FlatS l ((xs.drop ((0+i)*l.length)).take l.length):=fun i hi=>by
         have h1:(i+1)*l.length≤m*l.length:=Nat.mul_le_mul_right _ (by omega)
         rw[Nat.succ_mul] at h1
         rw[Nat.zero_add]
         exact hx.piece (by omega) (fun j hj=>replicate_piece m i j hi hj)
        have hpy:∀i,i<m→FlatS l ((ys.drop ((0+i)*l.length)).take l.length):=fun i hi=>by
         have h1:(i+1)*l.length≤m*l.length:=Nat.mul_le_mul_right _ (by omega)
         rw[Nat.succ_mul] at h1
         rw[Nat.zero_add]
         exact hy.piece (by omega) (fun j hj=>replicate_piece m i j hi hj)
        have p:=run_eqItems_flat hl hlen.1 (IH e l hl hlen.1) w xs ys m 0 hpx hpy
        have e1:packV P t xs= .agg xs.toArray:=by simp[packV,hu]
        have e2:packV P t ys= .agg ys.toArray:=by simp[packV,hu]
        have hie:∃i,P.info? e=some i:=by
         cases n with
         |zero=>simp[flatOf] at hl
         | succ n=>
          unfold flatOf at hl
          split at hl
          all_goals first
           |(rename_i hu2;exact info_of_underlying hu2)
           |cases hl
        obtain⟨i,hi⟩:=hie
        rw[e1,e2,← Nat.add_assoc,run_equalIn_array w (d+n) _ _ hu hi,List.range_eq_range',p]
        rw[Nat.zero_mul,List.drop_zero,List.drop_zero,← hks,List.take_of_length_le (by rw[hx.1];omega),List.take_of_length_le (by rw[hy.1];omega)]
      · cases h
    · cases h
  · cases h
open Classical in
theorem run_equalIn_flat {P:Program} {t:TypeId} {n d:Nat} {ks:List (Option IntKind)} (hn:n≤d) (hk:flatOf P n t=some ks) (hagg:(aggSize P t).isSome=true)
 {xs ys:List Value} (hx:FlatS ks xs) (hy:FlatS ks ys) (w:World):(Op.equalIn d t (.agg xs.toArray) (.agg ys.toArray)).run P w= .ok (decide (xs=ys)) w:=by
 have h:=flat_eqS (P:=P) (d-n) n t ks hk w xs ys hx hy
 rw[show d-n+n=d by omega] at h
 have hp:∀zs:List Value,packV P t zs= .agg zs.toArray:=by
  intro zs
  unfold aggSize at hagg
  unfold packV
  split at hagg
  · rename_i hu;rw[hu]
  · rename_i hu;rw[hu]
  · simp at hagg
 rwa[hp,hp] at h
/-! ### a slice that came in -/
section
variable {H:Type} {enc:TypeId × Value→H} {P:Program} {w:World} {base:Nat}
theorem open_sl {t e:TypeId} {r:Reach} {b0:Nat} {v:Value} {d:DataW H} {p:List MemPlace} (ht:P.underlying t=some (.slice e)) (hv:Value.okWide P w r b0 t v)
 (hC:0<P.cellsOf e) (h:DataW.Trod enc P w 0 (fun _=>true) true t v d p):
 ∃(A:Option Addr) (len cap:Nat) (xs:List Value),v= .slice A len cap∧len≤cap∧cap≤maxLen∧Sl w w.heap.size (P.cellsOf e) A len xs∧
  (∀i,i<len→∃n y,DataW.trod enc P w 0 (fun _=>true) true n e ((xs.drop (i*P.cellsOf e)).take (P.cellsOf e))=some y)∧(A=none→len=0∧cap=0)∧
  (d= .nil∧cap=0∨∃es sp,d= .slice es sp∧es.length+sp.length=cap):=by
 obtain⟨A,len,cap,rfl⟩:=okWide_slice ht hv
 obtain⟨fuel,hf⟩:=h
 rcases Go.Deep.open_slice ht hf with⟨hcs,hx⟩|⟨a,len',cap',m,n,D,Pl,hcs,hb,hl,hm,hmm,hx,hi⟩
 · simp[Value.cells] at hcs
   obtain⟨rfl,rfl,rfl⟩:=hcs
   simp only[Prod.mk.injEq] at hx
   exact⟨none,0,0,[],rfl,Nat.le_refl _,Nat.zero_le _,by simpa using⟨by simp,fun h=>absurd h (by omega)⟩,fun i hi=>absurd hi (by omega),fun _=>⟨rfl,rfl⟩,.inl ⟨hx.1,rfl⟩⟩
 · simp [Value.cells] at hcs
   obtain⟨rfl,rfl,rfl⟩:=hcs
   simp only[if_true] at hmm
   subst hmm
   have hcells:∀i,i<m→∃cs',cs'.length=P.cellsOf e∧(∀j,j<P.cellsOf e→w.cell? (a.add (i*P.cellsOf e+j))=cs'[j]?)∧DataW.trod enc P w 0 (fun _=>true) true n e cs'=some (D i,Pl i):=by
    intro i him
    obtain⟨cs',hc,ht'⟩:=hi i him
    obtain⟨_,hcl,hat⟩:=World.cells?_some hc
    exact⟨cs',hcl,fun j hj=>by rw[← hat j hj,Go.Deep.add_add],ht'⟩
   let xs:=(List.range (len*P.cellsOf e)).map fun j=>(w.cell? (a.add j)).getD undef
   have hxs:∀i,i<len→∀j,j<P.cellsOf e→xs[i*P.cellsOf e+j]? =w.cell? (a.add (i*P.cellsOf e+j)):=by
    intro i hil j hj
    obtain⟨cs',hcl,hat,_⟩:=hcells i (by omega)
    have h1:(i+1)*P.cellsOf e≤len*P.cellsOf e:=Nat.mul_le_mul_right _ (by omega)
    rw[Nat.succ_mul] at h1
    have hc2:cs'[j]? =some (cs'[j]'(by omega)):=List.getElem?_eq_getElem (by omega)
    rw[hat j hj,hc2]
    simp only[xs,List.getElem?_map,List.getElem?_range (show i*P.cellsOf e+j<len*P.cellsOf e by omega),Option.map_some,hat j hj,hc2,Option.getD_some]
   have hxl:xs.length=len*P.cellsOf e:=by simp[xs]
   refine⟨some a,len,m,xs,rfl,hl,hm,⟨hxl,fun hn=>?_⟩,fun i hil=>?_,(fun h=>by cases h),.inr ⟨_,_,(Prod.mk.inj hx).1,by simp;omega⟩⟩
   · obtain⟨b,o,s⟩:=a
     obtain⟨cs',hcl,hat,_⟩:=hcells 0 (by omega)
     have h2:=hat 0 hC
     rw[List.getElem?_eq_getElem (by omega)] at h2
     simp[Addr.add] at h2
     have hs:s=none:=World.cell?_spot h2
     subst hs
     refine⟨b,o,rfl,World.block_lt_of_cell? w _ h2,fun i u hu=>?_⟩
     have hil:i<len*P.cellsOf e:=by have:=(List.getElem?_eq_some_iff.1 hu).1;omega
     have e1:i / P.cellsOf e*P.cellsOf e+i % P.cellsOf e=i:=by rw[Nat.mul_comm];exact Nat.div_add_mod i _
     have h3:=hxs (i / P.cellsOf e) ((Nat.div_lt_iff_lt_mul hC).2 hil) (i % P.cellsOf e) (Nat.mod_lt _ hC)
     rw[e1,hu,Addr.add_lit] at h3
     exact h3.symm
   · obtain⟨cs',hcl,hat,ht'⟩:=hcells i (by omega)
     refine⟨n,(D i,Pl i),?_⟩
     have:(xs.drop (i*P.cellsOf e)).take (P.cellsOf e)=cs':=by
      apply List.ext_getElem?
      intro j
      simp only[List.getElem?_take,List.getElem?_drop]
      split
      · rename_i hj
        rw[hxs i hil j hj,hat j hj]
      · rw[List.getElem?_eq_none (by omega)]
     rw[this];exact ht'
end
theorem chunks {α:Type} (enc:α→List Value) (C:Nat) (hC:∀a,(enc a).length=C) (ok:α→Prop):∀(n:Nat) (xs:List Value),xs.length=n*C→
 (∀i,i<n→∃a,ok a∧(xs.drop (i*C)).take C=enc a)→∃l:List α,l.length=n∧xs=l.flatMap enc∧∀a∈l,ok a
 |0,xs,hl,_=>⟨[],rfl,by simpa using hl,by simp⟩
 | n+1,xs,hl,h=>by
  obtain⟨a,ha,e⟩:=h 0 (by omega)
  rw[Nat.zero_mul,List.drop_zero] at e
  obtain⟨l,h1,h2,h3⟩:=chunks enc C hC ok n (xs.drop C) (by simp[hl,Nat.succ_mul]) (fun i hi=>by
   obtain⟨b,hb,eb⟩:=h (i+1) (by omega)
   exact⟨b,hb,by rw[List.drop_drop,← eb,Nat.succ_mul,Nat.add_comm]⟩)
  refine⟨a::l,by simp[h1],?_,by simpa using⟨ha,h3⟩⟩
  rw[List.flatMap_cons,← h2,← e,List.take_append_drop]
section
variable {H:Type} {enc:TypeId × Value→H} {P:Program} {w:World}
end
end Go.Proofs.YtpgaplcdbbnblaaGreatDoor
end
/- A symbolic evaluator for the model's code: definitions. Values in which pointers into memory are names, memory as a list of named blocks, the effect of each operation, code with loops unrolled or summed up, calls carried out in place or by a contract. No Go text is in sight. -/
section
namespace Go.Proofs.YtpgaplcdbbnblaaGreatDoor
structure Loc where
 b:Nat
 o:Nat
 s:Nat
 cap:Nat
 nil:Bool
abbrev Nm:=Nat→Option Loc
inductive AC where
 |v (x:Value)
 |ptr (id k j:Nat)
 |sl (id k j len:Nat) (cap:Option Nat)
 |fn (f:FuncId) (caps:List (Nat × Nat × Nat))
 |yld (id:Nat)
  /-- how much room a list has, from element k on -/
 |cap (id k:Nat)
  /-- a method of what a pointer points to -/
 |mv (f:FuncId) (id k j:Nat)
inductive AV where
 |c (x:AC)
 |agg (l:List AC)
 |tup (l:List AV)
 |any
def ad (β:Nm) (id k j:Nat):Option Addr:=
 match β id with
 |some L=>if L.nil then none else some ⟨L.b,L.o+(k*L.s+j),none⟩
 |none=>none
def γp (β:Nm):List (Nat × Nat × Nat)→Option (List Value)
 | []=>some []
 |(id,k,j)::r=>
  match ad β id k j,γp β r with
  |some a,some vs=>some (.pointer (some a)::vs)
  |_,_=>none
def γc (β:Nm):AC→Option Value
 | .v x=>some x
 | .ptr id k j=>match ad β id k j with|some a=>some (.pointer (some a))|none=>none
 | .sl id k j len cap=>
  match β id with
  |some L=>if L.nil then (if len=0∧cap.getD 0=0 then some (.slice none 0 0) else none) else some (.slice (some ⟨L.b,L.o+(k*L.s+j),none⟩) len (cap.getD (L.cap-k)))
  |none=>none
 | .fn f caps=>match γp β caps with|some vs=>some (.func (.func f) #[] vs.toArray)|none=>none
 | .yld id=>match β id with|some L=>(if L.nil then none else some (.func (.yield L.b) #[] #[]))|none=>none
 | .cap id k=>match β id with|some L=>some (.int .i64 (if L.nil then 0 else ((L.cap-k:Nat):Int)))|none=>none
 | .mv f id k j=>match ad β id k j with|some a=>some (.func (.func f) #[.pointer (some a)] #[])|none=>none
def γs (β:Nm):List AC→Option (List Value)
 | []=>some []
 |x::r=>
  match γc β x,γs β r with
  |some v,some vs=>some (v::vs)
  |_,_=>none
def γ1 (β:Nm):AV→Option Value
 | .c x=>γc β x
 | .agg l=>match γs β l with|some vs=>some (.agg vs.toArray)|none=>none
 |_=>none
def γt (β:Nm):List AV→Option (List Value)
 | []=>some []
 |x::r=>
  match γ1 β x,γt β r with
  |some v,some vs=>some (v::vs)
  |_,_=>none
def γ (β:Nm):AV→Option Value
 | .tup l=>match γt β l with|some vs=>some (.tuple vs.toArray)|none=>none
 |x=>γ1 β x
/-! ### memory -/
inductive AObj where
 |loop (st:LoopState) (pd:Option Code) (tm:List AV) (ps:Array Tmp) (as bd:Code) (dn:Nat)
 |dfr (op:Bool)
inductive Cs where
 |lit (l:List AC)
 |arr (n:Nat) (f:Nat→List AC)
 |obj (o:AObj)
structure ABlk where
 own:Bool
 row:Bool
 ty:TypeId
 sz:Nat
 cs:Cs
abbrev AMem:=List (Nat × ABlk)
def oblk (o:AObj):ABlk:=⟨false,false,0,0,.obj o⟩
def look:AMem→Nat→Option ABlk
 | [],_=>none
 |(i,b)::r,id=>match Nat.beq i id with|true=>some b|false=>look r id
def updM:AMem→Nat→ABlk→AMem
 | [],_,_=>[]
 |(i,x)::r,id,b=>match Nat.beq i id with|true=>(i,b)::r|false=>(i,x)::updM r id b
def delM:AMem→Nat→AMem
 | [],_=>[]
 |(i,x)::r,id=>match Nat.beq i id with|true=>delM r id|false=>(i,x)::delM r id
inductive Efx where
 |put (id:Nat) (b:ABlk)
 |app (id0 ib:Nat) (b:ABlk)
def Efx.on:Efx→AMem→AMem
 | .put id b,m=>updM m id b
 | .app id0 ib b,m=>delM m id0++[(ib,b)]
def Efx.tid:Efx→Nat
 | .put id _=>id
 | .app id0 _ _=>id0
def nov:AC:=.v undef
def Cs.get:Cs→Nat→Nat→AC
 | .lit l,_,j=>l.getD j nov
 | .arr _ f,k,j=>(f k).getD j nov
 | .obj _,_,_=>nov
def ABlk.inb (x:ABlk) (k j:Nat):Bool:=
 match x.cs with
 | .lit l=>decide (k*x.sz+j≤l.length)
 | .arr n _=>decide (k<n)&&decide (j≤x.sz)
 | .obj _=>false
def pickC (b:Bool) (x y:AC):AC:=match b with|true=>x|false=>y
def setS:Nat→List AC→Nat→AC→List AC
 |_,[],_,_=>[]
 |i,y::r,j,x=>pickC (Nat.beq i j) x y::setS (i+1) r j x
theorem setS_eq (x:AC) (j:Nat):∀(l:List AC) (i:Nat),setS i l j x=if i≤j then l.set (j-i) x else l
 | [],i=>by unfold setS;split<;>rfl
 | y ::r,i=>by
  unfold setS
  rw[setS_eq x j r (i+1)]
  unfold pickC
  cases h:Nat.beq i j with
  |true=>
   have e:i=j:=Nat.eq_of_beq_eq_true h
   subst e
   rw[if_pos (Nat.le_refl _),if_neg (by omega)]
   simp
  |false=>
   have e:i≠j:=fun e=>by subst e;simp at h
   by_cases h1:i≤j
   · have h2:i+1≤j:=by omega
     rw[if_pos h1,if_pos h2,show j-i=(j-(i+1))+1 by omega]
     rfl
   · rw[if_neg h1,if_neg (by omega)]
theorem setS_eq0 (l:List AC) (j:Nat) (x:AC):setS 0 l j x=l.set j x:=by rw[setS_eq];simp
def setL:List AC→Nat→List AC→List AC
 |l,_,[]=>l
 |l,j,x::r=>setL (setS 0 l j x) (j+1) r
def Cs.put:Cs→Nat→Nat→List AC→Cs
 | .lit l,_,j,vs=>.lit (setL l j vs)
 | .arr n f,k,j,vs=>.arr n fun i=>if i=k then setL (f i) j vs else f i
 | .obj o,_,_,_=>.obj o
/-! ### leaves by their kind -/
inductive Kd where
 |b
 |i (k:IntKind)
 |any
def asB:AC→Bool
 | .v (.bool b)=>b
 |_=>false
def asI:AC→Int
 | .v (.int _ n)=>n
 |_=>0
def tl:Kd→AC→AC
 | .b,x=>.v (.bool (asB x))
 | .i k,x=>.v (.int k (asI x))
 | .any,x=>x
def okl:Kd→AC→Bool
 | .b,.v (.bool _)=>true
 | .i k,.v (.int k' _)=>k==k'
 | .any,_=>true
 |_,_=>false
def AC.one:AC→Bool
 | .v x=>x.oneCell'
 |_=>true
def kdFields (P:Program) (g:TypeId→Option (List Kd)):List Field→Nat→Option (List Kd)
 | [],_=>some []
 | f::fs,off=>
  match Nat.beq f.offset off with
  |true=>
   match g f.type with
   |some l=>match kdFields P g fs (off+l.length) with|some r=>some (l++r)|none=>none
   |none=>none
  |false=>none
def kinds (P:Program):Nat→TypeId→Option (List Kd)
 |0,_=>none
 |n+1,t=>
  match P.underlying t with
  |some .bool=>some [.b]
  |some (.int k)=>some [.i k]
  |some (.struct fs)=>kdFields P (kinds P n) fs.toList 0
  |some (.array m e)=>match kinds P n e with|some l=>some ((List.replicate m l).flatten)|none=>none
  |some _=>match P.info? t with|some i=>(match Nat.beq i.size 1 with|true=>some [.any]|false=>none)|none=>none
  |none=>none
def aggB (P:Program) (t:TypeId):Option Bool:=
 match P.underlying t with
 |some (.struct _)|some (.array _ _)=>some true
 |some _=>some false
 |none=>none
def sizeA (P:Program) (t:TypeId):Option Nat:=match P.info? t with|some i=>some i.size|none=>none
def lay? (P:Program) (t:TypeId):Option (Bool × List Kd):=
 match aggB P t,kinds P 9 t,sizeA P t with
 |some a,some ks,some n=>if ks.length=n∧(a=true∨n=1) then some (a,ks) else none
 |_,_,_=>none
def rd (cs:Cs) (k:Nat):Nat→List Kd→List AC
 |_,[]=>[]
 |j,kd::r=>tl kd (cs.get k j)::rd cs k (j+1) r
def oks (cs:Cs) (k:Nat):Nat→List Kd→List Bool
 |_,[]=>[]
 |j,.any::r=>oks cs k (j+1) r
 |j,kd::r=>okl kd (cs.get k j)::oks cs k (j+1) r
/-! ### operands -/
def gid (g:Nat):Nat:=100000000000000000000000000000000000000000000000000000000000000000000000000000000+g
def ofV:Value→AV
 | .agg cs=>.agg (cs.toList.map .v)
 |x=>.c (.v x)
def evA (tm:List AV) (m:AMem):Operand→Option AV
 | .tmp t=>tm[t]?
 | .const v=>some (ofV v)
 | .global g=>match look m (gid g) with|some _=>some (.c (.ptr (gid g) 0 0))|none=>none
 | .func f=>some (.c (.v (.func (.func f) #[] #[])))
def evC (tm:List AV) (m:AMem) (x:Operand):Option AV:=
 match evA tm m x with
 |some (.c y)=>some (.c y)
 |some (.agg l)=>some (.agg l)
 |_=>none
def evAs (tm:List AV) (m:AMem):List Operand→Option (List AV)
 | []=>some []
 |x::r=>
  match evC tm m x,evAs tm m r with
  |some v,some vs=>some (v::vs)
  |_,_=>none
def evPs (tm:List AV) (m:AMem):List (Nat × Operand)→Option (List (Nat × AV))
 | []=>some []
 |(i,x)::r=>
  match evC tm m x,evPs tm m r with
  |some v,some vs=>some ((i,v)::vs)
  |_,_=>none
def AV.cells:AV→Option (List AC)
 | .c x=>some [x]
 | .agg l=>some l
 |_=>none
/-! ### what an operation does -/
inductive ARes where
 |eff (val:AV) (news:AMem) (ob:List Bool)
 |upd (val:AV) (e:Efx) (ob:List Bool)
 |call (f:FuncId) (args:List AV)
 |yld (id:Nat) (args:List AV)
def aAlloc (P:Program) (ib:Nat) (t:TypeId):Option ARes:=
 match P.info? t with
 |some i=>
  match i.zero with
  |some z=>match z.cells.toList.all (·.oneCell') with|true=>some (.eff (.c (.ptr ib 0 0)) [(ib,⟨true,false,t,0,.lit (z.cells.toList.map .v)⟩)] [])|false=>none
  |none=>none
 |none=>none
def aBox (ib:Nat) (t:TypeId) (x:AV):Option ARes:=
 match x.cells with
 |some l=>match l.all AC.one with|true=>some (.eff (.c (.ptr ib 0 0)) [(ib,⟨true,false,t,0,.lit l⟩)] [])|false=>none
 |none=>none
def hd1:List AC→AC
 |x::_=>x
 | []=>nov
def aLoad (P:Program) (m:AMem) (t:TypeId):AV→Option ARes
 | .c (.ptr id k j)=>
  match look m id,lay? P t with
  |some x,some (true,ks)=>some (.eff (.agg (rd x.cs k j ks)) [] (x.inb k (j+ks.length)::oks x.cs k j ks))
  |some x,some (false,ks)=>some (.eff (.c (hd1 (rd x.cs k j ks))) [] (x.inb k (j+ks.length)::oks x.cs k j ks))
  |_,_=>none
 |_=>none
def aStore (P:Program) (m:AMem) (t:TypeId) (a x:AV):Option ARes:=
 match a,x.cells,sizeA P t with
 | .c (.ptr id k j),some vs,some (n+1)=>
  match look m id with
  |some b=>
   match b.own&&(Nat.beq vs.length (n+1)&&vs.all AC.one) with
   |true=>some (.upd (.c (.v undef)) (.put id {b with cs:=b.cs.put k j vs}) [b.inb k (j+vs.length)])
   |false=>none
  |none=>none
 |_,_,_=>none
def bitsOp (op:BinOp) (k:IntKind) (x y:Int):Option Int:=
 let a:=BitVec.ofInt k.bits x
 let b:=BitVec.ofInt k.bits y
 match op with
 | .and=>some (k.wrap (a &&& b).toNat)
 | .or=>some (k.wrap (a ||| b).toNat)
 | .xor=>some (k.wrap (a ^^^ b).toNat)
 | .andNot=>some (k.wrap (a &&& ~~~b).toNat)
 |_=>none
def intOp (op:BinOp) (k:IntKind) (x y:Int):Option (Value × List Bool):=
 match op with
 | .add=>some (.int k (k.wrap (x+y)),[])
 | .sub=>some (.int k (k.wrap (x-y)),[])
 | .mul=>some (.int k (k.wrap (x*y)),[])
 | .quo=>some (.int k (k.wrap (x.tdiv y)),[decide (y≠0)])
 | .rem=>some (.int k (x.tmod y),[decide (y≠0)])
 | .and | .or | .xor | .andNot=>match bitsOp op k x y with|some n=>some (.int k n,[])|none=>none
 | .eql=>some (.bool (x==y),[])
 | .neq=>some (.bool (x !=y),[])
 | .lss=>some (.bool (decide (x<y)),[])
 | .leq=>some (.bool (decide (x≤y)),[])
 | .gtr=>some (.bool (decide (x>y)),[])
 | .geq=>some (.bool (decide (x≥y)),[])
 |_=>none
def shOp (op:BinOp) (k:IntKind) (x y:Int):Option (Value × List Bool):=
 match op with
 | .shl=>some (.int k (k.wrap (x*2^(min y.toNat k.bits))),[decide (0≤y)])
 | .shr=>some (.int k (x.fdiv (2^(min y.toNat k.bits))),[decide (0≤y)])
 |_=>none
def eqF:List (Option IntKind)→List AC→List AC→Bool
 |none::ks,x::xs,y::ys=>asB x==asB y&&eqF ks xs ys
 |some _::ks,x::xs,y::ys=>asI x==asI y&&eqF ks xs ys
 |_,_,_=>true
def okF:List (Option IntKind)→List AC→List Bool
 |none::ks,x::xs=>okl .b x::okF ks xs
 |some k::ks,x::xs=>okl (.i k) x::okF ks xs
 |_,_=>[]
def neg? (op:BinOp) (b:Bool):Option Bool:=
 match op with
 | .eql=>some b
 | .neq=>some !b
 |_=>none
def aBin (P:Program) (op:BinOp) (t:TypeId):AV→AV→Option ARes
 | .c (.v (.int k x)),.c (.v (.int k' y))=>
  match op with
  | .shl | .shr=>match shOp op k x y with|some (r,ob)=>some (.eff (.c (.v r)) [] ob)|none=>none
  |_=>if k=k' then (match intOp op k x y with|some (r,ob)=>some (.eff (.c (.v r)) [] ob)|none=>none) else none
 | .c (.v (.bool x)),.c (.v (.bool y))=>
  match P.underlying t,neg? op (x==y) with
  |some .bool,some r=>some (.eff (.c (.v (.bool r))) [] [])
  |_,_=>none
 | .c (.v (.pointer none)),.c (.v (.pointer none))=>
  match P.underlying t,neg? op true with
  |some (.pointer _),some r=>some (.eff (.c (.v (.bool r))) [] [])
  |_,_=>none
 | .c (.ptr _ _ _),.c (.v (.pointer none))=>
  match P.underlying t,neg? op false with
  |some (.pointer _),some r=>some (.eff (.c (.v (.bool r))) [] [])
  |_,_=>none
 | .agg xs,.agg ys=>
  match flatOf P 9 t,neg? op (eqF ((flatOf P 9 t).getD []) xs ys),P.eqGuardType P.depth t,(aggSize P t).isSome with
  |some ks,some r,false,true=>
   match Nat.beq xs.length ks.length&&Nat.beq ys.length ks.length with
   |true=>some (.eff (.c (.v (.bool r))) [] (okF ks xs++okF ks ys))
   |false=>none
  |_,_,_,_=>none
 |_,_=>none
def aBinM (P:Program) (m:AMem) (op:BinOp) (t:TypeId) (x y:AV):Option ARes:=
 match x,y with
 | .c (.sl id _ _ _ _),.c (.v (.slice none 0 0))=>
  match P.underlying t,neg? op false,look m id with
  |some (.slice _),some r,some b=>some (.eff (.c (.v (.bool r))) [] [b.inb 0 1])
  |_,_,_=>none
 | .c (.v (.slice none _ _)),.c (.v (.slice none 0 0))=>
  match P.underlying t,neg? op true with
  |some (.slice _),some r=>some (.eff (.c (.v (.bool r))) [] [])
  |_,_=>none
 | .c (.v (.slice (some _) _ _)),.c (.v (.slice none 0 0))=>
  match P.underlying t,neg? op false with
  |some (.slice _),some r=>some (.eff (.c (.v (.bool r))) [] [])
  |_,_=>none
 | .c (.cap id k),.c (.v (.int .i64 y))=>
  match op,look m id with
  | .lss,some x=>
   match x.cs,x.row with
   | .arr n _,true=>some (.eff (.c (.v (.bool false))) [] [decide (k<n∧1≤x.sz),decide (y≤((n-k:Nat):Int))])
   |_,_=>none
  |_,_=>none
 |x,y=>aBin P op t x y
def aUn (op:UnOp):AV→Option ARes
 | .c (.v (.bool b))=>match op with | .not=>some (.eff (.c (.v (.bool !b))) [] [])|_=>none
 | .c (.v (.int k n))=>
  match op with
  | .neg=>some (.eff (.c (.v (.int k (k.wrap (0-n))))) [] [])
  | .xor=>match bitsOp .xor k (if k.signed then -1 else k.max) n with|some r=>some (.eff (.c (.v (.int k r))) [] [])|none=>none
  |_=>none
 |_=>none
def aConv (P:Program) (src dst:TypeId):AV→Option ARes
 | .c (.v (.int _ n))=>
  match P.underlying src,P.underlying dst with
  |some _,some (.int k)=>some (.eff (.c (.v (.int k (k.wrap n)))) [] [])
  |_,_=>none
 |_=>none
def capsOf:List AV→Option (List (Nat × Nat × Nat))
 | []=>some []
 | .c (.ptr id k j)::r=>match capsOf r with|some l=>some ((id,k,j)::l)|none=>none
 |_=>none
def aFieldAddr (P:Program) (t:TypeId) (f:Nat):AV→Option ARes
 | .c (.ptr id k j)=>
  match P.underlying t with
  |some (.struct fs)=>
   match fs[f]? with
   |some fd=>match sizeA P fd.type with|some (_+1)=>some (.eff (.c (.ptr id k (j+fd.offset))) [] [])|_=>none
   |none=>none
  |_=>none
 |_=>none
def aField (P:Program) (t:TypeId) (f:Nat):AV→Option ARes
 | .agg l=>
  match P.underlying t with
  | some (.struct fs)=>
   match fs[f]? with
   |some fd=>
    match aggB P fd.type,sizeA P fd.type with
    |some true,some n=>some (.eff (.agg ((l.drop fd.offset).take n)) [] [])
    |some false,some _=>if fd.offset<l.length then some (.eff (.c (l.getD fd.offset nov)) [] []) else none
    |_,_=>none
   |none=>none
  |_=>none
 |_=>none
def aIndexAddr (P:Program) (m:AMem) (t:TypeId):AV→AV→Option ARes
 | .c (.ptr id k j),.c (.v (.int _ i))=>
  match P.underlying t with
  |some (.array n e)=>match sizeA P e with|some s=>some (.eff (.c (.ptr id k (j+i.toNat*s))) [] [decide (0≤i∧i<(n:Int))])|none=>none
  |_=>none
 | .c (.sl id k j len _),.c (.v (.int _ i))=>
  match P.underlying t,look m id with
  |some (.slice e),some x=>
   match sizeA P e with
   |some s=>if x.sz=s then some (.eff (.c (.ptr id (k+i.toNat) j)) [] [decide (0≤i∧i<(len:Int))])
      else if x.sz=0 then some (.eff (.c (.ptr id k (j+i.toNat*s))) [] [decide (0≤i∧i<(len:Int))]) else none
   |none=>none
  |_,_=>none
 |_,_=>none
def rdL (l:List AC):Nat→List Kd→List AC
 |_,[]=>[]
 |j,kd::r=>tl kd (l.getD j nov)::rdL l (j+1) r
def okL (l:List AC):Nat→List Kd→List Bool
 |_,[]=>[]
 |j,.any::r=>okL l (j+1) r
 |j,kd::r=>okl kd (l.getD j nov)::okL l (j+1) r
def aIndex (P:Program) (t:TypeId):AV→AV→Option ARes
 | .agg l,.c (.v (.int _ i))=>
  match P.underlying t with
  |some (.array n e)=>
   match lay? P e with
   |some (true,ks)=>if n*ks.length=l.length then some (.eff (.agg (rdL l (i.toNat*ks.length) ks)) [] (decide (0≤i∧i<(n:Int))::okL l (i.toNat*ks.length) ks)) else none
   |some (false,ks)=>if n*ks.length=l.length then some (.eff (.c (hd1 (rdL l (i.toNat*ks.length) ks))) [] (decide (0≤i∧i<(n:Int))::okL l (i.toNat*ks.length) ks)) else none
   |none=>none
  |_=>none
 | .c (.v (.string x)),.c (.v (.int _ i))=>
  match P.underlying t with
  |some .string=>
   match x[i.toNat]? with
   |some b=>some (.eff (.c (.v (.int .u8 b.toNat))) [] [decide (0≤i)])
   |none=>none
  |_=>none
 |_,_=>none
def aExtract (i:Nat):AV→Option ARes
 | .tup l=>match l[i]? with|some x=>some (.eff x [] [])|none=>none
 |_=>none
def bldA (f:Nat→Option (Nat × Nat)):List AC→List (Nat × AV)→Option (List AC)
 |acc,[]=>some acc
 |acc,(i,x)::r=>
  match f i,x.cells with
  |some (o,k),some vs=>match Nat.beq vs.length k&&(Nat.ble (o+k) acc.length&&vs.all AC.one) with|true=>bldA f (setL acc o vs) r|false=>none
  |_,_=>none
def placesF (P:Program):List Field→Option (List (Nat × Nat))
 | []=>some []
 |f::r=>match sizeA P f.type,placesF P r with|some n,some l=>some ((f.offset,n)::l)|_,_=>none
def zeroA (P:Program) (t:TypeId):Option (List AC):=
 match P.info? t with
 |some i=>match i.zero with|some z=>some (z.cells.toList.map .v)|none=>none
 |none=>none
def aBuild (P:Program) (t:TypeId) (ps:List (Nat × AV)):Option ARes:=
 match zeroA P t,P.underlying t with
 |some z,some (.struct fs)=>
  match placesF P fs.toList with
  |some pl=>match bldA (fun i=>pl[i]?) z ps with|some l=>some (.eff (.agg l) [] [])|none=>none
  |none=>none
 |some z,some (.array _ e)=>
  match sizeA P e with
  |some s=>match bldA (fun i=>some (i*s,s)) z ps with|some l=>some (.eff (.agg l) [] [])|none=>none
  |none=>none
 |_,_=>none
def flatParts (s:Nat):Nat→List (Nat × AV)→Option (List AC)
 |_,[]=>some []
 |i,(j,x)::r=>
  match x.cells,flatParts s (i+1) r with
  |some vs,some l=>match Nat.beq i j&&(Nat.beq vs.length s&&vs.all AC.one) with|true=>some (vs++l)|false=>none
  |_,_=>none
def aBuildSlice (P:Program) (ib:Nat) (t:TypeId) (n:Nat) (ps:List (Nat × AV)):Option ARes:=
 match P.underlying t with
 | some (.slice e)=>
  match sizeA P e,zeroA P e,flatParts ((sizeA P e).getD 0) 0 ps with
  |some s,some z,some l=>
   match Nat.beq ps.length n&&(Nat.ble 1 (n*s)&&(Nat.ble (n*s) 16777216&&Nat.beq z.length s)) with
   |true=>some (.eff (.c (.sl ib 0 0 n (some n))) [(ib,⟨true,false,e,0,.lit l⟩)] [])
   |false=>none
  |_,_,_=>none
 |_=>none
def aEmpty (P:Program) (ib:Nat) (t:TypeId):List (Nat × AV)→Option ARes
 | []=>
  match P.underlying t with
  |some (.slice e)=>
   match sizeA P e with
   |some s=>match Nat.ble 1 s with|true=>some (.eff (.c (.sl ib 0 0 0 none)) [(ib,⟨true,true,e,s,.arr 0 fun _=>[]⟩)] [])|false=>none
   |none=>none
  |_=>none
 |_=>none
def optI (tm:List AV) (m:AMem):Option Operand→Option (Option Int)
 |none=>some none
 |some x=>match evA tm m x with|some (.c (.v (.int _ i)))=>some (some i)|_=>none
def slC (cap:Option Nat) (len:Nat):Option Int→Int
 |some M=>M
 |none=>((cap.getD len:Nat):Int)
def slCap (cap:Option Nat) (l:Int):Option Int→Option Nat
 |some M=>some (M-l).toNat
 |none=>match cap with|some q=>some (q-l.toNat)|none=>none
def slRow (cap:Option Nat) (x:ABlk) (k len:Nat):Bool:=
 match cap,x.cs with
 |some _,_=>true
 |none,.arr n _=>x.row&&decide (k+len≤n)
 |none,_=>false
def slOb (cap:Option Nat) (x:ABlk) (k len:Nat) (lo hi mx:Option Int):List Bool:=
 [decide (0≤lo.getD 0∧lo.getD 0≤hi.getD (len:Int)∧hi.getD (len:Int)≤slC cap len mx),decide (lo.getD 0=0∨lo.getD 0<slC cap len mx),decide (slC cap len mx≤((cap.getD len:Nat):Int)),mx.isNone||hi.isSome,slRow cap x k len]
def roRow (x:ABlk):Option Nat→Bool
 |none=>x.row&&!x.own
 |some _=>false
def wdRow (x:ABlk):Option Nat→Option Int→Option Int→Bool
 |none,some _,none=>x.row&&x.own
 |_,_,_=>false
def aSlice (P:Program) (m:AMem) (ib:Nat) (t:TypeId) (lo hi mx:Option Int):AV→Option ARes
 | .c (.v (.slice none 0 0))=>
  match P.underlying t with
  |some (.slice e)=>match sizeA P e with|some _=>some (.eff (.c (.v (.slice none 0 0))) [] [decide (lo.getD 0=0∧hi.getD 0=0∧mx.getD 0=0),mx.isNone||hi.isSome])|none=>none
  |_=>none
 | .c (.sl id k j len cap)=>
  match P.underlying t,look m id with
  | some (.slice e),some x=>
   match sizeA P e with
   |some s=>
    match roRow x cap,x.cs with
    |true,.arr n f=>some (.eff (.c (.sl ib 0 0 (hi.getD (len:Int)-lo.getD 0).toNat none)) [(ib,⟨false,true,x.ty,s,.arr (hi.getD (len:Int)-lo.getD 0).toNat fun i=>f (k+(lo.getD 0).toNat+i)⟩)] [decide (x.sz=s∧j=0),decide (0≤lo.getD 0∧lo.getD 0≤hi.getD (len:Int)∧hi.getD (len:Int)≤len),mx.isNone,decide (k+len≤n)])
    |_,_=>
    match wdRow x cap hi mx,x.cs with
    |true,.arr n _=>some (.eff (.c (.sl id (k+(lo.getD 0).toNat) j (hi.getD (len:Int)-lo.getD 0).toNat none)) [] [decide (x.sz=s∧1≤x.sz),decide (0≤lo.getD 0∧lo.getD 0≤hi.getD (len:Int)∧hi.getD (len:Int)≤((n-k:Nat):Int)),decide (lo.getD 0=0∨lo.getD 0<((n-k:Nat):Int)),decide (len=0∨k<n)])
    |_,_=>
    if x.sz=s then some (.eff (.c (.sl id (k+(lo.getD 0).toNat) j (hi.getD (len:Int)-lo.getD 0).toNat (slCap cap (lo.getD 0) mx))) [] (slOb cap x k len lo hi mx))
    else if x.sz=0∧cap.isSome=true then some (.eff (.c (.sl id k (j+(lo.getD 0).toNat*s) (hi.getD (len:Int)-lo.getD 0).toNat (slCap cap (lo.getD 0) mx))) [] (slOb cap x k len lo hi mx)) else none
   |none=>none
  |_,_=>none
 |_=>none
def aLen (P:Program) (t:TypeId):AV→Option ARes
 | .c (.sl _ _ _ len _)=>match P.underlying t with|some (.slice _)=>some (.eff (.c (.v (goInt len))) [] [])|_=>none
 | .c (.v (.slice _ n _))=>match P.underlying t with|some (.slice _)=>some (.eff (.c (.v (goInt n))) [] [])|_=>none
 | .c (.v (.string s))=>match P.underlying t with|some .string=>some (.eff (.c (.v (goInt s.size))) [] [])|_=>none
 |_=>none
def aCap (P:Program) (m:AMem) (t:TypeId):AV→Option ARes
 | .c (.sl id k _ _ none)=>
  match P.underlying t,look m id with
  |some (.slice _),some x=>match x.row with|true=>some (.eff (.c (.cap id k)) [] [])|false=>none
  |_,_=>none
 | .c (.sl _ _ _ _ (some c))=>match P.underlying t with|some (.slice _)=>some (.eff (.c (.v (goInt c))) [] [])|_=>none
 | .c (.v (.slice _ _ c))=>match P.underlying t with|some (.slice _)=>some (.eff (.c (.v (goInt c))) [] [])|_=>none
 |_=>none
def minL (k:IntKind):Int→List AV→Option Int
 |x,[]=>some x
 |x,.c (.v (.int _ y))::r=>minL k (if y<x then y else x) r
 |_,_=>none
def maxL (k:IntKind):Int→List AV→Option Int
 |x,[]=>some x
 |x,.c (.v (.int _ y))::r=>maxL k (if y>x then y else x) r
 |_,_=>none
def elt (x:ABlk) (k j s:Nat):Nat→List AC:=
 match x.cs with
 | .arr _ f=>fun i=>f (k+i)
 | .lit l=>fun i=>(l.drop (j+i*s)).take s
 | .obj _=>fun _=>[]
def eltB (x:ABlk) (k j s n:Nat):Option Bool:=
 match x.cs with
 | .arr q _=>if x.sz=s∧j=0 then some (decide (k+n≤q)) else none
 | .lit l=>some (decide (j+n*s≤l.length))
 | .obj _=>none
def apd (e:TypeId) (s:Nat) (n:Nat) (f:Nat→List AC) (q:Nat) (g:Nat→List AC):ABlk:=⟨true,true,e,s,.arr (n+q) fun i=>if i<n then f i else g (i-n)⟩
def aAppend (P:Program) (m:AMem) (ib:Nat) (t t':TypeId) (x y:AV):Option ARes:=
 match Nat.beq t t',P.underlying t with
 | true,some (.slice e)=>
  match P.info? e,zeroA P e,x,y with
  | some i,some z,.c (.v (.slice none 0 0)),.c (.sl id k j n _)=>
   match look m id with
   |some b=>
    match eltB b k j i.size n,Nat.ble 1 i.size&&(Nat.ble 1 i.bytes&&Nat.beq z.length i.size) with
    |some ob,true=>some (.eff (.c (.sl ib 0 0 (0+n) none)) [(ib,apd e i.size 0 (fun _=>[]) n (elt b k j i.size))] [ob,decide (n*i.bytes≤140737488355328)])
    |_,_=>none
   |none=>none
  |some i,some z,.c (.v (.slice none 0 0)),.c (.v (.slice _ 0 _))=>
   match Nat.ble 1 i.size&&(Nat.ble 1 i.bytes&&Nat.beq z.length i.size) with
   |true=>some (.eff (.c (.v (.slice none 0 0))) [] [])
   |false=>none
  | some i,some z,.c (.sl id0 k0 j0 len none),.c (.v (.slice _ 0 _))=>
   match look m id0 with
   |some b0=>
    match Nat.ble 1 i.size&&(Nat.ble 1 i.bytes&&Nat.beq z.length i.size),b0.cs with
    |true,.arr n0 _=>some (.eff (.c (.sl id0 k0 j0 len none)) [] [decide (k0=0),decide (len≤n0),b0.row])
    |_,_=>none
   |none=>none
  | some i,some z,.c (.sl id0 k0 j0 len none),.c (.sl id k j n _)=>
   match look m id0,look m id with
   | some b0,some b=>
    match eltB b k j i.size n,Nat.ble 1 i.size&&(Nat.ble 1 i.bytes&&(Nat.beq z.length i.size&&(b0.own&&(b0.row&&(Nat.beq b0.ty e&&(Nat.beq b0.sz i.size&&(Nat.beq j0 0&&!(Nat.beq id0 id)))))))),b0.cs with
    |some ob,true,.arr n0 f0=>
     some (.upd (.c (.sl ib 0 0 (len+n) none)) (.app id0 ib (apd e i.size len f0 n (elt b k j i.size))) [ob,decide (k0=0),decide (len≤n0),decide ((len+n)*i.bytes≤140737488355328)])
    |_,_,_=>none
   |_,_=>none
  | some i,some z,.c (.sl id0 k0 j0 len (some cap)),.c (.sl id k j n _)=>
   match look m id0,look m id with
   |some b0,some b=>
    match eltB b0 k0 j0 i.size len,eltB b k j i.size n,Nat.ble 1 i.size&&(Nat.ble 1 i.bytes&&Nat.beq z.length i.size) with
    |some ob0,some ob,true=>some (.eff (.c (.sl ib 0 0 (len+n) none)) [(ib,apd e i.size len (elt b0 k0 j0 i.size) n (elt b k j i.size))] [ob0,ob,decide (1≤len∧1≤n∧cap<len+n),decide ((len+n)*i.bytes≤140737488355328)])
    |_,_,_=>none
   |_,_=>none
  |_,_,_,_=>none
 | false,some (.slice e)=>
  match P.underlying t',P.info? e,zeroA P e,x,y with
  |some (.int _),some i,some z,.c (.v (.slice none 0 0)),.c (.v (.int _ q))=>
   match Nat.ble 1 i.size&&(Nat.ble 1 i.bytes&&(Nat.beq z.length i.size&&z.all AC.one)) with
   |true=>some (.eff (.c (.sl ib 0 0 (0+q.toNat) none)) [(ib,apd e i.size 0 (fun _=>[]) q.toNat fun _=>z)] [decide (1≤q∧q*i.bytes≤140737488355328)])
   |false=>none
  |_,_,_,_,_=>none
 |_,_=>none
def aMake (P:Program) (ib:Nat) (t:TypeId):AV→AV→Option ARes
 | .c (.v (.int _ l)),.c (.v (.int _ c))=>
  match P.underlying t with
  | some (.slice e)=>
   match P.info? e,zeroA P e with
   |some i,some z=>
    match Nat.ble 1 i.size&&(Nat.ble 1 i.bytes&&(Nat.beq z.length i.size&&z.all AC.one)) with
    |true=>some (.eff (.c (.sl ib 0 0 l.toNat none)) [(ib,⟨true,true,e,i.size,.arr l.toNat fun _=>z⟩)] [decide (0≤l∧l=c∧l*i.bytes≤140737488355328)])
    |false=>none
   |_,_=>none
  |_=>none
 |_,_=>none
def aCopy (P:Program) (m:AMem) (t t':TypeId) (x y:AV):Option ARes:=
 match P.underlying t,P.underlying t',x,y with
 | some (.slice e),some (.slice _),.c (.sl id k j n _),.c (.sl id' k' j' n' _)=>
  match P.info? e,look m id,look m id' with
  |some i,some b,some b'=>
   match eltB b' k' j' i.size (min n n'),Nat.ble 1 i.size&&(b.own&&(Nat.beq b.sz i.size&&Nat.beq j 0)),b.cs with
   |some ob,true,.arr q f=>some (.upd (.c (.v (goInt (min n n':Nat)))) (.put id {b with cs:=.arr q fun p=>if k≤p∧p<k+min n n' then elt b' k' j' i.size (p-k) else f p}) [ob,decide (k+min n n'≤q)])
   |_,_,_=>none
  |_,_,_=>none
 |_,_,_,_=>none
def aClear (P:Program) (m:AMem) (t:TypeId):AV→Option ARes
 | .c (.sl id k j n _)=>
  match P.underlying t with
  | some (.slice e)=>
   match P.info? e,zeroA P e,look m id with
   |some i,some z,some b=>
    match Nat.ble 1 i.size&&(b.own&&(Nat.beq b.sz i.size&&(Nat.beq j 0&&(Nat.beq z.length i.size&&z.all AC.one)))),b.cs with
    |true,.arr q f=>some (.upd (.tup []) (.put id {b with cs:=.arr q fun p=>if k≤p∧p<k+n then z else f p}) [decide (k+n≤q)])
    |_,_=>none
   |_,_,_=>none
  |_=>none
 |_=>none
def aBuiltin (P:Program) (m:AMem) (ib:Nat) (b:Builtin) (ts:List TypeId) (args:List AV):Option ARes:=
 match b,ts,args with
 | .len,t::_,x::_=>aLen P t x
 | .cap,t::_,x::_=>aCap P m t x
 | .append,[t,t'],[x,y]=>aAppend P m ib t t' x y
 | .copy,[t,t'],[x,y]=>aCopy P m t t' x y
 | .clear,[t],[x]=>aClear P m t x
 | .min,_,.c (.v (.int k x))::r=>match minL k x r with|some n=>some (.eff (.c (.v (.int k n))) [] [])|none=>none
 | .max,_,.c (.v (.int k x))::r=>match maxL k x r with|some n=>some (.eff (.c (.v (.int k n))) [] [])|none=>none
 |_,_,_=>none
def aCall (args:List AV):AV→Option ARes
 | .c (.v (.func (.func f) ⟨[]⟩ ⟨[]⟩))=>some (.call f args)
 | .c (.fn f caps)=>some (.call f (args++caps.map fun (id,k,j)=>.c (.ptr id k j)))
 | .c (.yld id)=>some (.yld id args)
 |_=>none
def aop (P:Program) (tm:List AV) (m:AMem) (ib:Nat) (o:Op):Option ARes:=
 match o with
 | .move x | .assign x=>match evA tm m x with|some .any=>none|some v=>some (.eff v [] [])|none=>none
 | .pick c a b=>
  match evA tm m c with
  |some (.c (.v (.bool t)))=>match (match t with|true=>evA tm m a|false=>evA tm m b) with|some .any=>none|some v=>some (.eff v [] [])|none=>none
  |_=>none
 | .alloc t=>aAlloc P ib t
 | .box t x=>match evA tm m x with|some v=>aBox ib t v|none=>none
 | .build t ps=>match evPs tm m ps.toList with|some l=>aBuild P t l|none=>none
 | .buildSlice t n ps=>match evPs tm m ps.toList with|some l=>(match n with|0=>aEmpty P ib t l|n'+1=>aBuildSlice P ib t (n'+1) l)|none=>none
 | .load t a=>match evA tm m a with|some v=>aLoad P m t v|none=>none
 | .store t a x=>match evA tm m a,evA tm m x with|some v,some u=>aStore P m t v u|_,_=>none
 | .nilCheck x=>
  match evA tm m x with
  |some (.c (.ptr id k j))=>some (.eff (.c (.ptr id k j)) [] [])
  |some (.c (.v (.func (.func f) a b)))=>some (.eff (.c (.v (.func (.func f) a b))) [] [])
  |some (.c (.fn f l))=>some (.eff (.c (.fn f l)) [] [])
  |some (.c (.yld id))=>some (.eff (.c (.yld id)) [] [])
  |_=>none
 | .binOp op t x y _=>match evA tm m x,evA tm m y with|some v,some u=>aBinM P m op t v u|_,_=>none
 | .unOp op _ x=>match evA tm m x with|some v=>aUn op v|none=>none
 | .convert s d x=>match evA tm m x with|some v=>aConv P s d v|none=>none
 | .makeFunc (.func f) first caps=>
  match first.toList,evAs tm m caps.toList with
  | [],some l=>match capsOf l with|some cs=>some (.eff (.c (.fn f cs)) [] [])|none=>none
  | [x],some []=>match evA tm m x with|some (.c (.ptr id k j))=>some (.eff (.c (.mv f id k j)) [] [])|_=>none
  |_,_=>none
 | .makeSlice t l c=>match evA tm m l,evA tm m c with|some v,some u=>aMake P ib t v u|_,_=>none
 | .slice t x lo hi mx=>
  match evA tm m x,optI tm m lo,optI tm m hi,optI tm m mx with
  |some v,some l,some h,some q=>aSlice P m ib t l h q v
  |_,_,_,_=>none
 | .fieldAddr t x f=>match evA tm m x with|some v=>aFieldAddr P t f v|none=>none
 | .field t x f=>match evA tm m x with|some v=>aField P t f v|none=>none
 | .indexAddr t x i=>match evA tm m x,evA tm m i with|some v,some u=>aIndexAddr P m t v u|_,_=>none
 | .index t x i=>match evA tm m x,evA tm m i with|some v,some u=>aIndex P t v u|_,_=>none
 | .extract x i=>match evA tm m x with|some v=>aExtract i v|none=>none
 | .call c=>
  match evAs tm m c.args.toList,c.callee with
  |some args,.builtin b=>aBuiltin P m ib b c.argTypes.toList args
  |some args,.value f=>match evA tm m f with|some (.c (.mv g id k j))=>some (.call g (.c (.ptr id k j)::args))|some v=>aCall args v|none=>none
  |_,_=>none
 |_=>none
def updOp:Op→Bool
 | .store _ _ _=>true
 | .call c=>match c.callee with | .builtin .append=>true | .builtin .copy=>true | .builtin .clear=>true|_=>false
 |_=>false
def callOp:Op→Bool
 | .call c=>match c.callee with | .value _=>true|_=>false
 |_=>false
end Go.Proofs.YtpgaplcdbbnblaaGreatDoor
end
/- The symbolic evaluator: what its states say of the model's frame and world. No Go text is in sight. -/
section
namespace Go.Proofs.YtpgaplcdbbnblaaGreatDoor
open Go.RowKit
def Ext (β β':Nm):Prop:=∀id L,β id=some L→β' id=some L
theorem Ext.refl (β:Nm):Ext β β:=fun _ _ h=>h
theorem Ext.trans {a b c:Nm} (h:Ext a b) (k:Ext b c):Ext a c:=fun id L e=>k id L (h id L e)
section
variable {β β':Nm}
theorem ad_ext (h:Ext β β') {id k j:Nat} {a:Addr} (e:ad β id k j=some a):ad β' id k j=some a:=by
 unfold ad at *
 cases hb:β id with
 |none=>simp[hb] at e
 |some L=>rw[h id L hb];simpa[hb] using e
theorem γp_ext (h:Ext β β'):∀{l:List (Nat × Nat × Nat)} {vs:List Value},γp β l=some vs→γp β' l=some vs
 | [],vs,e=>e
 | (id,k,j)::r,vs,e=>by
  simp only[γp] at e ⊢
  cases ha:ad β id k j with
  |none=>simp[ha] at e
  |some a=>
   cases hr:γp β r with
   |none=>simp[ha,hr] at e
   |some us=>rw[ad_ext h ha,γp_ext h hr];simpa[ha,hr] using e
theorem γc_ext (h:Ext β β') {x:AC} {v:Value} (e:γc β x=some v):γc β' x=some v:=by
 cases x with
 |v x=>exact e
 |ptr id k j=>
  simp only[γc] at e ⊢
  cases ha:ad β id k j with
  |none=>simp[ha] at e
  |some a=>rw[ad_ext h ha];simpa[ha] using e
 |sl id k j len cap=>
  simp only[γc] at e ⊢
  cases hb:β id with
  |none=>simp[hb] at e
  |some L=>rw[h id L hb];simpa[hb] using e
 |fn f caps=>
  simp only[γc] at e ⊢
  cases hp:γp β caps with
  |none=>simp[hp] at e
  |some vs=>rw[γp_ext h hp];simpa[hp] using e
 |yld id=>
  simp only[γc] at e ⊢
  cases hb:β id with
  |none=>simp[hb] at e
  |some L=>rw[h id L hb];simpa[hb] using e
 |cap id k=>
  simp only[γc] at e ⊢
  cases hb:β id with
  |none=>simp[hb] at e
  |some L=>rw[h id L hb];simpa[hb] using e
 |mv f id k j=>
  simp only[γc,ad] at e ⊢
  cases hb:β id with
  |none=>simp[hb] at e
  |some L=>rw[h id L hb];simpa[hb] using e
theorem γs_ext (h:Ext β β'):∀{l:List AC} {vs:List Value},γs β l=some vs→γs β' l=some vs
 | [],vs,e=>e
 | x::r,vs,e=>by
  simp only[γs] at e ⊢
  cases hx:γc β x with
  |none=>simp[hx] at e
  |some u=>
   cases hr:γs β r with
   |none=>simp[hx,hr] at e
   |some us=>rw[γc_ext h hx,γs_ext h hr];simpa[hx,hr] using e
theorem γ1_ext (h:Ext β β') {x:AV} {v:Value} (e:γ1 β x=some v):γ1 β' x=some v:=by
 cases x with
 |c x=>exact γc_ext h e
 |agg l=>
  simp only[γ1] at e ⊢
  cases hp:γs β l with
  |none=>simp[hp] at e
  |some vs=>rw[γs_ext h hp];simpa[hp] using e
 |tup l=>cases e
 |any=>cases e
theorem γt_ext (h:Ext β β'):∀{l:List AV} {vs:List Value},γt β l=some vs→γt β' l=some vs
 | [],vs,e=>e
 | x::r,vs,e=>by
  simp only[γt] at e ⊢
  cases hx:γ1 β x with
  |none=>simp[hx] at e
  |some u=>
   cases hr:γt β r with
   |none=>simp[hx,hr] at e
   |some us=>rw[γ1_ext h hx,γt_ext h hr];simpa[hx,hr] using e
theorem γ_ext (h:Ext β β') {x:AV} {v:Value} (e:γ β x=some v):γ β' x=some v:=by
 cases x with
 |tup l=>
  simp only[γ] at e ⊢
  cases hp:γt β l with
  |none=>simp[hp] at e
  |some vs=>rw[γt_ext h hp];simpa[hp] using e
 |c x=>exact γ1_ext (x:=.c x) h e
 |agg x=>exact γ1_ext (x:=.agg x) h e
 |any=>cases e
theorem γs_iff:∀{l:List AC} {vs:List Value},γs β l=some vs↔vs.length=l.length∧∀(i:Nat) x,l[i]? =some x→∃u,vs[i]? =some u∧γc β x=some u
 | [],vs=>by
  constructor
  · intro h;simp[γs] at h;subst h;simp
  · rintro⟨h,_⟩;simp at h;subst h;rfl
 | x ::r,vs=>by
  constructor
  · intro h
    simp only[γs] at h
    cases hx:γc β x with
    |none=>simp[hx] at h
    | some u=>
     cases hr:γs β r with
     |none=>simp[hx,hr] at h
     |some us=>
      simp[hx,hr] at h
      subst h
      obtain⟨h1,h2⟩:=γs_iff.1 hr
      refine⟨by simp[h1],fun i y hy=>?_⟩
      cases i with
      |zero=>simp at hy;subst hy;exact⟨u,rfl,hx⟩
      |succ i=>simp at hy;simpa using h2 i y hy
  · rintro⟨h1,h2⟩
    cases vs with
    |nil=>simp at h1
    |cons u us=>
     obtain⟨u',hu,hx⟩:=h2 0 x rfl
     simp at hu
     subst hu
     have hr:γs β r=some us:=γs_iff.2 ⟨by simpa using h1,fun i y hy=>by simpa using h2 (i+1) y (by simpa using hy)⟩
     simp only[γs]
     rw[hx,hr]
theorem γs_length {l:List AC} {vs:List Value} (h:γs β l=some vs):vs.length=l.length:=(γs_iff.1 h).1
theorem γs_get {l:List AC} {vs:List Value} (h:γs β l=some vs) {i:Nat} {x:AC} (hx:l[i]? =some x):∃u,vs[i]? =some u∧γc β x=some u:=(γs_iff.1 h).2 i x hx
theorem γs_append {l l':List AC} {vs vs':List Value} (h:γs β l=some vs) (h':γs β l'=some vs'):γs β (l++l')=some (vs++vs'):=by
 rw[γs_iff]
 refine⟨by simp[γs_length h,γs_length h'],fun i x hx=>?_⟩
 by_cases hi:i<l.length
 · rw[List.getElem?_append_left hi] at hx
   rw[List.getElem?_append_left (by rw[γs_length h];exact hi)]
   exact γs_get h hx
 · rw[List.getElem?_append_right (by omega)] at hx
   rw[List.getElem?_append_right (by rw[γs_length h];omega),γs_length h]
   exact γs_get h' hx
theorem γs_drop {l:List AC} {vs:List Value} (h:γs β l=some vs) (n:Nat):γs β (l.drop n)=some (vs.drop n):=by
 rw[γs_iff]
 refine⟨by simp[γs_length h],fun i x hx=>?_⟩
 rw[List.getElem?_drop] at hx ⊢
 exact γs_get h hx
theorem γs_take {l:List AC} {vs:List Value} (h:γs β l=some vs) (n:Nat):γs β (l.take n)=some (vs.take n):=by
 rw[γs_iff]
 refine⟨by simp[γs_length h],fun i x hx=>?_⟩
 rw[List.getElem?_take] at hx ⊢
 split at hx
 · rename_i hi;rw[if_pos hi];exact γs_get h hx
 · cases hx
theorem γs_vs:∀(l:List Value),γs β (l.map AC.v)=some l
 | []=>rfl
 |x::r=>by rw[List.map_cons];simp only[γs,γc];rw[γs_vs r]
theorem γ_ofV (v:Value):γ β (ofV v)=some v:=by
 cases v<;>first
  |rfl
  | (rename_i cs
     simp[ofV,γ,γ1,γs_vs])
theorem one_γc {x:AC} {u:Value} (h:AC.one x=true) (e:γc β x=some u):u.oneCell'=true:=by
 cases x with
 |v x=>cases e;exact h
 |ptr id k j=>simp only[γc] at e;split at e<;>simp at e;subst e;rfl
 | sl id k j len cap=>
  simp only[γc] at e
  split at e
  · split at e
    · split at e<;>simp at e
      subst e;rfl
    · simp at e;subst e;rfl
  · cases e
 |fn f caps=>simp only[γc] at e;split at e<;>simp at e;subst e;rfl
 |yld id=>
  simp only[γc] at e
  split at e
  · split at e<;>simp at e
    subst e;rfl
  · cases e
 |cap id k=>
  simp only[γc] at e
  split at e
  · cases e;rfl
  · cases e
 |mv f id k j=>simp only[γc] at e;split at e<;>simp at e;subst e;rfl
theorem one_γs {l:List AC} {vs:List Value} (h:l.all AC.one=true) (e:γs β l=some vs):∀v∈vs,v.oneCell'=true:=by
 intro v hv
 obtain⟨i,hi⟩:=List.getElem?_of_mem hv
 have hlt:i<l.length:=by have:=(List.getElem?_eq_some_iff.1 hi).1;rw[γs_length e] at this;exact this
 obtain⟨u,hu,hg⟩:=γs_get e (List.getElem?_eq_getElem hlt)
 rw[hi] at hu
 cases hu
 exact one_γc (List.all_eq_true.1 h _ (List.getElem_mem hlt)) hg
theorem γ_cells {x:AV} {l:List AC} {v:Value} (h:x.cells=some l) (e:γ β x=some v):∃vs,γs β l=some vs∧(vs.all (·.oneCell')=true→v.cells.toList=vs)∧((∃y,x= .c y∧l=[y]∧vs=[v])∨(x= .agg l∧v= .agg vs.toArray)):=by
 cases x with
 |c y=>
  cases h
  have e':γc β y=some v:=e
  refine⟨[v],by simp only[γs];rw[e'],fun h1=>?_,.inl ⟨y,rfl,rfl,rfl⟩⟩
  simp at h1
  cases v<;>first|rfl|(simp[Value.oneCell'] at h1)
 |agg l'=>
  cases h
  simp only[γ,γ1] at e
  split at e
  · rename_i vs hvs
    cases e
    exact⟨vs,hvs,fun _=>by simp[Value.cells],.inr ⟨rfl,rfl⟩⟩
  · cases e
 |tup l=>cases h
 |any=>cases h
end
def FrOk (β:Nm) (tm:List AV) (tmps:Array Value):Prop:=
 tmps.size=tm.length∧∀(t:Nat) av,tm[t]? =some av→av= .any∨∃v,γ β av=some v∧tmps[t]? =some v
theorem FrOk.ext {β β':Nm} {tm:List AV} {tmps:Array Value} (h:FrOk β tm tmps) (e:Ext β β'):FrOk β' tm tmps:=
 ⟨h.1,fun t av ht=>(h.2 t av ht).imp id fun⟨v,h1,h2⟩=>⟨v,γ_ext e h1,h2⟩⟩
/-! ### memory -/
structure Ctx where
 w0:World
 base:Nat
 S:Nat→Prop
structure BlkOk (C:Ctx) (β:Nm) (w:World) (L:Loc) (x:ABlk):Prop where
 sz:L.s=x.sz
 lit:∀l,x.cs= .lit l→x.sz=0
 cells:∀k j,x.inb k (j+1)=true→L.nil=false∧∃u,γc β (x.cs.get k j)=some u∧u.oneCell'=true∧w.cell? ⟨L.b,L.o+(k*L.s+j),none⟩=some u
 lt:L.nil=false→L.b<w.heap.size
 own:x.own=true→L.nil=false→L.o=0∧(C.base≤L.b∨C.S L.b)∧∃cs,w.heap[L.b]? =some (.cells cs x.ty (0,0))∧
  (x.row=true→cs.size=L.cap*x.sz∧0<x.sz∧∃n f,x.cs= .arr n f∧n≤L.cap∧L.cap≤maxLen)
 arrl:∀n f,x.cs= .arr n f→∀i,i<n→(f i).length=x.sz
 rowc:x.row=true→L.nil=false→∀n f,x.cs= .arr n f→n≤L.cap
def ObjOk (β:Nm) (w:World) (b:Nat):AObj→Prop
 | .loop st pd tm ps as bd dn=>∃(fn:FuncId) (tmps:Array Value) (D:Loc),FrOk β tm tmps∧β dn=some D∧D.nil=false∧
    w.heap[b]? =some (.loop {state:=st,pending:=pd,fn:=fn,tmps:=tmps,params:=ps,assign:=as,body:=bd,defers:=D.b})
 | .dfr op=>w.heap[b]? =some (.deferred (if op then some [] else none))
theorem ObjOk.keep {β β':Nm} {w w':World} {b:Nat} {o:AObj} (h:ObjOk β w b o) (he:Ext β β') (hh:w'.heap[b]? =w.heap[b]?):ObjOk β' w' b o:=by
 cases o with
 |loop st pd tm ps as bd dn=>
  obtain⟨fn,tmps,D,h1,h2,h3,h4⟩:=h
  exact⟨fn,tmps,D,h1.ext he,he _ _ h2,h3,by rw[hh];exact h4⟩
 |dfr op=>show w'.heap[b]? =_;rw[hh];exact h
structure Rel (C:Ctx) (β:Nm) (m:AMem) (w:World):Prop where
 os:w.os=C.w0.os
 tape:w.tape=C.w0.tape
 output:w.output=C.w0.output
 size:C.w0.heap.size≤w.heap.size
 base:C.base≤C.w0.heap.size
 out:∀b,b<C.base→¬C.S b→w.heap[b]? =C.w0.heap[b]?
 blk:∀id x,look m id=some x→∃L,β id=some L∧BlkOk C β w L x
 sep:∀id id' x x' L L',look m id=some x→look m id'=some x'→id≠id'→x.own=true→β id=some L→β id'=some L'→L.nil=false→L'.nil=false→L.b≠L'.b
 glob:∀g L,β (gid g)=some L→L.b=g∧L.o=0∧L.s=0∧L.nil=false
 objs:∀id x o,look m id=some x→x.cs= .obj o→∃L,β id=some L∧L.nil=false∧(C.base≤L.b∨C.S L.b)∧ObjOk β w L.b o∧
  ∀id' x' L',id'≠id→look m id'=some x'→β id'=some L'→L'.nil=false→L'.b≠L.b
def Sub (m m2:AMem):Prop:=∀id x,look m id=some x→look m2 id=some x
theorem Sub.refl (m:AMem):Sub m m:=fun _ _ h=>h
theorem Sub.trans {a b c:AMem} (h:Sub a b) (k:Sub b c):Sub a c:=fun id x e=>k id x (h id x e)
theorem Rel.weaken {C:Ctx} {β:Nm} {m m2:AMem} {w:World} (h:Rel C β m2 w) (hs:Sub m m2):Rel C β m w:=
 ⟨h.os,h.tape,h.output,h.size,h.base,h.out,fun id x e=>h.blk id x (hs id x e),fun id id' x x' L L' e e' hne ho=>h.sep id id' x x' L L' (hs _ _ e) (hs _ _ e') hne ho,h.glob,
  fun id x o e ho=>by
   obtain⟨L,h1,h2,h3,h4,h5⟩:=h.objs id x o (hs _ _ e) ho
   exact⟨L,h1,h2,h3,h4,fun id' x' L' g1 g2=>h5 id' x' L' g1 (hs _ _ g2)⟩⟩
theorem look_cons (i:Nat) (b:ABlk) (r:AMem) (id:Nat):look ((i,b)::r) id=match Nat.beq i id with|true=>some b|false=>look r id:=rfl
theorem look_append (m n:AMem) (id:Nat):look (m++n) id=match look m id with|some x=>some x|none=>look n id:=by
 induction m with
 |nil=>rfl
 |cons h t ih=>
  obtain⟨i,b⟩:=h
  rw[List.cons_append,look_cons,look_cons]
  cases Nat.beq i id with
  |true=>rfl
  |false=>exact ih
theorem look_updM (m:AMem) (id id':Nat) (b:ABlk) (x:ABlk) (h:look m id=some x):look (updM m id b) id'=if id'=id then some b else look m id':=by
 induction m with
 |nil=>cases h
 | cons y t ih=>
  obtain⟨i,z⟩:=y
  simp only[updM]
  rw[look_cons] at h
  cases hb:Nat.beq i id with
  |true=>
   have hi:i=id:=Nat.eq_of_beq_eq_true hb
   subst hi
   simp only[look_cons]
   by_cases e:id'=i
   · subst e;rw[hb];simp
   · have:Nat.beq i id'=false:=by
      cases h':Nat.beq i id' with
      |true=>exact absurd (Nat.eq_of_beq_eq_true h').symm e
      |false=>rfl
     rw[this];simp[e]
  | false=>
   rw[hb] at h
   simp only[look_cons]
   cases hb':Nat.beq i id' with
   |true=>
    have hi:i=id':=Nat.eq_of_beq_eq_true hb'
    subst hi
    have:i≠id:=fun e=>by subst e;rw[hb'] at hb;cases hb
    simp[this]
   |false=>simpa using ih h
theorem evA_ok {C:Ctx} {β:Nm} {tm:List AV} {m m2:AMem} {w:World} {a:Act} {x:Operand} {av:AV} (hf:FrOk β tm a.tmps) (hr:Rel C β m2 w) (hs:Sub m m2) (h:evA tm m x=some av):
 av= .any∨γ β av=some (a.eval x):=by
 cases x with
 |tmp t=>
  simp only[evA] at h
  rcases hf.2 t av h with h1|⟨v,h1,h2⟩
  · exact .inl h1
  · exact .inr (by rw[h1];simp[Act.eval,h2])
 |const v=>simp only[evA,Option.some.injEq] at h;subst h;exact .inr (γ_ofV v)
 |global g=>
  simp only[evA] at h
  split at h
  · rename_i x hx
    simp only[Option.some.injEq] at h
    subst h
    obtain⟨L,hL,_⟩:=hr.blk _ _ (hs _ _ hx)
    obtain⟨h1,h2,h3,h4⟩:=hr.glob g L hL
    refine .inr ?_
    simp[γ,γ1,γc,ad,hL,h1,h2,h3,h4,Act.eval]
  · cases h
 |func f=>simp only[evA,Option.some.injEq] at h;subst h;exact .inr rfl
end Go.Proofs.YtpgaplcdbbnblaaGreatDoor
end
/- The symbolic evaluator: loads, stores and new blocks. No Go text is in sight. -/
section
namespace Go.Proofs.YtpgaplcdbbnblaaGreatDoor
open Go.RowKit
theorem tl_ok {kd:Kd} {x:AC} (h:okl kd x=true):tl kd x=x:=by
 cases kd with
 |any=>rfl
 |b=>
  cases x with
  |v x=>cases x<;>first|rfl|simp[okl] at h
  |_=>simp[okl] at h
 | i k=>
  cases x with
  |v x=>
   cases x<;>simp[okl] at h
   subst h
   rfl
  |_=>simp[okl] at h
theorem inb_le {x:ABlk} {k j j':Nat} (h:x.inb k j=true) (hj:j'≤j):x.inb k j'=true:=by
 unfold ABlk.inb at *
 split at h<;>simp_all<;>omega
def allT (l:List Bool):Prop:=∀b∈l,b=true
theorem allT_cons {b:Bool} {l:List Bool}:allT (b::l)↔b=true∧allT l:=by simp[allT]
theorem allT_append {l l':List Bool}:allT (l++l')↔allT l∧allT l':=by
 constructor
 · exact fun h=>⟨fun b hb=>h b (by simp[hb]),fun b hb=>h b (by simp[hb])⟩
 · rintro⟨h1,h2⟩ b hb
   rcases List.mem_append.1 hb with h|h
   · exact h1 b h
   · exact h2 b h
section
variable {C:Ctx} {β β':Nm} {m:AMem} {w w':World} {L:Loc} {x:ABlk}
theorem rd_length (cs:Cs) (k:Nat):∀(ks:List Kd) (j:Nat),(rd cs k j ks).length=ks.length
 | [],_=>rfl
 |_::r,j=>by simp[rd,rd_length cs k r (j+1)]
theorem rd_ok (hb:BlkOk C β w L x) {k:Nat}:∀(ks:List Kd) (j:Nat),x.inb k (j+ks.length)=true→allT (oks x.cs k j ks)→
 ∃vs,γs β (rd x.cs k j ks)=some vs∧∀(i:Nat) u,vs[i]? =some u→u.oneCell'=true∧w.cell? ⟨L.b,L.o+(k*L.s+(j+i)),none⟩=some u
 | [],j,_,_=>⟨[],rfl,fun i u h=>by simp at h⟩
 | kd::r,j,hi,ho=>by
  have hi':x.inb k (j+1+r.length)=true:=inb_le hi (by simp<;>omega)
  have ho2:allT (oks x.cs k (j+1) r)∧okl kd (x.cs.get k j)=true:=by
   cases kd with
   |any=>exact⟨ho,rfl⟩
   |b=>simp only[oks] at ho;rw[allT_cons] at ho;exact⟨ho.2,ho.1⟩
   |i q=>simp only[oks] at ho;rw[allT_cons] at ho;exact⟨ho.2,ho.1⟩
  obtain⟨vs,h1,h2⟩:=rd_ok hb r (j+1) hi' ho2.1
  obtain⟨_,u,hu,h3,h4⟩:=hb.cells k j (inb_le hi (by simp<;>omega))
  refine⟨u::vs,?_,fun i v hv=>?_⟩
  · simp only[rd,γs]
    rw[tl_ok ho2.2,hu,h1]
  · cases i with
    |zero=>simp at hv;subst hv;exact⟨h3,h4⟩
    |succ i=>
     simp at hv
     have:=h2 i v hv
     rwa[show j+1+i=j+(i+1) by omega] at this
theorem ad_some {id k j:Nat} {a:Addr} (h:ad β id k j=some a):∃L,β id=some L∧L.nil=false∧a=⟨L.b,L.o+(k*L.s+j),none⟩:=by
 unfold ad at h
 split at h
 · rename_i L hL
   split at h
   · cases h
   · rename_i hn
     cases h
     exact⟨L,hL,by simpa using hn,rfl⟩
 · cases h
/-! ### keeping -/
theorem BlkOk.keep (hb:BlkOk C β w L x) (he:Ext β β') (hs:w.heap.size≤w'.heap.size) (hh:L.nil=false→w'.heap[L.b]? =w.heap[L.b]?):BlkOk C β' w' L x:=
 ⟨hb.sz,hb.lit,fun k j hi=>by
  obtain⟨hn,u,h1,h2,h3⟩:=hb.cells k j hi
  refine⟨hn,u,γc_ext he h1,h2,?_⟩
  rw[← h3]
  exact World.cell?_of_block (hh hn),fun hn=>by have:=hb.lt hn;omega,fun ho hn=>by
  obtain⟨h1,h2,cs,h3,h4⟩:=hb.own ho hn
  exact⟨h1,h2,cs,by rw[hh hn];exact h3,h4⟩,hb.arrl,hb.rowc⟩
theorem Rel.keepAll (h:Rel C β m w) (hos:w'.os=w.os) (ht:w'.tape=w.tape) (hou:w'.output=w.output) (hs:w.heap.size≤w'.heap.size) (hh:∀b,b<w.heap.size→w'.heap[b]? =w.heap[b]?):Rel C β m w':=
 ⟨hos.trans h.os,ht.trans h.tape,hou.trans h.output,Nat.le_trans h.size hs,h.base,fun b h1 h2=>by rw[hh b (by have:=h.size;have:=h.base;omega)];exact h.out b h1 h2,
  fun id x e=>by
   obtain⟨L,hL,hb⟩:=h.blk id x e
   exact⟨L,hL,hb.keep (Ext.refl β) hs (fun hn=>hh _ (hb.lt hn))⟩,
  h.sep,h.glob,fun id x o e ho=>by
   obtain⟨L,h1,h2,h3,h4,h5⟩:=h.objs id x o e ho
   obtain⟨L',hL',hb⟩:=h.blk id x e
   rw[h1] at hL'
   cases hL'
   exact⟨L,h1,h2,h3,h4.keep (Ext.refl β) (hh _ (hb.lt h2)),h5⟩⟩
theorem Rel.below (h:Rel C β m w) (hb:Below w.heap.size w w'):Rel C β m w':=h.keepAll hb.os hb.tape hb.output hb.size hb.block
def ext1 (β:Nm) (id:Nat) (L:Loc):Nm:=fun i=>if i=id then some L else β i
theorem ext1_ext {id:Nat} (h:β id=none):Ext β (ext1 β id L):=fun i M e=>by
 unfold ext1
 split
 · rename_i hi;subst hi;rw[h] at e;cases e
 · exact e
theorem ext1_same {id:Nat}:ext1 β id L id=some L:=by simp[ext1]
theorem lit_cells {l:List AC} {vs:List Value} (hg:γs β l=some vs) (h1:∀v∈vs,v.oneCell'=true) (b:Nat) (t:TypeId) (hb:w.heap[b]? =some (.cells vs.toArray t (0,0))):
 ∀k j,(⟨true,false,t,0,.lit l⟩:ABlk).inb k (j+1)=true→∃u,γc β ((Cs.lit l).get k j)=some u∧u.oneCell'=true∧w.cell? ⟨b,0+(k*0+j),none⟩=some u:=by
 intro k j hi
 simp[ABlk.inb] at hi
 have hj:j<l.length:=by omega
 obtain⟨u,hu,hc⟩:=γs_get hg (List.getElem?_eq_getElem hj)
 refine⟨u,?_,h1 u (List.mem_of_getElem? hu),?_⟩
 · simp only[Cs.get,List.getD]
   rw[List.getElem?_eq_getElem hj]
   exact hc
 · rw[cell_of_row w b _ vs.toArray t (0,0) hb]
   simpa using hu
theorem Rel.new (h:Rel C β m w) {id:Nat} (hid:β id=none) (hg:∀g,id≠gid g) {l:List AC} {vs:List Value} (hl:γs β l=some vs) (h1:∀v∈vs,v.oneCell'=true) (t:TypeId):
 Rel C (ext1 β id ⟨w.heap.size,0,0,0,false⟩) (m++[(id,⟨true,false,t,0,.lit l⟩)]) (w.alloc (.cells vs.toArray t)):=by
 have hnew:(w.alloc (.cells vs.toArray t)).heap[w.heap.size]? =some (.cells vs.toArray t (0,0)):=by show (w.heap.push _)[w.heap.size]? =_;simp
 have hold:∀b,b<w.heap.size→(w.alloc (.cells vs.toArray t)).heap[b]? =w.heap[b]?:=fun b hb=>heap_past _ hb
 have hsz:w.heap.size≤(w.alloc (.cells vs.toArray t)).heap.size:=by simp
 have he:Ext β (ext1 β id ⟨w.heap.size,0,0,0,false⟩):=ext1_ext hid
 have hno:look m id=none:=by
  cases e:look m id with
  |none=>rfl
  |some x=>obtain⟨L,hL,_⟩:=h.blk id x e;rw[hid] at hL;cases hL
 have hlk:∀i x,look (m++[(id,⟨true,false,t,0,.lit l⟩)]) i=some x→(look m i=some x∧i≠id)∨(i=id∧x=⟨true,false,t,0,.lit l⟩):=by
  intro i x e
  rw[look_append] at e
  cases e':look m i with
  |some y=>
   rw[e'] at e
   cases e
   exact .inl ⟨rfl,fun h'=>by subst h';rw[hno] at e';cases e'⟩
  |none=>
   rw[e'] at e
   simp only[look_cons] at e
   cases hb:Nat.beq id i with
   |true=>rw[hb] at e;cases e;exact .inr ⟨(Nat.eq_of_beq_eq_true hb).symm,rfl⟩
   |false=>rw[hb] at e;cases e
 refine⟨h.os,h.tape,h.output,Nat.le_trans h.size hsz,h.base,fun b h1 h2=>by rw[hold b (by have:=h.size;have:=h.base;omega)];exact h.out b h1 h2,fun i x e=>?_,?_,?_,?_⟩
 · rcases hlk i x e with⟨e1,hne⟩|⟨rfl,rfl⟩
   · obtain⟨L,hL,hb⟩:=h.blk i x e1
     exact⟨L,he i L hL,hb.keep he hsz (fun hn=>hold _ (hb.lt hn))⟩
   · refine⟨_,ext1_same,rfl,fun _ _=>rfl,fun k j hi=>⟨rfl,?_⟩,fun _=>by simp,fun _ _=>⟨rfl,.inl ?_,_,hnew,fun h=>by cases h⟩,fun _ _ h=>(by cases h),fun h=>by cases h⟩
     · exact lit_cells (γs_ext he hl) h1 _ t hnew k j hi
     · have:=h.size;have:=h.base;simp;omega
 · intro i i' x x' L L' e e' hne ho hL hL' hn hn'
   rcases hlk i x e with⟨e1,h1⟩|⟨rfl,rfl⟩
   · rcases hlk i' x' e' with⟨e2,h2⟩|⟨rfl,rfl⟩
     · simp only[ext1,h1,h2,if_false] at hL hL'
       exact h.sep i i' x x' L L' e1 e2 hne ho hL hL' hn hn'
     · simp only[ext1,h1,if_false,if_true] at hL hL'
       cases hL'
       obtain⟨M,hM,hb⟩:=h.blk i x e1
       rw[hM] at hL
       cases hL
       have:=hb.lt hn
       simp;omega
   · rcases hlk i' x' e' with⟨e2,h2⟩|⟨rfl,rfl⟩
     · simp only[ext1,h2,if_false,if_true] at hL hL'
       cases hL
       obtain⟨M,hM,hb⟩:=h.blk i' x' e2
       rw[hM] at hL'
       cases hL'
       have:=hb.lt hn'
       simp;omega
     · exact absurd rfl hne
 · intro g L e
   have:gid g≠id:=fun e=>hg g e.symm
   simp only[ext1,this,if_false] at e
   exact h.glob g L e
 · intro i x o e ho
   rcases hlk i x e with⟨e1,hne⟩|⟨rfl,rfl⟩
   · obtain⟨L,h1,h2,h3,h4,h5⟩:=h.objs i x o e1 ho
     obtain⟨L',hL',hb⟩:=h.blk i x e1
     rw[h1] at hL'
     cases hL'
     refine⟨L,he i L h1,h2,h3,h4.keep he (hold _ (hb.lt h2)),fun i' x' M g1 g2 g3 g4=>?_⟩
     rcases hlk i' x' g2 with⟨e2,hne2⟩|⟨rfl,rfl⟩
     · simp only[ext1,hne2,if_false] at g3
       exact h5 i' x' M g1 e2 g3 g4
     · simp only[ext1,if_true] at g3
       cases g3
       have:=hb.lt h2
       simp;omega
   · cases ho
/-! ### stores -/
theorem setL_length:∀(vs l:List AC) (j:Nat),(setL l j vs).length=l.length
 | [],_,_=>rfl
 |x::r,l,j=>by simp only[setL,setS_eq0];rw[setL_length r _ _];simp
theorem setL_get:∀(vs l:List AC) (j i:Nat),j+vs.length≤l.length→(setL l j vs)[i]? =if j≤i∧i<j+vs.length then vs[i-j]? else l[i]?
 | [],l,j,i,_=>by simp[setL];omega
 |x::r,l,j,i,h=>by
  simp only[List.length_cons] at h
  simp only[setL,setS_eq0]
  rw[setL_get r _ _ i (by simp;omega)]
  simp only[List.length_cons]
  by_cases h1:j+1≤i∧i<j+1+r.length
  · rw[if_pos h1,if_pos ⟨by omega,by omega⟩,show i-j=(i-(j+1))+1 by omega];rfl
  · rw[if_neg h1]
    by_cases h2:i=j
    · subst h2
      rw[if_pos ⟨by omega,by omega⟩]
      simp[show i<l.length by omega]
    · rw[if_neg (by omega)]
      simp[List.getElem?_set,show ¬j=i by omega]
theorem put_heap_same {b o:Nat} {us:List Value} {cs:Array Value} {t:TypeId} (hb:w.heap[b]? =some (.cells cs t (0,0))):(put w b o us).heap[b]? =some (.cells (lay cs.toList o us).toArray t (0,0)):=by
 simp only[put,Array.getElem?_modify,if_true,hb,Option.map_some]
theorem put_heap_other {b o:Nat} {us:List Value} {b':Nat} (h:b'≠b):(put w b o us).heap[b']? =w.heap[b']?:=by
 simp only[put,Array.getElem?_modify]
 rw[if_neg (fun e=>h e.symm)]
theorem cell_in {b i:Nat} {cs:Array Value} {t:TypeId} {u:Value} (hb:w.heap[b]? =some (.cells cs t (0,0))) (h:w.cell? ⟨b,i,none⟩=some u):i<cs.size:=by
 rw[cell_of_row w b i cs t (0,0) hb] at h
 exact(Array.getElem?_eq_some_iff.1 h).1
theorem pos_apart {k k' s j j' n:Nat} (hk:k'≠k) (hj:j+n≤s) (hj':j'<s):¬(k*s+j≤k'*s+j'∧k'*s+j'<k*s+j+n):=by
 rintro⟨h1,h2⟩
 rcases Nat.lt_or_ge k' k with h|h
 · have:=Nat.mul_le_mul_right s (show k'+1≤k by omega)
   rw[Nat.succ_mul] at this
   omega
 · have:=Nat.mul_le_mul_right s (show k+1≤k' by omega)
   rw[Nat.succ_mul] at this
   omega
theorem Rel.putM (h:Rel C β m w) {id k j:Nat} (hx:look m id=some x) (ho:x.own=true) (hL:β id=some L) (hn:L.nil=false) {vs:List AC} {us:List Value} (hg:γs β vs=some us) (h1:∀v∈us,v.oneCell'=true)
 (hi:x.inb k (j+vs.length)=true) (h0:0<vs.length):
 Rel C β (updM m id {x with cs:=x.cs.put k j vs}) (put w L.b (L.o+(k*L.s+j)) us):=by
 obtain⟨L',hL',hb⟩:=h.blk id x hx
 rw[hL] at hL'
 cases hL'
 obtain⟨ho0,hown,cs,hheap,hrow⟩:=hb.own ho hn
 have hlen:=hb.arrl
 have hul:us.length=vs.length:=γs_length hg
 have hin:∀i,i<vs.length→k*L.s+(j+i)<cs.size:=fun i hi'=>by
  obtain⟨_,u,_,_,hc⟩:=hb.cells k (j+i) (inb_le hi (by omega))
  have:=cell_in hheap hc
  omega
 have hbd:L.o+(k*L.s+j)+us.length≤cs.toList.length:=by
  have:=hin (vs.length-1) (by omega)
  simp;omega
 have hsame:(lay cs.toList (L.o+(k*L.s+j)) us).toArray.size=cs.size:=by simp[lay_length hbd]
 have hother:∀i y M,look m i=some y→i≠id→β i=some M→M.nil=false→M.b≠L.b:=fun i y M e hne hM hMn=>
  (h.sep id i x y L M hx e (fun e=>hne e.symm) ho hL hM hn hMn).symm
 have hsize:(put w L.b (L.o+(k*L.s+j)) us).heap.size=w.heap.size:=size_put us
 have hlk:∀i,look (updM m id {x with cs:=x.cs.put k j vs}) i=if i=id then some {x with cs:=x.cs.put k j vs} else look m i:=fun i=>look_updM m id i _ x hx
 refine⟨h.os,h.tape,h.output,by rw[hsize];exact h.size,h.base,fun b hb1 hb2=>?_,fun i y e=>?_,?_,h.glob,fun i y o e ho'=>?_⟩
 · have:b≠L.b:=fun e=>by
    subst e
    rcases hown with h'|h'
    · omega
    · exact hb2 h'
   rw[put_heap_other this]
   exact h.out b hb1 hb2
 · rw [hlk i] at e
   by_cases hii:i=id
   · subst hii
     rw[if_pos rfl] at e
     cases e
     have hh:=put_heap_same (o:=L.o+(k*L.s+j)) (us:=us) hheap
     refine⟨L,hL,hb.sz,fun l hl=>?_,fun k' j' hi'=>⟨hn,?_⟩,fun _=>by rw[hsize];exact hb.lt hn,fun _ _=>⟨ho0,hown,_,hh,fun hrw=>?_⟩,fun n f hf i hi'=>?_,fun h1 h2 n f hf=>?_⟩
     · cases hcs:x.cs with
       |lit l0=>exact hb.lit l0 hcs
       |arr n f=>rw[hcs] at hl;cases hl
       |obj o=>rw[hcs] at hl;cases hl
     · have key:∀(i:Nat),L.o+(k'*L.s+j')=i→(put w L.b (L.o+(k*L.s+j)) us).cell? ⟨L.b,i,none⟩=(lay cs.toList (L.o+(k*L.s+j)) us)[i]?:=fun i _=>by
        rw[cell_of_row _ L.b i _ _ (0,0) hh];simp
       rw[key _ rfl]
       rw[lay_get hbd]
       cases hcs:x.cs with
       |lit l0=>
        have hs0:=hb.lit l0 hcs
        have hLs:L.s=0:=hb.sz.trans hs0
        have hi2:k*x.sz+(j+vs.length)≤l0.length:=by simpa[ABlk.inb,hcs] using hi
        simp only[hs0,Nat.mul_zero,Nat.zero_add] at hi2
        simp only[ABlk.inb,hcs,Cs.put,setL_length,decide_eq_true_eq,hs0,Nat.mul_zero,Nat.zero_add] at hi'
        simp only[Cs.put,Cs.get,List.getD,hLs,ho0,Nat.mul_zero,Nat.zero_add]
        rw[setL_get vs l0 j j' hi2,hul]
        by_cases hin':j≤j'∧j'<j+vs.length
        · rw[if_pos hin',if_pos hin']
          have hlt:j'-j<vs.length:=by omega
          obtain⟨u,hu,hc⟩:=γs_get hg (List.getElem?_eq_getElem hlt)
          rw[List.getElem?_eq_getElem hlt]
          exact⟨u,hc,h1 u (List.mem_of_getElem? hu),hu⟩
        · rw[if_neg hin',if_neg hin']
          obtain⟨_,u,hc,hu1,hcell⟩:=hb.cells k' j' (by simp[ABlk.inb,hcs,hs0];omega)
          refine⟨u,?_,hu1,?_⟩
          · rw[hcs] at hc;exact hc
          · rw[cell_of_row w L.b _ cs _ (0,0) hheap,hLs,ho0] at hcell
            simpa using hcell
       |obj o=>simp[ABlk.inb,hcs] at hi
       |arr n f=>
        have hi2:k<n∧j+vs.length≤x.sz:=by simpa[ABlk.inb,hcs] using hi
        have hi3:k'<n∧j'+1≤x.sz:=by simpa[ABlk.inb,hcs,Cs.put] using hi'
        simp only[Cs.put,Cs.get,List.getD,ho0,Nat.zero_add]
        by_cases hkk:k'=k
        · subst hkk
          rw[if_pos rfl,setL_get vs (f k') j j' (by rw[hlen n f hcs k' hi2.1];exact hi2.2),hul]
          by_cases hin':j≤j'∧j'<j+vs.length
          · rw[if_pos hin',if_pos ⟨by omega,by omega⟩]
            have hlt:j'-j<vs.length:=by omega
            obtain⟨u,hu,hc⟩:=γs_get hg (List.getElem?_eq_getElem hlt)
            rw[List.getElem?_eq_getElem hlt,show k'*L.s+j'-(k'*L.s+j)=j'-j by omega]
            exact⟨u,hc,h1 u (List.mem_of_getElem? hu),hu⟩
          · rw[if_neg hin',if_neg (by omega)]
            obtain⟨_,u,hc,hu1,hcell⟩:=hb.cells k' j' (by simp[ABlk.inb,hcs];omega)
            refine⟨u,?_,hu1,?_⟩
            · rw[hcs] at hc;exact hc
            · rw[cell_of_row w L.b _ cs _ (0,0) hheap,ho0] at hcell
              simpa using hcell
        · rw[if_neg hkk,if_neg (by rw[hul];exact pos_apart hkk (by rw[hb.sz];exact hi2.2) (by rw[hb.sz];omega))]
          obtain⟨_,u,hc,hu1,hcell⟩:=hb.cells k' j' (by simp[ABlk.inb,hcs];omega)
          refine⟨u,?_,hu1,?_⟩
          · rw[hcs] at hc;exact hc
          · rw[cell_of_row w L.b _ cs _ (0,0) hheap,ho0] at hcell
            simpa using hcell
     · obtain⟨r1,r2,n,f,r3,r4⟩:=hrow hrw
       exact⟨by rw[hsame];exact r1,r2,n,fun i=>if i=k then setL (f i) j vs else f i,by simp only[Cs.put,r3],r4⟩
     · cases hcs:x.cs with
       |lit l0=>rw[hcs] at hf;cases hf
       |obj o=>rw[hcs] at hf;cases hf
       |arr n0 f0=>
        rw[hcs] at hf
        simp only[Cs.put,Cs.arr.injEq] at hf
        obtain⟨rfl,rfl⟩:=hf
        have:=hlen n0 f0 hcs i hi'
        by_cases e:i=k
        · simp only[e,if_true];rw[setL_length];rw[← e];exact this
        · simp only[e,if_false];exact this
     · cases hcs:x.cs with
       |lit l0=>rw[hcs] at hf;cases hf
       |obj o=>rw[hcs] at hf;cases hf
       |arr n0 f0=>
        rw[hcs] at hf
        simp only[Cs.put,Cs.arr.injEq] at hf
        obtain⟨rfl,rfl⟩:=hf
        exact hb.rowc h1 h2 n0 f0 hcs
   · rw[if_neg hii] at e
     obtain⟨M,hM,hbM⟩:=h.blk i y e
     exact⟨M,hM,hbM.keep (Ext.refl β) (by rw[hsize];exact Nat.le_refl _) (fun hMn=>put_heap_other (hother i y M e hii hM hMn))⟩
 · intro i i' y y' M M' e e' hne hyo hM hM' hMn hMn'
   rw[hlk] at e e'
   by_cases h1:i=id
   · subst h1
     rw[if_pos rfl] at e
     rw[if_neg (fun e=>hne e.symm)] at e'
     exact h.sep i i' x y' M M' hx e' hne ho hM hM' hMn hMn'
   · rw[if_neg h1] at e
     by_cases h2:i'=id
     · subst h2
       rw[if_pos rfl] at e'
       exact h.sep i i' y x M M' e hx hne hyo hM hM' hMn hMn'
     · rw[if_neg h2] at e'
       exact h.sep i i' y y' M M' e e' hne hyo hM hM' hMn hMn'
 · rw[hlk] at e
   by_cases h1:i=id
   · subst h1
     rw[if_pos rfl] at e
     cases e
     cases hcs:x.cs with
     |lit l0=>rw[hcs] at ho';cases ho'
     |arr n f=>rw[hcs] at ho';cases ho'
     |obj o=>simp[ABlk.inb,hcs] at hi
   · rw[if_neg h1] at e
     obtain⟨M,k1,k2,k3,k4,k5⟩:=h.objs i y o e ho'
     refine⟨M,k1,k2,k3,k4.keep (Ext.refl β) (put_heap_other (hother i y M e h1 k1 k2)),fun i' x' M' g1 g2 g3 g4=>?_⟩
     rw[hlk] at g2
     by_cases h2:i'=id
     · subst h2
       exact k5 i' x M' g1 hx g3 g4
     · rw[if_neg h2] at g2
       exact k5 i' x' M' g1 g2 g3 g4
/-! ### objects -/
def putO (w:World) (b:Nat) (o:Obj):World:={w with heap:=w.heap.setIfInBounds b o}
theorem putO_same {b:Nat} {o:Obj} (h:b<w.heap.size):(putO w b o).heap[b]? =some o:=by simp[putO,h]
theorem putO_other {b k:Nat} {o:Obj} (h:k≠b):(putO w b o).heap[k]? =w.heap[k]?:=by simp[putO,Array.getElem?_setIfInBounds_ne (Ne.symm h)]
theorem putO_size {b:Nat} {o:Obj}:(putO w b o).heap.size=w.heap.size:=by simp[putO]
theorem Rel.newO (h:Rel C β m w) {id:Nat} (hid:β id=none) (hg:∀g,id≠gid g) {o:AObj} {ob:Obj} (ho:∀w',w'.heap[w.heap.size]? =some ob→ObjOk β w' w.heap.size o):
 Rel C (ext1 β id ⟨w.heap.size,0,0,0,false⟩) (m++[(id,oblk o)]) (w.alloc ob):=by
 have hnew:(w.alloc ob).heap[w.heap.size]? =some ob:=by show (w.heap.push _)[w.heap.size]? =_;simp
 have hold:∀b,b<w.heap.size→(w.alloc ob).heap[b]? =w.heap[b]?:=fun b hb=>heap_past _ hb
 have hsz:w.heap.size≤(w.alloc ob).heap.size:=by simp
 have he:Ext β (ext1 β id ⟨w.heap.size,0,0,0,false⟩):=ext1_ext hid
 have hno:look m id=none:=by
  cases e:look m id with
  |none=>rfl
  |some x=>obtain⟨L,hL,_⟩:=h.blk id x e;rw[hid] at hL;cases hL
 have hlk:∀i x,look (m++[(id,oblk o)]) i=some x→(look m i=some x∧i≠id)∨(i=id∧x=oblk o):=by
  intro i x e
  rw[look_append] at e
  cases e':look m i with
  |some y=>
   rw[e'] at e
   cases e
   exact .inl ⟨rfl,fun h'=>by subst h';rw[hno] at e';cases e'⟩
  |none=>
   rw[e'] at e
   simp only[look_cons] at e
   cases hb:Nat.beq id i with
   |true=>rw[hb] at e;cases e;exact .inr ⟨(Nat.eq_of_beq_eq_true hb).symm,rfl⟩
   |false=>rw[hb] at e;cases e
 have hlt:∀i x M,look m i=some x→β i=some M→M.nil=false→M.b<w.heap.size:=fun i x M e hM hn=>by
  obtain⟨M',hM',hb⟩:=h.blk i x e
  rw[hM] at hM'
  cases hM'
  exact hb.lt hn
 refine⟨h.os,h.tape,h.output,Nat.le_trans h.size hsz,h.base,fun b h1 h2=>by rw[hold b (by have:=h.size;have:=h.base;omega)];exact h.out b h1 h2,fun i x e=>?_,?_,?_,?_⟩
 · rcases hlk i x e with⟨e1,hne⟩|⟨rfl,rfl⟩
   · obtain⟨L,hL,hb⟩:=h.blk i x e1
     exact⟨L,he i L hL,hb.keep he hsz (fun hn=>hold _ (hb.lt hn))⟩
   · exact⟨_,ext1_same,rfl,fun _ _=>rfl,fun k j hi=>(by simp[ABlk.inb,oblk] at hi),fun _=>(by simp),fun h=>(by cases h),fun _ _ h=>(by cases h),fun h=>(by cases h)⟩
 · intro i i' x x' L L' e e' hne ho hL hL' hn hn'
   rcases hlk i x e with⟨e1,h1⟩|⟨rfl,rfl⟩
   · rcases hlk i' x' e' with⟨e2,h2⟩|⟨rfl,rfl⟩
     · simp only[ext1,h1,h2,if_false] at hL hL'
       exact h.sep i i' x x' L L' e1 e2 hne ho hL hL' hn hn'
     · simp only[ext1,h1,if_false,if_true] at hL hL'
       cases hL'
       have:=hlt i x L e1 hL hn
       simp;omega
   · cases ho
 · intro g L e
   have:gid g≠id:=fun e=>hg g e.symm
   simp only[ext1,this,if_false] at e
   exact h.glob g L e
 · intro i x o' e ho'
   rcases hlk i x e with⟨e1,hne⟩|⟨rfl,rfl⟩
   · obtain⟨L,h1,h2,h3,h4,h5⟩:=h.objs i x o' e1 ho'
     have hL:=hlt i x L e1 h1 h2
     refine⟨L,he i L h1,h2,h3,h4.keep he (hold _ hL),fun i' x' M g1 g2 g3 g4=>?_⟩
     rcases hlk i' x' g2 with⟨e2,hne2⟩|⟨rfl,rfl⟩
     · simp only[ext1,hne2,if_false] at g3
       exact h5 i' x' M g1 e2 g3 g4
     · simp only[ext1,if_true] at g3
       cases g3
       simp;omega
   · cases ho'
     refine⟨_,ext1_same,rfl,.inl (by have:=h.size;have:=h.base;simp;omega),(ho _ hnew).keep he rfl,fun i' x' M g1 g2 g3 g4=>?_⟩
     rcases hlk i' x' g2 with⟨e2,hne2⟩|⟨rfl,rfl⟩
     · simp only[ext1,hne2,if_false] at g3
       have:=hlt i' x' M e2 g3 g4
       simp;omega
     · exact absurd rfl g1
theorem Rel.putO (h:Rel C β m w) {id:Nat} {o0 o:AObj} (hx:look m id=some x) (hc:x.cs= .obj o0) {L:Loc} (hL:β id=some L) {ob:Obj} (ho:∀w',w'.heap[L.b]? =some ob→ObjOk β w' L.b o):
 Rel C β (updM m id {x with cs:=.obj o}) (putO w L.b ob):=by
 obtain⟨L0,k1,k2,k3,k4,k5⟩:=h.objs id x o0 hx hc
 rw[hL] at k1
 cases k1
 obtain⟨M',hM',hbx⟩:=h.blk id x hx
 rw[hL] at hM'
 cases hM'
 have hlt:L.b<w.heap.size:=hbx.lt k2
 have hno:x.own=true→False:=fun ho'=>by
  obtain⟨_,_,cs,hcs,_⟩:=hbx.own ho' k2
  cases o0 with
  |loop st pd tm ps as bd dn=>obtain⟨_,_,_,_,_,_,h4⟩:=k4;rw[hcs] at h4;cases h4
  |dfr op=>have h4:w.heap[L.b]? =_:=k4;rw[hcs] at h4;cases h4
 have hsize:(Go.Proofs.YtpgaplcdbbnblaaGreatDoor.putO w L.b ob).heap.size=w.heap.size:=putO_size
 have hlk:∀i,look (updM m id {x with cs:=.obj o}) i=if i=id then some {x with cs:=.obj o} else look m i:=fun i=>look_updM m id i _ x hx
 have hsame:=putO_same (o:=ob) hlt
 have hother:∀b,b≠L.b→(Go.Proofs.YtpgaplcdbbnblaaGreatDoor.putO w L.b ob).heap[b]? =w.heap[b]?:=fun b hb=>putO_other hb
 refine⟨h.os,h.tape,h.output,by rw[hsize];exact h.size,h.base,fun b h1 h2=>?_,fun i y e=>?_,?_,h.glob,fun i y o' e ho'=>?_⟩
 · rw[hother b (fun e=>by
    subst e
    rcases k3 with h'|h'
    · omega
    · exact h2 h')]
   exact h.out b h1 h2
 · rw[hlk] at e
   by_cases hi:i=id
   · subst hi
     rw[if_pos rfl] at e
     cases e
     exact⟨L,hL,hbx.sz,fun l hl=>(by cases hl),fun k j hi=>(by simp[ABlk.inb] at hi),fun _=>(by rw[hsize];exact hlt),fun h _=>(hno h).elim,fun _ _ h=>(by cases h),fun _ _ _ _ h=>(by cases h)⟩
   · rw[if_neg hi] at e
     obtain⟨M,hM,hbM⟩:=h.blk i y e
     exact⟨M,hM,hbM.keep (Ext.refl β) (by rw[hsize];exact Nat.le_refl _) (fun hMn=>hother _ (k5 i y M hi e hM hMn))⟩
 · intro i i' y y' M M' e e' hne hyo hM hM' hMn hMn'
   rw[hlk] at e e'
   by_cases h1:i=id
   · subst h1
     rw[if_pos rfl] at e
     cases e
     exact(hno hyo).elim
   · rw[if_neg h1] at e
     by_cases h2:i'=id
     · subst h2
       rw[hL] at hM'
       cases hM'
       exact k5 i y M h1 e hM hMn
     · rw[if_neg h2] at e'
       exact h.sep i i' y y' M M' e e' hne hyo hM hM' hMn hMn'
 · rw[hlk] at e
   by_cases h1:i=id
   · subst h1
     rw[if_pos rfl] at e
     cases e
     cases ho'
     refine⟨L,hL,k2,k3,ho _ hsame,fun i' x' M g1 g2 g3 g4=>?_⟩
     rw[hlk,if_neg g1] at g2
     exact k5 i' x' M g1 g2 g3 g4
   · rw[if_neg h1] at e
     obtain⟨M,q1,q2,q3,q4,q5⟩:=h.objs i y o' e ho'
     refine⟨M,q1,q2,q3,q4.keep (Ext.refl β) (hother _ (k5 i y M h1 e q1 q2)),fun i' x' M' g1 g2 g3 g4=>?_⟩
     rw[hlk] at g2
     by_cases h2:i'=id
     · subst h2
       exact q5 i' x M' g1 hx g3 g4
     · rw[if_neg h2] at g2
       exact q5 i' x' M' g1 g2 g3 g4
end
end Go.Proofs.YtpgaplcdbbnblaaGreatDoor
end
/- Aggregates that are built part by part, and slices of them. No Go text is in sight. -/
section
namespace Go.Proofs.YtpgaplcdbbnblaaGreatDoor
open Go.RowKit
theorem lay_cons (l:List Value) (o:Nat) (v:Value) (r:List Value) (h:o+(r.length+1)≤l.length):lay (l.set o v) (o+1) r=lay l o (v::r):=by
 apply List.ext_getElem?
 intro j
 rw[lay_get (by simp;omega),lay_get (by simp;omega)]
 simp only[List.length_cons]
 by_cases h1:o+1≤j∧j<o+1+r.length
 · rw[if_pos h1,if_pos ⟨by omega,by omega⟩]
   rw[show j-o=(j-(o+1))+1 by omega];rfl
 · rw[if_neg h1]
   by_cases h2:j=o
   · subst h2
     rw[if_pos ⟨by omega,by omega⟩]
     simp[show j<l.length by omega]
   · rw[if_neg (by omega)]
     simp[List.getElem?_set,show ¬o=j by omega]
theorem zip_lay (off:Nat):∀(vs:List Value) (j:Nat) (acc:Array Value),off+j+vs.length≤acc.size→
 (vs.zipIdx j).foldl (fun (cs:Array Value) (x:Value × Nat)=>cs.setIfInBounds (off+x.2) x.1) acc=(lay acc.toList (off+j) vs).toArray
 | [],j,acc,_=>by simp[lay]
 |v::r,j,acc,h=>by
  simp only[List.length_cons] at h
  rw[List.zipIdx_cons,List.foldl_cons,zip_lay off r (j+1) _ (by simp;omega)]
  simp only[Array.toList_setIfInBounds]
  rw[show off+(j+1)=off+j+1 by omega,lay_cons _ _ _ _ (by simp;omega)]
/-! ### a slice of aggregates, each given -/
def fullFrom (k:Nat):Nat→List (Nat × Value)→Bool
 |_,[]=>true
 |i,(j,v)::r=>(j==i)&&(v.cells.size==k)&&fullFrom k (i+1) r
theorem full_fill (k:Nat):∀(parts:List (Nat × Value)) (i:Nat) (acc:List Value),fullFrom k i parts=true→acc.length=(i+parts.length)*k→
 Instr.fill (fun j=>some (j*k,k)) acc.toArray parts=some (acc.take (i*k)++parts.flatMap (·.2.cells.toList)).toArray
 | [],i,acc,_,hl=>by
  simp only[List.length_nil,Nat.add_zero] at hl
  simp[Instr.fill,← hl]
 | (j,v)::rest,i,acc,h,hl=>by
  unfold fullFrom at h
  simp only[Bool.and_eq_true,beq_iff_eq] at h
  obtain⟨⟨rfl,hk⟩,hr⟩:=h
  simp only[List.length_cons] at hl
  have e1:(j+(rest.length+1))*k=j*k+k+rest.length*k:=by rw[Nat.add_mul,Nat.succ_mul];omega
  unfold Instr.fill
  simp only
  rw[if_neg (by simp[hk];omega)]
  have hz:v.cells.zipIdx.foldl (fun (cs:Array Value) (x:Value × Nat)=>cs.setIfInBounds (j*k+x.2) x.1) acc.toArray=(lay acc (j*k) v.cells.toList).toArray:=by
   have:=zip_lay (j*k) v.cells.toList 0 acc.toArray (by simp;omega)
   rw[Nat.add_zero] at this
   rw[← this,← Array.foldl_toList]
   simp
  rw[hz,full_fill k rest (j+1) _ hr (by rw[lay_length (by simp;omega),hl,show j+1+rest.length=j+(rest.length+1) by omega])]
  congr 2
  rw[List.flatMap_cons,← List.append_assoc]
  congr 1
  unfold lay
  have hkk:v.cells.toList.length=k:=by simpa using hk
  have htl:(acc.take (j*k)).length=j*k:=by simp;omega
  rw[Nat.succ_mul,List.append_assoc,List.take_append,htl,List.take_of_length_le (by omega)]
  congr 1
  rw[show j*k+k-j*k=k by omega,List.take_append,List.take_of_length_le (by omega),hkk]
  simp
def bsAt (t:TypeId) (n:Nat) (parts:Array (Nat × Value)):Sem Value:=Instr.buildSlice t n parts
def bsAlt (P:Program) (t:TypeId) (n:Nat) (parts:Array (Nat × Value)) (w:World):Result Value:=(Instr.buildSlice t n parts).run P w
theorem run_bsAt {P:Program} {t e:TypeId} {i:TypeInfo} {z:Value} (ht:P.underlying t=some (.slice e)) (hi:P.info? e=some i) (hz:i.zero=some z) (n:Nat) (parts:Array (Nat × Value)) (w:World):
 (bsAt t n parts).run P w=if fullFrom i.size 0 parts.toList=true∧parts.size=n∧0<n*i.size∧n*i.size≤16777216 then
  .ok (.slice (some ⟨w.heap.size,0,none⟩) n n) (w.alloc (.cells (parts.toList.flatMap (·.2.cells.toList)).toArray e)) else bsAlt P t n parts w:=by
 split
 · rename_i h
   obtain⟨h1,h2,h3,h4⟩:=h
   show (Instr.buildSlice t n parts).run P w=_
   have hf:=full_fill i.size parts.toList 0 ((List.range (n*i.size)).map fun j=>z.cells[j % z.cells.size]!) h1 (by simp[h2])
   simp only[Nat.zero_mul,List.take_zero,List.nil_append] at hf
   have e1:((Array.range (n*i.size)).map fun x=>z.cells[x % z.cells.size]!)=((List.range (n*i.size)).map fun j=>z.cells[j % z.cells.size]!).toArray:=by
    apply Array.ext'
    simp
   have hne:¬n*i.size=0:=by omega
   have hle:¬n*i.size>2^24:=by omega
   rw[← e1] at hf
   have q1:(underlying t).run P w= .ok (.slice e) w:=run_underlying ht w
   have q2:(sizeOf e).run P w= .ok i.size w:=by simp[sizeOf,typeInfo,hi]
   have q3:(zeroValue e).run P w= .ok z w:=by simp[zeroValue,typeInfo,hi,hz]
   unfold Instr.buildSlice
   rw[Sem.run_bind,q1]
   simp only[Result.andThen_ok]
   rw[Sem.run_bind,q2]
   simp only[Result.andThen_ok]
   rw[if_neg hle,if_neg hne]
   simp only[Sem.run_bind,Sem.run_pure,Result.andThen_ok,q3,hf]
   rfl
 · rfl
end Go.Proofs.YtpgaplcdbbnblaaGreatDoor
end
/- The symbolic evaluator: each operation does in the model what the evaluator says. No Go text is in sight. -/
section
namespace Go.Proofs.YtpgaplcdbbnblaaGreatDoor
open Go.RowKit
section
variable {P:Program} {C:Ctx} {β:Nm} {m m2:AMem} {w:World} {tm:List AV} {a:Act}
theorem evC_ok {x:Operand} {av:AV} (hf:FrOk β tm a.tmps) (hr:Rel C β m2 w) (hs:Sub m m2) (h:evC tm m x=some av):γ β av=some (a.eval x)∧γ1 β av=some (a.eval x)∧((∃y,av= .c y)∨∃l,av= .agg l):=by
 unfold evC at h
 split at h
 · rename_i y hy
   cases h
   rcases evA_ok hf hr hs hy with h1|h1
   · cases h1
   · exact⟨h1,h1,.inl ⟨y,rfl⟩⟩
 · rename_i l hy
   cases h
   rcases evA_ok hf hr hs hy with h1|h1
   · cases h1
   · exact⟨h1,h1,.inr ⟨l,rfl⟩⟩
 · cases h
theorem evAs_ok (hf:FrOk β tm a.tmps) (hr:Rel C β m2 w) (hs:Sub m m2):∀{xs:List Operand} {l:List AV},evAs tm m xs=some l→γt β l=some (xs.map a.eval)
 | [],l,h=>by simp only[evAs,Option.some.injEq] at h;subst h;rfl
 |x::r,l,h=>by
  simp only[evAs] at h
  split at h
  · rename_i v vs hv hvs
    cases h
    simp only[γt,List.map_cons]
    rw[(evC_ok hf hr hs hv).2.1,evAs_ok hf hr hs hvs]
  · cases h
theorem evPs_ok (hf:FrOk β tm a.tmps) (hr:Rel C β m2 w) (hs:Sub m m2):∀{xs:List (Nat × Operand)} {l:List (Nat × AV)},evPs tm m xs=some l→
 l.map (·.1)=xs.map (·.1)∧γt β (l.map (·.2))=some (xs.map fun p=>a.eval p.2)
 | [],l,h=>by simp only[evPs,Option.some.injEq] at h;subst h;exact⟨rfl,rfl⟩
 | (i,x)::r,l,h=>by
  simp only[evPs] at h
  split at h
  · rename_i v vs hv hvs
    cases h
    obtain⟨h1,h2⟩:=evPs_ok hf hr hs hvs
    simp only[γt,List.map_cons]
    rw[(evC_ok hf hr hs hv).2.1,h1,h2]
    exact⟨rfl,rfl⟩
  · cases h
def EffOk (P:Program) (C:Ctx) (m2:AMem) (w:World) (β:Nm) (lo hi:Nat) (val:AV) (news:AMem) (s:Sem Next):Prop:=
 ∃β' v w',s.run P w= .ok (.value v) w'∧Ext β β'∧(∀id,id<lo∨hi≤id→β' id=β id)∧γ β' val=some v∧Rel C β' (m2++news) w'
def liftV (s:Sem Value):Sem Next:=do pure (.value (← s))
theorem run_liftV {s:Sem Value} {v:Value} {w w':World} (h:s.run P w= .ok v w'):(liftV s).run P w= .ok (.value v) w':=by
 unfold liftV
 simp[Sem.run_bind,h]
theorem EffOk.still {s:Sem Value} {v:Value} {av:AV} {lo hi:Nat} (hr:Rel C β m2 w) (h:s.run P w= .ok v w) (hg:γ β av=some v):EffOk P C m2 w β lo hi av [] (liftV s):=
 ⟨β,v,w,run_liftV h,Ext.refl β,fun _ _=>rfl,hg,by rw[List.append_nil];exact hr⟩
/-! ### types -/
theorem sizeA_some {t:TypeId} {n:Nat} (h:sizeA P t=some n):∃i,P.info? t=some i∧i.size=n:=by
 unfold sizeA at h
 split at h
 · rename_i i hi;cases h;exact⟨i,hi,rfl⟩
 · cases h
theorem run_sizeA {t:TypeId} {n:Nat} (h:sizeA P t=some n) (w:World):(sizeOf t).run P w= .ok n w:=by
 obtain⟨i,hi,rfl⟩:=sizeA_some h
 simp[sizeOf,typeInfo,hi]
theorem run_aggB {t:TypeId} {b:Bool} (h:aggB P t=some b) (w:World):(isAgg t).run P w= .ok b w:=by
 unfold aggB at h
 split at h
 · rename_i fs hu;cases h;simp[isAgg,run_underlying hu]
 · rename_i n e hu;cases h;simp[isAgg,run_underlying hu]
 · rename_i d hu h1 h2
   cases h
   unfold isAgg
   rw[Sem.run_bind,run_underlying h2]
   simp only[Result.andThen_ok]
   cases d<;>first|rfl|exact absurd rfl (hu _)|exact absurd rfl (h1 _ _)
 · cases h
theorem lay_some {t:TypeId} {b:Bool} {ks:List Kd} (h:lay? P t=some (b,ks)):aggB P t=some b∧sizeA P t=some ks.length∧(b=true∨ks.length=1)∧kinds P 9 t=some ks:=by
 unfold lay? at h
 split at h
 · rename_i a' ks' n h1 h2 h3
   split at h
   · rename_i hc
     cases h
     obtain⟨rfl,hc2⟩:=hc
     exact⟨h1,h3,hc2,h2⟩
   · cases h
 · cases h
/-! ### alloc, box -/
theorem run_newVar (t:TypeId) (v:Value) (w:World):(newVar t v).run P w= .ok ⟨w.heap.size,0,none⟩ (w.alloc (.cells v.cells t)):=by
 simp[newVar,newRow,newObj,Sem.run]
theorem aAlloc_ok {ib:Nat} {t:TypeId} {val:AV} {news:AMem} {ob:List Bool} (h:aAlloc P ib t=some (.eff val news ob)) (hr:Rel C β m2 w) (hid:β ib=none) (hg:∀g,ib≠gid g) (old:Value):
 EffOk P C m2 w β ib (ib+1) val news (liftV (Instr.alloc t true old)):=by
 unfold aAlloc at h
 split at h
 · rename_i i hi
   split at h
   · rename_i z hz
     split at h
     · rename_i h1
       cases h
       refine⟨ext1 β ib ⟨w.heap.size,0,0,0,false⟩,.pointer (some ⟨w.heap.size,0,none⟩),_,run_liftV ?_,ext1_ext hid,fun id hid'=>?_,?_,Rel.new (t:=t) hr hid hg (γs_vs z.cells.toList) (List.all_eq_true.1 h1)⟩
       · simp[Instr.alloc,zeroValue,typeInfo,hi,hz,run_newVar]
       · simp[ext1];intro e;omega
       · simp[γ,γ1,γc,ad,ext1]
     · cases h
   · cases h
 · cases h
theorem aBox_ok {ib:Nat} {t:TypeId} {x val:AV} {v:Value} {news:AMem} {ob:List Bool} (h:aBox ib t x=some (.eff val news ob)) (hx:γ β x=some v) (hr:Rel C β m2 w) (hid:β ib=none) (hg:∀g,ib≠gid g):
 EffOk P C m2 w β ib (ib+1) val news (liftV (Instr.box t v)):=by
 unfold aBox at h
 split at h
 · rename_i l hl
   split at h
   · rename_i h1
     cases h
     obtain⟨vs,hvs,hc,_⟩:=γ_cells hl hx
     have ho:=one_γs h1 hvs
     have hcv:v.cells.toList=vs:=hc (List.all_eq_true.2 ho)
     refine⟨ext1 β ib ⟨w.heap.size,0,0,0,false⟩,.pointer (some ⟨w.heap.size,0,none⟩),_,run_liftV ?_,ext1_ext hid,fun id hid'=>?_,?_,Rel.new (t:=t) hr hid hg hvs ho⟩
     · simp[Instr.box,run_newVar,← hcv]
     · simp[ext1];intro e;omega
     · simp[γ,γ1,γc,ad,ext1]
   · cases h
 · cases h
/-! ### load -/
theorem γc_ptr {id k j:Nat} {v:Value} (h:γ β (.c (.ptr id k j))=some v):∃L,β id=some L∧L.nil=false∧v= .pointer (some ⟨L.b,L.o+(k*L.s+j),none⟩):=by
 simp only[γ,γ1,γc] at h
 split at h
 · rename_i a ha
   cases h
   obtain⟨L,h1,h2,rfl⟩:=ad_some ha
   exact⟨L,h1,h2,rfl⟩
 · cases h
theorem aLoad_ok {t:TypeId} {x val:AV} {v:Value} {news:AMem} {ob:List Bool} {lo hi:Nat} (h:aLoad P m t x=some (.eff val news ob)) (hob:allT ob) (hx:γ β x=some v) (hr:Rel C β m2 w) (hs:Sub m m2):
 EffOk P C m2 w β lo hi val news (liftV (Instr.loadAt t v)):=by
 unfold aLoad at h
 split at h
 · rename_i id k j
   obtain⟨L,hL,hn,rfl⟩:=γc_ptr hx
   split at h
   · rename_i y ks hy hlay
     cases h
     obtain⟨h1,h2,_,_⟩:=lay_some hlay
     rw[allT_cons] at hob
     obtain⟨L',hL',hb⟩:=hr.blk id y (hs _ _ hy)
     rw[hL] at hL'
     cases hL'
     obtain⟨vs,hvs,hc⟩:=rd_ok hb ks j hob.1 hob.2
     have hvl:vs.length=ks.length:=by rw[γs_length hvs,rd_length]
     refine EffOk.still (v:=.agg vs.toArray) hr ?_ (by simp only[γ,γ1];rw[hvs])
     have hload:=run_loadCells_list (P:=P) w ⟨L.b,L.o+(k*L.s+j),none⟩ vs (fun i u hu=>by
      rw[Addr.add_lit]
      have:=(hc i u hu).2
      rwa[show L.o+(k*L.s+(j+i))=L.o+(k*L.s+j)+i by omega] at this)
     simp[Instr.loadAt,Instr.sureAddr,loadVar,Sem.run_bind,run_aggB h1 w,run_sizeA h2 w,← hvl,hload]
   · rename_i y ks hy hlay
     cases h
     obtain⟨h1,h2,h3,_⟩:=lay_some hlay
     have h3:ks.length=1:=by simpa using h3
     rw[allT_cons] at hob
     obtain⟨L',hL',hb⟩:=hr.blk id y (hs _ _ hy)
     rw[hL] at hL'
     cases hL'
     obtain⟨vs,hvs,hc⟩:=rd_ok hb ks j hob.1 hob.2
     have hrl:(rd y.cs k j ks).length=1:=by rw[rd_length];exact h3
     obtain⟨z,hz⟩:=List.length_eq_one_iff.1 hrl
     rw[hz] at hvs ⊢
     obtain⟨u,hu,hcz⟩:=γs_get hvs (i:=0) (x:=z) rfl
     refine EffOk.still (v:=u) hr ?_ hcz
     have:=(hc 0 u hu).2
     simp only[Nat.add_zero] at this
     simp[Instr.loadAt,Instr.sureAddr,loadVar,Sem.run_bind,run_aggB h1 w,load,Sem.run,this]
   · cases h
 · cases h
/-! ### store -/
theorem aStore_ok {t:TypeId} {x y val:AV} {v u:Value} {e:Efx} {ob:List Bool} (h:aStore P m t x y=some (.upd val e ob)) (hob:allT ob) (hx:γ β x=some v) (hy:γ β y=some u) (hr:Rel C β m w):
 ∃w',(Instr.storeAt t v u).run P w= .ok () w'∧Rel C β (e.on m) w'∧val= .c (.v undef)∧w'.heap.size=w.heap.size:=by
 unfold aStore at h
 split at h
 · rename_i id k j vs n hvs hn
   split at h
   · rename_i b hb
     split at h
     · rename_i hc
       simp only[Bool.and_eq_true] at hc
       cases h
       obtain⟨ho,hlen,hone⟩:=hc
       have hlen:vs.length=n+1:=Nat.eq_of_beq_eq_true hlen
       obtain⟨L,hL,hnil,rfl⟩:=γc_ptr hx
       obtain⟨us,hus,hcells,_⟩:=γ_cells hvs hy
       have hone':=one_γs hone hus
       have huc:u.cells.toList=us:=hcells (List.all_eq_true.2 hone')
       rw[allT_cons] at hob
       have hput:=Rel.putM hr hb ho hL hnil hus hone' hob.1 (by omega)
       obtain⟨L',hL',hbk⟩:=hr.blk id b hb
       rw[hL] at hL'
       cases hL'
       obtain⟨_,_,cs,hheap,_⟩:=hbk.own ho hnil
       have hul:us.length=vs.length:=γs_length hus
       have hst:=run_storeCells_cells (P:=P) L.b (L.o+(k*L.s+j)) us 0 w (fun i hi=>by
        obtain⟨_,q,_,_,hq⟩:=hbk.cells k (j+i) (inb_le hob.1 (by omega))
        rw[show L.o+(k*L.s+j)+0+i=L.o+(k*L.s+(j+i)) by omega,hq];rfl)
        (fun i hi=>by simp[World.frozen?,hheap]) hone'
       rw[Nat.add_zero] at hst
       have hsc:w.setCells L.b (L.o+(k*L.s+j)) us=put w L.b (L.o+(k*L.s+j)) us:=by
        refine setCells_put L.b b.ty us _ w cs hheap ?_
        obtain⟨_,q,_,_,hq⟩:=hbk.cells k (j+(us.length-1)) (inb_le hob.1 (by omega))
        have:=cell_in hheap hq
        omega
       rw[hsc] at hst
       refine⟨_,?_,hput,rfl,size_put us⟩
       have hsz:=run_sizeA hn w
       simp[Instr.storeAt,Instr.sureAddr,storeVar,hsz,huc,hul,hlen,hst,show u.cells.size=n+1 by rw[← Array.length_toList,huc,hul,hlen]]
     · cases h
   · cases h
 · cases h
/-! ### integers, bools -/
theorem γ_v {x v:Value} (h:γ β (.c (.v x))=some v):v=x:=by cases h;rfl
theorem bitsOp_ok {op:BinOp} {k:IntKind} {x y n:Int} (h:bitsOp op k x y=some n) (w:World):(Op.intBits op k x y).run P w= .ok (.int k n) w:=by
 unfold bitsOp at h
 cases op<;>first|(cases h;done)|(simp only[Option.some.injEq] at h;subst h;rfl)
theorem run_intBinOp {op:BinOp} {k:IntKind} {t:TypeId} {x y:Int} {r:Value} {ob:List Bool} (hs:op≠ .shl∧op≠ .shr) (h:intOp op k x y=some (r,ob)) (hob:allT ob) (w:World):
 (binOp op t (.int k x) (.int k y)).run P w= .ok r w:=by
 unfold intOp at h
 split at h<;>first
  |(simp only[Option.some.injEq,Prod.mk.injEq] at h;obtain⟨rfl,rfl⟩:=h;simp[allT] at hob;simp[binOp,Op.intArith,Op.intCmp,Op.intDiv,hob];done)
  | (split at h
     · rename_i n hn
       simp only[Option.some.injEq,Prod.mk.injEq] at h
       obtain⟨rfl,rfl⟩:=h
       have:=bitsOp_ok (P:=P) hn w
       simpa[binOp] using this
     · cases h)
  |cases h
theorem run_shBinOp {op:BinOp} {k k':IntKind} {t:TypeId} {x y:Int} {r:Value} {ob:List Bool} (h:shOp op k x y=some (r,ob)) (hob:allT ob) (w:World):
 (binOp op t (.int k x) (.int k' y)).run P w= .ok r w:=by
 unfold shOp at h
 split at h<;>first
  |(simp only[Option.some.injEq,Prod.mk.injEq] at h;obtain⟨rfl,rfl⟩:=h;simp[allT] at hob;simp[binOp,Op.shift,show ¬y<0 by omega];done)
  |cases h
theorem run_eqGuard_int (op:BinOp) (t:TypeId) (x y:Operand) (k k':IntKind) (a b:Int) (w:World):(eqGuard op t x y (.int k a) (.int k' b)).run P w= .ok () w:=by
 cases op<;>rfl
theorem run_eqGuard_bool (op:BinOp) (t:TypeId) (x y:Operand) (a b:Bool) (w:World):(eqGuard op t x y (.bool a) (.bool b)).run P w= .ok () w:=by
 cases op<;>rfl
theorem run_eqGuard_ptr (op:BinOp) (t:TypeId) (x y:Operand) (a b:Option Addr) (w:World):(eqGuard op t x y (.pointer a) (.pointer b)).run P w= .ok () w:=by
 cases op<;>rfl
theorem run_eqGuard_agg' (op:BinOp) (t:TypeId) (x y:Operand) (a b:Array Value) (w:World) (h:P.eqGuardType P.depth t=false):(eqGuard op t x y (.agg a) (.agg b)).run P w= .ok () w:=by
 cases op<;>simp[eqGuard,program,Sem.run,h]
theorem okF_flat:∀{ks:List (Option IntKind)} {xs:List AC} {vs:List Value},xs.length=ks.length→allT (okF ks xs)→γs β xs=some vs→FlatS ks vs
 | [],[],vs,_,_,h=>by cases h;exact FlatS.nil
 | k ::ks,x::xs,vs,hl,ho,h=>by
  simp only[γs] at h
  split at h
  · rename_i v us hv hus
    cases h
    have hl':xs.length=ks.length:=by simpa using hl
    cases k with
    |none=>
     simp only[okF] at ho
     rw[allT_cons] at ho
     refine FlatS.cons ?_ (okF_flat hl' ho.2 hus)
     have:=tl_ok ho.1
     rw[← this] at hv
     cases hv
     exact⟨_,rfl⟩
    |some k=>
     simp only[okF] at ho
     rw[allT_cons] at ho
     refine FlatS.cons ?_ (okF_flat hl' ho.2 hus)
     have:=tl_ok ho.1
     rw[← this] at hv
     cases hv
     exact⟨_,rfl⟩
  · cases h
 | [],_::_,_,hl,_,_=>by simp at hl
 |_::_,[],_,hl,_,_=>by simp at hl
open Classical in
theorem eqF_eq:∀{ks:List (Option IntKind)} {xs ys:List AC} {vs us:List Value},xs.length=ks.length→ys.length=ks.length→allT (okF ks xs)→allT (okF ks ys)→γs β xs=some vs→γs β ys=some us→
 decide (vs=us)=eqF ks xs ys
 | [],[],[],vs,us,_,_,_,_,h,h'=>by cases h;cases h';simp[eqF]
 |k::ks,x::xs,y::ys,vs,us,hl,hl',ho,ho',h,h'=>by
  simp only[γs] at h h'
  split at h
  · rename_i v vs hv hvs
    split at h'
    · rename_i u us hu hus
      cases h
      cases h'
      have hl1:xs.length=ks.length:=by simpa using hl
      have hl2:ys.length=ks.length:=by simpa using hl'
      cases k with
      |none=>
       simp only[okF] at ho ho'
       rw[allT_cons] at ho ho'
       rw[← tl_ok ho.1] at hv
       rw[← tl_ok ho'.1] at hu
       cases hv
       cases hu
       simp only[eqF,← eqF_eq hl1 hl2 ho.2 ho'.2 hvs hus]
       by_cases e:asB x=asB y
       · simp[e]
       · simp[e]
      |some k=>
       simp only[okF] at ho ho'
       rw[allT_cons] at ho ho'
       rw[← tl_ok ho.1] at hv
       rw[← tl_ok ho'.1] at hu
       cases hv
       cases hu
       simp only[eqF,← eqF_eq hl1 hl2 ho.2 ho'.2 hvs hus]
       by_cases e:asI x=asI y
       · simp[e]
       · simp[e]
    · cases h'
  · cases h
 | [],_::_,_,_,_,hl,_,_,_,_,_=>by simp at hl
 | [],_,_::_,_,_,_,hl,_,_,_,_=>by simp at hl
 |_::_,[],_,_,_,hl,_,_,_,_,_=>by simp at hl
 |_::_,_,[],_,_,_,hl,_,_,_,_=>by simp at hl
def binS (P:Program) (op:BinOp) (t:TypeId) (x y:Operand) (u v:Value):Sem Value:=do eqGuard op t x y u v;binOp op t u v
theorem neg_ok {op:BinOp} {b r:Bool} (h:neg? op b=some r):(op= .eql∧r=b)∨(op= .neq∧r=!b):=by
 unfold neg? at h
 split at h<;>cases h<;>simp
theorem run_eqS {op:BinOp} {t:TypeId} {u v:Value} {b r:Bool} (hn:neg? op b=some r) (he:(Op.equal t u v).run P w= .ok b w)
 (h1:binOp .eql t u v=do pure (.bool (← Op.equal t u v))) (h2:binOp .neq t u v=do pure (.bool (!(← Op.equal t u v)))):(binOp op t u v).run P w= .ok (.bool r) w:=by
 rcases neg_ok hn with⟨rfl,rfl⟩|⟨rfl,rfl⟩
 · rw[h1,Sem.run_bind,he];rfl
 · rw[h2,Sem.run_bind,he];rfl
theorem run_equal_bool {t:TypeId} {a b:Bool} (hu:P.underlying t=some .bool):(Op.equal t (.bool a) (.bool b)).run P w= .ok (a==b) w:=by
 show (Op.equalIn (9999+1) t _ _).run P w=_
 rw[Op.equalIn,Sem.run_bind,run_underlying hu]
 rfl
theorem run_equal_ptr {t e:TypeId} {a:Option Addr} (hu:P.underlying t=some (.pointer e)):(Op.equal t (.pointer a) (.pointer none)).run P w= .ok a.isNone w:=by
 show (Op.equalIn (9999+1) t _ _).run P w=_
 rw[Op.equalIn,Sem.run_bind,run_underlying hu]
 cases a<;>rfl
theorem aBin_ok {op:BinOp} {t:TypeId} {ox oy:Operand} {x y val:AV} {u v:Value} {news:AMem} {ob:List Bool} {lo hi:Nat} (h:aBin P op t x y=some (.eff val news ob)) (hob:allT ob) (hx:γ β x=some u) (hy:γ β y=some v)
 (hr:Rel C β m2 w):EffOk P C m2 w β lo hi val news (liftV (binS P op t ox oy u v)):=by
 unfold aBin at h
 split at h
 · rename_i k p k' q
   have:=γ_v hx
   subst this
   have:=γ_v hy
   subst this
   split at h
   · split at h
     · rename_i r ob' hsh
       cases h
       refine EffOk.still hr ?_ rfl
       unfold binS
       rw[Sem.run_bind,run_eqGuard_int]
       exact run_shBinOp hsh hob w
     · cases h
   · split at h
     · rename_i r ob' hsh
       cases h
       refine EffOk.still hr ?_ rfl
       unfold binS
       rw[Sem.run_bind,run_eqGuard_int]
       exact run_shBinOp hsh hob w
     · cases h
   · rename_i n1 n2
     split at h
     · rename_i hk
       subst hk
       split at h
       · rename_i r ob' hi'
         cases h
         refine EffOk.still hr ?_ rfl
         unfold binS
         rw[Sem.run_bind,run_eqGuard_int]
         exact run_intBinOp ⟨n1,n2⟩ hi' hob w
       · cases h
     · cases h
 · rename_i p q
   have:=γ_v hx
   subst this
   have:=γ_v hy
   subst this
   split at h
   · rename_i r hu hn
     cases h
     refine EffOk.still hr ?_ rfl
     unfold binS
     rw[Sem.run_bind,run_eqGuard_bool]
     exact run_eqS hn (run_equal_bool hu) rfl rfl
   · cases h
 · have:=γ_v hx
   subst this
   have:=γ_v hy
   subst this
   split at h
   · rename_i r hu hn
     cases h
     refine EffOk.still hr ?_ rfl
     unfold binS
     rw[Sem.run_bind,run_eqGuard_ptr]
     exact run_eqS hn (run_equal_ptr hu) rfl rfl
   · cases h
 · have:=γ_v hy
   subst this
   obtain⟨L,hL,hn,rfl⟩:=γc_ptr hx
   split at h
   · rename_i r hu hn
     cases h
     refine EffOk.still hr ?_ rfl
     unfold binS
     rw[Sem.run_bind,run_eqGuard_ptr]
     exact run_eqS hn (run_equal_ptr hu) rfl rfl
   · cases h
 · rename_i xs ys
   split at h
   · rename_i ks r hk hn hg hagg
     split at h
     · rename_i hl
       simp only[Bool.and_eq_true] at hl
       cases h
       rw[hk,Option.getD_some] at hn
       simp only[γ,γ1] at hx hy
       split at hx
       · rename_i vs hvs
         split at hy
         · rename_i us hus
           cases hx
           cases hy
           have h1:xs.length=ks.length:=Nat.eq_of_beq_eq_true hl.1
           have h2:ys.length=ks.length:=Nat.eq_of_beq_eq_true hl.2
           rw[allT_append] at hob
           refine EffOk.still hr ?_ rfl
           unfold binS
           rw[Sem.run_bind,run_eqGuard_agg' _ _ _ _ _ _ _ hg]
           have he:=run_equalIn_flat (P:=P) (d:=10000) (by omega) hk hagg (okF_flat h1 hob.1 hvs) (okF_flat h2 hob.2 hus) w
           rw[eqF_eq h1 h2 hob.1 hob.2 hvs hus] at he
           exact run_eqS hn he rfl rfl
         · cases hy
       · cases hx
     · cases h
   · cases h
 · cases h
theorem run_eqGuard_sl (op:BinOp) (t:TypeId) (x y:Operand) (A B:Option Addr) (n c n' c':Nat) (w:World):(eqGuard op t x y (.slice A n c) (.slice B n' c')).run P w= .ok () w:=by
 cases op<;>rfl
theorem run_equal_sl {t e:TypeId} {A:Option Addr} {n c:Nat} (hu:P.underlying t=some (.slice e)):(Op.equal t (.slice A n c) (.slice none 0 0)).run P w= .ok A.isNone w:=by
 show (Op.equalIn (9999+1) t _ _).run P w=_
 rw[Op.equalIn,Sem.run_bind,run_underlying hu]
 cases A<;>rfl
theorem aBinM_ok {op:BinOp} {t:TypeId} {ox oy:Operand} {x y val:AV} {u v:Value} {news:AMem} {ob:List Bool} {lo hi:Nat} (h:aBinM P m op t x y=some (.eff val news ob)) (hob:allT ob) (hx:γ β x=some u) (hy:γ β y=some v)
 (hr:Rel C β m2 w) (hs:Sub m m2):EffOk P C m2 w β lo hi val news (liftV (binS P op t ox oy u v)):=by
 have key:∀{A:Option Addr} {n c:Nat} {e:TypeId} {r:Bool},P.underlying t=some (.slice e)→neg? op A.isNone=some r→EffOk P C m2 w β lo hi (.c (.v (.bool r))) [] (liftV (binS P op t ox oy (.slice A n c) (.slice none 0 0))):=by
  intro A n c e r hu hn
  refine EffOk.still hr ?_ rfl
  unfold binS
  rw[Sem.run_bind,run_eqGuard_sl]
  exact run_eqS hn (run_equal_sl hu) rfl rfl
 unfold aBinM at h
 split at h
 · rename_i id k j len cap
   have:=γ_v hy;subst this
   split at h
   · rename_i e r b hu hn hb
     cases h
     obtain⟨L,hL,hbk⟩:=hr.blk id b (hs _ _ hb)
     simp only[allT,List.mem_singleton,forall_eq] at hob
     obtain⟨hnil,_⟩:=hbk.cells 0 0 hob
     have hx2:=hx
     simp only[γ,γ1,γc,hL,hnil,Bool.false_eq_true,if_false,Option.some.injEq] at hx2
     subst hx2
     exact key hu hn
   · cases h
 · have:=γ_v hx;subst this
   have:=γ_v hy;subst this
   split at h
   · rename_i e r hu hn;cases h;exact key hu hn
   · cases h
 · have:=γ_v hx;subst this
   have:=γ_v hy;subst this
   split at h
   · rename_i e r hu hn;cases h;exact key hu hn
   · cases h
 · rename_i id k y
   have:=γ_v hy;subst this
   split at h
   · rename_i b hb
     split at h
     · rename_i n f hcs hrow
       cases h
       simp only[allT,List.mem_cons,List.not_mem_nil,or_false,forall_eq_or_imp,forall_eq,decide_eq_true_eq] at hob
       obtain⟨⟨o1,o2⟩,o3⟩:=hob
       obtain⟨L,hL,hbk⟩:=hr.blk id b (hs _ _ hb)
       obtain⟨hnil,_⟩:=hbk.cells k 0 (by simp only[ABlk.inb,hcs,Bool.and_eq_true,decide_eq_true_eq];omega)
       have hc:=hbk.rowc hrow hnil n f hcs
       simp only[γ,γ1,γc,hL,hnil,Bool.false_eq_true,if_false,Option.some.injEq] at hx
       subst hx
       have hd:decide (((L.cap-k:Nat):Int)<y)=false:=decide_eq_false (by omega)
       exact aBin_ok (x:=.c (.v (.int .i64 ((L.cap-k:Nat):Int)))) (y:=.c (.v (.int .i64 y))) (ob:=[]) (by simp only[aBin,intOp,hd,if_true]) (by simp[allT]) rfl rfl hr
     · cases h
   · cases h
 · exact aBin_ok h hob hx hy hr
end
end Go.Proofs.YtpgaplcdbbnblaaGreatDoor
end
/- The symbolic evaluator: each operation does in the model what the evaluator says, continued. No Go text is in sight. -/
section
namespace Go.Proofs.YtpgaplcdbbnblaaGreatDoor
open Go.RowKit
section
variable {P:Program} {C:Ctx} {β:Nm} {m m2:AMem} {w:World} {tm:List AV} {a:Act} {news:AMem} {ob:List Bool} {lo hi hi':Nat} {x y val:AV} {u v:Value}
theorem aUn_ok {op:UnOp} (h:aUn op x=some (.eff val news ob)) (hx:γ β x=some v) (hr:Rel C β m2 w):EffOk P C m2 w β lo hi val news (liftV (Op.unary op v)):=by
 unfold aUn at h
 split at h
 · have:=γ_v hx;subst this
   split at h
   · cases h;exact EffOk.still hr rfl rfl
   · cases h
 · have:=γ_v hx;subst this
   split at h
   · cases h;exact EffOk.still hr rfl rfl
   · split at h
     · rename_i r hb
       cases h
       exact EffOk.still hr (bitsOp_ok hb w) rfl
     · cases h
   · cases h
 · cases h
theorem aConv_ok {s d:TypeId} (h:aConv P s d x=some (.eff val news ob)) (hx:γ β x=some v) (hr:Rel C β m2 w):EffOk P C m2 w β lo hi val news (liftV (convert s d v)):=by
 unfold aConv at h
 split at h
 · have:=γ_v hx;subst this
   split at h
   · rename_i ds k hs hd
     cases h
     refine EffOk.still hr ?_ rfl
     unfold convert
     rw[Sem.run_bind,run_underlying hs]
     simp only[Result.andThen_ok]
     rw[Sem.run_bind,run_underlying hd]
     simp only[Result.andThen_ok]
     rfl
   · cases h
 · cases h
theorem aFieldAddr_ok {t:TypeId} {f:Nat} (h:aFieldAddr P t f x=some (.eff val news ob)) (hx:γ β x=some v) (hr:Rel C β m2 w):EffOk P C m2 w β lo hi val news (liftV (Instr.fieldAt t v f)):=by
 unfold aFieldAddr at h
 split at h
 · rename_i id k j
   obtain⟨L,hL,hn,rfl⟩:=γc_ptr hx
   split at h
   · rename_i fs hu
     split at h
     · rename_i fd hfd
       split at h
       · rename_i n hs
         cases h
         refine EffOk.still (v:=.pointer (some ⟨L.b,L.o+(k*L.s+(j+fd.offset)),none⟩)) hr ?_ (by simp[γ,γ1,γc,ad,hL,hn])
         unfold Instr.fieldAt
         rw[Sem.run_bind,run_underlying hu]
         simp[hfd,Instr.sureAddr,fieldPlace,run_sizeA hs,Addr.add_lit,Nat.add_assoc]
       · cases h
     · cases h
   · cases h
 · cases h
theorem γ_agg {l:List AC} (h:γ β (.agg l)=some v):∃vs,γs β l=some vs∧v= .agg vs.toArray:=by
 simp only[γ,γ1] at h
 split at h
 · rename_i vs hvs;cases h;exact⟨vs,hvs,rfl⟩
 · cases h
theorem aField_ok {t:TypeId} {f:Nat} (h:aField P t f x=some (.eff val news ob)) (hx:γ β x=some v) (hr:Rel C β m2 w):EffOk P C m2 w β lo hi val news (liftV (Instr.field t v f)):=by
 unfold aField at h
 split at h
 · rename_i l
   obtain⟨vs,hvs,rfl⟩:=γ_agg hx
   split at h
   · rename_i fs hu
     split at h
     · rename_i fd hfd
       split at h
       · rename_i n ha hs
         cases h
         refine EffOk.still (v:=.agg ((vs.drop fd.offset).take n).toArray) hr ?_ (by simp only[γ,γ1];rw[γs_take (γs_drop hvs fd.offset) n])
         unfold Instr.field
         rw[Sem.run_bind,run_underlying hu]
         simp[hfd,asAgg,part,Sem.run_bind,run_aggB ha,run_sizeA hs,List.extract]
       · rename_i n ha hs
         split at h
         · rename_i hlt
           cases h
           obtain⟨q,hq,hc⟩:=γs_get hvs (List.getElem?_eq_getElem hlt)
           refine EffOk.still (v:=q) hr ?_ (by simp only[γ,γ1,List.getD,List.getElem?_eq_getElem hlt];exact hc)
           unfold Instr.field
           rw[Sem.run_bind,run_underlying hu]
           simp[hfd,asAgg,part,Sem.run_bind,run_aggB ha,hq]
         · cases h
       · cases h
     · cases h
   · cases h
 · cases h
theorem γ_sl {id k j len:Nat} {cap:Option Nat} (h:γ β (.c (.sl id k j len cap))=some v):∃L,β id=some L∧((L.nil=true∧len=0∧cap.getD 0=0∧v= .slice none 0 0)∨(L.nil=false∧v= .slice (some ⟨L.b,L.o+(k*L.s+j),none⟩) len (cap.getD (L.cap-k)))):=by
 simp only[γ,γ1,γc] at h
 split at h
 · rename_i L hL
   split at h
   · rename_i hn
     split at h
     · rename_i hc
       cases h
       exact⟨L,hL,.inl ⟨hn,hc.1,hc.2,rfl⟩⟩
     · cases h
   · rename_i hn
     cases h
     exact⟨L,hL,.inr ⟨by simpa using hn,rfl⟩⟩
 · cases h
theorem aIndexAddr_ok {t:TypeId} (h:aIndexAddr P m t x y=some (.eff val news ob)) (hob:allT ob) (hx:γ β x=some u) (hy:γ β y=some v) (hr:Rel C β m2 w) (hs:Sub m m2):
 EffOk P C m2 w β lo hi val news (liftV (Instr.indexAt t u v)):=by
 unfold aIndexAddr at h
 split at h
 · rename_i id k j q i
   have:=γ_v hy;subst this
   obtain⟨L,hL,hn,rfl⟩:=γc_ptr hx
   split at h
   · rename_i n e hu
     split at h
     · rename_i s hsz
       cases h
       simp[allT] at hob
       refine EffOk.still (v:=.pointer (some ⟨L.b,L.o+(k*L.s+(j+i.toNat*s)),none⟩)) hr ?_ (by simp[γ,γ1,γc,ad,hL,hn])
       simp[Instr.indexAt,asIntOf,Sem.run_bind,run_underlying hu,Instr.sureAddr,hob.1,hob.2,run_sizeA hsz,Addr.add_lit,Nat.add_assoc]
     · cases h
   · cases h
 · rename_i id k j len cap q i
   have:=γ_v hy;subst this
   obtain⟨L,hL,hsl⟩:=γ_sl hx
   split at h
   · rename_i e b hu hb
     obtain⟨L',hL',hbk⟩:=hr.blk id b (hs _ _ hb)
     rw[hL] at hL'
     cases hL'
     split at h
     · rename_i s hsz
       have key:∀(k' j':Nat),0≤i→i<(len:Int)→k'*L.s+j'=k*L.s+j+i.toNat*s→EffOk P C m2 w β lo hi (.c (.ptr id k' j')) [] (liftV (Instr.indexAt t u (.int q i))):=by
        intro k' j' h0 h1 hpos
        rcases hsl with⟨hn,h2,_,_⟩|⟨hn,rfl⟩
        · subst h2;omega
        · refine EffOk.still (v:=.pointer (some ⟨L.b,L.o+(k'*L.s+j'),none⟩)) hr ?_ (by simp[γ,γ1,γc,ad,hL,hn])
          simp[Instr.indexAt,asIntOf,Sem.run_bind,run_underlying hu,h0,h1,run_sizeA hsz,Addr.add_lit]
          try omega
       split at h
       · rename_i hss
         cases h
         simp[allT] at hob
         exact key _ _ hob.1 hob.2 (by rw[hbk.sz,hss,Nat.add_mul];omega)
       · split at h
         · rename_i hss
           cases h
           simp[allT] at hob
           exact key _ _ hob.1 hob.2 (by omega)
         · cases h
     · cases h
   · cases h
 · cases h
theorem rdL_ok {l:List AC} {vs:List Value} (hl:γs β l=some vs):∀(ks:List Kd) (j:Nat),j+ks.length≤l.length→allT (okL l j ks)→γs β (rdL l j ks)=some ((vs.drop j).take ks.length)
 | [],j,_,_=>by simp[rdL,γs]
 | kd::r,j,hi,ho=>by
  simp only[List.length_cons] at hi
  have ho2:allT (okL l (j+1) r)∧okl kd (l.getD j nov)=true:=by
   cases kd with
   |any=>exact⟨ho,rfl⟩
   |b=>simp only[okL] at ho;rw[allT_cons] at ho;exact⟨ho.2,ho.1⟩
   |i q=>simp only[okL] at ho;rw[allT_cons] at ho;exact⟨ho.2,ho.1⟩
  have h1:=rdL_ok hl r (j+1) (by omega) ho2.1
  have hj:j<l.length:=by omega
  obtain⟨z,hz,hc⟩:=γs_get hl (List.getElem?_eq_getElem hj)
  have hjv:j<vs.length:=by rw[γs_length hl];exact hj
  simp only[rdL,γs]
  rw[tl_ok ho2.2]
  simp only[List.getD,List.getElem?_eq_getElem hj,Option.getD_some]
  rw[hc,h1]
  simp only[List.length_cons]
  rw[List.drop_eq_getElem_cons hjv,List.take_succ_cons]
  have:vs[j]=z:=by rw[List.getElem?_eq_getElem hjv] at hz;cases hz;rfl
  rw[this]
theorem aIndex_ok {t:TypeId} (h:aIndex P t x y=some (.eff val news ob)) (hob:allT ob) (hx:γ β x=some u) (hy:γ β y=some v) (hr:Rel C β m2 w):
 EffOk P C m2 w β lo hi val news (liftV (Instr.index t u v)):=by
 unfold aIndex at h
 split at h
 · rename_i l q i
   have:=γ_v hy;subst this
   obtain⟨vs,hvs,rfl⟩:=γ_agg hx
   split at h
   · rename_i n e hu
     split at h
     · rename_i ks hlay
       split at h
       · rename_i hlen
         cases h
         rw[allT_cons] at hob
         obtain⟨hb,ho⟩:=hob
         simp at hb
         obtain⟨h1,h2,_,_⟩:=lay_some hlay
         have hin:i.toNat*ks.length+ks.length≤l.length:=by
          rw[← hlen,← Nat.succ_mul];exact Nat.mul_le_mul_right _ (by omega)
         have hrd:=rdL_ok hvs ks (i.toNat*ks.length) hin ho
         refine EffOk.still (v:=.agg ((vs.drop (i.toNat*ks.length)).take ks.length).toArray) hr ?_ (by simp only[γ,γ1];rw[hrd])
         simp[Instr.index,asIntOf,Sem.run_bind,run_underlying hu,hb.1,hb.2,part,run_aggB h1,run_sizeA h2,List.extract]
       · cases h
     · rename_i ks hlay
       split at h
       · rename_i hlen
         cases h
         rw[allT_cons] at hob
         obtain⟨hb,ho⟩:=hob
         simp at hb
         obtain⟨h1,h2,h3,_⟩:=lay_some hlay
         have h3:ks.length=1:=by simpa using h3
         have hin:i.toNat*ks.length+ks.length≤l.length:=by
          rw[← hlen,← Nat.succ_mul];exact Nat.mul_le_mul_right _ (by omega)
         have hrd:=rdL_ok hvs ks (i.toNat*ks.length) hin ho
         match ks,h3,hlay with
         | [kd],_,hlay=>
          simp only[rdL,hd1] at hrd ⊢
          simp only[List.length_cons,List.length_nil,Nat.zero_add,Nat.mul_one] at hrd hin ⊢
          obtain⟨z,hz,hc⟩:=γs_get hrd (i:=0) (x:=tl kd (l.getD i.toNat nov)) rfl
          refine EffOk.still (v:=z) hr ?_ hc
          have hz':vs[i.toNat]? =some z:=by simpa[List.getElem?_take,List.getElem?_drop] using hz
          have h2:sizeA P e=some 1:=h2
          simp[Instr.index,asIntOf,Sem.run_bind,run_underlying hu,hb.1,hb.2,part,run_aggB h1,run_sizeA h2,hz']
       · cases h
     · cases h
   · cases h
 · rename_i s q i
   have:=γ_v hx;subst this
   have:=γ_v hy;subst this
   split at h
   · rename_i hu
     split at h
     · rename_i b hb
       cases h
       simp only[allT,List.mem_singleton,forall_eq,decide_eq_true_eq] at hob
       refine EffOk.still hr ?_ rfl
       simp[Instr.index,asIntOf,Sem.run_bind,run_underlying hu,hob,hb]
     · cases h
   · cases h
 · cases h
theorem γt_get:∀{l:List AV} {vs:List Value},γt β l=some vs→∀{i:Nat} {z:AV},l[i]? =some z→∃q,vs[i]? =some q∧γ1 β z=some q
 | [],vs,h,i,z,hz=>by simp at hz
 |p::r,vs,h,i,z,hz=>by
  simp only[γt] at h
  split at h
  · rename_i q qs hq hqs
    cases h
    cases i with
    |zero=>simp at hz;subst hz;exact⟨q,rfl,hq⟩
    |succ i=>simp at hz;simpa using γt_get hqs hz
  · cases h
theorem γ_of1 {z:AV} {q:Value} (h:γ1 β z=some q):γ β z=some q:=by
 cases z with
 |tup l=>cases h
 |c y=>exact h
 |agg l=>exact h
 |any=>exact h
theorem aExtract_ok {i:Nat} (h:aExtract i x=some (.eff val news ob)) (hx:γ β x=some v) (hr:Rel C β m2 w):EffOk P C m2 w β lo hi val news (liftV (Instr.extract v i)):=by
 unfold aExtract at h
 split at h
 · rename_i l
   simp only[γ] at hx
   split at hx
   · rename_i vs hvs
     cases hx
     split at h
     · rename_i z hz
       cases h
       obtain⟨q,hq,hg⟩:=γt_get hvs hz
       refine EffOk.still (v:=q) hr ?_ (γ_of1 hg)
       simp[Instr.extract,hq]
     · cases h
   · cases hx
 · cases h
/-! ### build -/
theorem γs_setL:∀{vs l:List AC} {j:Nat} {us ls:List Value},j+vs.length≤l.length→γs β vs=some us→γs β l=some ls→γs β (setL l j vs)=some (lay ls j us):=by
 intro vs l j us ls hlen hv hl
 rw[γs_iff]
 have h1:=γs_length hv
 have h2:=γs_length hl
 refine⟨by rw[setL_length,lay_length (by omega),h2],fun i z hz=>?_⟩
 rw[setL_get _ _ _ _ hlen] at hz
 rw[lay_get (by omega),h1]
 by_cases hc:j≤i∧i<j+vs.length
 · rw[if_pos hc] at hz ⊢
   exact γs_get hv hz
 · rw[if_neg hc] at hz ⊢
   exact γs_get hl hz
theorem bldA_ok (f:Nat→Option (Nat × Nat)):∀{ps:List (Nat × AV)} {acc l:List AC} {qs:List (Nat × Value)} {ls:List Value},bldA f acc ps=some l→ps.map (·.1)=qs.map (·.1)→γt β (ps.map (·.2))=some (qs.map (·.2))→
 γs β acc=some ls→∃rs,γs β l=some rs∧Instr.fill f ls.toArray qs=some rs.toArray
 | [],acc,l,[],ls,h,_,_,hl=>by simp only[bldA,Option.some.injEq] at h;subst h;exact⟨ls,hl,rfl⟩
 | (i,p)::r,acc,l,(i',q)::qs,ls,h,hi,hg,hl=>by
  simp only[List.map_cons,List.cons.injEq] at hi
  obtain⟨rfl,hi⟩:=hi
  simp only[List.map_cons,γt] at hg
  split at hg
  · rename_i q' qs' hq hqs
    simp only[Option.some.injEq,List.cons.injEq] at hg
    obtain⟨rfl,rfl⟩:=hg
    simp only[bldA] at h
    split at h
    · rename_i o k vs hf hvs
      split at h
      · rename_i hc
        simp only[Bool.and_eq_true] at hc
        obtain⟨hc1,hc2,hc3⟩:=hc
        have hk:vs.length=k:=Nat.eq_of_beq_eq_true hc1
        have hle:o+k≤acc.length:=Nat.le_of_ble_eq_true hc2
        obtain⟨us,hus,hcells,_⟩:=γ_cells hvs (γ_of1 hq)
        have hul:=γs_length hus
        have hll:=γs_length hl
        have hcl:q'.cells.toList=us:=hcells (List.all_eq_true.2 (one_γs hc3 hus))
        obtain⟨rs,h1,h2⟩:=bldA_ok f h hi hqs (γs_setL (by omega) hus hl)
        refine⟨rs,h1,?_⟩
        have hsz:q'.cells.size=k:=by rw[← Array.length_toList,hcl];omega
        unfold Instr.fill
        rw[hf]
        simp only
        rw[if_neg (by simp[hsz];omega)]
        have hz:q'.cells.zipIdx.foldl (fun (cs:Array Value) (x:Value × Nat)=>cs.setIfInBounds (o+x.2) x.1) ls.toArray=(lay ls o us).toArray:=by
         have:=zip_lay o q'.cells.toList 0 ls.toArray (by simp;omega)
         rw[Nat.add_zero] at this
         simp only[List.toList_toArray] at this
         rw[hcl] at this
         rw[← this,← hcl,← Array.foldl_toList]
         simp
        rw[← h2,← hz]
      · cases h
    · cases h
  · cases hg
 | [],_,_,_::_,_,_,hi,_,_=>by simp at hi
 |_::_,_,_,[],_,_,hi,_,_=>by simp at hi
theorem placesF_ok:∀{fs:List Field} {pl:List (Nat × Nat)},placesF P fs=some pl→∀w,(List.mapM (fun f=>Functor.map (Prod.mk f.offset) (sizeOf f.type)) fs:Sem (List (Nat × Nat))).run P w= .ok pl w
 | [],pl,h,w=>by simp only[placesF,Option.some.injEq] at h;subst h;rfl
 |f::r,pl,h,w=>by
  simp only[placesF] at h
  split at h
  · rename_i n l hn hl
    cases h
    rw[List.mapM_cons,Sem.run_bind]
    simp[run_sizeA hn,placesF_ok hl]
  · cases h
theorem zeroA_ok {t:TypeId} {z:List AC} (h:zeroA P t=some z):∃i q,P.info? t=some i∧i.zero=some q∧z=q.cells.toList.map .v∧∀w,(zeroValue t).run P w= .ok q w:=by
 unfold zeroA at h
 split at h
 · rename_i i hi
   split at h
   · rename_i q hq
     cases h
     exact⟨i,q,hi,hq,rfl,fun w=>by simp[zeroValue,typeInfo,hi,hq]⟩
   · cases h
 · cases h
theorem aBuild_ok {t:TypeId} {ps:List (Nat × AV)} {qs:List (Nat × Value)} (h:aBuild P t ps=some (.eff val news ob)) (hi:ps.map (·.1)=qs.map (·.1)) (hg:γt β (ps.map (·.2))=some (qs.map (·.2))) (hr:Rel C β m2 w):
 EffOk P C m2 w β lo hi' val news (liftV (Instr.build t qs.toArray)):=by
 unfold aBuild at h
 split at h
 · rename_i z fs hz hu
   obtain⟨i,q,h1,h2,rfl,h3⟩:=zeroA_ok hz
   split at h
   · rename_i pl hpl
     split at h
     · rename_i l hl
       cases h
       obtain⟨rs,hrs,hfill⟩:=bldA_ok (fun i=>pl[i]?) hl hi hg (γs_vs q.cells.toList)
       refine EffOk.still (v:=.agg rs.toArray) hr ?_ (by simp only[γ,γ1];rw[hrs])
       unfold Instr.build
       have hp:=placesF_ok hpl w
       have hp':(fs.mapM (fun f=>Functor.map (Prod.mk f.offset) (sizeOf f.type)):Sem (Array (Nat × Nat))).run P w= .ok pl.toArray w:=by
        rw[Array.mapM_eq_mapM_toList]
        simp[hp]
       simp only[Array.toArray_toList] at hfill
       simp[Sem.run_bind,h3,run_underlying hu,hp',hfill]
     · cases h
   · cases h
 · rename_i z n e hz hu
   obtain⟨i,q,h1,h2,rfl,h3⟩:=zeroA_ok hz
   split at h
   · rename_i s hs
     split at h
     · rename_i l hl
       cases h
       obtain⟨rs,hrs,hfill⟩:=bldA_ok (fun i=>some (i*s,s)) hl hi hg (γs_vs q.cells.toList)
       refine EffOk.still (v:=.agg rs.toArray) hr ?_ (by simp only[γ,γ1];rw[hrs])
       unfold Instr.build
       simp only[Array.toArray_toList] at hfill
       simp[Sem.run_bind,h3,run_underlying hu,run_sizeA hs,hfill]
     · cases h
   · cases h
 · cases h
end
end Go.Proofs.YtpgaplcdbbnblaaGreatDoor
end
/- Go's structs of plain cells as structures: their cells, and how pieces of them are read and written. Printed by wip/gen_types.py. -/
section
namespace Go.Proofs.YtpgaplcdbbnblaaGreatDoor
open Go.RowKit
def vat {α:Type} {n:Nat} (d:α) (v:Vector α n) (k:Nat):α:=v[k]?.getD d
theorem vat_get {α β:Type} {n:Nat} (d:α) (f:α→β) (v:Vector α n) (k:Nat) (h:k<n):(v.toList.map f)[k]? =some (f (vat d v k)):=by
 simp[vat,h]
theorem vmap_inj {α β:Type} {n:Nat} {f:α→β} (hf:∀a b,f a=f b→a=b) {u v:Vector α n} (h:u.toList.map f=v.toList.map f):u=v:=by
 have:=(List.map_inj_right (fun a b=>hf a b)).1 h
 exact Vector.toList_inj.1 this
theorem Flat.uncons {k:Option IntKind} {ks:List (Option IntKind)} {cs:List Value} (h:Flat (k::ks) cs):∃c r,cs=c::r∧KOk k c∧Flat ks r:=by
 match cs,h.1 with
 |c::r,hl=>
  obtain⟨v,hv,ok⟩:=h.2 0 k rfl
  simp at hv
  subst hv
  exact⟨c,r,rfl,ok,by simpa using hl,fun i q hq=>by simpa using h.2 (i+1) q (by simpa using hq)⟩
theorem Flat.unapp {k1 k2:List (Option IntKind)} {cs:List Value} (h:Flat (k1++k2) cs):∃c1 c2,cs=c1++c2∧Flat k1 c1∧Flat k2 c2:=by
 have hl:=h.1
 simp only[List.length_append] at hl
 refine⟨cs.take k1.length,cs.drop k1.length,by simp,⟨by simp;omega,fun i q hq=>?_⟩,⟨by simp;omega,fun i q hq=>?_⟩⟩
 · have hi:i<k1.length:=(List.getElem?_eq_some_iff.1 hq).1
   obtain⟨v,hv,ok⟩:=h.2 i q (by rw[List.getElem?_append_left hi];exact hq)
   exact⟨v,by simp[List.getElem?_take,hi,hv],ok⟩
 · obtain⟨v,hv,ok⟩:=h.2 (k1.length+i) q (by rw[List.getElem?_append_right (by omega)];simpa using hq)
   exact⟨v,by simpa using hv,ok⟩
theorem Flat.unnil {cs:List Value} (h:Flat [] cs):cs=[]:=by simpa using h.1
theorem Flat.unrepB:∀{n:Nat} {cs:List Value},Flat (List.replicate n none) cs→∃v:Vector Bool n,cs=v.toList.map Value.bool
 |0,cs,h=>⟨Vector.mk #[] rfl,by simpa using h.unnil⟩
 |n+1,cs,h=>by
  rw[List.replicate_succ] at h
  obtain⟨c,r,rfl,⟨b,rfl⟩,h2⟩:=h.uncons
  obtain⟨v,rfl⟩:=h2.unrepB
  exact⟨⟨(b::v.toList).toArray,by simp⟩,by simp[Vector.toList]⟩
theorem Flat.unrepI {q:IntKind}:∀{n:Nat} {cs:List Value},Flat (List.replicate n (some q)) cs→∃v:Vector Int n,cs=v.toList.map (Value.int q)∧∀k,k<n→(Lit.int q (vat 0 v k)).wf=true
 |0,cs,h=>⟨Vector.mk #[] rfl,by simpa using h.unnil,fun k hk=>absurd hk (by omega)⟩
 | n+1,cs,h=>by
  rw[List.replicate_succ] at h
  obtain⟨c,r,rfl,⟨b,rfl,hb⟩,h2⟩:=h.uncons
  obtain⟨v,rfl,hv⟩:=h2.unrepI
  refine⟨⟨(b::v.toList).toArray,by simp⟩,by simp[Vector.toList],fun k hk=>?_⟩
  cases k with
  |zero=>simpa[vat] using hb
  | succ k=>
   have:=hv k (by omega)
   simp only[vat] at this ⊢
   have e:(⟨(b::v.toList).toArray,by simp⟩:Vector Int (n+1))[k+1]? =v[k]?:=by
    simp only[Vector.getElem?_mk,List.getElem?_toArray,List.getElem?_cons_succ]
    simp[Vector.toList]
   rw[e];exact this
/-! ### Payload: sennit/api.Payload -/
structure Payload where
 kind:Int
 st:Int
 seq:Int
 val:Int
deriving DecidableEq
def Payload.cells (x:Payload):List Value:=[.int .u8 x.kind,.int .u8 x.st,.int .u32 x.seq,.int .u32 x.val]
def Payload.zero:Payload:={kind:=0,st:=0,seq:=0,val:=0}
theorem Payload.len (x:Payload):x.cells.length=4:=rfl
theorem Payload.one (x:Payload):allOne x.cells=true:=rfl
def Payload.ks:List (Option IntKind):=some .u8::some .u8::some .u32::some .u32::[]
def Payload.Ok (x:Payload):Prop:=(0≤x.kind∧x.kind≤255)∧(0≤x.st∧x.st≤255)∧(0≤x.seq∧x.seq≤4294967295)∧(0≤x.val∧x.val≤4294967295)
theorem Payload.inj {x y:Payload} (h:x.cells=y.cells):x=y:=by
 cases x;cases y
 simpa[Payload.cells] using h
theorem Payload.of_flat {cs:List Value} (h0:Flat Payload.ks cs):∃x:Payload,x.Ok∧cs=x.cells:=by
 obtain⟨c0,r0,rfl,⟨v0,rfl,w0⟩,h1⟩:=h0.uncons
 obtain⟨c1,r1,rfl,⟨v1,rfl,w1⟩,h2⟩:=h1.uncons
 obtain⟨c2,r2,rfl,⟨v2,rfl,w2⟩,h3⟩:=h2.uncons
 obtain⟨c3,r3,rfl,⟨v3,rfl,w3⟩,h4⟩:=h3.uncons
 obtain rfl:=h4.unnil
 exact⟨⟨v0,v1,v2,v3⟩,⟨bounds_u8 w0,bounds_u8 w1,bounds_u32 w2,bounds_u32 w3⟩,by simp[Payload.cells]⟩
attribute [go_sem] Payload.len Payload.one
/-! ### Said: sennit/api.Said -/
structure Said where
 is:Bool
 at_:Int
 p:Payload
deriving DecidableEq
def Said.cells (x:Said):List Value:=[.bool x.is,.int .i64 x.at_,.int .u8 x.p.kind,.int .u8 x.p.st,.int .u32 x.p.seq,.int .u32 x.p.val]
def Said.zero:Said:={is:=false,at_:=0,p:=Payload.zero}
theorem Said.len (x:Said):x.cells.length=6:=rfl
theorem Said.one (x:Said):allOne x.cells=true:=rfl
def Said.ks:List (Option IntKind):=none::some .i64::(Payload.ks++([]))
def Said.Ok (x:Said):Prop:=(-9223372036854775808≤x.at_∧x.at_≤9223372036854775807)∧x.p.Ok
theorem Said.inj {x y:Said} (h:x.cells=y.cells):x=y:=by
 cases x;cases y
 simp only[Said.cells,List.cons.injEq,Value.bool.injEq,Value.int.injEq,true_and,and_true] at h
 obtain⟨h0,h1,h2,h3,h4,h5⟩:=h
 rename_i a0 a1 a2 b0 b1 b2
 have q0:a0=b0:=h0
 have q1:a1=b1:=h1
 have q2:a2=b2:=Payload.inj (by simp only[Payload.cells];simp[h2,h3,h4,h5])
 simp[q0,q1,q2]
theorem Said.of_flat {cs:List Value} (h0:Flat Said.ks cs):∃x:Said,x.Ok∧cs=x.cells:=by
 obtain⟨c0,r0,rfl,⟨v0,rfl⟩,h1⟩:=h0.uncons
 obtain⟨c1,r1,rfl,⟨v1,rfl,w1⟩,h2⟩:=h1.uncons
 obtain⟨c2,r2,rfl,g2,h3⟩:=h2.unapp
 obtain⟨v2,w2,rfl⟩:=Payload.of_flat g2
 obtain rfl:=h3.unnil
 exact⟨⟨v0,v1,v2⟩,⟨bounds_i64 w1,w2⟩,by simp[Said.cells,Payload.cells]⟩
attribute [go_sem] Said.len Said.one
/-! ### View: sennit/api.View -/
structure View where
 inn:Vector Bool 8
 miss:Vector Int 8
 good:Vector Int 8
 score:Vector Int 8
 got:Vector Bool 8
 command:Int
 mode:Int
deriving DecidableEq
def View.cells (x:View):List Value:=x.inn.toList.map Value.bool++x.miss.toList.map (Value.int .u8)++x.good.toList.map (Value.int .u8)++x.score.toList.map (Value.int .u16)++x.got.toList.map Value.bool++[.int .i8 x.command,.int .u8 x.mode]
def View.zero:View:={inn:=Vector.replicate 8 false,miss:=Vector.replicate 8 0,good:=Vector.replicate 8 0,score:=Vector.replicate 8 0,got:=Vector.replicate 8 false,command:=0,mode:=0}
theorem View.len (x:View):x.cells.length=42:=by simp[View.cells]
theorem View.one (x:View):allOne x.cells=true:=by simp[View.cells,allOne,Value.oneCell']
def View.ks:List (Option IntKind):=(List.replicate 8 none++((List.replicate 8 (some .u8)++((List.replicate 8 (some .u8)++((List.replicate 8 (some .u16)++((List.replicate 8 none++(some .i8::some .u8::[]))))))))))
def View.Ok (x:View):Prop:=(∀k,k<8→0≤vat 0 x.miss k∧vat 0 x.miss k≤255)∧(∀k,k<8→0≤vat 0 x.good k∧vat 0 x.good k≤255)∧(∀k,k<8→0≤vat 0 x.score k∧vat 0 x.score k≤65535)∧(-128≤x.command∧x.command≤127)∧(0≤x.mode∧x.mode≤255)
theorem View.inj {x y:View} (h:x.cells=y.cells):x=y:=by
 cases x;cases y
 rename_i a0 a1 a2 a3 a4 a5 a6 b0 b1 b2 b3 b4 b5 b6
 simp only[View.cells,List.append_assoc,List.cons_append,List.nil_append] at h
 obtain⟨h0,h⟩:=List.append_inj h (by simp)
 have q0:a0=b0:=vmap_inj (f:=Value.bool) (fun _ _ e=>by injection e) h0
 obtain⟨h1,h⟩:=List.append_inj h (by simp)
 have q1:a1=b1:=vmap_inj (f:=(Value.int .u8)) (fun _ _ e=>by injection e) h1
 obtain⟨h2,h⟩:=List.append_inj h (by simp)
 have q2:a2=b2:=vmap_inj (f:=(Value.int .u8)) (fun _ _ e=>by injection e) h2
 obtain⟨h3,h⟩:=List.append_inj h (by simp)
 have q3:a3=b3:=vmap_inj (f:=(Value.int .u16)) (fun _ _ e=>by injection e) h3
 obtain⟨h4,h⟩:=List.append_inj h (by simp)
 have q4:a4=b4:=vmap_inj (f:=Value.bool) (fun _ _ e=>by injection e) h4
 obtain⟨g5,h⟩:=List.cons.inj h
 have q5:a5=b5:=by injection g5
 obtain⟨g6,h⟩:=List.cons.inj h
 have q6:a6=b6:=by injection g6
 simp[q0,q1,q2,q3,q4,q5,q6]
theorem View.of_flat {cs:List Value} (h0:Flat View.ks cs):∃x:View,x.Ok∧cs=x.cells:=by
 obtain⟨c0,r0,rfl,g0,h1⟩:=h0.unapp
 obtain⟨v0,rfl⟩:=g0.unrepB
 obtain⟨c1,r1,rfl,g1,h2⟩:=h1.unapp
 obtain⟨v1,rfl,w1⟩:=g1.unrepI
 obtain⟨c2,r2,rfl,g2,h3⟩:=h2.unapp
 obtain⟨v2,rfl,w2⟩:=g2.unrepI
 obtain⟨c3,r3,rfl,g3,h4⟩:=h3.unapp
 obtain⟨v3,rfl,w3⟩:=g3.unrepI
 obtain⟨c4,r4,rfl,g4,h5⟩:=h4.unapp
 obtain⟨v4,rfl⟩:=g4.unrepB
 obtain⟨c5,r5,rfl,⟨v5,rfl,w5⟩,h6⟩:=h5.uncons
 obtain⟨c6,r6,rfl,⟨v6,rfl,w6⟩,h7⟩:=h6.uncons
 obtain rfl:=h7.unnil
 exact⟨⟨v0,v1,v2,v3,v4,v5,v6⟩,⟨fun k hk=>bounds_u8 (w1 k hk),fun k hk=>bounds_u8 (w2 k hk),fun k hk=>bounds_u16 (w3 k hk),bounds_i8 w5,bounds_u8 w6⟩,by simp[View.cells]⟩
attribute [go_sem] View.len View.one
/-! ### Cell: sennit/api.Cell -/
structure Cell where
 age:Int
 offer:Said
 report:Said
 view:View
deriving DecidableEq
def Cell.cells (x:Cell):List Value:=[.int .i64 x.age,.bool x.offer.is,.int .i64 x.offer.at_,.int .u8 x.offer.p.kind,.int .u8 x.offer.p.st,.int .u32 x.offer.p.seq,.int .u32 x.offer.p.val,.bool x.report.is,.int .i64 x.report.at_,.int .u8 x.report.p.kind,.int .u8 x.report.p.st,.int .u32 x.report.p.seq,.int .u32 x.report.p.val]++x.view.cells
def Cell.zero:Cell:={age:=0,offer:=Said.zero,report:=Said.zero,view:=View.zero}
theorem Cell.len (x:Cell):x.cells.length=55:=by simp[Cell.cells,Said.cells,Payload.cells,View.cells]
theorem Cell.one (x:Cell):allOne x.cells=true:=by simp[Cell.cells,Said.cells,Payload.cells,View.cells,allOne,Value.oneCell']
def Cell.ks:List (Option IntKind):=some .i64::(Said.ks++((Said.ks++((View.ks++([]))))))
def Cell.Ok (x:Cell):Prop:=(-9223372036854775808≤x.age∧x.age≤9223372036854775807)∧x.offer.Ok∧x.report.Ok∧x.view.Ok
theorem Cell.inj {x y:Cell} (h:x.cells=y.cells):x=y:=by
 cases x;cases y
 rename_i a0 a1 a2 a3 b0 b1 b2 b3
 simp only[Cell.cells,List.append_assoc,List.cons_append,List.nil_append] at h
 obtain⟨g0,h⟩:=List.cons.inj h
 have q0:a0=b0:=by injection g0
 obtain⟨g1_0,h⟩:=List.cons.inj h
 obtain⟨g1_1,h⟩:=List.cons.inj h
 obtain⟨g1_2,h⟩:=List.cons.inj h
 obtain⟨g1_3,h⟩:=List.cons.inj h
 obtain⟨g1_4,h⟩:=List.cons.inj h
 obtain⟨g1_5,h⟩:=List.cons.inj h
 have q1:a1=b1:=Said.inj (by simp only[Said.cells,List.cons.injEq];exact⟨g1_0,g1_1,g1_2,g1_3,g1_4,g1_5,trivial⟩)
 obtain⟨g2_0,h⟩:=List.cons.inj h
 obtain⟨g2_1,h⟩:=List.cons.inj h
 obtain⟨g2_2,h⟩:=List.cons.inj h
 obtain⟨g2_3,h⟩:=List.cons.inj h
 obtain⟨g2_4,h⟩:=List.cons.inj h
 obtain⟨g2_5,h⟩:=List.cons.inj h
 have q2:a2=b2:=Said.inj (by simp only[Said.cells,List.cons.injEq];exact⟨g2_0,g2_1,g2_2,g2_3,g2_4,g2_5,trivial⟩)
 have h3:=h
 have q3:a3=b3:=View.inj h3
 simp[q0,q1,q2,q3]
theorem Cell.of_flat {cs:List Value} (h0:Flat Cell.ks cs):∃x:Cell,x.Ok∧cs=x.cells:=by
 obtain⟨c0,r0,rfl,⟨v0,rfl,w0⟩,h1⟩:=h0.uncons
 obtain⟨c1,r1,rfl,g1,h2⟩:=h1.unapp
 obtain⟨v1,w1,rfl⟩:=Said.of_flat g1
 obtain⟨c2,r2,rfl,g2,h3⟩:=h2.unapp
 obtain⟨v2,w2,rfl⟩:=Said.of_flat g2
 obtain⟨c3,r3,rfl,g3,h4⟩:=h3.unapp
 obtain⟨v3,w3,rfl⟩:=View.of_flat g3
 obtain rfl:=h4.unnil
 exact⟨⟨v0,v1,v2,v3⟩,⟨bounds_i64 w0,w1,w2,w3⟩,by simp[Cell.cells,Said.cells,Payload.cells,View.cells]⟩
attribute [go_sem] Cell.len Cell.one
/-! ### Held: sennit/words.Held -/
/-! ### RHeld: sennit/sennitref13.Held -/
end Go.Proofs.YtpgaplcdbbnblaaGreatDoor
end
/- More of Go's small structs as structures: their cells, how they are opened. Printed by wip/gen_more.py. -/
section
namespace Go.Proofs.YtpgaplcdbbnblaaGreatDoor
open Go.RowKit
/-! ### HAct: sennit/sennitlaw19.Act -/
/-! ### CTime: sennit/clocks.Time -/
/-! ### Entry: sennit/hosts.Entry -/
/-! ### Station: sennit/api.Station -/
structure Station where
 node:Int
 safe:Int
 hold:Int
deriving DecidableEq
def Station.cells (x:Station):List Value:=[.int .i64 x.node,.int .u32 x.safe,.int .i64 x.hold]
def Station.zero:Station:={node:=0,safe:=0,hold:=0}
theorem Station.len (x:Station):x.cells.length=3:=rfl
def Station.ks:List (Option IntKind):=(some .i64::(some .u32::(some .i64::[])))
def Station.Ok (x:Station):Prop:=(-9223372036854775808≤x.node∧x.node≤9223372036854775807)∧(0≤x.safe∧x.safe≤4294967295)∧(-9223372036854775808≤x.hold∧x.hold≤9223372036854775807)
theorem Station.of_flat {cs:List Value} (h0:Flat Station.ks cs):∃x:Station,x.Ok∧cs=x.cells:=by
 obtain⟨c0,r0,rfl,⟨v0,rfl,w0⟩,h1⟩:=h0.uncons
 obtain⟨c1,r1,rfl,⟨v1,rfl,w1⟩,h2⟩:=h1.uncons
 obtain⟨c2,r2,rfl,⟨v2,rfl,w2⟩,h3⟩:=h2.uncons
 obtain rfl:=h3.unnil
 exact⟨⟨v0,v1,v2⟩,⟨bounds_i64 w0,bounds_u32 w1,bounds_i64 w2⟩,by simp[Station.cells,Said.cells,Payload.cells]⟩
/-! ### Step: sennit/sennitlaw06.Step -/
theorem vlist8 {α β:Type} (d:α) (f:α→β) (v:Vector α 8):v.toList.map f=[f (vat d v 0),f (vat d v 1),f (vat d v 2),f (vat d v 3),f (vat d v 4),f (vat d v 5),f (vat d v 6),f (vat d v 7)]:=by
 apply List.ext_getElem?
 intro i
 match i with
 |0=>rw[vat_get d f v _ (by omega)];rfl
 |1=>rw[vat_get d f v _ (by omega)];rfl
 |2=>rw[vat_get d f v _ (by omega)];rfl
 |3=>rw[vat_get d f v _ (by omega)];rfl
 |4=>rw[vat_get d f v _ (by omega)];rfl
 |5=>rw[vat_get d f v _ (by omega)];rfl
 |6=>rw[vat_get d f v _ (by omega)];rfl
 |7=>rw[vat_get d f v _ (by omega)];rfl
 |i+8=>simp
def View.cellsE (x:View):List Value:=[.bool (vat false x.inn 0),.bool (vat false x.inn 1),.bool (vat false x.inn 2),.bool (vat false x.inn 3),.bool (vat false x.inn 4),.bool (vat false x.inn 5),.bool (vat false x.inn 6),.bool (vat false x.inn 7),.int .u8 (vat 0 x.miss 0),.int .u8 (vat 0 x.miss 1),.int .u8 (vat 0 x.miss 2),.int .u8 (vat 0 x.miss 3),.int .u8 (vat 0 x.miss 4),.int .u8 (vat 0 x.miss 5),.int .u8 (vat 0 x.miss 6),.int .u8 (vat 0 x.miss 7),.int .u8 (vat 0 x.good 0),.int .u8 (vat 0 x.good 1),.int .u8 (vat 0 x.good 2),.int .u8 (vat 0 x.good 3),.int .u8 (vat 0 x.good 4),.int .u8 (vat 0 x.good 5),.int .u8 (vat 0 x.good 6),.int .u8 (vat 0 x.good 7),.int .u16 (vat 0 x.score 0),.int .u16 (vat 0 x.score 1),.int .u16 (vat 0 x.score 2),.int .u16 (vat 0 x.score 3),.int .u16 (vat 0 x.score 4),.int .u16 (vat 0 x.score 5),.int .u16 (vat 0 x.score 6),.int .u16 (vat 0 x.score 7),.bool (vat false x.got 0),.bool (vat false x.got 1),.bool (vat false x.got 2),.bool (vat false x.got 3),.bool (vat false x.got 4),.bool (vat false x.got 5),.bool (vat false x.got 6),.bool (vat false x.got 7),.int .i8 x.command,.int .u8 x.mode]
theorem View.cellsE_eq (x:View):x.cellsE=x.cells:=by
 simp only[View.cellsE,View.cells,vlist8 false,vlist8 (0:Int),List.cons_append,List.nil_append,List.append_nil]
end Go.Proofs.YtpgaplcdbbnblaaGreatDoor
end
/- What came in, opened: slices of flat things, flat structs and arrays. No Go text is in sight. -/
section
namespace Go.Proofs.YtpgaplcdbbnblaaGreatDoor
open Go.RowKit Go.WideShapes Go.ChangeShapes
section
variable {H:Type} {enc:TypeId × Value→H} {P:Program} {w:World}
def SlAt (w:World) (A:Option Addr) (n c:Nat):Prop:=(A=none∧n=0∧c=0)∨∃b o,A=some ⟨b,o,none⟩∧b<w.heap.size
theorem okWide_slAt {t e:TypeId} {r:Reach} {b0:Nat} {A:Option Addr} {n c:Nat} (ht:P.underlying t=some (.slice e)) (hv:Value.okWide P w r b0 t (.slice A n c)):SlAt w A n c:=by
 simp only[Value.okWide,ht,Cell.okWide,Cell.ok] at hv
 split at hv<;>try contradiction
 · rename_i h1 h2
   cases h2
   exact .inl ⟨rfl,rfl,rfl⟩
 · rename_i a _ _ h1 h2
   cases h2
   obtain⟨_,_,_,hs,row,cells,hsh,_⟩:=hv
   obtain⟨b,o,s⟩:=a
   subst hs
   refine .inr ⟨b,o,rfl,?_⟩
   rcases Nat.lt_or_ge b w.heap.size with h|h
   · exact h
   · unfold World.shape? at hsh
     simp[show w.heap[b]? =none by simp[h]] at hsh
theorem open_slflat {S:Type} {t e:TypeId} {r:Reach} {b0 m C:Nat} {v:Value} {d:DataW H} {p:List MemPlace} {ks:List (Option IntKind)} (ht:P.underlying t=some (.slice e)) (cells:S→List Value) (ok:S→Prop) (hlen:∀x,(cells x).length=C)
 (hk:flatOf P m e=some ks) (hC:P.cellsOf e=C) (hof:∀cs,Flat ks cs→∃x,ok x∧cs=cells x) (hpos:0<C) (hv:Value.okWide P w r b0 t v) (h:DataW.Trod enc P w 0 (fun _=>true) true t v d p):
 ∃(A:Option Addr) (n c:Nat) (l:List S),v= .slice A n c∧n≤c∧c≤maxLen∧SlAt w A n c∧Sl w w.heap.size C A n (l.flatMap cells)∧l.length=n∧∀x∈l,ok x:=by
 obtain⟨A,n,c,xs,rfl,h1,h2,h3,h4,_⟩:=open_sl ht hv (by rw[hC];omega) h
 rw[hC] at h3 h4
 obtain⟨l,hl,rfl,hok⟩:=chunks cells C hlen ok n xs h3.len (fun i hi=>by
  obtain⟨k,y,hy⟩:=h4 i hi
  obtain⟨x,hx1,hx2⟩:=hof _ (trod_flat _ _ _ _ _ _ hk hy)
  exact⟨x,hx1,hx2⟩)
 exact⟨A,n,c,l,rfl,h1,h2,okWide_slAt ht hv,h3,hl,hok⟩
theorem open_raw {t:TypeId} {r:Reach} {b0 m:Nat} {v:Value} {d:DataW H} {p:List MemPlace} {ks:List (Option IntKind)} (hs:(aggSize P t).isSome=true) (hk:flatOf P m t=some ks) (hv:Value.okWide P w r b0 t v) (h:DataW.Trod enc P w 0 (fun _=>true) true t v d p):
 ∃cs:List Value,Flat ks cs∧v= .agg cs.toArray:=by
 obtain⟨cs,rfl⟩:∃cs,v= .agg cs:=by
  simp only[Value.okWide] at hv
  unfold aggSize at hs
  split at hv
  · obtain⟨cs,rfl,_⟩:=hv;exact⟨cs,rfl⟩
  · obtain⟨cs,rfl,_⟩:=hv;exact⟨cs,rfl⟩
  · split at hs<;>simp_all
 obtain⟨fuel,hf⟩:=h
 exact⟨cs.toList,trod_flat _ _ _ _ _ _ hk hf,by simp⟩
end
end Go.Proofs.YtpgaplcdbbnblaaGreatDoor
end
