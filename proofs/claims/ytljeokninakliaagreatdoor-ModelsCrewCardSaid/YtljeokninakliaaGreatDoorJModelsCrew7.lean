/- Parts of a proof. -/
import Derived.Test.YtljeokninakliaaGreatDoorJModelsCrew6
import Derived.RangeFuncRecord
set_option linter.unusedSimpArgs false
set_option linter.unusedVariables false
section
namespace Go.Proofs.YtljeokninakliaaGreatDoor
open Go.RowKit
section
variable {P:Program} {C:Ctx} {β:Nm} {m m2 m':AMem} {w:World} {tm:List AV} {a:Act} {news:AMem} {ob:List Bool} {val:AV}
theorem ZH.plain {s:Sem Next} {v:Value} {av:AV} {lo hi:Nat} (hr:Rel C β m2 w) (h:s.run P w= .ok (.value v) w) (hg:γ β av=some v):ZH P C m2 w β lo hi av [] s:=
 ⟨β,v,w,h,Ext.refl β,fun _ _=>rfl,hg,by rw[List.append_nil];exact hr⟩
theorem It (hf:FrOk β tm a.tmps) (hr:Rel C β m2 w) (hs:Sub m m2) {x:Option Operand} {i:Option Int} (h:Pu tm m x=some i):∃k,x.map a.eval=Vv k i:=by
 cases x with
 |none=>simp only[Pu,Option.some.injEq] at h;subst h;exact⟨none,rfl⟩
 |some o=>
  simp only[Pu] at h;split at h
  . rename_i k n he
    cases h;rcases Tz hf hr hs he with h1|h1
    . cases h1
    . have:=YZ h1
      exact⟨some k,by simp[Vv,this]⟩
  . cases h
theorem IJ {o:Oper} {ib:Nat} (h:U0 P tm m ib o.op=some (.eff val news ob)) (hob:ZZ ob) (hf:FrOk β tm a.tmps) (hr:Rel C β m2 w) (hs:Sub m m2) (hid:β ib=none) (hg:∀g,ib≠Z2 g):
 ZH P C m2 w β ib (ib+1) val news (execOp a.eval o):=by
 have ev:∀{x:Operand} {av:AV},WE tm m x=some av->(av= .any->False)->γ β av=some (a.eval x):=fun hx hne=>(Tz hf hr hs hx).resolve_left hne
 unfold U0 at h;unfold execOp;split at h
 -- move
 . rename_i x hop
   rw[hop];split at h
   . cases h
   . rename_i v hne hv
     cases h;exact ZH.plain hr rfl (ev hv hne)
   . cases h
 -- assign
 . rename_i x hop
   rw[hop];split at h
   . cases h
   . rename_i v hne hv
     cases h;exact ZH.plain hr rfl (ev hv hne)
   . cases h
 -- pick
 . rename_i c x y hop
   rw[hop];split at h
   . rename_i t hc
     have hcv:=YZ (ev hc (by simp));split at h
     . cases h
     . rename_i v hne hv
       cases h;refine ZH.plain (v:=if t=true then a.eval x else a.eval y) hr ?_ ?_
       . simp only[hcv];rfl
       . cases t with
         |true=>exact ev hv hne
         |false=>exact ev hv hne
     . cases h
   . cases h
 -- alloc
 . rename_i t hop
   rw[hop];exact jjh6 h hr hid hg _
 -- box
 . rename_i t x hop
   rw[hop];split at h
   . rename_i v hv
     refine jjoq h (ev hv ?_) hr hid hg;intro e;subst e;simp[Kv,AV.cells] at h
   . cases h
 -- build
 . rename_i t ps hop
   rw[hop];split at h
   . rename_i l hl
     obtain⟨h1,h2⟩:=IB hf hr hs hl;have:=jjh5 (lo:=ib) (hi':=ib+1) (qs:=ps.toList.map fun p=>(p.1,a.eval p.2)) h (by simp[h1,Function.comp_def]) (by simp[h2,Function.comp_def]) hr;have e:(List.map (fun p=>(p.1,a.eval p.2)) ps.toList).toArray=Array.map (fun x=>(x.1,a.eval x.2)) ps:=by cases ps;simp
     rw[e] at this;exact this
   . cases h
 -- buildSlice
 . rename_i t n ps hop
   rw[hop];split at h
   . rename_i l hl
     obtain⟨h1,h2⟩:=IB hf hr hs hl;have e:(List.map (fun p=>(p.1,a.eval p.2)) ps.toList).toArray=Array.map (fun x=>(x.1,a.eval x.2)) ps:=by cases ps;simp
     split at h
     . have:=jjh2 (qs:=ps.toList.map fun p=>(p.1,a.eval p.2)) h (by simp[h1,Function.comp_def]) hr hid hg
       rw[e] at this;exact this
     . have:=jj88 (qs:=ps.toList.map fun p=>(p.1,a.eval p.2)) h (by simp[h1,Function.comp_def]) (by simp[h2,Function.comp_def]) hr hid hg
       rw[e] at this;exact this
   . cases h
 -- load
 . rename_i t x hop
   rw[hop];split at h
   . rename_i v hv
     refine E8 h hob (ev hv ?_) hr hs;intro e;subst e;simp[Ug] at h
   . cases h
 -- store
 . rename_i t x y hop
   split at h
   . unfold Vd at h
     split at h
     . split at h
       . split at h<;>cases h
       . cases h
     . cases h
   . cases h
 -- nilCheck
 . rename_i x hop
   rw[hop];split at h
   . rename_i id k j hx
     cases h;have hx':=ev hx (by simp);obtain⟨L,hL,hn,hv⟩:=Qw hx';simp only[hv] at hx' ⊢;exact ZH.plain hr rfl hx'
   . rename_i f p q hx
     cases h;have hx':=ev hx (by simp);have hv:=YZ hx';simp only[hv];exact ZH.plain hr rfl rfl
   . rename_i f l hx
     cases h;have hx':=ev hx (by simp);have hx2:=hx';simp only[γ,γ1,γc] at hx2;split at hx2
     . simp only[Option.some.injEq] at hx2
       simp only[<- hx2] at hx' ⊢;exact ZH.plain hr rfl hx'
     . cases hx2
   . rename_i id hx
     cases h;have hx':=ev hx (by simp);have hx2:=hx';simp only[γ,γ1,γc] at hx2;split at hx2
     . split at hx2
       . cases hx2
       . simp only[Option.some.injEq] at hx2
         simp only[<- hx2] at hx' ⊢;exact ZH.plain hr rfl hx'
     . cases hx2
   . cases h
 -- binOp
 . rename_i op t x y ty hop
   rw[hop];split at h
   . rename_i v u hv hu
     refine jjl3 (ox:=x) (oy:=y) h hob (ev hv ?_) (ev hu ?_) hr hs
     . intro e;subst e;simp[R2,OC] at h
     . intro e;subst e
       unfold R2 at h
       split at h<;>first
        |(simp_all;done)
        |(unfold OC at h;split at h<;>simp_all)
   . cases h
 -- unOp
 . rename_i op t x hop
   rw[hop];split at h
   . rename_i v hv
     refine jjre h (ev hv ?_) hr;intro e;subst e;simp[AN] at h
   . cases h
 -- convert
 . rename_i s d x hop
   rw[hop];split at h
   . rename_i v hv
     refine jjl2 h (ev hv ?_) hr;intro e;subst e;simp[PG] at h
   . cases h
 -- makeFunc
 . rename_i f first caps hop
   rw[hop];split at h
   . rename_i l hfi hl
     split at h
     . rename_i cs hcs
       cases h;have hl2:=Sh hf hr hs hl
       have key:∀{l:List AV} {cs:List (Nat × Nat × Nat)} {vs:List Value},Ve l=some cs->γt β l=some vs->γp β cs=some vs:=by
        intro l
        induction l with
        |nil=>intro cs vs h1 h2;simp only[Ve,Option.some.injEq] at h1;simp only[γt,Option.some.injEq] at h2;subst h1;subst h2;rfl
        | cons p r ih=>
         intro cs vs h1 h2
         cases p with
         | c p =>
          cases p with
          |ptr id k j=>
           simp only[Ve] at h1;split at h1
           . rename_i l' hl'
             cases h1;simp only[γt] at h2;split at h2
             . rename_i q qs hq hqs
               cases h2;simp only[γp];rw[ih hl' hqs];simp only[γ1,γc] at hq;split at hq
               . rename_i ad' had;cases hq;rw[had]
               . cases hq
             . cases h2
           . cases h1
          |_=>simp[Ve] at h1
         |_=>simp[Ve] at h1
       have hp:=key hcs hl2
       have hfirst:first= #[]:=by
        cases first with
        |mk l=>simp at hfi;subst hfi;rfl
       subst hfirst;refine ZH.still (s:=Instr.makeFunc (.func f) (#[].map a.eval) (caps.map a.eval)) (v:=.func (.func f) #[] (caps.toList.map a.eval).toArray) hr ?_ ?_
       . have e:(caps.toList.map a.eval).toArray=caps.map a.eval:=by cases caps;simp
         rw[e];simp[Instr.makeFunc]
       . simp only[γ,γ1,γc];rw[hp]
     . cases h
   . rename_i x hfi hl
     split at h
     . rename_i id k j hx
       cases h;have hx2:=(Tz hf hr hs hx).resolve_left (by simp);have hl2:=Sh hf hr hs hl
       have hfirst:first= #[x]:=by
        cases first with
        |mk l=>simp at hfi;subst hfi;rfl
       have hcaps:caps= #[]:=by
        cases caps with
        |mk l=>
         cases l with
         |nil=>rfl
         |cons p r=>simp only[γt,Option.some.injEq] at hl2;simp at hl2
       subst hfirst hcaps;simp only[γ,γ1,γc] at hx2;split at hx2
       . rename_i ad' had
         have hx2:=Option.some.inj hx2;refine ZH.still (s:=Instr.makeFunc (.func f) (#[x].map a.eval) (#[].map a.eval)) (v:=.func (.func f) #[.pointer (some ad')] #[]) hr ?_ ?_
         . simp[Instr.makeFunc,<- hx2]
         . simp only[γ,γ1,γc];rw[had]
       . cases hx2
     . cases h
   . cases h
 -- makeSlice
 . rename_i t l c hop
   rw[hop];split at h
   . rename_i v u hv hu
     refine jjl0 h hob (ev hv ?_) (ev hu ?_) hr hid hg
     . intro e;subst e;simp[R4] at h
     . intro e;subst e
       unfold R4 at h;split at h<;>simp_all
   . cases h
 -- slice
 . rename_i t x l hh q hop
   rw[hop];split at h
   . rename_i v l' h' q' hv hl hh' hq
     obtain⟨kl,e1⟩:=It hf hr hs hl;obtain⟨kh,e2⟩:=It hf hr hs hh';obtain⟨kq,e3⟩:=It hf hr hs hq;simp only[e1,e2,e3];refine jjgz h hob (ev hv ?_) hr hs hid hg;intro e;subst e;simp[RQ] at h
   . cases h
 -- fieldAddr
 . rename_i t x f hop
   rw[hop];split at h
   . rename_i v hv
     refine jj99 h (ev hv ?_) hr;intro e;subst e;simp[Wx] at h
   . cases h
 -- field
 . rename_i t x f hop
   rw[hop];split at h
   . rename_i v hv
     refine jjh1 h (ev hv ?_) hr;intro e;subst e;simp[RO] at h
   . cases h
 -- indexAddr
 . rename_i t x i hop
   rw[hop];split at h
   . rename_i v u hv hu
     refine jj98 h hob (ev hv ?_) (ev hu ?_) hr hs
     . intro e;subst e;simp[Xc] at h
     . intro e;subst e
       unfold Xc at h;split at h<;>simp_all
   . cases h
 -- index
 . rename_i t x i hop
   rw[hop];split at h
   . rename_i v u hv hu
     refine jjh0 h hob (ev hv ?_) (ev hu ?_) hr
     . intro e;subst e;simp[Td] at h
     . intro e;subst e
       unfold Td at h;split at h<;>simp_all
   . cases h
 -- extract
 . rename_i x i hop
   rw[hop];split at h
   . rename_i v hv
     refine jjci h (ev hv ?_) hr;intro e;subst e;simp[UR] at h
   . cases h
 -- call
 . rename_i c hop
   rw[hop];obtain⟨callee,args,argTypes⟩:=c;split at h
   . rename_i vs bi hvs hcal
     have hg2:=Sh hf hr hs hvs;simp only at hcal;subst hcal;have hres:(resolve a.eval {callee:=.builtin bi,args:=args,argTypes:=argTypes} o.type).run P w= .ok {target:=.builtin bi argTypes o.type (args.map fun | .const _=>true|_=>false),args:=args.map a.eval} w:=rfl;have hargs:args.map a.eval=(args.toList.map a.eval).toArray:=by cases args;simp
     have hats:argTypes=argTypes.toList.toArray:=by simp
     suffices hx:ZH P C m2 w β ib (ib+1) val news (builtin bi argTypes o.type (args.map fun | .const _=>true|_=>false) (args.map a.eval)) by
      obtain⟨β',v,w',h1,h2⟩:=hx;refine⟨β',v,w',?_,h2⟩;simp only;rw[Sem.run_bind,hres];exact h1
     unfold Zm at h;split at h
     . rename_i t ts x xs hts
       simp only[γt] at hg2;split at hg2
       . rename_i v qs hv hqs
         rw[hargs,<- Option.some.inj hg2,hats,hts];exact jjoo h (Vq hv) hr
       . cases hg2
     . rename_i t ts x xs hts
       simp only[γt] at hg2;split at hg2
       . rename_i v qs hv hqs
         rw[hargs,<- Option.some.inj hg2,hats,hts];exact jjop h (Vq hv) hr
       . cases hg2
     . rename_i t t' x y hts
       simp only[γt] at hg2;split at hg2
       . rename_i v qs hv hqs
         split at hqs
         . rename_i v' qs' hv' hqs'
           rw[hargs,<- Option.some.inj hg2,<- Option.some.inj hqs,<- Option.some.inj hqs',hats,hts];exact jjck h hob (Vq hv) (Vq hv') hr hs hid hg
         . cases hqs
       . cases hg2
     . unfold R3 at h
       split at h
       . split at h
         . split at h<;>cases h
         . cases h
       . cases h
     . unfold Tc at h
       split at h
       . split at h
         . split at h
           . split at h<;>cases h
           . cases h
         . cases h
       . cases h
     . rename_i k n r _
       split at h
       . rename_i p hp
         cases h;simp only[γt,γ1,γc] at hg2;split at hg2
         . rename_i v qs hv hqs
           cases hv;rw[hargs,<- Option.some.inj hg2];exact ZH.still (s:=Builtin.min_ argTypes o.type _) hr (by simpa[Builtin.min_] using Ex hp hqs w) rfl
         . cases hg2
       . cases h
     . rename_i k n r _
       split at h
       . rename_i p hp
         cases h;simp only[γt,γ1,γc] at hg2;split at hg2
         . rename_i v qs hv hqs
           cases hv;rw[hargs,<- Option.some.inj hg2];exact ZH.still (s:=Builtin.max_ argTypes o.type _) hr (by simpa[Builtin.max_] using EA hp hqs w) rfl
         . cases hg2
       . cases h
     . cases h
   . split at h
     . cases h
     . unfold UQ at h
       split at h<;>cases h
     . cases h
   . cases h
 . cases h
theorem EX {o:Oper} {ib:Nat} {ef:Efx} (h:U0 P tm m ib o.op=some (.upd val ef ob)) (hop:X8 o.op=true) (hob:ZZ ob) (hf:FrOk β tm a.tmps) (hr:Rel C β m w) (hid:β ib=none) (hg:∀g,ib≠Z2 g):
 ∃β' v w',((execOp a.eval o).run P w= .ok (.value v) w'\/(execOp a.eval o).run P w= .ok .skip w'/\v=undef)/\Ext β β'/\(∀id,id<ib\/ib+1<=id->β' id=β id)/\γ β' val=some v/\Rel C β' (ef.on m) w':=by
 have ev:∀{x:Operand} {av:AV},WE tm m x=some av->(av= .any->False)->γ β av=some (a.eval x):=fun hx hne=>(Tz hf hr (Sub.refl m) hx).resolve_left hne
 obtain⟨dst,op,type,pos,after,guard⟩:=o;simp only at h hop;unfold execOp
 cases op with
 |store t x y=>
  simp only[U0] at h;split at h
  . rename_i v u hv hu
    have hv':γ β v=some (a.eval x):=ev hv (by intro e;subst e;simp[Vd] at h);have hu':γ β u=some (a.eval y):=ev hu (by intro e;subst e;simp[Vd,AV.cells] at h);obtain⟨w',h1,h2,rfl,_⟩:=jjgy h hob hv' hu' hr;exact⟨β,undef,w',.inr ⟨by simp[h1],rfl⟩,Ext.refl β,fun _ _=>rfl,rfl,h2⟩
  . cases h
 | call c=>
  obtain⟨callee,args,argTypes⟩:=c
  cases callee with
  | builtin bi=>
   cases bi with
   |append=>
    simp only[U0] at h;split at h
    . rename_i vs bi hvs hcal
      cases hcal;have hg2:=Sh hf hr (Sub.refl m) hvs;have hres:(resolve a.eval {callee:=.builtin .append,args:=args,argTypes:=argTypes} type).run P w= .ok {target:=.builtin .append argTypes type (args.map fun | .const _=>true|_=>false),args:=args.map a.eval} w:=rfl;have hargs:args.map a.eval=(args.toList.map a.eval).toArray:=by cases args;simp
      have hats:argTypes=argTypes.toList.toArray:=by simp
      generalize hts:argTypes.toList=ats at h
      match ats,vs,h,hg2 with
      | [t,t'],[x,y],h,hg2=>
       simp only[γt] at hg2;split at hg2
       . rename_i v qs hv hqs
         split at hqs
         . rename_i v' qs' hv' hqs'
           obtain⟨β',r,w',h1,h2⟩:=jjcj (ty:=type) h hob (Vq hv) (Vq hv') hr hid hg;refine⟨β',r,w',.inl ?_,h2⟩;simp only;rw[Sem.run_bind,hres];simp only[Result.andThen_ok,invoke];rw[hargs,<- Option.some.inj hg2,<- Option.some.inj hqs,<- Option.some.inj hqs',hats,hts];exact QU h1
         . cases hqs
       . cases hg2
      | [],_,h,_=>simp[Zm] at h
      | [_],_,h,_=>simp[Zm] at h
      |_::_::_::_,_,h,_=>simp[Zm] at h
      | [_,_],[],h,_=>simp[Zm] at h
      | [_,_],[_],h,_=>simp[Zm] at h
      | [_,_],_::_::_::_,h,_=>simp[Zm] at h
    . rename_i hcal;cases hcal
    . cases h
   |copy=>
    simp only[U0] at h;split at h
    . rename_i vs bi hvs hcal
      cases hcal;have hg2:=Sh hf hr (Sub.refl m) hvs;have hres:(resolve a.eval {callee:=.builtin .copy,args:=args,argTypes:=argTypes} type).run P w= .ok {target:=.builtin .copy argTypes type (args.map fun | .const _=>true|_=>false),args:=args.map a.eval} w:=rfl;have hargs:args.map a.eval=(args.toList.map a.eval).toArray:=by cases args;simp
      have hats:argTypes=argTypes.toList.toArray:=by simp
      generalize hts:argTypes.toList=ats at h
      match ats,vs,h,hg2 with
      | [t,t'],[x,y],h,hg2=>
       simp only[γt] at hg2;split at hg2
       . rename_i v qs hv hqs
         split at hqs
         . rename_i v' qs' hv' hqs'
           obtain⟨β',r,w',h1,h2⟩:=jjl1 (ty:=type) (ib:=ib) h hob (Vq hv) (Vq hv') hr;refine⟨β',r,w',.inl ?_,h2⟩;simp only;rw[Sem.run_bind,hres];simp only[Result.andThen_ok,invoke];rw[hargs,<- Option.some.inj hg2,<- Option.some.inj hqs,<- Option.some.inj hqs',hats,hts];exact QU h1
         . cases hqs
       . cases hg2
      | [],_,h,_=>simp[Zm] at h
      | [_],_,h,_=>simp[Zm] at h
      |_::_::_::_,_,h,_=>simp[Zm] at h
      | [_,_],[],h,_=>simp[Zm] at h
      | [_,_],[_],h,_=>simp[Zm] at h
      | [_,_],_::_::_::_,h,_=>simp[Zm] at h
    . rename_i hcal;cases hcal
    . cases h
   |clear=>
    simp only[U0] at h;split at h
    . rename_i vs bi hvs hcal
      cases hcal;have hg2:=Sh hf hr (Sub.refl m) hvs;have hres:(resolve a.eval {callee:=.builtin .clear,args:=args,argTypes:=argTypes} type).run P w= .ok {target:=.builtin .clear argTypes type (args.map fun | .const _=>true|_=>false),args:=args.map a.eval} w:=rfl;have hargs:args.map a.eval=(args.toList.map a.eval).toArray:=by cases args;simp
      have hats:argTypes=argTypes.toList.toArray:=by simp
      generalize hts:argTypes.toList=ats at h
      match ats,vs,h,hg2 with
      | [t],[x],h,hg2=>
       simp only[γt] at hg2;split at hg2
       . rename_i v qs hv hqs
         cases hqs;obtain⟨β',r,w',h1,h2⟩:=jjh3 (ty:=type) (ib:=ib) h hob (Vq hv) hr;refine⟨β',r,w',.inl ?_,h2⟩;simp only;rw[Sem.run_bind,hres];simp only[Result.andThen_ok,invoke];rw[hargs,<- Option.some.inj hg2,hats,hts];exact QU h1
       . cases hg2
      | [],_,h,_=>simp[Zm] at h
      |_::_::_,_,h,_=>simp[Zm] at h
      | [_],[],h,_=>simp[Zm] at h
      | [_],_::_::_,h,_=>simp[Zm] at h
    . rename_i hcal;cases hcal
    . cases h
   |_=>simp[X8] at hop
  |_=>simp[X8] at hop
 |_=>simp[X8] at hop
theorem Hu:∀{l l':List AV} {vs vs':List Value},γt β l=some vs->γt β l'=some vs'->γt β (l++l')=some (vs++vs')
 | [],l',vs,vs',h,h'=>by cases h;exact h'
 |x::r,l',vs,vs',h,h'=>by
  simp only[γt] at h;split at h
  . rename_i q qs hq hqs
    cases h;simp only[List.cons_append,γt];rw[hq,Hu hqs h']
  . cases h
theorem HW:∀{l:List (Nat × Nat × Nat)} {vs:List Value},γp β l=some vs->γt β (l.map fun (id,k,j)=>.c (.ptr id k j))=some vs
 | [],vs,h=>h
 | (id,k,j)::r,vs,h=>by
  simp only[γp] at h;split at h
  . rename_i ad' us had hus
    cases h;simp only[List.map_cons,γt,γ1,γc];rw[had,HW hus]
  . cases h
theorem NC {o:Oper} {ib:Nat} {f:FuncId} {args:List AV} (h:U0 P tm m ib o.op=some (.call f args)) (hop:Y2 o.op=true) (hf:FrOk β tm a.tmps) (hr:Rel C β m2 w) (hs:Sub m m2):
 ∃vs,γt β args=some vs/\(execOp a.eval o).run P w=(callFunc f vs.toArray).run P w:=by
 obtain⟨dst,op,type,pos,after,guard⟩:=o;simp only at h hop;unfold execOp
 cases op with
 | call c =>
  obtain⟨callee,xs,argTypes⟩:=c
  cases callee with
  | value x =>
   simp only[U0] at h;split at h
   . rename_i hcal;cases hcal
   . rename_i vs x' hvs hcal
     cases hcal;have hg2:=Sh hf hr hs hvs;have hargs:xs.map a.eval=(xs.toList.map a.eval).toArray:=by cases xs;simp
     split at h
     . rename_i g id k j hv
       cases h;have hfv:=(Tz hf hr hs hv).resolve_left (by simp);simp only[γ,γ1,γc] at hfv;split at hfv
       . rename_i ad' had
         have hfv:=Option.some.inj hfv;refine⟨.pointer (some ad')::xs.toList.map a.eval,by simp only[γt,γ1,γc,had,hg2],?_⟩;simp only;rw[Sem.run_bind]
         have:(resolve a.eval {callee:=.value x,args:=xs,argTypes:=argTypes} type).run P w= .ok {target:=.fn (.func f) #[],args:= #[.pointer (some ad')]++xs.map a.eval} w:=by
          simp only[resolve,<- hfv,Deferred.ofValue];rfl
         rw[this];simp only[Result.andThen_ok,invoke];rw[hargs];simp
       . cases hfv
     . rename_i v hne hv
       unfold UQ at h;split at h
       . rename_i g
         cases h;have hfv:=YZ ((Tz hf hr hs hv).resolve_left (by simp));refine⟨_,hg2,?_⟩;simp only;rw[Sem.run_bind]
         have:(resolve a.eval {callee:=.value x,args:=xs,argTypes:=argTypes} type).run P w= .ok {target:=.fn (.func f) #[],args:=xs.map a.eval} w:=by
          simp only[resolve,hfv,Deferred.ofValue];show Result.ok ({target:=.fn (.func f) #[],args:= #[]++xs.map a.eval}:Deferred) w=_;simp
         rw[this];simp only[Result.andThen_ok,invoke];rw[hargs];simp
       . rename_i g caps
         cases h;have hfv:=(Tz hf hr hs hv).resolve_left (by simp);simp only[γ,γ1,γc] at hfv;split at hfv
         . rename_i us hus
           have hfv:=Option.some.inj hfv;refine⟨_,Hu hg2 (HW hus),?_⟩;simp only;rw[Sem.run_bind]
           have:(resolve a.eval {callee:=.value x,args:=xs,argTypes:=argTypes} type).run P w= .ok {target:=.fn (.func f) us.toArray,args:=xs.map a.eval} w:=by
            simp only[resolve,<- hfv,Deferred.ofValue];show Result.ok ({target:=.fn (.func f) us.toArray,args:= #[]++xs.map a.eval}:Deferred) w=_;simp
           rw[this];simp only[Result.andThen_ok,invoke];rw[hargs];simp
         . cases hfv
       . cases h
       . cases h
     . cases h
   . cases h
  |_=>simp[Y2] at hop
 |_=>simp[Y2] at hop
theorem jjok {o:Oper} {ib:Nat} {id:Nat} {args:List AV} (h:U0 P tm m ib o.op=some (.yld id args)) (hop:Y2 o.op=true) (hf:FrOk β tm a.tmps) (hr:Rel C β m2 w) (hs:Sub m m2) {L:Loc} (hL:β id=some L) (hn:L.nil=false)
 {r:Loop} (hl:w.heap[L.b]? =some (.loop r)) (hsz:args.length=r.params.size):
 ∃vs,γt β args=some vs/\(execOp a.eval o).run P w= .ok (.round L.b r.fn ((r.params.zip vs.toArray).foldl (fun tmps (t,a)=>tmps.setIfInBounds t a) r.tmps) r.assign r.body) w:=by
 obtain⟨dst,op,type,pos,after,guard⟩:=o;simp only at h hop;unfold execOp
 cases op with
 | call c =>
  obtain⟨callee,xs,argTypes⟩:=c
  cases callee with
  | value x =>
   simp only[U0] at h;split at h
   . rename_i hcal;cases hcal
   . rename_i vs x' hvs hcal
     cases hcal;have hg2:=Sh hf hr hs hvs;have hargs:xs.map a.eval=(xs.toList.map a.eval).toArray:=by cases xs;simp
     split at h
     . cases h
     . rename_i v hne hv
       unfold UQ at h;split at h
       . cases h
       . cases h
       . rename_i y
         cases h;have hfv:=(Tz hf hr hs hv).resolve_left (by simp);simp only[γ,γ1,γc,hL,hn] at hfv;have hfv:=Option.some.inj hfv;refine⟨_,hg2,?_⟩;simp only;rw[Sem.run_bind]
         have:(resolve a.eval {callee:=.value x,args:=xs,argTypes:=argTypes} type).run P w= .ok {target:=.fn (.yield L.b) #[],args:=xs.map a.eval} w:=by
          simp only[resolve,<- hfv,Deferred.ofValue];show Result.ok ({target:=.fn (.yield L.b) #[],args:= #[]++xs.map a.eval}:Deferred) w=_;simp
         rw[this];simp only[Result.andThen_ok,invoke];rw[hargs]
         have hlen:(xs.toList.map a.eval).toArray.size=r.params.size:=by
          have:(xs.toList.map a.eval).length=args.length:=by
           have key:∀{l:List AV} {us:List Value},γt β l=some us->us.length=l.length:=by
            intro l
            induction l with
            |nil=>intro us hu;simp only[γt,Option.some.injEq] at hu;subst hu;rfl
            |cons p t ih=>
             intro us hu;simp only[γt] at hu;split at hu
             . rename_i q qs hq hqs;cases hu;simp[ih hqs]
             . cases hu
           exact key hg2
          simpa[<- hsz] using this
         exact run_yield hl hlen
       . cases h
     . cases h
   . cases h
  |_=>simp[Y2] at hop
 |_=>simp[Y2] at hop
theorem LS (hs:Sub m m2) {x:Operand} {av:AV} (h:WE tm m x=some av):WE tm m2 x=some av:=by
 cases x with
 |global g=>
  simp only[WE] at h ⊢;split at h
  . rename_i y hy
    rw[hs _ _ hy];exact h
  . cases h
 |_=>exact h
theorem jjnh (hs:Sub m m2) {x:Operand} {av:AV} (h:H8 tm m x=some av):H8 tm m2 x=some av:=by
 unfold H8 at h ⊢;split at h
 . rename_i y hy;rw[LS hs hy];exact h
 . rename_i y hy;rw[LS hs hy];exact h
 . cases h
theorem DV (hs:Sub m m2):∀{xs:List Operand} {l:List AV},S0 tm m xs=some l->S0 tm m2 xs=some l
 | [],_,h=>h
 |x::r,l,h=>by
  simp only[S0] at h ⊢;split at h
  . rename_i v vs hv hvs
    rw[jjnh hs hv,DV hs hvs];exact h
  . cases h
theorem E6 {o:Op} {ib:Nat} {ef:Efx} (hop:X8 o=true) (h:U0 P tm m ib o=some (.upd val ef ob)) (hs:Sub m m2):U0 P tm m2 ib o=some (.upd val ef ob)/\∃x,ZY m ef.tid=some x:=by
 cases o with
 |store t x y=>
  simp only[U0] at h ⊢;split at h
  . rename_i v u hv hu
    try rw[LS hs hv]
    try rw[LS hs hu]
    try simp only
    unfold Vd at h ⊢;split at h
    . rename_i id k j vs n hvs hn
      try rw[hvs]
      try rw[hn]
      try simp only
      split at h
      . rename_i b hb
        try rw[hs _ _ hb]
        try simp only
        split at h
        . rename_i hc
          try rw[hc]
          refine⟨h,?_⟩;cases h;exact⟨b,hb⟩
        . cases h
      . cases h
    . cases h
  . cases h
 | call c =>
  obtain⟨callee,args,argTypes⟩:=c
  cases callee with
  | builtin bi =>
   simp only[U0] at h ⊢;split at h
   . rename_i vs bi' hvs hcal
     cases hcal
     try rw[DV hs hvs]
     try simp only
     generalize argTypes.toList=ats at h ⊢;unfold Zm at h ⊢;split at h
     . unfold Kx at h;repeat (first|cases h|split at h)
     . unfold Kw at h;repeat (first|cases h|split at h)
     . rename_i t t' x y
       unfold VQ at h ⊢;split at h
       . rename_i e htt hu
         try rw[htt]
         try rw[hu]
         try simp only
         split at h
         . split at h
           . split at h<;>cases h
           . cases h
         . split at h<;>cases h
         . split at h
           . split at h<;>cases h
           . cases h
         . rename_i i z id0 k0 j0 len id k j n cap hi hz
           try rw[hi]
           try rw[hz]
           try simp only
           split at h
           . rename_i b0 b hb0 hb
             try rw[hs _ _ hb0]
             try rw[hs _ _ hb]
             try simp only
             split at h
             . rename_i o n0 f0 he hc hcs
               try rw[he]
               try rw[hc]
               try rw[hcs]
               refine⟨h,?_⟩;cases h;exact⟨b0,hb0⟩
             . cases h
           . cases h
         . split at h<;>first
            |cases h
            |(split at h<;>cases h)
         . cases h
       . split at h<;>first
          |cases h
          |(split at h<;>cases h)
       . cases h
     . rename_i t t' x y
       unfold R3 at h ⊢;split at h
       . rename_i e e' id k j n cap id' k' j' n' cap' hu hu'
         try rw[hu]
         try rw[hu']
         try simp only
         split at h
         . rename_i i b b' hi hb hb'
           try rw[hi]
           try rw[hs _ _ hb]
           try rw[hs _ _ hb']
           try simp only
           split at h
           . rename_i o q f he hc hcs
             try rw[he]
             try rw[hc]
             try rw[hcs]
             refine⟨h,?_⟩;cases h;exact⟨b,hb⟩
           . cases h
         . cases h
       . cases h
     . rename_i t x
       unfold Tc at h ⊢;split at h
       . rename_i id k j n cap
         split at h
         . rename_i e hu
           try rw[hu]
           try simp only
           split at h
           . rename_i i z b hi hz hb
             try rw[hi]
             try rw[hz]
             try rw[hs _ _ hb]
             try simp only
             split at h
             . rename_i q f hc hcs
               try rw[hc]
               try rw[hcs]
               refine⟨h,?_⟩;cases h;exact⟨b,hb⟩
             . cases h
           . cases h
         . cases h
       . cases h
     . split at h<;>cases h
     . split at h<;>cases h
     . cases h
   . rename_i hcal;cases hcal
   . cases h
  |_=>simp[X8] at hop
 |_=>simp[X8] at hop
end
end Go.Proofs.YtljeokninakliaaGreatDoor
end
