/- Parts, one behind the other. Parts of a proof. -/
import Derived.Test.YtljeokninakliaaGreatDoorJModelsCrew8
import Derived.Test.YtljeokninakliaaGreatDoorJModelsCrew2
import Derived.IntWalk
set_option linter.unusedSimpArgs false
set_option linter.unusedVariables false
section
namespace Go.Proofs.YtljeokninakliaaGreatDoor
open Go.RowKit
def ZO:List (Nat × AV)->Nat->AV
 | [],_=>.any
 |(i,v)::r,t=>match Nat.beq i t with|true=>v|false=>ZO r t
def Up (lv:List (Nat × AV)):Nat->Nat->List AV
 |0,_=>[]
 |n+1,i=>ZO lv i::Up lv n (i+1)
def ZQ (n:Nat) (lv:List (Nat × AV)):List AV:=Up lv n 0
theorem Hk (lv:List (Nat × AV)):∀n i,(Up lv n i).length=n
 |0,_=>rfl
 |n+1,i=>by simp[Up,Hk lv n (i+1)]
theorem HL (lv:List (Nat × AV)):∀n i t,(Up lv n i)[t]? =if t<n then some (ZO lv (i+t)) else none
 |0,_,t=>by simp[Up]
 |n+1,i,0=>by simp[Up]
 |n+1,i,t+1=>by
  simp only[Up,List.getElem?_cons_succ];rw[HL lv n (i+1) t,show i+1+t=i+(t+1) by omega];simp
theorem Iw:∀{lv:List (Nat × AV)} {t:Nat},ZO lv t= .any\/(t,ZO lv t)∈lv
 | [],t=>.inl rfl
 | (i,v)::r,t=>by
  simp only[ZO];split
  . rename_i h
    have:=Nat.eq_of_beq_eq_true h;subst this;exact .inr (by simp)
  . rcases @Iw r t with h|h
    . exact .inl h
    . exact .inr (List.mem_cons_of_mem _ h)
abbrev Rn:=Nat->Nat ⊕ Nat
def XL (n nh n':Nat) (ρ:Rn) (β:Nm):Nm:=fun id=>
 if id<n\/n'<=id then β id else if id<nh then (match ρ id with | .inl o=>β o | .inr s=>some ⟨0,0,s,0,true⟩) else none
def Wk (n nh n':Nat) (tm1:List AV) (m1:AMem) (tm2:List AV) (m2:AMem):Prop:=
 ∀(C:Ctx) (β1:Nm) (w:World) (tmps:Array Value),FrOk β1 tm1 tmps->Rel C β1 m1 w->
  ∃β2:Nm,(∀id,id<n\/n'<=id->β2 id=β1 id)/\(∀id,nh<=id->id<n'->β2 id=none)/\FrOk β2 tm2 tmps/\Rel C β2 m2 w
section
variable {n nh n':Nat} {ρ:Rn} {tm1:List AV} {m1:AMem}
def GW (n nh n':Nat) (ρ:Rn) (a1 a2:AV):Prop:=∀(β:Nm) (v:Value),γ β a1=some v->γ (XL n nh n' ρ β) a2=some v
def B8 (n nh n':Nat) (ρ:Rn) (tm1:List AV):List (Nat × AV)->Prop
 | []=>True
 |(t,av)::r=>(∃a1,tm1[t]? =some a1/\a1≠ .any/\GW n nh n' ρ a1 av)/\B8 n nh n' ρ tm1 r
def YI (n:Nat):AC->Bool
 | .v _=>true
 | .ptr id _ _=>Nat.blt id n
 | .sl id _ _ _ _=>Nat.blt id n
 | .fn _ caps=>caps.all fun p=>Nat.blt p.1 n
 | .yld id=>Nat.blt id n
 | .cap id _=>Nat.blt id n
 | .mv _ id _ _=>Nat.blt id n
mutual
def WZ (n:Nat):AV->Bool
 | .c x=>YI n x
 | .agg l=>l.all (YI n)
 | .tup l=>Sp n l
 | .any=>true
def Sp (n:Nat):List AV->Bool
 | []=>true
 |x::r=>WZ n x&&Sp n r
end
def Po (n:Nat):AObj->Bool
 | .loop _ _ tm _ _ _ dn=>Sp n tm&&Nat.blt dn n
 | .dfr _=>true
def Zd (n:Nat) (x:ABlk):Prop:=(∀k j,x.inb k (j+1)=true->YI n (x.cs.get k j)=true)/\∀o,x.cs= .obj o->Po n o=true
theorem L8 {n:Nat} {x:ABlk} (h:∀k j,YI n (x.cs.get k j)=true) (ho:∀o,x.cs= .obj o->False):Zd n x:=⟨fun k j _=>h k j,fun o e=>(ho o e).elim⟩
def tmLe (tm tm':List AV):Prop:=tm.length=tm'.length/\∀(t:Nat) av,tm'[t]? =some av->av= .any\/tm[t]? =some av
def OLe:AObj->AObj->Prop
 | .loop st pd tm ps as bd dn,.loop st' pd' tm' ps' as' bd' dn'=>st=st'/\pd=pd'/\tmLe tm tm'/\ps=ps'/\as=as'/\bd=bd'/\dn=dn'
 | .dfr a,.dfr b=>a=b
 |_,_=>False
theorem tmLe.refl (tm:List AV):tmLe tm tm:=⟨rfl,fun _ _ h=>.inr h⟩
theorem OLe.refl:∀(o:AObj),OLe o o
 | .loop _ _ _ _ _ _ _=>⟨rfl,rfl,tmLe.refl _,rfl,rfl,rfl,rfl⟩
 | .dfr _=>rfl
theorem FrOk.le {β:Nm} {tm tm':List AV} {tmps:Array Value} (h:FrOk β tm tmps) (hl:tmLe tm tm'):FrOk β tm' tmps:=
 ⟨h.1.trans hl.1,fun t av ht=>(hl.2 t av ht).elim .inl (h.2 t av)⟩
theorem ObjOk.le {β:Nm} {w:World} {b:Nat} {o o':AObj} (h:ObjOk β w b o) (hl:OLe o o'):ObjOk β w b o':=by
 cases o with
 | loop st pd tm ps as bd dn=>
  cases o' with
  |loop st' pd' tm' ps' as' bd' dn'=>
   obtain⟨rfl,rfl,hl,rfl,rfl,rfl,rfl⟩:=hl;obtain⟨fn,tmps,D,h1,h2,h3,h4⟩:=h;exact⟨fn,tmps,D,h1.le hl,h2,h3,h4⟩
  |dfr _=>exact hl.elim
 |dfr a=>
  cases o' with
  |loop _ _ _ _ _ _ _=>exact hl.elim
  |dfr _=>obtain rfl:=hl;exact h
structure BEq (x y:ABlk):Prop where
 own:y.own=x.own
 row:y.row=x.row
 ty:y.ty=x.ty
 sz:y.sz=x.sz
 cs:(∃l,x.cs= .lit l/\y.cs= .lit l)\/(∃q f g,x.cs= .arr q f/\y.cs= .arr q g/\∀k,k<q->f k=g k)\/∃o o',x.cs= .obj o/\y.cs= .obj o'/\OLe o o'
theorem BEq.refl (x:ABlk):BEq x x:=⟨rfl,rfl,rfl,rfl,by cases h:x.cs with|lit l=>exact .inl ⟨l,rfl,rfl⟩|arr q f=>exact .inr (.inl ⟨q,f,f,rfl,rfl,fun _ _=>rfl⟩)|obj o=>exact .inr (.inr ⟨o,o,rfl,rfl,OLe.refl o⟩)⟩
def Ks (n nh n':Nat) (ρ:Rn) (m1:AMem) (id:Nat) (x:ABlk):Prop:=
 ((id<n\/n'<=id)/\ZY m1 id=some x/\Zd n x)\/
 (n<=id/\id<nh/\∃o y,ρ id= .inl o/\ZY m1 o=some y/\BEq y x/\Zd n x)\/
 (n<=id/\id<nh/\ρ id= .inr x.sz/\0<x.sz/\∃f,x.cs= .arr 0 f)\/
 ((id<n\/n'<=id)/\∃y,ZY m1 id=some y/\BEq y x/\Zd n x)
def Kt (n nh n':Nat) (ρ:Rn) (m1:AMem):AMem->Prop
 | []=>True
 |(id,x)::r=>Ks n nh n' ρ m1 id x/\Kt n nh n' ρ m1 r
def Ym (n nh n':Nat) (ρ:Rn) (id:Nat):Option Nat:=
 match Nat.blt id n||Nat.ble n' id with
 |true=>some id
 |false=>match ρ id with | .inl o=>some o | .inr _=>none
def VO (n nh n':Nat) (ρ:Rn):AMem->Bool
 | []=>true
 |(id,_)::r=>(r.all fun p=>Nat.beq p.1 id||match Ym n nh n' ρ id,Ym n nh n' ρ p.1 with|some a,some b=>!(Nat.beq a b)|_,_=>true)&&VO n nh n' ρ r
theorem P9 {β:Nm} {x:AC} {v:Value} (h:YI n x=true) (e:γc β x=some v):γc (XL n nh n' ρ β) x=some v:=by
 have hr:∀id,Nat.blt id n=true->XL n nh n' ρ β id=β id:=fun id hid=>by
  rw[Nat.blt_eq] at hid;simp[XL,hid]
 cases x with
 |v x=>exact e
 |ptr id k j=>simp only[γc,ad] at e ⊢;rw[hr id h];exact e
 |sl id k j len cap=>simp only[γc] at e ⊢;rw[hr id h];exact e
 | fn f caps=>
  simp only[γc] at e ⊢
  have key:∀{l:List (Nat × Nat × Nat)} {vs:List Value},(l.all fun p=>Nat.blt p.1 n)=true->γp β l=some vs->γp (XL n nh n' ρ β) l=some vs:=by
   intro l
   induction l with
   |nil=>intro vs _ h;exact h
   |cons p r ih=>
    intro vs hl hp;obtain⟨id,k,j⟩:=p;simp only[List.all_cons,Bool.and_eq_true] at hl;simp only[γp] at hp ⊢;split at hp
    . rename_i a us ha hus
      simp only[ad] at ha ⊢;rw[hr id hl.1,ha,ih hl.2 hus];exact hp
    . cases hp
  split at e
  . rename_i vs hvs
    rw[key h hvs];exact e
  . cases e
 |yld id=>simp only[γc] at e ⊢;rw[hr id h];exact e
 |cap id k=>simp only[γc] at e ⊢;rw[hr id h];exact e
 |mv f id k j=>simp only[γc,ad] at e ⊢;rw[hr id h];exact e
theorem Yp {x:AC} (h:YI n x=true):GW n nh n' ρ (.c x) (.c x):=fun _ _ e=>P9 h e
theorem Fw {l:List AC} (h:l.all (YI n)=true):GW n nh n' ρ (.agg l) (.agg l):=fun β v e=>by
 simp only[γ,γ1] at e ⊢;split at e
 . rename_i vs hvs
   have:γs (XL n nh n' ρ β) l=some vs:=by
    rw[U5];refine⟨SF hvs,fun i x hx=>?_⟩;obtain⟨u,h1,h2⟩:=Vo hvs hx;exact⟨u,h1,P9 (List.all_eq_true.1 h x (List.mem_of_getElem? hx)) h2⟩
   rw[this];exact e
 . cases e
theorem Ik {β:Nm} {x:AV} {v:Value} (h:WZ n x=true) (e:γ1 β x=some v):γ1 (XL n nh n' ρ β) x=some v:=by
 cases x with
 |c x=>exact P9 (by simpa[WZ] using h) e
 |agg l=>
  have:=Fw (nh:=nh) (n':=n') (ρ:=ρ) (l:=l) (by simpa[WZ] using h) β v e;exact this
 |tup l=>cases e
 |any=>cases e
theorem Eb {β:Nm}:∀{l:List AV} {vs:List Value},Sp n l=true->γt β l=some vs->γt (XL n nh n' ρ β) l=some vs
 | [],vs,_,e=>e
 |x::r,vs,h,e=>by
  simp only[Sp,Bool.and_eq_true] at h;simp only[γt] at e ⊢;split at e
  . rename_i v us hv hus
    rw[Ik h.1 hv,Eb h.2 hus];exact e
  . cases e
theorem F1 {β:Nm} {x:AV} {v:Value} (h:WZ n x=true) (e:γ β x=some v):γ (XL n nh n' ρ β) x=some v:=by
 cases x with
 |tup l=>
  simp only[γ] at e ⊢;split at e
  . rename_i vs hvs
    rw[Eb (by simpa[WZ] using h) hvs];exact e
  . cases e
 |c x=>exact Ik (x:=.c x) h e
 |agg l=>exact Ik (x:=.agg l) h e
 |any=>cases e
theorem DN:∀{l:List AV} {t:Nat} {x:AV},Sp n l=true->l[t]? =some x->WZ n x=true
 | [],t,x,_,h=>by simp at h
 |y::r,0,x,hl,h=>by simp only[Sp,Bool.and_eq_true] at hl;simp at h;subst h;exact hl.1
 |y::r,t+1,x,hl,h=>by simp only[Sp,Bool.and_eq_true] at hl;exact DN hl.2 (by simpa using h)
theorem FrOk.low {β:Nm} {tm:List AV} {tmps:Array Value} (h:Sp n tm=true) (hf:FrOk β tm tmps):FrOk (XL n nh n' ρ β) tm tmps:=
 ⟨hf.1,fun t av ht=>(hf.2 t av ht).imp id fun⟨v,h1,h2⟩=>⟨v,F1 (DN h ht) h1,h2⟩⟩
theorem ObjOk.low {β:Nm} {w:World} {b:Nat} {o:AObj} (h:Po n o=true) (ho:ObjOk β w b o):ObjOk (XL n nh n' ρ β) w b o:=by
 cases o with
 |loop st pd tm ps as bd dn=>
  simp only[Po,Bool.and_eq_true] at h;obtain⟨fn,tmps,D,h1,h2,h3,h4⟩:=ho;have hdn:dn<n:=by have:=h.2;rwa[Nat.blt_eq] at this
  exact⟨fn,tmps,D,h1.low h.1,by simp[XL,hdn,h2],h3,h4⟩
 |dfr op=>exact ho
theorem Vs {id o k j len:Nat} {cap:Option Nat} (h1:n<=id) (h2:id<nh) (h3:id<n') (h:ρ id= .inl o):GW n nh n' ρ (.c (.sl o k j len cap)) (.c (.sl id k j len cap)):=fun β v e=>by
 simp only[γ,γ1,γc] at e ⊢;have:XL n nh n' ρ β id=β o:=by simp[XL,show ¬(id<n\/n'<=id) by omega,h2,h]
 rw[this];exact e
theorem M3 {id s:Nat} (h1:n<=id) (h2:id<nh) (h3:id<n') (h:ρ id= .inr s):GW n nh n' ρ (.c (.v (.slice none 0 0))) (.c (.sl id 0 0 0 none)):=fun β v e=>by
 cases e;simp only[γ,γ1,γc];have:XL n nh n' ρ β id=some ⟨0,0,s,0,true⟩:=by simp[XL,show ¬(id<n\/n'<=id) by omega,h2,h]
 rw[this];rfl
theorem IK:∀{lv:List (Nat × AV)},B8 n nh n' ρ tm1 lv->∀{t av},(t,av)∈lv->∃a1,tm1[t]? =some a1/\a1≠ .any/\GW n nh n' ρ a1 av
 |(t',av')::r,h,t,av,hm=>by
  rcases List.mem_cons.1 hm with e|e
  . cases e;exact h.1
  . exact IK h.2 e
theorem HV:∀{m2:AMem},Kt n nh n' ρ m1 m2->∀{id x},ZY m2 id=some x->Ks n nh n' ρ m1 id x
 | (i,b)::r,h,id,x,hx=>by
  simp only[VK] at hx;split at hx
  . rename_i hb
    cases hx;have:=Nat.eq_of_beq_eq_true hb;subst this;exact h.1
  . exact HV h.2 hx
theorem Ng:∀{m2:AMem},VO n nh n' ρ m2=true->∀{id id' x x'},ZY m2 id=some x->ZY m2 id'=some x'->id≠id'->∀a,Ym n nh n' ρ id=some a->Ym n nh n' ρ id'≠some a
 | (i,b)::r,h,id,id',x,x',hx,hx',hne,a,ha=>by
  simp only[VO,Bool.and_eq_true] at h;have hall:=fun p hp=>List.all_eq_true.1 h.1 p hp
  simp only[VK] at hx hx';split at hx
  . rename_i hb
    have:=Nat.eq_of_beq_eq_true hb;subst this;split at hx'
    . rename_i hb'
      exact absurd (Nat.eq_of_beq_eq_true hb') hne
    . have h1:=hall _ (Vn hx')
      simp only[Bool.or_eq_true] at h1;rcases h1 with h1|h1
      . exact absurd (Nat.eq_of_beq_eq_true h1).symm hne
      . rw[ha] at h1
        intro e;rw[e] at h1;simp at h1
  . split at hx'
    . rename_i hb'
      have:=Nat.eq_of_beq_eq_true hb';subst this;have h1:=hall _ (Vn hx);simp only[Bool.or_eq_true] at h1;rcases h1 with h1|h1
      . exact absurd (Nat.eq_of_beq_eq_true h1) hne
      . intro e
        rw[e,ha] at h1;simp at h1
    . exact Ng h.2 hx hx' hne a ha
theorem Ix {x y:ABlk} (h:BEq x y) (k j:Nat):y.inb k j=x.inb k j:=by
 rcases h.cs with⟨l,h1,h2⟩|⟨q,f,g,h1,h2,_⟩|⟨o,o',h1,h2,_⟩<;>simp only[ABlk.inb,h1,h2,h.sz]
theorem UA (h1:n<=nh) (h2:nh<=n') (h3:n'<=ZR) {N:Nat} {lv:List (Nat × AV)} {m2:AMem} (hlen:tm1.length=N) (hrn:VO n nh n' ρ m2=true) (hm:Kt n nh n' ρ m1 m2) (hf:B8 n nh n' ρ tm1 lv):
 Wk n nh n' tm1 m1 (ZQ N lv) m2:=by
 intro C β w tmps hfr hr
 have hgid:∀g,XL n nh n' ρ β (Z2 g)=β (Z2 g):=fun g=>by
  have:n'<=Z2 g:=by unfold Z2;unfold ZR at h3;omega
  simp[XL,this]
 -- a block's place
 have hpl:∀id x,ZY m2 id=some x->∃L,XL n nh n' ρ β id=some L/\YV C (XL n nh n' ρ β) w L x/\(L.nil=false->∃o y,Ym n nh n' ρ id=some o/\ZY m1 o=some y/\y.own=x.own/\β o=some L):=by
  intro id x hx
  have conv:∀(L:Loc) (y:ABlk),BEq y x->Zd n x->YV C β w L y->YV C (XL n nh n' ρ β) w L x:=by
   intro L y hb hlow hk;refine⟨by rw[hb.sz];exact hk.sz,fun l hl=>?_,fun k j hi=>?_,hk.lt,fun ho hn=>?_,fun q g hg i hi=>?_,fun hrw hn q g hg=>?_⟩
   . rcases hb.cs with⟨l',e1,e2⟩|⟨q,f,g,e1,e2,_⟩|⟨o,o'',e1,e2,_⟩
     . rw[hb.sz];exact hk.lit l' e1
     . rw[e2] at hl;cases hl
     . rw[e2] at hl;cases hl
   . have hlow':=hlow.1 k j hi
     have hi':=hi;rw[Ix hb] at hi;obtain⟨g1,u,g2,g3,g4⟩:=hk.cells k j hi;refine⟨g1,u,?_,g3,g4⟩
     have e:x.cs.get k j=y.cs.get k j:=by
      rcases hb.cs with⟨l',e1,e2⟩|⟨q,f,g,e1,e2,e3⟩|⟨o,o'',e1,e2,_⟩
      . rw[e1,e2]
      rotate_left
      . simp only[e1,e2,Cs.get]
      . rw[e1,e2]
        have:k<q:=by
         simp only[ABlk.inb,e1,Bool.and_eq_true,decide_eq_true_eq] at hi;exact hi.1
        simp only[Cs.get];rw[e3 k this]
     rw[e] at hlow' ⊢;exact P9 hlow' g2
   . rw[hb.own] at ho
     obtain⟨o1,o2,cs,o3,o4⟩:=hk.own ho hn;refine⟨o1,o2,cs,by rw[hb.ty];exact o3,fun hrw=>?_⟩;rw[hb.row] at hrw;obtain⟨r1,r2,q,f,r3,r4⟩:=o4 hrw;rcases hb.cs with⟨l',e1,e2⟩|⟨q',f',g,e1,e2,e3⟩|⟨o,o'',e1,e2,_⟩
     . rw[e1] at r3;cases r3
     rotate_left
     . rw[e1] at r3;cases r3
     . rw[e1] at r3
       cases r3;exact⟨by rw[hb.sz];exact r1,by rw[hb.sz];exact r2,_,g,e2,r4⟩
   . rcases hb.cs with⟨l',e1,e2⟩|⟨q',f',g',e1,e2,e3⟩|⟨o,o'',e1,e2,_⟩
     . rw[e2] at hg;cases hg
     rotate_left
     . rw[e2] at hg;cases hg
     . rw[e2] at hg
       cases hg;rw[<- e3 i hi,hb.sz];exact hk.arrl _ f' e1 i hi
   . rw[hb.row] at hrw
     rcases hb.cs with⟨l',e1,e2⟩|⟨q',f',g',e1,e2,e3⟩|⟨o,o'',e1,e2,_⟩
     . rw[e2] at hg;cases hg
     rotate_left
     . rw[e2] at hg;cases hg
     . rw[e2] at hg
       cases hg;exact hk.rowc hrw hn _ f' e1
  rcases HV hm hx with⟨c1,c2,c3⟩|⟨c1,c2,o,y,c3,c4,c5,c6⟩|⟨c1,c2,c3,c4,f,c5⟩|⟨c1,y,c4,c5,c6⟩
  rotate_left 3
  . obtain⟨L,hL,hk⟩:=hr.blk id y c4
    refine⟨L,by simp[XL,c1,hL],conv L y c5 c6 hk,fun hn=>⟨id,y,?_,c4,c5.own.symm,hL⟩⟩;unfold Ym
    have:(Nat.blt id n||Nat.ble n' id)=true:=by
     rcases c1 with h|h
     . have:Nat.blt id n=true:=by rw[Nat.blt_eq];exact h
       rw[this];rfl
     . rw[Nat.ble_eq_true_of_le h,Bool.or_true]
    rw[this]
  . obtain⟨L,hL,hk⟩:=hr.blk id x c2
    refine⟨L,by simp[XL,c1,hL],conv L x (BEq.refl x) c3 hk,fun hn=>⟨id,x,?_,c2,rfl,hL⟩⟩;unfold Ym
    have:(Nat.blt id n||Nat.ble n' id)=true:=by
     rcases c1 with h|h
     . have:Nat.blt id n=true:=by rw[Nat.blt_eq];exact h
       rw[this];rfl
     . rw[Nat.ble_eq_true_of_le h,Bool.or_true]
    rw[this]
  . obtain⟨L,hL,hk⟩:=hr.blk o y c4
    have hnot:¬(id<n\/n'<=id):=by omega
    refine⟨L,by simp[XL,hnot,c2,c3,hL],conv L y c5 c6 hk,fun hn=>⟨o,y,?_,c4,c5.own.symm,hL⟩⟩;unfold Ym
    have:(Nat.blt id n||Nat.ble n' id)=false:=by
     rw[Bool.or_eq_false_iff];refine⟨?_,?_⟩
     . rw[Bool.eq_false_iff];intro h;rw[Nat.blt_eq] at h;omega
     . rw[Bool.eq_false_iff];intro h;have:=Nat.le_of_ble_eq_true h;omega
    rw[this,c3]
  . have hnot:¬(id<n\/n'<=id):=by omega
    refine⟨⟨0,0,x.sz,0,true⟩,by simp[XL,hnot,c2,c3],⟨rfl,fun l hl=>(by rw[c5] at hl;cases hl),fun k j hi=>?_,fun h=>(by cases h),fun _ h=>(by cases h),fun q g hg i hi=>?_,fun _ h=>(by cases h)⟩,fun h=>(by cases h)⟩
    . simp[ABlk.inb,c5] at hi
    . rw[c5] at hg;cases hg;omega
 refine⟨XL n nh n' ρ β,fun id hid=>by simp[XL,hid],fun id hid1 hid2=>?_,⟨?_,fun t av ht=>?_⟩,hr.os,hr.tape,hr.output,hr.size,hr.base,hr.out,fun id x hx=>?_,?_,fun g L hL=>hr.glob g L (by rw[hgid g] at hL;exact hL),fun id x ob hx hxo=>?_⟩
 . have:¬(id<n\/n'<=id):=by omega
   simp[XL,this,show ¬id<nh by omega]
 . rw[ZQ,Hk,<- hlen];exact hfr.1
 . rw[ZQ,HL,Nat.zero_add] at ht
   split at ht
   . cases ht
     rcases @Iw lv t with h|h
     . exact .inl h
     . obtain⟨a1,e1,e2,e3⟩:=IK hf h
       rcases hfr.2 t a1 e1 with h4|⟨v,h4,h5⟩
       . exact absurd h4 e2
       . exact .inr ⟨v,e3 β v h4,h5⟩
   . cases ht
 . obtain⟨L,hL,hk,_⟩:=hpl id x hx
   exact⟨L,hL,hk⟩
 . intro id id' x x' L L' hx hx' hne ho hL hL' hn hn'
   obtain⟨M,hM,_,hM2⟩:=hpl id x hx;rw[hL] at hM;cases hM;obtain⟨M',hM',_,hM2'⟩:=hpl id' x' hx';rw[hL'] at hM';cases hM';obtain⟨o,y,o1,o2,o3,o4⟩:=hM2 hn;obtain⟨o',y',p1,p2,p3,p4⟩:=hM2' hn'
   have hoo:o≠o':=fun e=>by
    subst e;exact Ng hrn hx hx' hne _ o1 p1
   exact hr.sep o o' y y' L L' o2 p2 hoo (by rw[o3];exact ho) o4 p4 hn hn'
 . obtain ⟨oi,y,q1,q2,q3,q4,q5⟩:∃oi y,Ym n nh n' ρ id=some oi/\ZY m1 oi=some y/\(∃ob',y.cs= .obj ob'/\OLe ob' ob)/\Po n ob=true/\XL n nh n' ρ β id=β oi:=by
    rcases HV hm hx with⟨c1,c2,c3⟩|⟨c1,c2,o,y,c3,c4,c5,c6⟩|⟨c1,c2,c3,c4,f,c5⟩|⟨c1,y,c4,c5,c6⟩
    rotate_left 3
    . refine⟨id,y,?_,c4,?_,c6.2 ob hxo,by simp[XL,c1]⟩
      . unfold Ym
        have:(Nat.blt id n||Nat.ble n' id)=true:=by
         rcases c1 with h|h
         . have:Nat.blt id n=true:=by rw[Nat.blt_eq];exact h
           rw[this];rfl
         . rw[Nat.ble_eq_true_of_le h,Bool.or_true]
        rw[this]
      . rcases c5.cs with⟨l,e1,e2⟩|⟨q,f,g,e1,e2,_⟩|⟨o',o2,e1,e2,e3⟩
        . rw[hxo] at e2;cases e2
        . rw[hxo] at e2;cases e2
        . rw[hxo] at e2;cases e2;exact⟨_,e1,e3⟩
    . refine⟨id,x,?_,c2,⟨_,hxo,OLe.refl _⟩,c3.2 ob hxo,by simp[XL,c1]⟩
      unfold Ym
      have:(Nat.blt id n||Nat.ble n' id)=true:=by
       rcases c1 with h|h
       . have:Nat.blt id n=true:=by rw[Nat.blt_eq];exact h
         rw[this];rfl
       . rw[Nat.ble_eq_true_of_le h,Bool.or_true]
      rw[this]
    . have hnot:¬(id<n\/n'<=id):=by omega
      refine⟨o,y,?_,c4,?_,c6.2 ob hxo,by simp[XL,hnot,c2,c3]⟩
      . unfold Ym
        have:(Nat.blt id n||Nat.ble n' id)=false:=by
         rw[Bool.or_eq_false_iff];refine⟨?_,?_⟩
         . rw[Bool.eq_false_iff];intro h;rw[Nat.blt_eq] at h;omega
         . rw[Bool.eq_false_iff];intro h;have:=Nat.le_of_ble_eq_true h;omega
        rw[this,c3]
      . rcases c5.cs with⟨l,e1,e2⟩|⟨q,f,g,e1,e2,_⟩|⟨o',o2,e1,e2,e3⟩
        . rw[hxo] at e2;cases e2
        . rw[hxo] at e2;cases e2
        . rw[hxo] at e2;cases e2;exact⟨_,e1,e3⟩
    . rw[hxo] at c5;cases c5
   obtain⟨ob',q3,q6⟩:=q3;obtain⟨L,k1,k2,k3,k4,k5⟩:=hr.objs oi y ob' q2 q3;refine⟨L,by rw[q5];exact k1,k2,k3,(k4.le q6).low q4,fun id' x' L' g1 g2 g3 g4=>?_⟩;obtain⟨M',hM',_,hM2'⟩:=hpl id' x' g2;rw[g3] at hM';cases hM';obtain⟨o',y',p1,p2,p3,p4⟩:=hM2' g4;refine k5 o' y' L' (fun e=>?_) p2 p4 g4;subst e;exact Ng hrn hx g2 (fun e=>g1 e.symm) _ q1 p1
end
def view (slots ids:List Nat) (r:Option (Exit × Nat × St)):Option (Exit × List (Option AV) × List (Option ABlk) × Nat × Nat × List Bool × List Prop):=
 match r with
 |some (e,n,s)=>match s.ms with| []=>some (e,slots.map (fun t=>s.tm[t]?),ids.map (ZY s.m),s.tm.length,n,s.ob,s.po)|_::_=>none
 |none=>none
theorem P3 {slots ids:List Nat} {r:Option (Exit × Nat × St)} {e:Exit} {l:List (Option AV)} {b:List (Option ABlk)} {len n:Nat} {ob:List Bool} {po:List Prop} (h:view slots ids r=some (e,l,b,len,n,ob,po)):
 ∃s,r=some (e,n,s)/\slots.map (fun t=>s.tm[t]?)=l/\ids.map (ZY s.m)=b/\s.tm.length=len/\s.ob=ob/\s.po=po/\s.ms=[]:=by
 unfold view at h;split at h
 . rename_i e' n' s
   split at h
   . rename_i hms
     simp only[Option.some.injEq,Prod.mk.injEq] at h;obtain⟨rfl,h1,h2,h3,rfl,h5,h6⟩:=h;exact⟨s,rfl,h1,h2,h3,h5,h6,hms⟩
   . cases h
 . cases h
theorem Pd {E:Env} (hE:ZC E) {fuel:Nat} {body:Code} {S:Type} (inv:S->Prop) (μ:S->Nat) (tmI:S->List AV) (mI:S->AMem) {tmF:List AV} {mF:AMem} {n nh n' str:Nat} {e:Exit} {rd:Option Nat} (hn1:n<=nh) (hn2:nh<=n') (hrd:∀id,rd=some id->id<n)
 {slots ids:List Nat} {vals:List (Option AV)} {blks:List (Option ABlk)} {len:Nat}
 {s0:S} (h0:inv s0) (start:∀tm m,slots.map (fun t=>tm[t]?)=vals->ids.map (ZY m)=blks->tm.length=len->Wk n nh n' tm m (tmI s0) (mI s0))
 (step:∀s,inv s->∃path lp e' n1 st',fC E fuel body nh str ⟨tmI s,mI s,0,0,false,path,[],[],[],rd,lp⟩=some (e',n1,st')/\n1<=n'/\Obs st'/\st'.ms=[]/\
  ((e'= .normal/\∃s',inv s'/\μ s'<μ s/\Wk n nh n' st'.tm st'.m (tmI s') (mI s'))\/(e'≠ .normal/\e'=e/\Wk n n' n' st'.tm st'.m tmF mF))):
 LoopV E.P body slots ids vals blks len n tmF mF n' e rd:=by
 intro tm0 m0 hv1 hv2 hv3 ro C β a w hrdo hf hr hfree
 have hrd':∀β',(∀id,id<n\/n'<=id->β' id=β id)->RdOk β' rd ro:=by
  intro β' hs
  cases rd with
  | none=>cases ro with
    |none=>trivial
    |some _=>exact hrdo
  | some id=>cases ro with
    |none=>exact hrdo
    |some b=>obtain⟨L,h1,h2⟩:=hrdo;exact⟨L,by rw[hs id (.inl (hrd id rfl))];exact h1,h2⟩
 have key:∀k a1 w,(∃s,μ s=k/\inv s/\a1.defers=a.defers/\∃β',(∀id,id<n\/n'<=id->β' id=β id)/\(∀id,nh<=id->id<n'->β' id=none)/\FrOk β' (tmI s) a1.tmps/\Rel C β' (mI s) w)->
  M6 ro E.P body (fun e' a' w'=>e'=e/\a'.defers=a.defers/\∃β',Ext β β'/\(∀id,id<n\/n'<=id->β' id=β id)/\FrOk β' tmF a'.tmps/\Rel C β' mF w') a1 w:=by
  refine jjmu _ fun k a1 w ⟨s,hk,hi,hd,β',g1,g2,g3,g4⟩=>?_
  obtain⟨path,lp,e',n1,st',hsx,hle,ho,hms,hres⟩:=step s hi;obtain⟨gr,hwp⟩:=F9 hE fuel _ _ _ _ (Fl _ _ _ _ _ _ _ _ hsx);have:=hwp (ho.congr rfl rfl) ro a1.defers C β' a1 w (hrd' β' g1) g3 rfl g4 fun id h1 h2=>g2 id h1 (by have h2:id<n1:=h2;omega)
  refine wpIn_mono (RI this) fun e'' a' w' ⟨he,β'',x1,x2,x3,hd',x4⟩=>?_
  have hd':DfOk β'' st'.ms a1.defers a'.defers:=hd';rw[hms] at hd';have hd':a'.defers=a1.defers:=hd';subst he
  have hsame:∀id,id<n\/n'<=id->β'' id=β id:=fun id hid=>by
   rw[x2 id (by show id<nh\/n1<=id;omega)];exact g1 id hid
  rcases hres with⟨rfl,s',i1,i2,i3⟩|⟨hne,rfl,i3⟩
  . obtain⟨β2,y1,y2,y3,y4⟩:=i3 C β'' w' a'.tmps x3 x4
    exact⟨μ s',by omega,s',rfl,i1,hd'.trans hd,β2,fun id hid=>by rw[y1 id hid];exact hsame id hid,y2,y3,y4⟩
  . obtain⟨β2,y1,y2,y3,y4⟩:=i3 C β'' w' a'.tmps x3 x4
    have hpost:(fun e' (a':Act) w'=>e'=e''/\a'.defers=a.defers/\∃β',Ext β β'/\(∀id,id<n\/n'<=id->β' id=β id)/\FrOk β' tmF a'.tmps/\Rel C β' mF w') e'' a' w':=by
     refine⟨rfl,hd'.trans hd,β2,fun id L hL=>?_,fun id hid=>by rw[y1 id hid];exact hsame id hid,y3,y4⟩;rcases Nat.lt_or_ge id n with h|h
     . rw[y1 id (.inl h),hsame id (.inl h)];exact hL
     . rcases Nat.lt_or_ge id n' with h'|h'
       . rw[hfree id h h'] at hL;cases hL
       . rw[y1 id (.inr h'),hsame id (.inr h')];exact hL
    cases e'' with
    |normal=>exact absurd rfl hne
    |_=>exact hpost
 obtain⟨β2,y1,y2,y3,y4⟩:=start tm0 m0 hv1 hv2 hv3 C β w a.tmps hf hr;exact key (μ s0) a w ⟨s0,rfl,h0,rfl,β2,y1,y2,y3,y4⟩
def ZB (ids:List Nat) (r:Option (AV × Nat × St)):Option (AV × List (Option ABlk) × Nat × List Bool × List Prop):=
 match r with
 |some (v,n,s)=>some (v,ids.map (ZY s.m),n,s.ob,s.po)
 |none=>none
theorem T7 {ids:List Nat} {r:Option (AV × Nat × St)} {v:AV} {b:List (Option ABlk)} {n:Nat} {ob:List Bool} {po:List Prop} (h:ZB ids r=some (v,b,n,ob,po)):
 ∃s,r=some (v,n,s)/\ids.map (ZY s.m)=b/\s.ob=ob/\s.po=po:=by
 unfold ZB at h;split at h
 . rename_i v' n' s
   simp only[Option.some.injEq,Prod.mk.injEq] at h;obtain⟨rfl,h1,rfl,h3,h4⟩:=h;exact⟨s,rfl,h1,h3,h4⟩
 . cases h
theorem Xa {E:Env} (hE:ZC E) {g:Nat} {f:FuncId} {args:List AV} {n str n':Nat} {s s':St} {r:AV} (h:ZM E (fC E g) f args n str s=some (r,n',s')) (ho:Obs s') {C:Ctx} {β:Nm} {w:World} {vs:List Value}
 (hvs:γt β args=some vs) (hr:Rel C β s.m w) (hfree:∀id,n<=id->id<n'->β id=none):
 Calls E.P f vs.toArray w (fun e w'=>∃β' v,e= .returned v/\Ext β β'/\(∀id,id<n\/n'<=id->β' id=β id)/\γ β' r=some v/\Rel C β' s'.m w'):=
 jjkv hE (jjei _ _ _ _ _ _ _ _ h) (ho.congr rfl rfl) hvs hr hfree
def XW (m:AMem) (path:List Dec) (lp:List (Option Zl)):St:=⟨[],m,0,0,false,path,[],[],[],none,lp⟩
def K9 (l:List Bool):List Dec:=l.map .b
end Go.Proofs.YtljeokninakliaaGreatDoor
end
section
namespace Go.Proofs.YtljeokninakliaaGreatDoor
open Go.RowKit
abbrev VF:=AV × List (Option ABlk) × Nat × List Bool × List Prop
abbrev VC:=Exit × List (Option AV) × List (Option ABlk) × Nat × Nat × List Bool × List Prop
def i64 (n:Int):AV:=.c (.v (.int .i64 n))
def bo (b:Bool):AV:=.c (.v (.bool b))
def XX (ty sz n:Nat) (f:Nat->List Value):ABlk:=⟨false,false,ty,sz,.arr n fun k=>(f k).map .v⟩
def WH (ty sz n:Nat) (f:Nat->List Value):ABlk:=⟨true,true,ty,sz,.arr n fun k=>(f k).map .v⟩
def FL (ty:Nat) (l:List Value):ABlk:=⟨true,false,ty,0,.lit (l.map .v)⟩
def E1 (P:Program):Env:=⟨P,[]⟩
theorem Iv {n:Nat} (l:List Value) (j:Nat):YI n ((l.map AC.v).getD j ZV)=true:=by
 simp only[List.getD,List.getElem?_map];cases l[j]?<;>rfl
theorem Vt {n ty sz q:Nat} {f:Nat->List Value}:Zd n (XX ty sz q f):=L8 (fun _ _=>Iv _ _) (fun _ h=>by cases h)
theorem Y8 {n ty sz q:Nat} {f:Nat->List Value}:Zd n (WH ty sz q f):=L8 (fun _ _=>Iv _ _) (fun _ h=>by cases h)
theorem jjjw {n ty:Nat} {l:List Value}:Zd n (FL ty l):=L8 (fun _ _=>Iv _ _) (fun _ h=>by cases h)
theorem WP {n nh n':Nat} {ρ:Rn} {a b:Int} (h:a=b):GW n nh n' ρ (i64 a) (i64 b):=by subst h;exact Yp rfl
theorem Ii {ty sz q:Nat} {f g:Nat->List Value} {l:List Value} (hl:l.length=sz) (h1:∀k,k<q->g k=f k) (h2:g q=l):
 BEq ⟨true,true,ty,sz,.arr (q+1) fun k=>if k<q then (f k).map .v else YW ⟨true,false,ty,0,.lit (l.map .v)⟩ 0 0 sz (k-q)⟩ (WH ty sz (q+1) g):=by
 refine⟨rfl,rfl,rfl,rfl,.inr (.inl ⟨q+1,_,_,rfl,rfl,fun k hk=>?_⟩)⟩;by_cases hkq:k<q
 . rw[if_pos hkq,h1 k hkq]
 . obtain rfl:k=q:=by omega
   rw[if_neg (by omega),h2];simp[YW,<- hl,List.take_of_length_le]
def Jb (P:Program):Bool:=P.funcs.toList.all fun fn=>fn.body.isNone||!(fn.name== "runtime.NumGoroutine")
theorem Xf {P:Program} {ct:List (FuncId × Yk)} (hc:∀f g,(f,g)∈ct->ZA P f g) (hm:P.follows .mixedOrders=true) (hn:Jb P=true):ZC ⟨P,ct⟩:=
 ⟨hc,hm,fun f fn c h1 h2=>by
  have hmem:fn∈P.funcs.toList:=by
   rw[<- Array.getElem?_toList] at h1;exact List.mem_of_getElem? h1
  have:=List.all_eq_true.1 hn fn hmem
  simpa[h2] using this⟩
theorem Se (w:World):Rel (ZG w) (fun _=>none) [] w:=by
 refine⟨rfl,rfl,rfl,Nat.le_refl _,Nat.le_refl _,fun _ _ _=>rfl,fun id x h=>?_,fun id id' x x' L L' h=>?_,fun g L h=>?_,fun id x o h=>?_⟩<;>cases h
def stC (m:AMem):St:=⟨[],m,0,0,true,[],[],[],[],none,[]⟩
def pD:Nat->Nat->List Dec
 |0,_=>[]
 |n+1,m=>(match m % 3 with|0=>Dec.a|1=>Dec.b true|_=>Dec.b false)::pD n (m / 3)
theorem ZD {b:Bool} {A B X:Prop} (H:(b=true->A)/\(b=false->B)) (h1:A->X) (h2:B->X):X:=
 match b,H with
 |true,H=>h1 (H.1 rfl)
 |false,H=>h2 (H.2 rfl)
theorem jjfj {β β':Nm} {c:AC} {u:Value} (h:∃v,c= .v v) (e:γc β c=some u):γc β' c=some u:=by
 obtain⟨v,rfl⟩:=h;exact e
theorem S8 {C:Ctx} {β β1:Nm} {m m1:AMem} {w w':World} (h:Rel C β m w) (hb:Below w.heap.size w w') {id:Nat} (hid:β id=none) (hg:∀g,id≠Z2 g) (h1:Rel (ZG w) β1 m1 w') {i1:Nat} {x:ABlk} (hx:ZY m1 i1=some x) (hown:x.own=true)
 {n:Nat} {f:Nat->List AC} (hcs:x.cs= .arr n f) (hpl:∀k j,x.inb k (j+1)=true->∃v,x.cs.get k j= .v v) {L:Loc} (hL1:β1 i1=some L):
 Rel C (ZU β id L) (m++[(id,x)]) w':=by
 have hw':Rel C β m w':=h.below hb;obtain⟨L',e,hbk⟩:=h1.blk i1 x hx;rw[hL1] at e;cases e
 have hnewb:L.nil=false->w.heap.size<=L.b:=fun hn=>by
  obtain⟨_,h2,_⟩:=hbk.own hown hn;rcases h2 with h2|h2
  . exact h2
  . exact h2.elim
 have hbase:C.base<=w.heap.size:=by have:=h.size;have:=h.base;omega
 have he:Ext β (ZU β id L):=Wq hid
 have hno:ZY m id=none:=by
  cases e:ZY m id with
  |none=>rfl
  |some x=>obtain⟨L,hL,_⟩:=h.blk id x e;rw[hid] at hL;cases hL
 have hlk:∀i y,ZY (m++[(id,x)]) i=some y->(ZY m i=some y/\i≠id)\/(i=id/\y=x):=by
  intro i y e;rw[TV] at e
  cases e':ZY m i with
  |some z=>
   rw[e'] at e;cases e;exact .inl ⟨rfl,fun h'=>by subst h';rw[hno] at e';cases e'⟩
  |none=>
   rw[e'] at e;simp only[VK] at e
   cases hb:Nat.beq id i with
   |true=>rw[hb] at e;cases e;exact .inr ⟨(Nat.eq_of_beq_eq_true hb).symm,rfl⟩
   |false=>rw[hb] at e;cases e
 refine⟨hw'.os,hw'.tape,hw'.output,hw'.size,hw'.base,hw'.out,fun i y e=>?_,?_,?_,?_⟩
 . rcases hlk i y e with⟨e1,hne⟩|⟨rfl,rfl⟩
   . obtain⟨M,hM,hk⟩:=hw'.blk i y e1
     exact⟨M,he i M hM,hk.keep he (Nat.le_refl _) (fun _=>rfl)⟩
   . refine⟨L,W9,hbk.sz,hbk.lit,fun k j hi=>?_,hbk.lt,fun ho hn=>?_,hbk.arrl,hbk.rowc⟩
     . obtain⟨g1,u,g2,g3,g4⟩:=hbk.cells k j hi
       exact⟨g1,u,jjfj (hpl k j hi) g2,g3,g4⟩
     . obtain⟨g1,_,g3⟩:=hbk.own ho hn
       exact⟨g1,.inl (by have:=hnewb hn;omega),g3⟩
 . intro i i' y y' M M' e e' hne ho hM hM' hn hn'
   rcases hlk i y e with⟨e1,g1⟩|⟨rfl,rfl⟩
   . rcases hlk i' y' e' with⟨e2,g2⟩|⟨rfl,rfl⟩
     . simp only[ZU,g1,g2,if_false] at hM hM'
       exact hw'.sep i i' y y' M M' e1 e2 hne ho hM hM' hn hn'
     . simp only[ZU,g1,if_false,if_true] at hM hM'
       cases hM';obtain⟨K,hK,hk⟩:=h.blk i y e1;rw[hK] at hM;cases hM;have:=hk.lt hn;have:=hnewb hn';omega
   . rcases hlk i' y' e' with⟨e2,g2⟩|⟨rfl,rfl⟩
     . simp only[ZU,g2,if_false,if_true] at hM hM'
       cases hM;obtain⟨K,hK,hk⟩:=h.blk i' y' e2;rw[hK] at hM';cases hM';have:=hk.lt hn';have:=hnewb hn;omega
     . exact absurd rfl hne
 . intro g M e
   have:Z2 g≠id:=fun e=>hg g e.symm
   simp only[ZU,this,if_false] at e;exact h.glob g M e
 . intro i y o e ho
   rcases hlk i y e with⟨e1,hne⟩|⟨rfl,rfl⟩
   . obtain⟨M,g1,g2,g3,g4,g5⟩:=hw'.objs i y o e1 ho
     obtain⟨M',hM',hk⟩:=h.blk i y e1;rw[g1] at hM';cases hM';refine⟨M,he i M g1,g2,g3,g4.keep he rfl,fun i' y' K q1 q2 q3 q4=>?_⟩;rcases hlk i' y' q2 with⟨e2,hne2⟩|⟨rfl,rfl⟩
     . simp only[ZU,hne2,if_false] at q3
       exact g5 i' y' K q1 e2 q3 q4
     . simp only[ZU,if_true] at q3
       cases q3;have:=hk.lt g2;have:=hnewb q4;omega
   . rw[hcs] at ho;cases ho
theorem W8 {id:Nat} (h:id<ZR) (g:Nat):id≠Z2 g:=by unfold ZR at h;unfold Z2;omega
theorem Yg {n ty sz:Nat} {own row:Bool} {l:List AC} (h:l.all (YI n)=true):Zd n ⟨own,row,ty,sz,.lit l⟩:=
 L8 (fun k j=>by
  simp only[Cs.get,List.getD]
  cases e:l[j]? with
  |none=>rfl
  |some x=>exact List.all_eq_true.1 h x (List.mem_of_getElem? e)) (fun o e=>by cases e)
theorem U6 {n ty sz:Nat} {own row:Bool} {o:AObj} (h:Po n o=true):Zd n ⟨own,row,ty,sz,.obj o⟩:=
 ⟨fun k j hi=>by simp[ABlk.inb] at hi,fun o' e=>by cases e;exact h⟩
theorem F0 {n nh n':Nat} {ρ:Rn} {x:AV} (h:WZ n x=true):GW n nh n' ρ x x:=fun _ _ e=>F1 h e
theorem E9 {n nh n':Nat} {ρ:Rn} {m1:AMem}:∀{m2:AMem},(∀p∈m2,Ks n nh n' ρ m1 p.1 p.2)->Kt n nh n' ρ m1 m2
 | [],_=>trivial
 |(_,_)::_,h=>⟨h _ (List.mem_cons_self ..),E9 fun p hp=>h p (List.mem_cons_of_mem _ hp)⟩
theorem HF {n nh n':Nat} {ρ:Rn} {tm1:List AV}:∀{lv:List (Nat × AV)},(∀q∈lv,∃a1,tm1[q.1]? =some a1/\a1≠ .any/\GW n nh n' ρ a1 q.2)->B8 n nh n' ρ tm1 lv
 | [],_=>trivial
 |(_,_)::_,h=>⟨h _ (List.mem_cons_self ..),HF fun p hp=>h p (List.mem_cons_of_mem _ hp)⟩
def Zc (n n':Nat) (id:Nat):Bool:=Nat.blt id n||Nat.ble n' id
theorem D5 {n nh n':Nat} {ρ:Rn}:∀{m:AMem},(∀p∈m,Zc n n' p.1=true)->VO n nh n' ρ m=true
 | [],_=>rfl
 | (id,_)::r,h=>by
  simp only[VO,Bool.and_eq_true];refine⟨List.all_eq_true.2 fun p hp=>?_,D5 fun p hp=>h p (List.mem_cons_of_mem _ hp)⟩;have h1:Zc n n' id=true:=h _ (List.mem_cons_self ..);have h2:Zc n n' p.1=true:=h p (List.mem_cons_of_mem _ hp);unfold Zc at h1 h2;simp only[Ym,h1,h2]
  cases e:Nat.beq p.1 id with
  |true=>rfl
  |false=>
   simp only[Bool.false_or,Bool.not_eq_true'];rw[Bool.eq_false_iff];intro h3;have:=Nat.eq_of_beq_eq_true h3;subst this;simp at e
theorem LG {n nh n':Nat} {tm:List AV} {m:AMem} {N:Nat} {lv:List (Nat × AV)} {mm:AMem} (h1:n<=nh) (h2:nh<=n') (h3:n'<=ZR) (hlen:tm.length=N)
 (hk:(mm.all fun p=>Zc n n' p.1)=true) (hm:∀p∈mm,Zd n p.2/\∃y,ZY m p.1=some y/\BEq y p.2)
 (hf:∀q∈lv,tm[q.1]? =some q.2/\q.2≠ .any/\WZ n q.2=true):Wk n nh n' tm m (ZQ N lv) mm:=by
 have hk:∀p∈mm,Zc n n' p.1=true:=fun p hp=>List.all_eq_true.1 hk p hp
 refine UA (ρ:=fun _=>.inr 1) h1 h2 h3 hlen (D5 hk) (E9 fun p hp=>?_) (HF fun q hq=>?_)
 . obtain⟨g1,y,g2,g3⟩:=hm p hp
   refine .inr (.inr (.inr ⟨?_,y,g2,g3,g1⟩));have:=hk p hp;simp only[Zc,Bool.or_eq_true] at this;rcases this with h|h
   . exact .inl (by rwa[Nat.blt_eq] at h)
   . exact .inr (Nat.le_of_ble_eq_true h)
 . obtain⟨g1,g2,g3⟩:=hf q hq
   exact⟨_,g1,g2,F0 g3⟩
def BL:List ABlk->List (Option ABlk)->Prop
 | [],[]=>True
 |b::bs,some y::ys=>BEq y b/\BL bs ys
 |_,_=>False
theorem BL.refl:∀(l:List ABlk),BL l (l.map some)
 | []=>trivial
 |b::bs=>⟨BEq.refl b,BL.refl bs⟩
theorem BL.mem:∀{ids:List Nat} {bs:List ABlk} {ys:List (Option ABlk)},BL bs ys->∀p∈ids.zip bs,∃y,(p.1,some y)∈ids.zip ys/\BEq y p.2
 | [],_,_,_,p,hp=>by simp at hp
 |_::_,[],_,_,p,hp=>by simp at hp
 |i::is,b::bs,[],h,p,hp=>h.elim
 |i::is,b::bs,none::ys,h,p,hp=>h.elim
 |i::is,b::bs,some y::ys,h,p,hp=>by
  rw[List.zip_cons_cons,List.mem_cons] at hp;rcases hp with rfl|hp
  . exact⟨y,by simp,h.1⟩
  . obtain⟨y',h1,h2⟩:=h.2.mem p hp
    exact⟨y',by rw[List.zip_cons_cons];exact List.mem_cons_of_mem _ h1,h2⟩
theorem QC {α β:Type} {f:α->β}:∀{l:List α} {a:α} {b:β},(a,b)∈l.zip (l.map f)->b=f a
 | [],a,b,h=>by simp at h
 |x::r,a,b,h=>by
  rw[List.map_cons,List.zip_cons_cons,List.mem_cons] at h;rcases h with h|h
  . cases h;rfl
  . exact QC h
theorem Hi {α β:Type}:∀{l l':List α} {r:List β} {p:α × β},p∈l.zip r->p∈(l++l').zip r
 | [],_,_,_,h=>by simp at h
 |x::l,l',[],_,h=>by simp at h
 |x::l,l',y::r,p,h=>by
  rw[List.zip_cons_cons,List.mem_cons] at h;rw[List.cons_append,List.zip_cons_cons,List.mem_cons];exact h.imp id Hi
theorem Hj {α β:Type}:∀{l:List α} {r:List β} {p:α × β},p∈l.zip (r.take l.length)->p∈l.zip r
 | [],_,_,h=>by simp at h
 |x::l,[],_,h=>by simp at h
 |x::l,y::r,p,h=>by
  rw[List.length_cons,List.take_succ_cons,List.zip_cons_cons,List.mem_cons] at h;rw[List.zip_cons_cons,List.mem_cons];exact h.imp id Hj
theorem OU {α β:Type}:∀{l:List α} {r:List β} {p:α × β},p∈l.zip r->(p.1,some p.2)∈l.zip (r.map some)
 | [],_,_,h=>by simp at h
 |x::l,[],_,h=>by simp at h
 |x::l,y::r,p,h=>by
  rw[List.zip_cons_cons,List.mem_cons] at h;rw[List.map_cons,List.zip_cons_cons,List.mem_cons];rcases h with rfl|h
  . exact .inl rfl
  . exact .inr (OU h)
def XT:AV->Bool
 | .any=>false
 |_=>true
theorem Li {x:AV} (h:XT x=true):x≠ .any:=by intro e;subst e;cases h
def Wb (n:Nat) (v:AV):Bool:=WZ n v&&XT v
theorem KU {f:Nat->Bool}:∀{ids:List Nat} {bs:List ABlk},ids.all f=true->((ids.zip bs).all fun p=>f p.1)=true
 | [],_,_=>by simp
 |_::_,[],_=>by simp
 |i::is,b::bs,h=>by
  simp only[List.all_cons,Bool.and_eq_true] at h;rw[List.zip_cons_cons,List.all_cons,Bool.and_eq_true];exact⟨h.1,KU h.2⟩
def XA {S:Type} (n n' N:Nat) (hs xs ids:List Nat) (inv:S->Prop) (μ:S->Nat) (vals:S->List AV) (blks:S->List ABlk) (e:Exit) (out:List (Nat × AV)) (mF:AMem) (s:S) (r:VC):Prop:=
 ZZ r.2.2.2.2.2.1/\r.2.2.2.2.2.2=[]/\r.2.2.2.2.1<=n'/\r.2.2.2.1=N/\
  ((r.1= .normal/\∃s',inv s'/\μ s'<μ s/\r.2.1.take hs.length=(vals s').map some/\BL (blks s') r.2.2.1)\/
   (r.1≠ .normal/\r.1=e/\(∀q∈out,Wb n q.2=true/\(q.1,some q.2)∈(hs++xs).zip r.2.1)/\∀p∈mF,Zc n n' p.1=true/\Zd n p.2/\∃y,(p.1,some y)∈ids.zip r.2.2.1/\BEq y p.2))
theorem Pn {E:Env} (hE:ZC E) {fuel:Nat} {body:Code} {S:Type} (inv:S->Prop) (μ:S->Nat) (hs xs ids:List Nat) (vals:S->List AV) (blks:S->List ABlk) {N n nh n' str:Nat} {e:Exit} {out:List (Nat × AV)} {mF:AMem}
 (hn1:n<=nh) (hn2:nh<=n') (hn3:n'<=ZR) {s0:S} (h0:inv s0) (hlen:∀s,hs.length=(vals s).length/\ids.length=(blks s).length) (hids:ids.all (Zc n n')=true) {eblks:List (Option ABlk)} (heb:BL (blks s0) eblks)
 (hlow:∀s,inv s->((vals s).all (Wb n))=true/\∀b∈blks s,Zd n b)
 (step:∀s,inv s->∃p lp r,view (hs++xs) ids (fC E fuel body nh str ⟨ZQ N (hs.zip (vals s)),ids.zip (blks s),0,0,false,p,[],[],[],none,lp⟩)=some r/\XA n n' N hs xs ids inv μ vals blks e out mF s r):
 LoopV E.P body hs ids ((vals s0).map some) eblks N n (ZQ N out) mF n' e none:=by
 have kept:∀s,inv s->∀tm m,(∀q∈hs.zip (vals s),tm[q.1]? =some q.2)->(∀p∈ids.zip (blks s),∃y,ZY m p.1=some y/\BEq y p.2)->tm.length=N->Wk n nh n' tm m (ZQ N (hs.zip (vals s))) (ids.zip (blks s)):=by
  intro s hi tm m g1 g2 g3;obtain⟨l1,l2⟩:=hlow s hi;refine LG hn1 hn2 hn3 g3 (KU hids) (fun p hp=>⟨l2 _ (List.of_mem_zip hp).2,g2 p hp⟩) fun q hq=>?_
  have:=List.all_eq_true.1 l1 _ (List.of_mem_zip hq).2;simp only[Wb,Bool.and_eq_true] at this;exact⟨g1 q hq,Li this.2,this.1⟩
 refine Pd hE (fuel:=fuel) (str:=str) inv μ (fun s=>ZQ N (hs.zip (vals s))) (fun s=>ids.zip (blks s)) hn1 hn2 (fun _ h=>by cases h) h0 (fun tm m g1 g2 g3=>kept s0 h0 tm m (fun q hq=>?_) (fun p hp=>?_) g3) fun s hi=>?_
 . have:=OU hq
   rw[<- g1] at this;exact(QC this).symm
 . obtain⟨y,h1,h2⟩:=heb.mem p hp
   rw[<- g2] at h1;exact⟨y,(QC h1).symm,h2⟩
 . obtain⟨p,lp,⟨e',l,b,len,n1,ob,po⟩,hv,hob,hpo,hn,hN,hw⟩:=step s hi
   simp only at hob hpo hn hN hw;obtain⟨st,v1,v2,v3,v4,v6,v7,v8⟩:=P3 hv;refine⟨p,lp,e',n1,st,v1,hn,⟨by rw[v6];exact hob,by rw[v7,hpo];simp⟩,v8,?_⟩;rcases hw with⟨rfl,s',i1,i2,i3,i4⟩|⟨hne,rfl,i3,i4⟩
   . refine .inl ⟨rfl,s',i1,i2,kept s' i1 _ _ (fun q hq=>?_) (fun p hp=>?_) (v4.trans hN)⟩
     . have h1:=OU hq
       rw[<- i3] at h1;have h2:(q.1,some q.2)∈(hs++xs).zip l:=Hi (Hj h1);rw[<- v2] at h2;exact(QC h2).symm
     . obtain⟨y,h1,h2⟩:=i4.mem p hp
       rw[<- v3] at h1;exact⟨y,(QC h1).symm,h2⟩
   . refine .inr ⟨hne,rfl,LG (by omega) (Nat.le_refl _) hn3 (v4.trans hN) (List.all_eq_true.2 fun p hp=>(i4 p hp).1) (fun p hp=>?_) fun q hq=>?_⟩
     . obtain⟨_,g2,y,g3,g4⟩:=i4 p hp
       rw[<- v3] at g3;exact⟨g2,y,(QC g3).symm,g4⟩
     . obtain⟨g1,g2⟩:=i3 q hq
       simp only[Wb,Bool.and_eq_true] at g1;rw[<- v2] at g2;exact⟨(QC g2).symm,Li g1.2,g1.1⟩
theorem jjg9 {E:Env} (hE:ZC E) {fuel:Nat} {body:Code} {S:Type} (inv:S->Prop) (μ:S->Nat) (hs xs ids:List Nat) (vals:S->List AV) (blks:S->List ABlk) {N n nh n' str:Nat} {e:Exit} {out:List (Nat × AV)} {mF:AMem}
 (hn1:n<=nh) (hn2:nh<=n') (hn3:n'<=ZR) {s0:S} (h0:inv s0) (hlen:∀s,hs.length=(vals s).length/\ids.length=(blks s).length) (hids:ids.all (Zc n n')=true)
 (hlow:∀s,inv s->((vals s).all (Wb n))=true/\∀b∈blks s,Zd n b)
 (step:∀s,inv s->∃p lp r,view (hs++xs) ids (fC E fuel body nh str ⟨ZQ N (hs.zip (vals s)),ids.zip (blks s),0,0,false,p,[],[],[],none,lp⟩)=some r/\XA n n' N hs xs ids inv μ vals blks e out mF s r):
 LoopV E.P body hs ids ((vals s0).map some) ((blks s0).map some) N n (ZQ N out) mF n' e none:=
 Pn hE (fuel:=fuel) (nh:=nh) (str:=str) inv μ hs xs ids vals blks hn1 hn2 hn3 h0 hlen hids (BL.refl _) hlow step
def KH:AC->AC->Bool
 | .v (.int k x),.v (.int k' y)=>decide (k=k')&&decide (x=y)
 | .v (.bool a),.v (.bool b)=>a==b
 |_,_=>false
theorem jjnk {x y:AC} (h:KH x y=true):x=y:=by
 unfold KH at h;split at h
 . simp only[Bool.and_eq_true,decide_eq_true_eq] at h;rw[h.1,h.2]
 . simp at h;rw[h]
 . cases h
def SS:List AC->List AC->Bool
 | [],[]=>true
 |x::r,y::q=>KH x y&&SS r q
 |_,_=>false
theorem EN:∀{l q:List AC},SS l q=true->l=q
 | [],[],_=>rfl
 | [],_::_,h=>by simp[SS] at h
 |_::_,[],h=>by simp[SS] at h
 |x::r,y::q,h=>by
  simp only[SS,Bool.and_eq_true] at h;rw[jjnk h.1,EN h.2]
def OP (x y:ABlk):Bool:=
 match x.cs,y.cs with
 | .lit l,.lit q=>SS l q&&(x.row==y.row&&(Nat.beq x.ty y.ty&&Nat.beq x.sz y.sz))
 |_,_=>false
theorem jjnj {x y:ABlk} (h:OP x y=true): {x with own:=false}=({y with own:=false}:ABlk):=by
 obtain⟨o,rw,t,s,c⟩:=x;obtain⟨o',rw',t',s',c'⟩:=y;unfold OP at h;split at h
 . rename_i l q h1 h2
   simp only at h1 h2;subst h1;subst h2
   simp only[Bool.and_eq_true,beq_iff_eq] at h;obtain⟨e1,e2,e3,e4⟩:=h;rw[EN e1,e2,Nat.eq_of_beq_eq_true e3,Nat.eq_of_beq_eq_true e4]
 . cases h
def WG (g m:AMem):Bool:=g.all fun p=>match ZY m p.1 with|some b=>!p.2.own&&OP b p.2|none=>false
def TW (β:Nm):Nm:=fun id=>if ZR<=id then β id else none
theorem Nt {C:Ctx} {β:Nm} {m m2 g:AMem} {w:World} (hr:Rel C β m2 w) (hs:Sub m m2) (hg:WG g m=true) (hlim:(g.all fun p=>Nat.ble ZR p.1)=true):Rel (ZG w) (TW β) g w:=by
 have hlk:∀id x,ZY g id=some x->ZR<=id/\x.own=false/\∃b,ZY m2 id=some b/\({b with own:=false}:ABlk)=x/\Xm x=false:=by
  intro id x hx;have hm:=Vn hx;have h1:=List.all_eq_true.1 hg _ hm;have h2:=List.all_eq_true.1 hlim _ hm;simp only at h1 h2;split at h1
  . rename_i b hb
    simp only[Bool.and_eq_true,Bool.not_eq_true'] at h1;have e:=jjnj h1.2;have ho:x= {x with own:=false}:=by rw[<- h1.1]
    refine⟨Nat.le_of_ble_eq_true h2,h1.1,b,hs _ _ hb,by rw[e,<- ho],?_⟩;have h3:=h1.2;unfold OP at h3;split at h3
    . rename_i l q _ hq;simp[Xm,hq]
    . cases h3
  . cases h1
 refine⟨rfl,rfl,rfl,Nat.le_refl _,Nat.le_refl _,fun _ _ _=>rfl,fun id x hx=>?_,fun id id' x x' L L' hx _ _ ho=>?_,fun k L hL=>?_,fun id x o hx ho=>?_⟩
 . obtain ⟨h1,h2,b,h3,h4,_⟩:=hlk id x hx
   obtain⟨L,hL,hb⟩:=hr.blk id b h3;subst h4;refine⟨L,by simp[TW,h1,hL],hb.sz,hb.lit,fun k j hi=>?_,hb.lt,fun h=>(by cases h),hb.arrl,hb.rowc⟩;obtain⟨g1,u,g2,g3,g4⟩:=hb.cells k j hi;obtain⟨_,_,b',h3',h4',_⟩:=hlk id _ hx;have hm:=Vn hx;have h5:=List.all_eq_true.1 hg _ hm;simp only at h5
   -- the cells are plain values
   split at h5
   . rename_i b2 hb2
     simp only[Bool.and_eq_true] at h5;have h6:=h5.2;unfold OP at h6;split at h6
     . rename_i l q hl hq
       have hplain:∀{l q:List AC},SS l q=true->∀x∈q,∃v,x= .v v:=by
        intro l
        induction l with
        | nil=>intro q h x hx;cases q with
          |nil=>cases hx
          |cons _ _=>simp[SS] at h
        | cons a r ih=>intro q h x hx;cases q with
          |nil=>simp[SS] at h
          |cons c q=>
           simp only[SS,Bool.and_eq_true] at h;rcases List.mem_cons.1 hx with rfl|hx
           . have:=h.1
             unfold KH at this;split at this
             . exact⟨_,rfl⟩
             . exact⟨_,rfl⟩
             . cases this
           . exact ih h.2 x hx
       simp only[Bool.and_eq_true] at h6;have hq:b.cs= .lit q:=hq;refine⟨g1,u,?_,g3,g4⟩;simp only[hq,Cs.get] at g2 ⊢
       have hgv:∃v,q.getD j ZV= .v v:=by
        simp only[List.getD]
        cases hj:q[j]? with
        |none=>exact⟨_,rfl⟩
        |some x=>exact hplain h6.1 x (List.mem_of_getElem? hj)
       obtain⟨v,hv⟩:=hgv;rw[hv] at g2 ⊢;exact g2
     . cases h6
   . cases h5
 . obtain⟨_,h2,_⟩:=hlk id x hx
   rw[h2] at ho;cases ho
 . have:TW β (Z2 k)=β (Z2 k):=by
    unfold TW;rw[if_pos (by unfold Z2 ZR;omega)]
   rw[this] at hL;exact hr.glob k L hL
 . obtain⟨_,_,_,_,_,h5⟩:=hlk id x hx
   simp[Xm,ho] at h5
def GZ (g:AMem):Yk
 | [],m,_=>match WG g m with|true=>some (.c (.v (.bool true)),[],0,[])|false=>none
 |_,_,_=>none
theorem So {w w':World} {β:Nm} {m:AMem} (h:Rel (ZG w) β m w'):Below w.heap.size w w':=⟨h.os,h.tape,h.output,h.size,fun b hb=>h.out b hb fun h=>h⟩
theorem jjo4 {E:Env} (hE:ZC E) {f:FuncId} {g:AMem} {k n str n':Nat} (hf:∃(fn:Func) (c:Code),E.P.funcs[f]? =some fn/\fn.body=some c) (hlim:(g.all fun p=>Nat.ble ZR p.1)=true) (hn:n'<=ZR)
 (h:ZB [] (ZM E (fC E k) f [] n str (stC g))=some (bo true,[],n',[],[])):ZA E.P f (GZ g):=by
 refine⟨hf,fun C β m m2 w args ib r news k' ob vs hct ho hs hr hfree hlim' hv=>?_⟩;unfold GZ at hct;split at hct
 . split at hct
   . rename_i hsub
     simp only[Option.some.injEq,Prod.mk.injEq] at hct;obtain⟨rfl,rfl,rfl,rfl⟩:=hct;cases hv;obtain⟨s',r1,r2,r3,r4⟩:=T7 h;refine(Xa hE r1 ⟨by rw[r3];simp[ZZ],by rw[r4];simp⟩ (C:=ZG w) (β:=TW β) (w:=w) (vs:=[]) rfl (Nt hr hs hsub hlim) (fun id h1 h2=>by unfold TW;rw[if_neg (by omega)])).mono ?_;rintro e w' ⟨β',v,rfl,_,_,hv,hr'⟩;cases hv;exact⟨β,_,rfl,Ext.refl _,fun _ _=>rfl,rfl,by rw[List.append_nil];exact hr.below (So hr')⟩
   . cases hct
 . cases hct
theorem QD {C:Ctx} {β:Nm} {m:AMem} {w:World} (h:Rel C β m w) (hno:∀id x,ZY m id=some x->x.own=false/\Xm x=false) {id:Nat} (hid:β id=none) (hg:∀g,id≠Z2 g) {y:ABlk} (hy:y.own=false) (hyo:Xm y=false) {L:Loc} (hk:YV C β w L y):
 Rel C (ZU β id L) (m++[(id,y)]) w/\∀i x,ZY (m++[(id,y)]) i=some x->x.own=false/\Xm x=false:=by
 have he:Ext β (ZU β id L):=Wq hid
 have hlk:∀i z,ZY (m++[(id,y)]) i=some z->ZY m i=some z/\i≠id\/i=id/\z=y:=by
  intro i z e;rw[TV] at e
  cases e':ZY m i with
  |some z'=>
   rw[e'] at e;obtain rfl:z'=z:=Option.some.inj e;refine .inl ⟨rfl,fun h'=>?_⟩;subst h';obtain⟨L,hL,_⟩:=h.blk i z' e';rw[hid] at hL;cases hL
  |none=>
   rw[e'] at e;simp only[VK] at e
   cases hb:Nat.beq id i with
   |true=>rw[hb] at e;cases e;exact .inr ⟨(Nat.eq_of_beq_eq_true hb).symm,rfl⟩
   |false=>rw[hb] at e;cases e
 have hown:∀i x,ZY (m++[(id,y)]) i=some x->x.own=false/\Xm x=false:=by
  intro i x e;rcases hlk i x e with⟨e1,_⟩|⟨_,rfl⟩
  . exact hno i x e1
  . exact⟨hy,hyo⟩
 refine⟨⟨h.os,h.tape,h.output,h.size,h.base,h.out,fun i z e=>?_,fun i i' z z' M M' e _ _ ho=>?_,fun g M e=>?_,fun i z o e ho=>?_⟩,hown⟩
 . rcases hlk i z e with⟨e1,_⟩|⟨rfl,rfl⟩
   . obtain⟨M,hM,hk'⟩:=h.blk i z e1
     exact⟨M,he i M hM,hk'.keep he (Nat.le_refl _) (fun _=>rfl)⟩
   . exact⟨L,W9,hk.keep he (Nat.le_refl _) (fun _=>rfl)⟩
 . rw[(hown i z e).1] at ho;cases ho
 . have:Z2 g≠id:=fun e=>hg g e.symm
   simp only[ZU,this,if_false] at e;exact h.glob g M e
 . have:=(hown i z e).2
   simp[Xm,ho] at this
def Zj (x:ABlk) (k j s:Nat):Nat->List AC:=
 match x.cs,k with
 | .arr _ f,0=>f
 |_,_=>YW x k j s
theorem jjnm (x:ABlk) (k j s:Nat):Zj x k j s=YW x k j s:=by
 unfold Zj;split
 . rename_i f h
   funext i;simp[YW,h]
 . rfl
def XH (s:Nat) (m:AMem):AC->Option (Nat × (Nat->List AC) × Bool)
 | .sl id k j n _=>
  match ZY m id with
  |some x=>match UW x k j s n with|some b=>some (n,Zj x k j s,b)|none=>none
  |none=>none
 | .v (.slice none 0 0)=>some (0,fun _=>[],true)
 |_=>none
theorem Uy {C :Ctx} {β:Nm} {m:AMem} {w:World} (hr:Rel C β m w) {s:Nat} (hs:0<s) {a:AC} {n:Nat} {F:Nat->List AC} (h:XH s m a=some (n,F,true)) {v:Value} (hv:γc β a=some v) (ty:Nat) {G:Nat->List Value}
 (hG:∀i,i<n->F i=(G i).map .v) (hGl:∀i,(G i).length=s) (C':Ctx) (β':Nm) (hC':C'=ZG w):
 ∃L,YV C' β' w L (XX ty s n G)/\∀β2:Nm,∀i,β2 i=some L->γc β2 (.sl i 0 0 n none)=some v:=by
 subst hC';unfold XH at h;split at h
 . rename_i id k j n' cap
   split at h
   . rename_i x hx
     split at h
     . rename_i b hb
       simp only[Option.some.injEq,Prod.mk.injEq,jjnm] at h;obtain⟨rfl,rfl,rfl⟩:=h;obtain⟨L,hL,hk⟩:=hr.blk id x hx;refine⟨⟨L.b,L.o+(k*L.s+j),s,cap.getD (L.cap-k),L.nil⟩,⟨rfl,fun l hl=>(by cases hl),fun k' j' hi=>?_,hk.lt,fun ho=>(by cases ho),fun q f hf i _=>(by cases hf;simp[hGl,XX]),fun ho=>(by cases ho)⟩,fun β2 i h2=>?_⟩
       . simp only[ABlk.inb,XX,Bool.and_eq_true] at hi
         have hi1:k'<n':=of_decide_eq_true hi.1;have hi2:j'+1<=s:=of_decide_eq_true hi.2
         have hget:∀u,γc β ((YW x k j s k').getD j' ZV)=some u->γc β' ((XX ty s n' G).cs.get k' j')=some u:=by
          intro u hu;rw[hG k' hi1] at hu;simp only[XX,Cs.get];have:j'<(G k').length:=by rw[hGl];omega
          simp only[List.getD,List.getElem?_map,List.getElem?_eq_getElem this,Option.map_some,Option.getD_some] at hu ⊢;exact hu
         cases hc:x.cs with
         | arr q f=>
          simp only[UW,hc] at hb;split at hb
          . rename_i hsz
            have hb:k+n'<=q:=of_decide_eq_true (Option.some.inj hb);obtain⟨g1,u,g2,g3,g4⟩:=hk.cells (k+k') j' (by simp only[ABlk.inb,hc,hsz.1,Bool.and_eq_true];exact⟨decide_eq_true (by omega),decide_eq_true hi2⟩);refine⟨g1,u,hget u ?_,g3,?_⟩
            . rw[hc] at g2
              simpa only[YW,hc,Cs.get] using g2
            . have e:L.o+(k*L.s+j)+(k'*s+j')=L.o+((k+k')*L.s+j'):=by
               rw[hk.sz,hsz.1,hsz.2,Nat.add_mul];omega
              simp only[e];exact g4
          . cases hb
         |lit l=>
          simp only[UW,hc] at hb;have hb:j+n'*s<=l.length:=of_decide_eq_true (Option.some.inj hb);have hz:=hk.lit l hc;have hle:(k'+1)*s<=n'*s:=Nat.mul_le_mul_right s hi1;rw[Nat.add_mul,Nat.one_mul] at hle;obtain⟨g1,u,g2,g3,g4⟩:=hk.cells k (j+(k'*s+j')) (by simp only[ABlk.inb,hc,hz];exact decide_eq_true (by omega));refine⟨g1,u,hget u ?_,g3,?_⟩
          . rw[hc] at g2
            simp only[YW,hc];simp only[Cs.get,List.getD] at g2 ⊢;rw[List.getElem?_take,if_pos (by omega),List.getElem?_drop,show j+k'*s+j'=j+(k'*s+j') by omega];exact g2
          . have e:L.o+(k*L.s+j)+(k'*s+j')=L.o+(k*L.s+(j+(k'*s+j'))):=by omega
            simp only[e];exact g4
         |obj o=>simp[UW,hc] at hb
       . simp only[γc,hL] at hv
         simp only[γc,h2];split at hv
         . rename_i hn
           rw[if_pos hn];split at hv
           . rename_i hz
             rw[if_pos ⟨hz.1,rfl⟩];exact hv
           . cases hv
         . rename_i hn
           rw[if_neg hn];simpa using hv
     . cases h
   . cases h
 . simp only[Option.some.injEq,Prod.mk.injEq] at h
   obtain⟨rfl,rfl,_⟩:=h;cases hv;refine⟨⟨0,0,s,0,true⟩,⟨rfl,fun l hl=>(by cases hl),fun k' j' hi=>?_,fun h=>(by cases h),fun ho=>(by cases ho),fun q f hf i hi=>(by cases hf;simp[hGl,XX]),fun ho=>(by cases ho)⟩,fun β2 i h2=>?_⟩
   . simp[ABlk.inb,XX] at hi
   . simp[γc,h2]
 . cases h
def Wy (β β1:Nm):List (Nat × Nat × ABlk)->Nm
 | [],id=>β id
 |(a,o,_)::r,id=>if id=a then β1 o else Wy β β1 r id
theorem ND {β β1:Nm}:∀{N:List (Nat × Nat × ABlk)} {id:Nat},(∀p∈N,p.1≠id)->Wy β β1 N id=β id
 | [],_,_=>rfl
 |(a,o,y)::r,id,h=>by
  have:id≠a:=fun e=>h (a,o,y) (by simp) e.symm
  simp only[Wy,this,if_false];exact ND fun p hp=>h p (List.mem_cons_of_mem _ hp)
theorem Rt {β β1:Nm}:∀{N:List (Nat × Nat × ABlk)} {p:Nat × Nat × ABlk},(N.map (·.1)).Nodup->p∈N->Wy β β1 N p.1=β1 p.2.1
 | (a,o,y)::r,p,hn,hp=>by
  simp only[List.map_cons,List.nodup_cons] at hn;rcases List.mem_cons.1 hp with rfl|hp
  . simp[Wy]
  . have:p.1≠a:=fun e=>hn.1 (by rw[<- e];exact List.mem_map_of_mem hp)
    simp only[Wy,this,if_false];exact Rt hn.2 hp
def Q1 (N:List (Nat × Nat × ABlk)):AMem:=N.map fun p=>(p.1,p.2.2)
theorem CK:∀{N:List (Nat × Nat × ABlk)} {id:Nat} {y:ABlk},ZY (Q1 N) id=some y->∃p∈N,p.1=id/\p.2.2=y
 | (a,o,z)::r,id,y,h=>by
  simp only[Q1,List.map_cons,VK] at h;split at h
  . rename_i hb
    cases h;exact⟨(a,o,_),List.mem_cons_self ..,Nat.eq_of_beq_eq_true hb,rfl⟩
  . obtain⟨p,h1,h2⟩:=CK (N:=r) h
    exact⟨p,List.mem_cons_of_mem _ h1,h2⟩
structure OutOk (β1 β':Nm) (m1:AMem) (o:Nat) (y:ABlk) (x:ABlk):Prop where
 lk:ZY m1 o=some x
 own:x.own=true
 obj:Xm x=false
 own':y.own=true
 row:y.row=x.row
 ty:y.ty=x.ty
 sz:y.sz=x.sz
 cs:(∃l l',x.cs= .lit l/\y.cs= .lit l'/\l'.length=l.length)\/∃q f,x.cs= .arr q f/\y.cs= .arr q f
 cells:∀k j,x.inb k (j+1)=true->∀u,γc β1 (x.cs.get k j)=some u->γc β' (y.cs.get k j)=some u
theorem OutOk.inb {β1 β':Nm} {m1:AMem} {o:Nat} {x y:ABlk} (h:OutOk β1 β' m1 o y x) (k j:Nat):y.inb k j=x.inb k j:=by
 rcases h.cs with⟨l,l',h1,h2,h3⟩|⟨q,f,h1,h2⟩<;>simp only[ABlk.inb,h1,h2,h.sz]
 rw[h3]
theorem jjjd {C:Ctx} {β β1:Nm} {m m1:AMem} {w w':World} (h:Rel C β m w) (hb:Below w.heap.size w w') (h1:Rel (ZG w) β1 m1 w') {N:List (Nat × Nat × ABlk)} (hnd:(N.map (·.1)).Nodup) (hnd2:∀p∈N,∀q∈N,p.2.1=q.2.1->p.1=q.1) (hfree:∀p∈N,β p.1=none/\∀g,p.1≠Z2 g)
 (hN:∀p∈N,∃x,OutOk β1 (Wy β β1 N) m1 p.2.1 p.2.2 x):
 Rel C (Wy β β1 N) (m++Q1 N) w'/\Ext β (Wy β β1 N):=by
 have hw':Rel C β m w':=h.below hb
 have he:Ext β (Wy β β1 N):=by
  intro id L hL;rw[ND fun p hp e=>?_]
  . exact hL
  . rw[<- e,(hfree p hp).1] at hL;cases hL
 refine⟨?_,he⟩
 have hlk:∀i y,ZY (m++Q1 N) i=some y->(ZY m i=some y/\∀p∈N,p.1≠i)\/∃p∈N,p.1=i/\p.2.2=y:=by
  intro i y e;rw[TV] at e
  cases e':ZY m i with
  |some z=>
   rw[e'] at e;obtain rfl:z=y:=Option.some.inj e;refine .inl ⟨rfl,fun p hp e2=>?_⟩;obtain⟨L,hL,_⟩:=h.blk i z e';rw[<- e2,(hfree p hp).1] at hL;cases hL
  |none=>rw[e'] at e;exact .inr (CK e)
 have hbase:C.base<=w.heap.size:=by have:=h.size;have:=h.base;omega
 -- an old block
 have old:∀i y,ZY m i=some y->(∀p∈N,p.1≠i)->∃L,Wy β β1 N i=some L/\β i=some L/\YV C β w' L y/\(L.nil=false->L.b<w.heap.size):=by
  intro i y e hp;obtain⟨L,hL,hk⟩:=hw'.blk i y e;obtain⟨L',hL',hk'⟩:=h.blk i y e;rw[hL] at hL';cases hL';exact⟨L,by rw[ND hp];exact hL,hL,hk,hk'.lt⟩
 -- a new one
 have new:∀p∈N,∃L x,Wy β β1 N p.1=some L/\β1 p.2.1=some L/\OutOk β1 (Wy β β1 N) m1 p.2.1 p.2.2 x/\YV (ZG w) β1 w' L x/\(L.nil=false->w.heap.size<=L.b):=by
  intro p hp;obtain⟨x,hx⟩:=hN p hp;obtain⟨L,hL,hk⟩:=h1.blk _ x hx.lk;refine⟨L,x,by rw[Rt hnd hp];exact hL,hL,hx,hk,fun hn=>?_⟩;obtain⟨_,h2,_⟩:=hk.own hx.own hn;rcases h2 with h2|h2
  . exact h2
  . exact h2.elim
 refine⟨hw'.os,hw'.tape,hw'.output,hw'.size,hw'.base,hw'.out,fun i y e=>?_,?_,?_,?_⟩
 . rcases hlk i y e with⟨e1,hne⟩|⟨p,hp,rfl,rfl⟩
   . obtain⟨L,g1,_,g3,_⟩:=old i y e1 hne
     exact⟨L,g1,g3.keep he (Nat.le_refl _) (fun _=>rfl)⟩
   . obtain⟨L,x,g1,g2,g3,g4,g5⟩:=new p hp
     refine⟨L,g1,by rw[g3.sz];exact g4.sz,fun l hl=>?_,fun k j hi=>?_,g4.lt,fun ho hn=>?_,fun q f hf i hi=>?_,fun hrw hn q f hf=>?_⟩
     . rcases g3.cs with⟨l1,l',h1,h2,h3⟩|⟨q,f,h1,h2⟩
       . rw[g3.sz];exact g4.lit _ h1
       . rw[h2] at hl;cases hl
     . rw[g3.inb] at hi
       obtain⟨a1,u,a2,a3,a4⟩:=g4.cells k j hi;exact⟨a1,u,g3.cells k j hi u a2,a3,a4⟩
     . obtain⟨a1,a2,cs,a3,a4⟩:=g4.own g3.own hn
       refine⟨a1,.inl (by have:=g5 hn;omega),cs,by rw[g3.ty];exact a3,fun hrw=>?_⟩;rw[g3.row] at hrw;obtain⟨b1,b2,q,f,b3,b4⟩:=a4 hrw;rw[g3.sz];refine⟨b1,b2,q,f,?_,b4⟩;rcases g3.cs with⟨l1,l',h1,h2,h3⟩|⟨q',f',h1,h2⟩
       . rw[h1] at b3;cases b3
       . rw[h1] at b3;cases b3;exact h2
     . rcases g3.cs with⟨l1,l',h1,h2,h3⟩|⟨q',f',h1,h2⟩
       . rw[h2] at hf;cases hf
       . rw[h2] at hf;cases hf;rw[g3.sz];exact g4.arrl _ _ h1 i hi
     . rw[g3.row] at hrw
       rcases g3.cs with⟨l1,l',h1,h2,h3⟩|⟨q',f',h1,h2⟩
       . rw[h2] at hf;cases hf
       . rw[h2] at hf;cases hf;exact g4.rowc hrw hn _ _ h1
 . intro i i' y y' M M' e e' hne ho hM hM' hn hn'
   rcases hlk i y e with⟨e1,q1⟩|⟨p,hp,rfl,rfl⟩
   . obtain⟨L,g1,g2,_,g4⟩:=old i y e1 q1
     rw[hM] at g1;cases g1;rcases hlk i' y' e' with⟨e2,q2⟩|⟨p',hp',rfl,rfl⟩
     . obtain⟨L',f1,f2,_,_⟩:=old i' y' e2 q2
       rw[hM'] at f1;cases f1;exact hw'.sep i i' y y' M M' e1 e2 hne ho g2 f2 hn hn'
     . obtain⟨L',x',f1,_,_,_,f5⟩:=new p' hp'
       rw[hM'] at f1;cases f1;have:=g4 hn;have:=f5 hn';omega
   . obtain⟨L,x,g1,g2,g3,g4,g5⟩:=new p hp
     rw[hM] at g1;cases g1;rcases hlk i' y' e' with⟨e2,q2⟩|⟨p',hp',rfl,rfl⟩
     . obtain⟨L',f1,_,_,f4⟩:=old i' y' e2 q2
       rw[hM'] at f1;cases f1;have:=g5 hn;have:=f4 hn';omega
     . obtain⟨L',x',f1,f2,f3,_,_⟩:=new p' hp'
       rw[hM'] at f1;cases f1;exact h1.sep p.2.1 p'.2.1 x x' M M' g3.lk f3.lk (fun e=>hne (hnd2 p hp p' hp' e)) g3.own g2 f2 hn hn'
 . intro g M e
   rw[ND fun p hp=>(hfree p hp).2 g] at e;exact h.glob g M e
 . intro i y o e ho
   rcases hlk i y e with⟨e1,q1⟩|⟨p,hp,rfl,rfl⟩
   . obtain⟨M,g1,g2,g3,g4,g5⟩:=hw'.objs i y o e1 ho
     refine⟨M,he i M g1,g2,g3,g4.keep he rfl,fun i' y' K r1 r2 r3 r4=>?_⟩;rcases hlk i' y' r2 with⟨e2,q2⟩|⟨p',hp',rfl,rfl⟩
     . obtain⟨L',f1,f2,_,_⟩:=old i' y' e2 q2
       rw[r3] at f1;cases f1;exact g5 i' y' K r1 e2 f2 r4
     . obtain⟨L',x',f1,_,_,_,f5⟩:=new p' hp'
       rw[r3] at f1;cases f1
       obtain⟨L0,hL0,_,f4⟩:∃L,β i=some L/\True/\(L.nil=false->L.b<w.heap.size):=by
        obtain⟨L,_,a2,_,a4⟩:=old i y e1 q1;exact⟨L,a2,trivial,a4⟩
       rw[hL0] at g1;cases g1;have:=f4 g2;have:=f5 r4;omega
   . obtain⟨L,x,_,_,g3,_,_⟩:=new p hp
     have:=g3.obj;rcases g3.cs with⟨l1,l',h1,h2,h3⟩|⟨q',f',h1,h2⟩
     . rw[h2] at ho;cases ho
     . rw[h2] at ho;cases ho
def Wi (N:Nat) (hs ids:List Nat) (vals:List AV) (blks:List ABlk) (p:List Dec) (lp:List (Option Zl)):St:=⟨ZQ N (hs.zip vals),ids.zip blks,0,0,false,p,[],[],[],none,lp⟩
def PE (n' N:Nat) (r:VC):Prop:=ZZ r.2.2.2.2.2.1/\r.2.2.2.2.2.2=[]/\r.2.2.2.2.1<=n'/\r.2.2.2.1=N
def Jq (n' N h:Nat) (vals:List AV) (blks:List ABlk) (r:VC):Prop:=PE n' N r/\r.1= .normal/\r.2.1.take h=vals.map some/\BL blks r.2.2.1
def Kr (n n' N:Nat) (ts ids:List Nat) (e:Exit) (out:List (Nat × AV)) (mF:AMem) (r:VC):Prop:=
 PE n' N r/\r.1=e/\(∀q∈out,Wb n q.2=true/\(q.1,some q.2)∈ts.zip r.2.1)/\∀p∈mF,Zc n n' p.1=true/\Zd n p.2/\∃y,(p.1,some y)∈ids.zip r.2.2.1/\BEq y p.2
theorem Rx {E:Env} (hE:ZC E) {fuel:Nat} {body:Code} (hs xs ids:List Nat) (vals:Nat->List AV) (blks:List ABlk) {N n nh n' str:Nat} {e:Exit} {out:List (Nat × AV)} {mF:AMem} (j:Nat)
 (hn1:n<=nh) (hn2:nh<=n') (hn3:n'<=ZR) (he:e≠ .normal) (hlen:∀k,hs.length=(vals k).length/\ids.length=blks.length) (hids:ids.all (Zc n n')=true) (hlow:∀k,k<=j->((vals k).all (Wb n))=true) (hb:∀b∈blks,Zd n b)
 (step:∀k,k<j->∃p r,view (hs++xs) ids (fC E fuel body nh str (Wi N hs ids (vals k) blks p []))=some r/\Jq n' N hs.length (vals (k+1)) blks r)
 (stop:∃p r,view (hs++xs) ids (fC E fuel body nh str (Wi N hs ids (vals j) blks p []))=some r/\Kr n n' N (hs++xs) ids e out mF r):
 LoopV E.P body hs ids ((vals 0).map some) (blks.map some) N n (ZQ N out) mF n' e none:=by
 refine jjg9 hE (fuel:=fuel) (nh:=nh) (str:=str) (S:=Nat) (fun k=>k<=j) (fun k=>j-k) hs xs ids vals (fun _=>blks) hn1 hn2 hn3 (s0:=0) (Nat.zero_le _) hlen hids (fun k hk=>⟨hlow k hk,hb⟩) fun k hk=>?_
 rcases Nat.lt_or_ge k j with h|h
 . obtain⟨p,r,h1,⟨g1,g2,g3,g4⟩,h3,h4,h5⟩:=step k h
   exact⟨p,[],r,h1,g1,g2,g3,g4,.inl ⟨h3,k+1,h,by show j-(k+1)<j-k;omega,h4,h5⟩⟩
 . obtain rfl:k=j:=by omega
   obtain⟨p,r,h1,⟨g1,g2,g3,g4⟩,h3,h4,h5⟩:=stop;exact⟨p,[],r,h1,g1,g2,g3,g4,.inr ⟨by rw[h3];exact he,h3,h4,h5⟩⟩
theorem Qv {n n' N:Nat} {ts ids:List Nat} {e:Exit} {r:VC} (h:PE n' N r) (he:r.1=e):Kr n n' N ts ids e [] [] r:=⟨h,he,(fun _ h=>by cases h),(fun _ h=>by cases h)⟩
theorem U4 {n n' N:Nat} {ts ids:List Nat} {e:Exit} {r:VC} {t:Nat} {v:AV} (h:PE n' N r) (he:r.1=e) (hv:Wb n v=true) (hm:(t,some v)∈ts.zip r.2.1):Kr n n' N ts ids e [(t,v)] [] r:=
 ⟨h,he,(fun q hq=>by rw[List.mem_singleton.1 hq];exact⟨hv,hm⟩),(fun _ h=>by cases h)⟩
theorem YK {o r:Bool} {t s n:Nat} {g:Nat->List AC} {k j:Nat}:ABlk.inb ⟨o,r,t,s,.arr n g⟩ k j=(decide (k<n)&&decide (j<=s)):=rfl
theorem WI {o r:Bool} {t s:Nat} {l:List AC} {k j:Nat}:ABlk.inb ⟨o,r,t,s,.lit l⟩ k j=decide (k*s+j<=l.length):=rfl
theorem Qn (n:Nat) (q:Nat->Bool):∃j,j<=n/\(∀i,i<j->q i=false)/\(j<n->q j=true):=by
 induction n with
 |zero=>exact⟨0,Nat.le_refl _,fun i h=>by omega,fun h=>by omega⟩
 |succ n ih=>
  obtain⟨j,h1,h2,h3⟩:=ih;rcases Nat.lt_or_ge j n with h|h
  . exact⟨j,by omega,h2,fun _=>h3 h⟩
  . obtain rfl:j=n:=by omega
    cases hq:q j with
    |true=>exact⟨j,by omega,h2,fun _=>hq⟩
    |false=>
     refine⟨j+1,Nat.le_refl _,fun i hi=>?_,fun h=>by omega⟩;by_cases e:i=j
     . rw[e];exact hq
     . exact h2 i (by omega)
abbrev Zb (ty n:Nat) (f:Nat->Int):ABlk:=XX ty 1 n fun i=>[.int .i64 (f i)]
def fA (F:Nat->List AC) (i:Nat):Int:=ZP ((F i).getD 0 ZV)
def Uo:List AC->Bool
 | [.v (.int .i64 _)]=>true
 |_=>false
theorem jjk1 {l:List AC} (h:Uo l=true):l=([.int .i64 (ZP (l.getD 0 ZV))]:List Value).map .v:=by
 unfold Uo at h;split at h
 . rfl
 . cases h
def ZE (n:Nat) (F:Nat->List AC):Bool:=(List.range n).all fun k=>Uo (F k)
theorem UZ {s:Nat} {m m2:AMem} (h:Sub m m2) {a:AC} {r:Nat × (Nat->List AC) × Bool} (e:XH s m a=some r):XH s m2 a=some r:=by
 unfold XH at e ⊢;split at e
 . split at e
   . rename_i x hx
     simp only[h _ _ hx];exact e
   . cases e
 . exact e
 . cases e
theorem S9 {n:Nat} {F:Nat->List AC} (h:ZE n F=true):∀i,i<n->F i=((fun i=>[Value.int .i64 (fA F i)]) i).map .v:=fun i hi=>jjk1 (List.all_eq_true.1 h i (by simpa using hi))
theorem El {C:Ctx} {β:Nm} {m2:AMem} {w:World} (hr:Rel C β m2 w) {a:AC} {n:Nat} {F:Nat->List AC} (hsl:XH 1 m2 a=some (n,F,true)) (hI:ZE n F=true) {v0:Value} (hv:γc β a=some v0) (ty:Nat):
 ∃L,Rel (ZG w) (ZU (fun _=>none) 0 L) [(0,Zb ty n (fA F))] w/\γc (ZU (fun _=>none) 0 L) (.sl 0 0 0 n none)=some v0:=by
 obtain⟨L,h1,h2⟩:=Uy hr Nat.one_pos hsl hv ty (S9 hI) (fun _=>rfl) (ZG w) (fun _=>none) rfl;exact⟨L,(QD (Se w) (fun _ _ h=>by cases h) rfl (fun g=>by unfold Z2;omega) rfl rfl h1).1,h2 _ 0 W9⟩
theorem NT {E:Env} (hE:ZC E) {f:FuncId} {C:Ctx} {β:Nm} {m m2:AMem} {w:World} (hs:Sub m m2) (hr:Rel C β m2 w) {a:AC} {n ib:Nat} {F:Nat->List AC} (hsl:XH 1 m a=some (n,F,true)) (hI:ZE n F=true)
 {restA:List AV} {vs:List Value} (hv:γt β (.c a::restA)=some vs) (hrest:∀(β1 β2:Nm) us,γt β1 restA=some us->γt β2 restA=some us) {res:AV} (hres:∀(β1 β2:Nm) u,γ β1 res=some u->γ β2 res=some u) {fuel str:Nat} (ty:Nat)
 (run:∃p lp r,ZB [] (ZM E (fC E fuel) f (.c (.sl 0 0 0 n none)::restA) 1000 str (XW [(0,Zb ty n (fA F))] p lp))=some r/\r.1=res/\r.2.2.1<=ZR/\ZZ r.2.2.2.1/\∀q∈r.2.2.2.2,q):
 Calls E.P f vs.toArray w (fun e w'=>∃β' v',e= .returned v'/\Ext β β'/\(∀id,id<ib\/ib+0<=id->β' id=β id)/\γ β' res=some v'/\Rel C β' (m2++[]) w'):=by
 obtain⟨p,lp,⟨v,b',n',ob,po⟩,hrun,hvr,hn,hob,hpo⟩:=run;obtain⟨s',r1,r2,r3,r4⟩:=T7 hrun;simp only[γt] at hv;split at hv
 . rename_i v0 us hv0 hus
   cases hv;obtain⟨L,hL1,hL2⟩:=El hr (UZ hs hsl) hI (v0:=v0) hv0 ty;refine(Xa hE r1 ⟨by rw[r3];exact hob,by rw[r4];exact hpo⟩ (C:=ZG w) (β:=ZU (fun _=>none) 0 L) (w:=w) (vs:=v0::us) ?_ hL1 (fun id h1 _=>?_)).mono ?_
   . simp only[γt,γ1,hL2,hrest _ (ZU (fun _=>none) 0 L) _ hus]
   . unfold ZU;rw[if_neg (by omega)]
   . rintro e w' ⟨β',u,rfl,_,_,hu,hr'⟩
     simp only at hvr;subst hvr;exact⟨β,u,rfl,Ext.refl _,fun _ _=>rfl,hres _ _ _ hu,by rw[List.append_nil];exact hr.below (So hr')⟩
 . cases hv
def UG:AC->Bool
 | .v _=>true
 |_=>false
def QJ:AV->Bool
 | .c x=>UG x
 | .agg l=>l.all UG
 |_=>false
def TH (l:List AV):Bool:=l.all QJ
theorem Da {x:AC} (h:UG x=true) {β1 β2:Nm} {u:Value} (e:γc β1 x=some u):γc β2 x=some u:=by
 cases x with
 |v x=>exact e
 |_=>cases h
theorem D9:∀{l:List AC},l.all UG=true->∀{β1 β2:Nm} {us:List Value},γs β1 l=some us->γs β2 l=some us
 | [],_,_,_,_,e=>e
 | x::r,h,β1,β2,us,e=>by
  simp only[List.all_cons,Bool.and_eq_true] at h;simp only[γs] at e ⊢
  cases hx:γc β1 x with
  |none=>rw[hx] at e;cases e
  |some u=>
   cases hr:γs β1 r with
   |none=>rw[hx,hr] at e;cases e
   |some us'=>rw[Da h.1 hx,D9 h.2 hr];rw[hx,hr] at e;exact e
theorem Hw {x:AV} (h:QJ x=true) {β1 β2:Nm} {u:Value} (e:γ1 β1 x=some u):γ1 β2 x=some u:=by
 cases x with
 |c x=>exact Da h e
 |agg l=>
  simp only[γ1] at e ⊢
  cases hl:γs β1 l with
  |none=>rw[hl] at e;cases e
  |some us=>rw[D9 h hl];rw[hl] at e;exact e
 |_=>cases h
theorem Lh:∀{l:List AV},TH l=true->∀{β1 β2:Nm} {us:List Value},γt β1 l=some us->γt β2 l=some us
 | [],_,_,_,_,e=>e
 | x::r,h,β1,β2,us,e=>by
  simp only[TH,List.all_cons,Bool.and_eq_true] at h;simp only[γt] at e ⊢
  cases hx:γ1 β1 x with
  |none=>rw[hx] at e;cases e
  |some u=>
   cases hr:γt β1 r with
   |none=>rw[hx,hr] at e;cases e
   |some us'=>rw[Hw h.1 hx,Lh (l:=r) h.2 hr];rw[hx,hr] at e;exact e
def XV:AV->Bool
 | .tup l=>TH l
 |x=>QJ x
theorem HK {x:AV} (h:XV x=true) (β1 β2:Nm) (u:Value) (e:γ β1 x=some u):γ β2 x=some u:=by
 cases x with
 |tup l=>
  simp only[γ] at e ⊢
  cases hl:γt β1 l with
  |none=>rw[hl] at e;cases e
  |some us=>rw[Lh h hl];rw[hl] at e;exact e
 |c x=>exact Hw (x:=.c x) h e
 |agg l=>exact Hw (x:=.agg l) h e
 |any=>cases h
theorem jjg6 (l:List Value):(l.map AC.v).all UG=true:=by simp[UG]
structure Rd (S:Type) where
 dec:List AV->AMem->Option (S × Bool)
 args:S->List AV
 mem:S->AMem
 ok:∀{C:Ctx} {β:Nm} {m m2:AMem} {w:World} {xs:List AV} {s:S} {vs:List Value},Sub m m2->Rel C β m2 w->dec xs m=some (s,true)->γt β xs=some vs->
  ∃β',Rel (ZG w) β' (mem s) w/\γt β' (args s)=some vs/\∀id,1000<=id->id<ZR->β' id=none
def Y9 {S:Type} (rd:Rd S) (R:S->AV) (pre:S->Bool):Yk:=fun xs m _=>
 match rd.dec xs m with
 |some (s,b)=>some (R s,[],0,[b,pre s])
 |none=>none
def Z6 (R:AV) (r:VF):Prop:=r.1=R/\r.2.2.1<=ZR/\ZZ r.2.2.2.1/\∀q∈r.2.2.2.2,q
theorem jjo5 {S:Type} {P:Program} {f:FuncId} (rd:Rd S) {R:S->AV} {pre:S->Bool} (hf:∃(fn:Func) (c:Code),P.funcs[f]? =some fn/\fn.body=some c) (hres:∀s,XV (R s)=true)
 (run:∀s,pre s=true->∃(E:Env) (fuel str:Nat),E.P=P/\ZC E/\∃p lp r,ZB [] (ZM E (fC E fuel) f (rd.args s) 1000 str (XW (rd.mem s) p lp))=some r/\Z6 (R s) r):ZA P f (Y9 rd R pre):=by
 refine⟨hf,fun C β m m2 w args ib r news k' ob vs hct ho hs hr hfree hlim hv=>?_⟩;unfold Y9 at hct;split at hct
 . rename_i s b hd
   simp only[Option.some.injEq,Prod.mk.injEq] at hct;obtain⟨rfl,rfl,rfl,rfl⟩:=hct;simp only[ZZ,List.forall_mem_cons] at ho;obtain⟨rfl,o2,_⟩:=ho;obtain⟨E,fuel,str,rfl,hE,p,lp,⟨v,b',n',ob,po⟩,hrun,hvr,hn,hob,hpo⟩:=run s o2;obtain⟨s',r1,r2,r3,r4⟩:=T7 hrun;have hn:n'<=ZR:=hn;obtain⟨β1,q1,q2,q3⟩:=rd.ok hs hr hd hv;refine(Xa hE r1 ⟨by rw[r3];exact hob,by rw[r4];exact hpo⟩ (C:=ZG w) (β:=β1) (w:=w) (vs:=vs) q2 q1 (fun id h1 h2=>q3 id h1 (by omega))).mono ?_;rintro e w' ⟨β',u,rfl,_,_,hu,hr'⟩;simp only at hvr;subst hvr;exact⟨β,u,rfl,Ext.refl _,fun _ _=>rfl,HK (hres s) _ _ _ hu,by rw[List.append_nil];exact hr.below (So hr')⟩
 . cases hct
theorem U3 {S:Type} {E:Env} (hE:ZC E) {f:FuncId} (rd:Rd S) {R:S->AV} {pre:S->Bool} (hf:∃(fn:Func) (c:Code),E.P.funcs[f]? =some fn/\fn.body=some c) (hres:∀s,XV (R s)=true) {fuel str:Nat}
 (run:∀s,pre s=true->∃p lp r,ZB [] (ZM E (fC E fuel) f (rd.args s) 1000 str (XW (rd.mem s) p lp))=some r/\Z6 (R s) r):ZA E.P f (Y9 rd R pre):=
 jjo5 rd hf hres fun s h=>⟨E,fuel,str,rfl,hE,run s h⟩
def X2 (G:AMem) (hG:(G.all fun p=>Nat.ble ZR p.1)=true):Rd (List AV) where
 dec:=fun xs m=>match TH xs,WG G m with|true,true=>some (xs,true)|_,_=>none
 args:=fun xs=>xs
 mem:=fun _=>G
 ok :=by
  intro C β m m2 w xs s vs hs hr hd hv;split at hd
  . rename_i h1 h2
    cases hd;exact⟨TW β,Nt hr hs h2 hG,Lh h1 hv,fun id _ h=>by unfold TW;rw[if_neg (by omega)]⟩
  . cases hd
theorem P2 {m:AMem} {id i:Nat} {y z:ABlk} (h:ZY (m++[(id,y)]) i=some z):ZY m i=some z\/(ZY m i=none/\i=id/\z=y):=by
 rw[TV] at h
 cases e:ZY m i with
 |some z'=>rw[e] at h;exact .inl h
 |none=>
  rw[e] at h;simp only[VK] at h
  cases hb:Nat.beq id i with
  |true=>rw[hb] at h;cases h;exact .inr ⟨rfl,(Nat.eq_of_beq_eq_true hb).symm,rfl⟩
  |false=>rw[hb] at h;cases h
theorem Cu {C:Ctx} {β:Nm} {m:AMem} {w:World} (h:Rel C β m w) {id:Nat} (hid:β id=none) (hg:∀g,id≠Z2 g) {y:ABlk} {f:Nat->List AC} (hy:y.cs= .arr 0 f):Rel C (ZU β id ⟨0,0,y.sz,0,true⟩) (m++[(id,y)]) w:=by
 have he:Ext β (ZU β id ⟨0,0,y.sz,0,true⟩):=Wq hid
 have hne:∀i x,ZY m i=some x->i≠id:=by
  intro i x e e2;subst e2;obtain⟨L,hL,_⟩:=h.blk i x e;rw[hid] at hL;cases hL
 have hold:∀i M,i≠id->ZU β id ⟨0,0,y.sz,0,true⟩ i=some M->β i=some M:=fun i M hi e=>by simpa[ZU,hi] using e
 refine⟨h.os,h.tape,h.output,h.size,h.base,h.out,fun i z e=>?_,fun i i' z z' M M' e e' hn ho hM hM' n1 n2=>?_,fun g M e=>?_,fun i z o e ho=>?_⟩
 . rcases P2 e with e|⟨_,rfl,rfl⟩
   . obtain⟨M,hM,hk⟩:=h.blk i z e
     exact⟨M,he i M hM,hk.keep he (Nat.le_refl _) (fun _=>rfl)⟩
   . refine⟨_,W9,rfl,fun l hl=>(by rw[hy] at hl;cases hl),fun k j hi=>(by simp[ABlk.inb,hy] at hi),fun h=>(by cases h),fun _ h=>(by cases h),fun n g hc i hi=>(by rw[hy] at hc;cases hc;omega),fun _ h=>(by cases h)⟩
 . rcases P2 e with e|⟨_,rfl,rfl⟩
   . rcases P2 e' with e'|⟨_,rfl,rfl⟩
     . exact h.sep i i' z z' M M' e e' hn ho (hold _ _ (hne i z e) hM) (hold _ _ (hne i' z' e') hM') n1 n2
     . rw[W9] at hM';cases hM';cases n2
   . rw[W9] at hM;cases hM;cases n1
 . exact h.glob g M (hold _ _ (fun e=>hg g e.symm) e)
 . rcases P2 e with e|⟨_,rfl,rfl⟩
   . obtain⟨M,g1,g2,g3,g4,g5⟩:=h.objs i z o e ho
     refine⟨M,he i M g1,g2,g3,g4.keep he rfl,fun i' z' K q1 q2 q3 q4=>?_⟩;rcases P2 q2 with q2|⟨_,rfl,rfl⟩
     . exact g5 i' z' K q1 q2 (hold _ _ (hne i' z' q2) q3) q4
     . rw[W9] at q3;cases q3;cases q4
   . rw[hy] at ho;cases ho
theorem D6 {C:Ctx} {β:Nm} {m:AMem} {w:World} {id:Nat} {x y:ABlk} (h:Rel C β (m++[(id,x)]) w) (hid:ZY m id=none) {f g:Nat->List AC} (hx:x.cs= .arr 0 f) (hy:y= {x with cs:=.arr 0 g}):Rel C β (m++[(id,y)]) w:=by
 subst hy;have lx:ZY (m++[(id,x)]) id=some x:=by rw[TV,hid];exact Tw _ _ _
 have conv:∀i z,ZY (m++[(id,({x with cs:=.arr 0 g}:ABlk))]) i=some z->∃z',ZY (m++[(id,x)]) i=some z'/\z'.own=z.own/\(z'=z\/(i=id/\z'=x/\z= {x with cs:=.arr 0 g})):=by
  intro i z e;rcases P2 e with e|⟨_,rfl,rfl⟩
  . exact⟨z,by rw[TV,e],rfl,.inl rfl⟩
  . exact⟨x,lx,rfl,.inr ⟨rfl,rfl,rfl⟩⟩
 refine⟨h.os,h.tape,h.output,h.size,h.base,h.out,fun i z e=>?_,fun i i' z z' M M' e e' hn ho hM hM' n1 n2=>?_,h.glob,fun i z o e ho=>?_⟩
 . obtain⟨z',h1,_,h3|⟨rfl,rfl,rfl⟩⟩:=conv i z e
   . subst h3;exact h.blk i z' h1
   . obtain⟨L,hL,hk⟩:=h.blk i z' h1
     refine⟨L,hL,hk.sz,fun l hl=>(by cases hl),fun k j hi=>(by simp[ABlk.inb] at hi),hk.lt,fun ho hn=>?_,fun n q hc i hi=>(by cases hc;omega),fun _ _ n q hc=>(by cases hc;exact Nat.zero_le _)⟩;obtain⟨a1,a2,cs,a3,a4⟩:=hk.own ho hn;refine⟨a1,a2,cs,a3,fun hr=>?_⟩;obtain⟨b1,b2,n,q,b3,b4⟩:=a4 hr;exact⟨b1,b2,0,g,rfl,Nat.zero_le _,b4.2⟩
 . obtain⟨u,h1,h2,_⟩:=conv i z e
   obtain⟨u',h1',_,_⟩:=conv i' z' e';exact h.sep i i' u u' M M' h1 h1' hn (by rw[h2];exact ho) hM hM' n1 n2
 . obtain⟨z',h1,_,h3|⟨rfl,rfl,rfl⟩⟩:=conv i z e
   . subst h3
     obtain⟨M,g1,g2,g3,g4,g5⟩:=h.objs i z' o h1 ho;refine⟨M,g1,g2,g3,g4,fun i' u K q1 q2 q3 q4=>?_⟩;obtain⟨u',k1,_,_⟩:=conv i' u q2;exact g5 i' u' K q1 k1 q3 q4
   . cases ho
structure Vw where
 inn:Nat->Bool
 miss:Nat->Int
 good:Nat->Int
 score:Nat->Int
 got:Nat->Bool
 command:Int
 mode:Int
def Vw.cells (v:Vw):List Value:=[.bool (v.inn 0),.bool (v.inn 1),.bool (v.inn 2),.bool (v.inn 3),.bool (v.inn 4),.bool (v.inn 5),.bool (v.inn 6),.bool (v.inn 7),.int .u8 (v.miss 0),.int .u8 (v.miss 1),.int .u8 (v.miss 2),.int .u8 (v.miss 3),.int .u8 (v.miss 4),.int .u8 (v.miss 5),.int .u8 (v.miss 6),.int .u8 (v.miss 7),.int .u8 (v.good 0),.int .u8 (v.good 1),.int .u8 (v.good 2),.int .u8 (v.good 3),.int .u8 (v.good 4),.int .u8 (v.good 5),.int .u8 (v.good 6),.int .u8 (v.good 7),.int .u16 (v.score 0),.int .u16 (v.score 1),.int .u16 (v.score 2),.int .u16 (v.score 3),.int .u16 (v.score 4),.int .u16 (v.score 5),.int .u16 (v.score 6),.int .u16 (v.score 7),.bool (v.got 0),.bool (v.got 1),.bool (v.got 2),.bool (v.got 3),.bool (v.got 4),.bool (v.got 5),.bool (v.got 6),.bool (v.got 7),.int .i8 v.command,.int .u8 v.mode]
theorem Vw.len (v:Vw):v.cells.length=42:=rfl
def Zi (l:List AC):Vw:=⟨fun i=>Zz (l.getD i ZV),fun i=>ZP (l.getD (8+i) ZV),fun i=>ZP (l.getD (16+i) ZV),fun i=>ZP (l.getD (24+i) ZV),fun i=>Zz (l.getD (32+i) ZV),ZP (l.getD 40 ZV),ZP (l.getD 41 ZV)⟩
def NX:List (Option IntKind)->List AC->Bool
 | [],[]=>true
 |none::ks,.v (.bool _)::r=>NX ks r
 |some k::ks,.v (.int q _)::r=>decide (q=k)&&NX ks r
 |_,_=>false
theorem VJ {ks:List (Option IntKind)} {l:List AC} (h:NX (none::ks) l=true):∃b r,l= .v (.bool b)::r/\NX ks r=true:=by
 unfold NX at h;split at h
 . rename_i e;cases e
 . rename_i e;cases e;exact⟨_,_,rfl,h⟩
 . rename_i e;cases e
 . cases h
theorem XJ {k:IntKind} {ks:List (Option IntKind)} {l:List AC} (h:NX (some k::ks) l=true):∃z r,l= .v (.int k z)::r/\NX ks r=true:=by
 unfold NX at h;split at h
 . rename_i e;cases e
 . rename_i e;cases e
 . rename_i e;cases e;simp only[Bool.and_eq_true,decide_eq_true_eq] at h;obtain⟨rfl,h⟩:=h;exact⟨_,_,rfl,h⟩
 . cases h
theorem Fz {l:List AC} (h:NX [] l=true):l=[]:=by
 cases l with
 |nil=>rfl
 |cons a r=>simp[NX] at h
def Ud:List (Option IntKind):=none::none::none::none::none::none::none::none::some .u8::some .u8::some .u8::some .u8::some .u8::some .u8::some .u8::some .u8::some .u8::some .u8::some .u8::some .u8::some .u8::some .u8::some .u8::some .u8::some .u16::some .u16::some .u16::some .u16::some .u16::some .u16::some .u16::some .u16::none::none::none::none::none::none::none::none::some .i8::some .u8::[]
abbrev ZX (v:Vw):List AC:=v.cells.map .v
def W7 (l:List AC):Bool:=NX Ud l
theorem Pj {l:List AC} (h:W7 l=true):l=(Zi l).cells.map .v:=by
 unfold W7 Ud at h;obtain⟨x0,l0,rfl,h_0⟩:=VJ h;obtain⟨x1,l1,rfl,h_1⟩:=VJ h_0;obtain⟨x2,l2,rfl,h_2⟩:=VJ h_1;obtain⟨x3,l3,rfl,h_3⟩:=VJ h_2;obtain⟨x4,l4,rfl,h_4⟩:=VJ h_3;obtain⟨x5,l5,rfl,h_5⟩:=VJ h_4;obtain⟨x6,l6,rfl,h_6⟩:=VJ h_5;obtain⟨x7,l7,rfl,h_7⟩:=VJ h_6;obtain⟨x8,l8,rfl,h_8⟩:=XJ h_7;obtain⟨x9,l9,rfl,h_9⟩:=XJ h_8;obtain⟨x10,l10,rfl,h_10⟩:=XJ h_9;obtain⟨x11,l11,rfl,h_11⟩:=XJ h_10;obtain⟨x12,l12,rfl,h_12⟩:=XJ h_11;obtain⟨x13,l13,rfl,h_13⟩:=XJ h_12;obtain⟨x14,l14,rfl,h_14⟩:=XJ h_13;obtain⟨x15,l15,rfl,h_15⟩:=XJ h_14;obtain⟨x16,l16,rfl,h_16⟩:=XJ h_15;obtain⟨x17,l17,rfl,h_17⟩:=XJ h_16;obtain⟨x18,l18,rfl,h_18⟩:=XJ h_17;obtain⟨x19,l19,rfl,h_19⟩:=XJ h_18;obtain⟨x20,l20,rfl,h_20⟩:=XJ h_19;obtain⟨x21,l21,rfl,h_21⟩:=XJ h_20;obtain⟨x22,l22,rfl,h_22⟩:=XJ h_21;obtain⟨x23,l23,rfl,h_23⟩:=XJ h_22;obtain⟨x24,l24,rfl,h_24⟩:=XJ h_23;obtain⟨x25,l25,rfl,h_25⟩:=XJ h_24;obtain⟨x26,l26,rfl,h_26⟩:=XJ h_25;obtain⟨x27,l27,rfl,h_27⟩:=XJ h_26;obtain⟨x28,l28,rfl,h_28⟩:=XJ h_27;obtain⟨x29,l29,rfl,h_29⟩:=XJ h_28;obtain⟨x30,l30,rfl,h_30⟩:=XJ h_29;obtain⟨x31,l31,rfl,h_31⟩:=XJ h_30;obtain⟨x32,l32,rfl,h_32⟩:=VJ h_31;obtain⟨x33,l33,rfl,h_33⟩:=VJ h_32;obtain⟨x34,l34,rfl,h_34⟩:=VJ h_33;obtain⟨x35,l35,rfl,h_35⟩:=VJ h_34;obtain⟨x36,l36,rfl,h_36⟩:=VJ h_35;obtain⟨x37,l37,rfl,h_37⟩:=VJ h_36;obtain⟨x38,l38,rfl,h_38⟩:=VJ h_37;obtain⟨x39,l39,rfl,h_39⟩:=VJ h_38;obtain⟨x40,l40,rfl,h_40⟩:=XJ h_39;obtain⟨x41,l41,rfl,h_41⟩:=XJ h_40;obtain rfl:=Fz h_41;rfl
theorem Vr (v:Vw):W7 (v.cells.map .v)=true:=rfl
def T4 (x:View):Vw:=⟨fun i=>Yo false x.inn i,fun i=>Yo 0 x.miss i,fun i=>Yo 0 x.good i,fun i=>Yo 0 x.score i,fun i=>Yo false x.got i,x.command,x.mode⟩
theorem Qp (x:View):(T4 x).cells=x.cells:=by rw[<- View.cellsE_eq];rfl
structure Vw.Ok (v:Vw):Prop where
 miss:∀i,i<8->0<=v.miss i/\v.miss i<=255
 good:∀i,i<8->0<=v.good i/\v.good i<=255
 score:∀i,i<8->0<=v.score i/\v.score i<=65535
 command: -128<=v.command/\v.command<=127
 mode:0<=v.mode/\v.mode<=255
structure Vw.Same (v u:Vw):Prop where
 inn:∀i,i<8->v.inn i=u.inn i
 miss:∀i,i<8->v.miss i=u.miss i
 good:∀i,i<8->v.good i=u.good i
 score:∀i,i<8->v.score i=u.score i
 got:∀i,i<8->v.got i=u.got i
 command:v.command=u.command
 mode:v.mode=u.mode
theorem L5 (v:Vw):(Zi (v.cells.map .v)).Same v:=by
 refine⟨?_,?_,?_,?_,?_,rfl,rfl⟩<;>(intro i hi;match i,hi with|0,_=>rfl|1,_=>rfl|2,_=>rfl|3,_=>rfl|4,_=>rfl|5,_=>rfl|6,_=>rfl|7,_=>rfl)
def Zy (f:Nat->Bool):Nat->Nat
 |0=>0
 |k+1=>Zy f k+(if f k then 1 else 0)
theorem NK (f:Nat->Bool):∀n,Zy f n<=n
 |0=>Nat.le_refl _
 |n+1=>by have:=NK f n;unfold Zy;split<;>omega
theorem Lc {f g:Nat->Bool}:∀{n:Nat},(∀i,i<n->f i=g i)->Zy f n=Zy g n
 |0,_=>rfl
 |n+1,h=>by unfold Zy;rw[h n (by omega),Lc fun i hi=>h i (by omega)]
theorem HR {f:Nat->Bool}:∀{n:Nat},Zy f n=0↔∀i,i<n->f i=false
 |0=>by simp[Zy]
 |n+1=>by
  unfold Zy;rw[Nat.add_eq_zero_iff,HR];constructor
  . rintro⟨h1,h2⟩ i hi
    by_cases e:i=n
    . subst e;cases h:f i<;>simp_all
    . exact h1 i (by omega)
  . intro h
    exact⟨fun i hi=>h i (by omega),by rw[h n (by omega)];rfl⟩
def Yx (x:Int):Int:=min x 99+1
def Yq (x:Int):Int:=min (min x 1000+8) 1000
def Yy (x:Int):Int:=max (min x 1000) 1-1
structure RN where
 np:Nat
 miss:Int
 good:Int
def Vc (g:RN) (i:Nat) (got:Bool) (m:Int):Int:=if i<g.np then (if got=true then 0 else Yx m) else m
def Vb (g:RN) (i:Nat) (got:Bool) (x:Int):Int:=if i<g.np then (if got=true then Yx x else 0) else x
def V8 (g:RN) (i:Nat) (got:Bool) (x:Int):Int:=if i<g.np then (if got=true then Yy x else Yq x) else x
def QX (g:RN) (i:Nat) (got:Bool):Bool:=if i<g.np then false else got
def Ub (g:RN) (i:Nat) (inn got:Bool) (m x:Int):Bool:=if i<g.np then (if inn=true then decide (Vc g i got m<g.miss) else decide (g.good<=Vb g i got x)) else inn
def Zh (g:RN) (v:Vw):Vw:=⟨fun i=>Ub g i (v.inn i) (v.got i) (v.miss i) (v.good i),fun i=>Vc g i (v.got i) (v.miss i),fun i=>Vb g i (v.got i) (v.good i),fun i=>V8 g i (v.got i) (v.score i),fun i=>QX g i (v.got i),v.command,v.mode⟩
def Ji (g:RN) (l:List AC):List AC:=.v (.bool (Ub g 0 (Zz (l.getD 0 ZV)) (Zz (l.getD 32 ZV)) (ZP (l.getD 8 ZV)) (ZP (l.getD 16 ZV)))):: .v (.bool (Ub g 1 (Zz (l.getD 1 ZV)) (Zz (l.getD 33 ZV)) (ZP (l.getD 9 ZV)) (ZP (l.getD 17 ZV)))):: .v (.bool (Ub g 2 (Zz (l.getD 2 ZV)) (Zz (l.getD 34 ZV)) (ZP (l.getD 10 ZV)) (ZP (l.getD 18 ZV)))):: .v (.bool (Ub g 3 (Zz (l.getD 3 ZV)) (Zz (l.getD 35 ZV)) (ZP (l.getD 11 ZV)) (ZP (l.getD 19 ZV)))):: .v (.bool (Ub g 4 (Zz (l.getD 4 ZV)) (Zz (l.getD 36 ZV)) (ZP (l.getD 12 ZV)) (ZP (l.getD 20 ZV)))):: .v (.bool (Ub g 5 (Zz (l.getD 5 ZV)) (Zz (l.getD 37 ZV)) (ZP (l.getD 13 ZV)) (ZP (l.getD 21 ZV)))):: .v (.bool (Ub g 6 (Zz (l.getD 6 ZV)) (Zz (l.getD 38 ZV)) (ZP (l.getD 14 ZV)) (ZP (l.getD 22 ZV)))):: .v (.bool (Ub g 7 (Zz (l.getD 7 ZV)) (Zz (l.getD 39 ZV)) (ZP (l.getD 15 ZV)) (ZP (l.getD 23 ZV)))):: .v (.int .u8 (Vc g 0 (Zz (l.getD 32 ZV)) (ZP (l.getD 8 ZV)))):: .v (.int .u8 (Vc g 1 (Zz (l.getD 33 ZV)) (ZP (l.getD 9 ZV)))):: .v (.int .u8 (Vc g 2 (Zz (l.getD 34 ZV)) (ZP (l.getD 10 ZV)))):: .v (.int .u8 (Vc g 3 (Zz (l.getD 35 ZV)) (ZP (l.getD 11 ZV)))):: .v (.int .u8 (Vc g 4 (Zz (l.getD 36 ZV)) (ZP (l.getD 12 ZV)))):: .v (.int .u8 (Vc g 5 (Zz (l.getD 37 ZV)) (ZP (l.getD 13 ZV)))):: .v (.int .u8 (Vc g 6 (Zz (l.getD 38 ZV)) (ZP (l.getD 14 ZV)))):: .v (.int .u8 (Vc g 7 (Zz (l.getD 39 ZV)) (ZP (l.getD 15 ZV)))):: .v (.int .u8 (Vb g 0 (Zz (l.getD 32 ZV)) (ZP (l.getD 16 ZV)))):: .v (.int .u8 (Vb g 1 (Zz (l.getD 33 ZV)) (ZP (l.getD 17 ZV)))):: .v (.int .u8 (Vb g 2 (Zz (l.getD 34 ZV)) (ZP (l.getD 18 ZV)))):: .v (.int .u8 (Vb g 3 (Zz (l.getD 35 ZV)) (ZP (l.getD 19 ZV)))):: .v (.int .u8 (Vb g 4 (Zz (l.getD 36 ZV)) (ZP (l.getD 20 ZV)))):: .v (.int .u8 (Vb g 5 (Zz (l.getD 37 ZV)) (ZP (l.getD 21 ZV)))):: .v (.int .u8 (Vb g 6 (Zz (l.getD 38 ZV)) (ZP (l.getD 22 ZV)))):: .v (.int .u8 (Vb g 7 (Zz (l.getD 39 ZV)) (ZP (l.getD 23 ZV)))):: .v (.int .u16 (V8 g 0 (Zz (l.getD 32 ZV)) (ZP (l.getD 24 ZV)))):: .v (.int .u16 (V8 g 1 (Zz (l.getD 33 ZV)) (ZP (l.getD 25 ZV)))):: .v (.int .u16 (V8 g 2 (Zz (l.getD 34 ZV)) (ZP (l.getD 26 ZV)))):: .v (.int .u16 (V8 g 3 (Zz (l.getD 35 ZV)) (ZP (l.getD 27 ZV)))):: .v (.int .u16 (V8 g 4 (Zz (l.getD 36 ZV)) (ZP (l.getD 28 ZV)))):: .v (.int .u16 (V8 g 5 (Zz (l.getD 37 ZV)) (ZP (l.getD 29 ZV)))):: .v (.int .u16 (V8 g 6 (Zz (l.getD 38 ZV)) (ZP (l.getD 30 ZV)))):: .v (.int .u16 (V8 g 7 (Zz (l.getD 39 ZV)) (ZP (l.getD 31 ZV)))):: .v (.bool (QX g 0 (Zz (l.getD 32 ZV)))):: .v (.bool (QX g 1 (Zz (l.getD 33 ZV)))):: .v (.bool (QX g 2 (Zz (l.getD 34 ZV)))):: .v (.bool (QX g 3 (Zz (l.getD 35 ZV)))):: .v (.bool (QX g 4 (Zz (l.getD 36 ZV)))):: .v (.bool (QX g 5 (Zz (l.getD 37 ZV)))):: .v (.bool (QX g 6 (Zz (l.getD 38 ZV)))):: .v (.bool (QX g 7 (Zz (l.getD 39 ZV)))):: .v (.int .i8 (ZP (l.getD 40 ZV))):: .v (.int .u8 (ZP (l.getD 41 ZV)))::[]
theorem jjlw (g:RN) (v:Vw):Ji g (ZX v)=ZX (Zh g v):=rfl
def RG (k:Nat) (a:Bool) (m x s:Int) (t:Bool) (u:Vw):Vw:=⟨fun i=>if i=k then a else u.inn i,fun i=>if i=k then m else u.miss i,fun i=>if i=k then x else u.good i,fun i=>if i=k then s else u.score i,fun i=>if i=k then t else u.got i,u.command,u.mode⟩
def Ou (h:Bool) (s:Int) (i:Nat) (got:Bool):Bool:=(decide (s=(i:Int))&&h)||got
def Qk (h:Bool) (s:Int) (v:Vw):Vw:={v with got:=fun i=>Ou h s i (v.got i)}
def KN (h:Bool) (s:Int) (l:List AC):List AC:=.v (.bool (Zz (l.getD 0 ZV))):: .v (.bool (Zz (l.getD 1 ZV))):: .v (.bool (Zz (l.getD 2 ZV))):: .v (.bool (Zz (l.getD 3 ZV))):: .v (.bool (Zz (l.getD 4 ZV))):: .v (.bool (Zz (l.getD 5 ZV))):: .v (.bool (Zz (l.getD 6 ZV))):: .v (.bool (Zz (l.getD 7 ZV))):: .v (.int .u8 (ZP (l.getD 8 ZV))):: .v (.int .u8 (ZP (l.getD 9 ZV))):: .v (.int .u8 (ZP (l.getD 10 ZV))):: .v (.int .u8 (ZP (l.getD 11 ZV))):: .v (.int .u8 (ZP (l.getD 12 ZV))):: .v (.int .u8 (ZP (l.getD 13 ZV))):: .v (.int .u8 (ZP (l.getD 14 ZV))):: .v (.int .u8 (ZP (l.getD 15 ZV))):: .v (.int .u8 (ZP (l.getD 16 ZV))):: .v (.int .u8 (ZP (l.getD 17 ZV))):: .v (.int .u8 (ZP (l.getD 18 ZV))):: .v (.int .u8 (ZP (l.getD 19 ZV))):: .v (.int .u8 (ZP (l.getD 20 ZV))):: .v (.int .u8 (ZP (l.getD 21 ZV))):: .v (.int .u8 (ZP (l.getD 22 ZV))):: .v (.int .u8 (ZP (l.getD 23 ZV))):: .v (.int .u16 (ZP (l.getD 24 ZV))):: .v (.int .u16 (ZP (l.getD 25 ZV))):: .v (.int .u16 (ZP (l.getD 26 ZV))):: .v (.int .u16 (ZP (l.getD 27 ZV))):: .v (.int .u16 (ZP (l.getD 28 ZV))):: .v (.int .u16 (ZP (l.getD 29 ZV))):: .v (.int .u16 (ZP (l.getD 30 ZV))):: .v (.int .u16 (ZP (l.getD 31 ZV))):: .v (.bool (Ou h s 0 (Zz (l.getD 32 ZV)))):: .v (.bool (Ou h s 1 (Zz (l.getD 33 ZV)))):: .v (.bool (Ou h s 2 (Zz (l.getD 34 ZV)))):: .v (.bool (Ou h s 3 (Zz (l.getD 35 ZV)))):: .v (.bool (Ou h s 4 (Zz (l.getD 36 ZV)))):: .v (.bool (Ou h s 5 (Zz (l.getD 37 ZV)))):: .v (.bool (Ou h s 6 (Zz (l.getD 38 ZV)))):: .v (.bool (Ou h s 7 (Zz (l.getD 39 ZV)))):: .v (.int .i8 (ZP (l.getD 40 ZV))):: .v (.int .u8 (ZP (l.getD 41 ZV)))::[]
theorem jjn6 (h:Bool) (s:Int) (v:Vw):KN h s (ZX v)=ZX (Qk h s v):=rfl
def SY (t:Nat->Bool) (i:Nat) (inn got:Bool) (m g s:Int):Bool:=(t i||(!inn&&(!got&&(decide (m=0)&&(decide (g=0)&&decide (s=0))))))&&(decide (m<=100)&&(decide (g<=100)&&decide (s<=1000)))
def U9 (t:Nat->Bool) (v:Vw) (p:Nat):Bool:=SY t p (v.inn p) (v.got p) (v.miss p) (v.good p) (v.score p)
def Sq (t:Nat->Bool) (l:List AC):Bool:=SY t 0 (Zz (l.getD 0 ZV)) (Zz (l.getD 32 ZV)) (ZP (l.getD 8 ZV)) (ZP (l.getD 16 ZV)) (ZP (l.getD 24 ZV))&&SY t 1 (Zz (l.getD 1 ZV)) (Zz (l.getD 33 ZV)) (ZP (l.getD 9 ZV)) (ZP (l.getD 17 ZV)) (ZP (l.getD 25 ZV))&&SY t 2 (Zz (l.getD 2 ZV)) (Zz (l.getD 34 ZV)) (ZP (l.getD 10 ZV)) (ZP (l.getD 18 ZV)) (ZP (l.getD 26 ZV))&&SY t 3 (Zz (l.getD 3 ZV)) (Zz (l.getD 35 ZV)) (ZP (l.getD 11 ZV)) (ZP (l.getD 19 ZV)) (ZP (l.getD 27 ZV))&&SY t 4 (Zz (l.getD 4 ZV)) (Zz (l.getD 36 ZV)) (ZP (l.getD 12 ZV)) (ZP (l.getD 20 ZV)) (ZP (l.getD 28 ZV))&&SY t 5 (Zz (l.getD 5 ZV)) (Zz (l.getD 37 ZV)) (ZP (l.getD 13 ZV)) (ZP (l.getD 21 ZV)) (ZP (l.getD 29 ZV))&&SY t 6 (Zz (l.getD 6 ZV)) (Zz (l.getD 38 ZV)) (ZP (l.getD 14 ZV)) (ZP (l.getD 22 ZV)) (ZP (l.getD 30 ZV))&&SY t 7 (Zz (l.getD 7 ZV)) (Zz (l.getD 39 ZV)) (ZP (l.getD 15 ZV)) (ZP (l.getD 23 ZV)) (ZP (l.getD 31 ZV))
theorem jjmr (t:Nat->Bool) (v:Vw):Sq t (ZX v)=(List.range 8).all (U9 t v):=by
 simp[Sq,U9,List.range,List.range.loop,Bool.and_assoc];rfl
theorem I4 (t:Nat->Bool) (v:Vw):Sq t (ZX v)=true↔∀p,p<8->U9 t v p=true:=by
 rw[jjmr,List.all_eq_true];constructor
 . intro h p hp;exact h p (List.mem_range.2 hp)
 . intro h p hp;exact h p (List.mem_range.1 hp)
def Xh (lt:Nat->Nat->Bool) (f:Nat->Nat) (x:Nat):Nat->Nat
 |0=>0
 |j+1=>if lt x (f j)=true then Xh lt f x j else j+1
def X9 (f:Nat->Nat) (i p:Nat) (t:Nat):Nat:=if t=p then f i else if p<t/\t<=i then f (t-1) else f t
def XY (lt:Nat->Nat->Bool) (f:Nat->Nat):Nat->Nat->Nat
 |0=>f
 |i+1=>X9 (XY lt f i) i (Xh lt (XY lt f i) (XY lt f i i) i)
theorem Dg (f:Nat->Nat) (i:Nat):X9 f i i=f:=by
 funext t;unfold X9;split
 . rename_i h;rw[h]
 . rw[if_neg (by omega)]
theorem Dz (lt:Nat->Nat->Bool) (f:Nat->Nat):XY lt f 1=f:=Dg f 0
theorem Em (lt:Nat->Nat->Bool) (f:Nat->Nat) (x:Nat):∀j,Xh lt f x j<=j
 |0=>Nat.le_refl _
 |j+1=>by
  unfold Xh;split
  . have:=Em lt f x j;omega
  . exact Nat.le_refl _
theorem D8 (lt:Nat->Nat->Bool) (f:Nat->Nat) (x:Nat):∀j,(Xh lt f x j=0\/lt x (f (Xh lt f x j-1))=false)/\∀t,Xh lt f x j<=t->t<j->lt x (f t)=true
 |0=>⟨.inl rfl,fun t _ h=>by omega⟩
 |j+1=>by
  obtain⟨h1,h2⟩:=D8 lt f x j;unfold Xh;split
  . rename_i h
    refine⟨h1,fun t a b=>?_⟩;by_cases e:t=j
    . rw[e];exact h
    . exact h2 t a (by omega)
  . rename_i h
    exact⟨.inr (by simpa using h),fun t a b=>by omega⟩
structure SrtI (lt:Nat->Nat->Bool) (f g:Nat->Nat) (i:Nat):Prop where
 AD:∀s t,s<t->t<i->lt (g t) (g s)=false
 keep:∀t,i<=t->g t=f t
 im:∀s,s<i->∃t,t<i/\g s=f t
 all:∀t,t<i->∃s,s<i/\g s=f t
theorem LJ {lt:Nat->Nat->Bool} (hA:∀a b,lt a b=true->lt b a=false) (hN:∀a b c,lt a b=false->lt b c=false->lt a c=false) (f:Nat->Nat):∀i,SrtI lt f (XY lt f i) i
 |0=>⟨fun _ _ _ h=>by omega,fun _ _=>rfl,fun _ h=>by omega,fun _ h=>by omega⟩
 | i + 1 => by
  obtain⟨h1,h2,h3,h4⟩:=LJ hA hN f i;obtain⟨g,hg⟩:∃g,g=XY lt f i:=⟨_,rfl⟩
  obtain⟨p,hp⟩:∃p,p=Xh lt g (g i) i:=⟨_,rfl⟩
  have e:XY lt f (i+1)=X9 g i p:=by rw[hp,hg];rfl
  rw[e];rw[<- hg] at h1 h2 h3 h4;have hle:p<=i:=by rw[hp];exact Em _ _ _ _
  obtain⟨q1,q2⟩:=D8 lt g (g i) i;rw[<- hp] at q1 q2;have ev:∀t,X9 g i p t=if t=p then g i else if p<t/\t<=i then g (t-1) else g t:=fun _=>rfl
  refine⟨fun s t hst hti=>?_,fun t ht=>?_,fun s hs=>?_,fun t ht=>?_⟩
  . rw[ev s,ev t]
    by_cases tp:t=p
    . rw[if_pos tp,if_neg (by omega),if_neg (by omega)]
      rcases q1 with q1|q1
      . omega
      . by_cases e1:s=p-1
        . rw[e1];exact q1
        . exact hN _ _ _ q1 (h1 s (p-1) (by omega) (by omega))
    . rw[if_neg tp]
      by_cases tg:p<t
      . rw[if_pos ⟨tg,by omega⟩]
        by_cases sp:s=p
        . rw[if_pos sp]
          exact hA _ _ (q2 (t-1) (by omega) (by omega))
        . rw[if_neg sp]
          by_cases sg:p<s
          . rw[if_pos ⟨sg,by omega⟩]
            exact h1 (s-1) (t-1) (by omega) (by omega)
          . rw[if_neg (by omega)]
            exact h1 s (t-1) (by omega) (by omega)
      . rw[if_neg (by omega),if_neg (by omega),if_neg (by omega)]
        exact h1 s t hst (by omega)
  . rw[ev t,if_neg (by omega),if_neg (by omega)]
    exact h2 t (by omega)
  . rw[ev s]
    by_cases sp:s=p
    . rw[if_pos sp]
      exact⟨i,by omega,h2 i (by omega)⟩
    . rw[if_neg sp]
      by_cases sg:p<s
      . rw[if_pos ⟨sg,by omega⟩]
        obtain⟨t,ht,he⟩:=h3 (s-1) (by omega);exact⟨t,by omega,he⟩
      . rw[if_neg (by omega)]
        obtain⟨t,ht,he⟩:=h3 s (by omega);exact⟨t,by omega,he⟩
  . by_cases ti:t=i
    . exact⟨p,by omega,by rw[ev p,if_pos rfl,ti];exact h2 i (by omega)⟩
    . obtain⟨s,hs,he⟩:=h4 t (by omega)
      by_cases sp:s<p
      . exact⟨s,by omega,by rw[ev s,if_neg (by omega),if_neg (by omega)];exact he⟩
      . exact⟨s+1,by omega,by rw[ev (s+1),if_neg (by omega),if_pos ⟨by omega,by omega⟩];exact he⟩
def WQ (v:Vw) (p q:Nat):Bool:=decide (v.score p<v.score q\/(v.score p=v.score q/\p<q))
theorem I9 {v:Vw} {a b:Nat} (h:WQ v a b=true):WQ v b a=false:=by
 unfold WQ at *;simp only[decide_eq_true_eq,decide_eq_false_iff_not] at *;omega
theorem HA {v:Vw} {a b c:Nat} (h1:WQ v a b=false) (h2:WQ v b c=false):WQ v a c=false:=by
 unfold WQ at *;simp only[decide_eq_false_iff_not] at *;omega
def WX (t:Nat->Bool):Nat->List Nat
 |0=>[]
 |k+1=>WX t k++if t k=true then[k] else[]
theorem Sc (t:Nat->Bool):∀k,(WX t k).length=Zy t k
 |0=>rfl
 |k+1=>by
  unfold WX Zy;rw[List.length_append,Sc t k];split<;>simp_all
theorem Nu (t:Nat->Bool) (p:Nat):∀k,p∈WX t k↔p<k/\t p=true
 |0=>by simp[WX]
 |k+1=>by
  unfold WX;rw[List.mem_append,Nu t p k];constructor
  . rintro (⟨h1,h2⟩|h)
    . exact⟨by omega,h2⟩
    . split at h
      . rename_i hk
        rw[List.mem_singleton.1 h];exact⟨by omega,hk⟩
      . cases h
  . rintro⟨h1,h2⟩
    by_cases e:p=k
    . right;subst e;rw[if_pos h2];exact List.mem_singleton.2 rfl
    . left;exact⟨by omega,h2⟩
theorem LQ {l:List Nat} {i:Nat} (h:i<l.length):l.getD i 0=l[i]:=by simp[List.getD,h]
def Wt (t:Nat->Bool) (k i:Nat):Nat:=(WX t k).getD i 0
def Vj (v:Vw) (t:Nat->Bool):Nat->Nat:=XY (WQ v) (Wt t 8) (Zy t 8)
def SA (v:Vw) (t:Nat->Bool):Int:=if Zy t 8=0 then -1 else (Vj v t 0:Int)
theorem jjgs {v:Vw} {t:Nat->Bool} (h:∀p,p<8->t p=false):SA v t= -1:=if_pos (HR.2 h)
theorem jjgr {v:Vw} {t:Nat->Bool} (h:∃p,p<8/\t p=true):∃b:Nat,b<8/\t b=true/\SA v t=b/\∀q,q<8->t q=true->WQ v q b=false:=by
 obtain⟨p,hp,ht⟩:=h;have hc:Zy t 8≠0:=fun e=>by rw[HR.1 e p hp] at ht;cases ht
 obtain⟨h1,_,h3,h4⟩:=LJ (lt:=WQ v) (fun _ _=>I9) (fun _ _ _=>HA) (Wt t 8) (Zy t 8)
 have hin:∀i,i<Zy t 8->Wt t 8 i∈WX t 8:=fun i hi=>by
  unfold Wt;rw[LQ (by rw[Sc];exact hi)];exact List.getElem_mem _
 obtain⟨i,hi,he⟩:=h3 0 (by omega);have hb:=(Nu t _ 8).1 (hin i hi);refine⟨Vj v t 0,?_,?_,if_neg hc,fun q hq hqt=>?_⟩
 . unfold Vj;rw[he];exact hb.1
 . unfold Vj;rw[he];exact hb.2
 . obtain⟨j,hj,hje⟩:=List.getElem_of_mem ((Nu t q 8).2 ⟨hq,hqt⟩)
   rw[Sc] at hj;have hq2:Wt t 8 j=q:=by unfold Wt;rw[LQ (by rw[Sc];exact hj)];exact hje
   obtain⟨s,hs,hse⟩:=h4 j hj;rw[hq2] at hse;by_cases e:s=0
   . unfold Vj
     rw[<- hse,e];unfold WQ;simp
   . have:=h1 0 s (by omega) hs
     rw[hse] at this;exact this
theorem jjqm {v:Vw} {t:Nat->Bool} {i:Nat} (hi:i<Zy t 8):Vj v t i<8:=by
 obtain⟨_,_,h3,_⟩:=LJ (lt:=WQ v) (fun _ _=>I9) (fun _ _ _=>HA) (Wt t 8) (Zy t 8);obtain⟨j,hj,he⟩:=h3 i hi;unfold Vj;rw[he]
 have:Wt t 8 j∈WX t 8:=by
  unfold Wt;rw[LQ (by rw[Sc];exact hj)];exact List.getElem_mem _
 exact((Nu t _ 8).1 this).1
theorem cnt8 (t:Nat->Bool):Zy t 8<=8:=NK t 8
def R1 {S:Type} (n n' N:Nat) (hs xs ids:List Nat) (inv:S->Prop) (μ:S->Nat) (vals:S->List AV) (blks:S->List ABlk) (e:Exit) (out:List (Nat × AV)) (mF:AMem) (s:S) (r:VC):Prop:=
 ZZ r.2.2.2.2.2.1/\(∀q∈r.2.2.2.2.2.2,q)/\r.2.2.2.2.1<=n'/\r.2.2.2.1=N/\
  ((r.1= .normal/\∃s',inv s'/\μ s'<μ s/\r.2.1.take hs.length=(vals s').map some/\BL (blks s') r.2.2.1)\/
   (r.1≠ .normal/\r.1=e/\(∀q∈out,Wb n q.2=true/\(q.1,some q.2)∈(hs++xs).zip r.2.1)/\∀p∈mF,Zc n n' p.1=true/\Zd n p.2/\∃y,(p.1,some y)∈ids.zip r.2.2.1/\BEq y p.2))
theorem CJ {E:Env} (hE:ZC E) {fuel:Nat} {body:Code} {S:Type} (inv:S->Prop) (μ:S->Nat) (hs xs ids:List Nat) (vals:S->List AV) (blks:S->List ABlk) {N n nh n' str:Nat} {e:Exit} {out:List (Nat × AV)} {mF:AMem}
 (hn1:n<=nh) (hn2:nh<=n') (hn3:n'<=ZR) {s0:S} (h0:inv s0) (hlen:∀s,hs.length=(vals s).length/\ids.length=(blks s).length) (hids:ids.all (Zc n n')=true) {eblks:List (Option ABlk)} (heb:BL (blks s0) eblks)
 (hlow:∀s,inv s->((vals s).all (Wb n))=true/\∀b∈blks s,Zd n b)
 (step:∀s,inv s->∃p lp r,view (hs++xs) ids (fC E fuel body nh str ⟨ZQ N (hs.zip (vals s)),ids.zip (blks s),0,0,false,p,[],[],[],none,lp⟩)=some r/\R1 n n' N hs xs ids inv μ vals blks e out mF s r):
 LoopV E.P body hs ids ((vals s0).map some) eblks N n (ZQ N out) mF n' e none:=by
 have kept:∀s,inv s->∀tm m,(∀q∈hs.zip (vals s),tm[q.1]? =some q.2)->(∀p∈ids.zip (blks s),∃y,ZY m p.1=some y/\BEq y p.2)->tm.length=N->Wk n nh n' tm m (ZQ N (hs.zip (vals s))) (ids.zip (blks s)):=by
  intro s hi tm m g1 g2 g3;obtain⟨l1,l2⟩:=hlow s hi;refine LG hn1 hn2 hn3 g3 (KU hids) (fun p hp=>⟨l2 _ (List.of_mem_zip hp).2,g2 p hp⟩) fun q hq=>?_
  have:=List.all_eq_true.1 l1 _ (List.of_mem_zip hq).2;simp only[Wb,Bool.and_eq_true] at this;exact⟨g1 q hq,Li this.2,this.1⟩
 refine Pd hE (fuel:=fuel) (str:=str) inv μ (fun s=>ZQ N (hs.zip (vals s))) (fun s=>ids.zip (blks s)) hn1 hn2 (fun _ h=>by cases h) h0 (fun tm m g1 g2 g3=>kept s0 h0 tm m (fun q hq=>?_) (fun p hp=>?_) g3) fun s hi=>?_
 . have:=OU hq
   rw[<- g1] at this;exact(QC this).symm
 . obtain⟨y,h1,h2⟩:=heb.mem p hp
   rw[<- g2] at h1;exact⟨y,(QC h1).symm,h2⟩
 . obtain⟨p,lp,⟨e',l,b,len,n1,ob,po⟩,hv,hob,hpo,hn,hN,hw⟩:=step s hi
   simp only at hob hpo hn hN hw;obtain⟨st,v1,v2,v3,v4,v6,v7,v8⟩:=P3 hv;refine⟨p,lp,e',n1,st,v1,hn,⟨by rw[v6];exact hob,by rw[v7];exact hpo⟩,v8,?_⟩;rcases hw with⟨rfl,s',i1,i2,i3,i4⟩|⟨hne,rfl,i3,i4⟩
   . refine .inl ⟨rfl,s',i1,i2,kept s' i1 _ _ (fun q hq=>?_) (fun p hp=>?_) (v4.trans hN)⟩
     . have h1:=OU hq
       rw[<- i3] at h1;have h2:(q.1,some q.2)∈(hs++xs).zip l:=Hi (Hj h1);rw[<- v2] at h2;exact(QC h2).symm
     . obtain⟨y,h1,h2⟩:=i4.mem p hp
       rw[<- v3] at h1;exact⟨y,(QC h1).symm,h2⟩
   . refine .inr ⟨hne,rfl,LG (by omega) (Nat.le_refl _) hn3 (v4.trans hN) (List.all_eq_true.2 fun p hp=>(i4 p hp).1) (fun p hp=>?_) fun q hq=>?_⟩
     . obtain⟨_,g2,y,g3,g4⟩:=i4 p hp
       rw[<- v3] at g3;exact⟨g2,y,(QC g3).symm,g4⟩
     . obtain⟨g1,g2⟩:=i3 q hq
       simp only[Wb,Bool.and_eq_true] at g1;rw[<- v2] at g2;exact⟨(QC g2).symm,Li g1.2,g1.1⟩
theorem jj9t {ids:List Nat} {blks:List ABlk} {p:Nat × ABlk} (h:p∈ids.zip blks):(p.1,some p.2)∈ids.zip (blks.map some):=by
 rw[List.zip_map_right];exact List.mem_map.2 ⟨p,h,rfl⟩
theorem Pi {n n':Nat} {ids:List Nat} {blks:List ABlk} {r:List (Option ABlk)} (hk:ids.all (Zc n n')=true) (hl:∀b∈blks,Zd n b) (hr:r=blks.map some):∀p∈ids.zip blks,Zc n n' p.1=true/\Zd n p.2/\∃y,(p.1,some y)∈ids.zip r/\BEq y p.2:=by
 intro p hp;subst hr;exact⟨List.all_eq_true.1 hk _ (List.of_mem_zip hp).1,hl _ (List.of_mem_zip hp).2,p.2,jj9t hp,BEq.refl _⟩
theorem jjq1 {β:Nm} {id n:Nat} {L:Loc} {v:Value} (h:β id=some L) (e:γc β (.sl id 0 0 n none)=some v) {β':Nm} {id':Nat} (h':β' id'=some L):γc β' (.sl id' 0 0 n none)=some v:=by
 simp only[γc,h] at e;simp only[γc,h'];exact e
theorem F4 {x:View} (h:x.Ok):(T4 x).Ok:=⟨fun i hi=>h.1 i hi,fun i hi=>h.2.1 i hi,fun i hi=>h.2.2.1 i hi,h.2.2.2.1,h.2.2.2.2⟩
theorem jjoi {C:Ctx} {β:Nm} {w:World} {L:Loc} {x y:ABlk} (hb:BEq y x) (hk:YV C β w L y):YV C β w L x:=by
 refine⟨by rw[hb.sz];exact hk.sz,fun l hl=>?_,fun k j hi=>?_,hk.lt,fun ho hn=>?_,fun q g hg i hi=>?_,fun hrw hn q g hg=>?_⟩
 . rcases hb.cs with⟨l',e1,e2⟩|⟨q,f,g,e1,e2,_⟩|⟨o,o'',e1,e2,_⟩
   . rw[hb.sz];exact hk.lit l' e1
   . rw[e2] at hl;cases hl
   . rw[e2] at hl;cases hl
 . have hi':=hi
   rw[Ix hb] at hi;obtain⟨g1,u,g2,g3,g4⟩:=hk.cells k j hi;refine⟨g1,u,?_,g3,g4⟩
   have e:x.cs.get k j=y.cs.get k j:=by
    rcases hb.cs with⟨l',e1,e2⟩|⟨q,f,g,e1,e2,e3⟩|⟨o,o'',e1,e2,_⟩
    . rw[e1,e2]
    rotate_left
    . simp only[e1,e2,Cs.get]
    . rw[e1,e2]
      have:k<q:=by
       simp only[ABlk.inb,e1,Bool.and_eq_true,decide_eq_true_eq] at hi;exact hi.1
      simp only[Cs.get];rw[e3 k this]
   rw[e];exact g2
 . rw[hb.own] at ho
   obtain⟨o1,o2,cs,o3,o4⟩:=hk.own ho hn;refine⟨o1,o2,cs,by rw[hb.ty];exact o3,fun hrw=>?_⟩;rw[hb.row] at hrw;obtain⟨r1,r2,q,f,r3,r4⟩:=o4 hrw;rcases hb.cs with⟨l',e1,e2⟩|⟨q',f',g,e1,e2,e3⟩|⟨o,o'',e1,e2,_⟩
   . rw[e1] at r3;cases r3
   rotate_left
   . rw[e1] at r3;cases r3
   . rw[e1] at r3
     cases r3;exact⟨by rw[hb.sz];exact r1,by rw[hb.sz];exact r2,_,g,e2,r4⟩
 . rcases hb.cs with⟨l',e1,e2⟩|⟨q',f',g',e1,e2,e3⟩|⟨o,o'',e1,e2,_⟩
   . rw[e2] at hg;cases hg
   rotate_left
   . rw[e2] at hg;cases hg
   . rw[e2] at hg
     cases hg;rw[<- e3 i hi,hb.sz];exact hk.arrl _ f' e1 i hi
 . rw[hb.row] at hrw
   rcases hb.cs with⟨l',e1,e2⟩|⟨q',f',g',e1,e2,e3⟩|⟨o,o'',e1,e2,_⟩
   . rw[e2] at hg;cases hg
   rotate_left
   . rw[e2] at hg;cases hg
   . rw[e2] at hg
     cases hg;exact hk.rowc hrw hn _ f' e1
theorem IS {x:ABlk} {o:AObj} (h:x.cs= .obj o):Xm x=true:=by unfold Xm;rw[h]
theorem DG {C:Ctx} {β:Nm} {m mF:AMem} {w:World} (hr:Rel C β m w) (h:∀id x,ZY mF id=some x->Xm x=false/\∃y,ZY m id=some y/\BEq y x):Rel C β mF w:=by
 refine⟨hr.os,hr.tape,hr.output,hr.size,hr.base,hr.out,fun id x hx=>?_,fun id id' x x' L L' hx hx' hne ho hL hL' hn hn'=>?_,hr.glob,fun id x o hx ho=>?_⟩
 . obtain⟨_,y,h1,h2⟩:=h id x hx
   obtain⟨L,hL,hk⟩:=hr.blk id y h1;exact⟨L,hL,jjoi h2 hk⟩
 . obtain⟨_,y,h1,h2⟩:=h id x hx
   obtain⟨_,y',h1',_⟩:=h id' x' hx';exact hr.sep id id' y y' L L' h1 h1' hne (by rw[<- h2.own];exact ho) hL hL' hn hn'
 . obtain⟨h0,_⟩:=h id x hx
   rw[IS ho] at h0;cases h0
def O6 (β:Nm) (m:AMem) (b:Nat):Prop:=∃id x L,ZY m id=some x/\x.own=true/\β id=some L/\L.nil=false/\L.b=b
theorem jjfy {C:Ctx} {β:Nm} {m:AMem} {w:World} (hr:Rel C β m w) (h:∀id x,ZY m id=some x->Xm x=false):Rel ⟨w,w.heap.size,O6 β m⟩ β m w:=by
 refine⟨rfl,rfl,rfl,Nat.le_refl _,Nat.le_refl _,fun _ _ _=>rfl,fun id x hx=>?_,hr.sep,hr.glob,fun id x o hx ho=>?_⟩
 . obtain⟨L,hL,hk⟩:=hr.blk id x hx
   refine⟨L,hL,hk.sz,hk.lit,hk.cells,hk.lt,fun ho hn=>?_,hk.arrl,hk.rowc⟩;obtain⟨o1,_,o3⟩:=hk.own ho hn;exact⟨o1,.inr ⟨id,x,L,hx,ho,hL,hn,rfl⟩,o3⟩
 . have:=h id x hx
   rw[IS ho] at this;cases this
theorem Lv {ids:List Nat}:∀{m:AMem} {id:Nat} {x:ABlk},ZY (RX ids m) id=some x->ZY m id=some x/\id∉ids
 | [],_,_,h=>by cases h
 | (i,b)::r,id,x,h=>by
  simp only[RX] at h
  cases hc:ids.any (Nat.beq i) with
  | true=>
   rw[hc] at h;obtain⟨h1,h2⟩:=Lv h;refine⟨?_,h2⟩;rw[VK]
   cases hb:Nat.beq i id with
   |true=>
    exfalso;obtain rfl:=Nat.eq_of_beq_eq_true hb;obtain⟨j,hj,e⟩:=List.any_eq_true.1 hc;obtain rfl:=Nat.eq_of_beq_eq_true e;exact h2 hj
   |false=>exact h1
  | false=>
   rw[hc] at h;simp only[VK] at h ⊢
   cases hb:Nat.beq i id with
   |true=>
    rw[hb] at h;refine⟨h,fun hm=>?_⟩;obtain rfl:=Nat.eq_of_beq_eq_true hb;rw[Bool.eq_false_iff] at hc;exact hc (List.any_eq_true.2 ⟨i,hm,hb⟩)
   |false=>rw[hb] at h;exact Lv h
theorem jjfz {C:Ctx} {β β':Nm} {m m0 mF:AMem} {w w':World} {ids:List Nat} {n n':Nat} (hr:Rel C β m w) (hF:Rel ⟨w,w.heap.size,O6 β m0⟩ β' mF w') (he:Ext β β')
 (h0:∀id x,ZY m0 id=some x->id∈ids/\∃y,ZY m id=some y/\y.own=x.own) (hi:∀id,id∈ids->∃x,ZY m0 id=some x) (hfree:∀id,n<=id->id<n'->β id=none)
 (hm:∀id x,ZY mF id=some x->Xm x=false/\((id∈ids/\∀y,ZY m0 id=some y->x.own=true->y.own=true)\/(n<=id/\id<n'/\x.own=true))):Rel C β' (mF++RX ids m) w':=by
 have hbs:C.base<=w.heap.size:=Nat.le_trans hr.base hr.size
 -- what may be written is not another block's
 have hS:∀id x L,ZY m id=some x->id∉ids->β id=some L->L.nil=false->¬O6 β m0 L.b:=by
  rintro id x L hx hni hL hn ⟨id0,x0,L0,g1,g2,g3,g4,g5⟩;obtain⟨q1,y,q2,q3⟩:=h0 id0 x0 g1;exact hr.sep id0 id y x L0 L q2 hx (fun e=>hni (e ▸ q1)) (by rw[q3];exact g2) g3 hL g4 hn g5
 have hkeep:∀id x L,ZY m id=some x->id∉ids->β id=some L->L.nil=false->w'.heap[L.b]? =w.heap[L.b]?:=fun id x L hx hni hL hn=>by
  obtain⟨L',e,hk⟩:=hr.blk id x hx;rw[hL] at e;cases e;exact hF.out L.b (hk.lt hn) (hS id x L hx hni hL hn)
 have hown:∀b,w.heap.size<=b\/O6 β m0 b->C.base<=b\/C.S b:=by
  rintro b (h|⟨id0,x0,L0,g1,g2,g3,g4,rfl⟩)
  . exact .inl (Nat.le_trans hbs h)
  . obtain⟨_,y,q2,q3⟩:=h0 id0 x0 g1
    obtain⟨L',e,hk⟩:=hr.blk id0 y q2;rw[g3] at e;cases e;exact(hk.own (by rw[q3];exact g2) g4).2.1
 have hlk:∀id x,ZY (mF++RX ids m) id=some x->ZY mF id=some x\/(ZY m id=some x/\id∉ids/\ZY mF id=none):=fun id x hx=>by
  rw[TV] at hx
  cases e:ZY mF id with
  |some z=>rw[e] at hx;exact .inl hx
  |none=>rw[e] at hx;exact .inr ⟨(Lv hx).1,(Lv hx).2,rfl⟩
 have hin:∀id L,id∈ids->β' id=some L->β id=some L:=fun id L h hL=>by
  obtain⟨x,hx⟩:=hi id h;obtain⟨_,y,q2,_⟩:=h0 id x hx;obtain⟨L',e,_⟩:=hr.blk id y q2;rw[he id L' e] at hL;rw[<- hL];exact e
 have hrest:∀id x L,ZY m id=some x->β' id=some L->β id=some L:=fun id x L hx hL=>by
  obtain⟨L',e,_⟩:=hr.blk id x hx;rw[he id L' e] at hL;rw[<- hL];exact e
 -- a block of the call's against one that stays
 have hsep:∀id1 id2 x1 x2 L1 L2,ZY mF id1=some x1->ZY m id2=some x2->id2∉ids->(x1.own=true\/x2.own=true)->β' id1=some L1->β' id2=some L2->L1.nil=false->L2.nil=false->L1.b≠L2.b:=by
  intro id1 id2 x1 x2 L1 L2 g1 g2 g3 g4 g5 g6 g7 g8;have e2:=hrest id2 x2 L2 g2 g6;obtain⟨L2',e2',hk2⟩:=hr.blk id2 x2 g2;rw[e2] at e2';cases e2';obtain⟨_,⟨k1,k2⟩|⟨_,_,k3⟩⟩:=hm id1 x1 g1
  . obtain⟨y0,hy0⟩:=hi id1 k1
    obtain⟨_,y,q2,q3⟩:=h0 id1 y0 hy0;have e1:=hin id1 L1 k1 g5;rcases g4 with g4|g4
    . exact hr.sep id1 id2 y x2 L1 L2 q2 g2 (fun e=>g3 (e ▸ k1)) (by rw[q3];exact k2 y0 hy0 g4) e1 e2 g7 g8
    . exact fun e=>hr.sep id2 id1 x2 y L2 L1 g2 q2 (fun e=>g3 (e ▸ k1)) g4 e2 e1 g8 g7 e.symm
  . obtain⟨L1',e1,hk1⟩:=hF.blk id1 x1 g1
    rw[g5] at e1;cases e1;obtain⟨_,o2,_⟩:=hk1.own k3 g7;rcases o2 with o2|o2
    . have:=hk2.lt g8
      have o2:w.heap.size<=L1.b:=o2;omega
    . exact fun e=>hS id2 x2 L2 g2 g3 e2 g8 (e ▸ o2)
 refine⟨hF.os.trans hr.os,hF.tape.trans hr.tape,hF.output.trans hr.output,Nat.le_trans hr.size hF.size,hr.base,fun b hb hnS=>?_,fun id x hx=>?_,fun id id' x x' L L' hx hx' hne ho hL hL' hn hn'=>?_,hF.glob,fun id x o hx ho=>?_⟩
 . rw[<- hr.out b hb hnS]
   exact hF.out b (Nat.lt_of_lt_of_le hb hbs) fun h=>by
    rcases hown b (.inr h) with h|h
    . omega
    . exact hnS h
 . rcases hlk id x hx with h|⟨h,hni,_⟩
   . obtain⟨L,hL,hk⟩:=hF.blk id x h
     refine⟨L,hL,hk.sz,hk.lit,hk.cells,hk.lt,fun ho hn=>?_,hk.arrl,hk.rowc⟩;obtain⟨o1,o2,o3⟩:=hk.own ho hn;exact⟨o1,hown _ o2,o3⟩
   . obtain⟨L,hL,hk⟩:=hr.blk id x h
     exact⟨L,he id L hL,hk.keep he hF.size fun hn=>hkeep id x L h hni hL hn⟩
 . rcases hlk id x hx with h|⟨h,hni,_⟩<;>rcases hlk id' x' hx' with h'|⟨h',hni',_⟩
   . exact hF.sep id id' x x' L L' h h' hne ho hL hL' hn hn'
   . exact hsep id id' x x' L L' h h' hni' (.inl ho) hL hL' hn hn'
   . exact fun e=>hsep id' id x' x L' L h' h hni (.inr ho) hL' hL hn' hn e.symm
   . exact hr.sep id id' x x' L L' h h' hne ho (hrest id x L h hL) (hrest id' x' L' h' hL') hn hn'
 . rcases hlk id x hx with h|⟨h,hni,_⟩
   . have:=(hm id x h).1
     rw[IS ho] at this;cases this
   . obtain⟨L,k1,k2,k3,k4,k5⟩:=hr.objs id x o h ho
     refine⟨L,he id L k1,k2,k3,k4.keep he (hkeep id x L h hni k1 k2),fun id' x' L' g1 g2 g3 g4=>?_⟩;rcases hlk id' x' g2 with q|⟨q,_,_⟩
     . obtain⟨_,⟨q1,_⟩|⟨_,_,q3⟩⟩:=hm id' x' q
       . obtain⟨y0,hy0⟩:=hi id' q1
         obtain⟨_,y,z2,_⟩:=h0 id' y0 hy0;exact k5 id' y L' g1 z2 (hin id' L' q1 g3) g4
       . obtain⟨L1,e1,hk1⟩:=hF.blk id' x' q
         rw[g3] at e1;cases e1;obtain⟨_,o2,_⟩:=hk1.own q3 g4;obtain⟨L0,e0,hk0⟩:=hr.blk id x h;rw[k1] at e0;cases e0;rcases o2 with o2|o2
         . have:=hk0.lt k2
           have o2:w.heap.size<=L'.b:=o2;omega
         . exact fun e=>hS id x L h hni k1 k2 (e ▸ o2)
     . exact k5 id' x' L' g1 q (hrest id' x' L' q g3) g4
def ON (n n':Nat) (ids:List Nat) (blks:List ABlk):AMem->Bool
 | []=>true
 |(i,x)::r=>!Xm x&&((match ZY (ids.zip blks) i with|some y=>!x.own||y.own|none=>Nat.ble n i&&(Nat.blt i n'&&x.own))&&ON n n' ids blks r)
theorem EP {n n':Nat} {ids:List Nat} {blks:List ABlk}:∀{mF:AMem},ON n n' ids blks mF=true->∀id x,ZY mF id=some x->Xm x=false/\((∃y,ZY (ids.zip blks) id=some y/\(x.own=true->y.own=true))\/(ZY (ids.zip blks) id=none/\n<=id/\id<n'/\x.own=true))
 | [],_,_,_,h=>by cases h
 | (i,b)::r,hb,id,x,h=>by
  simp only[ON,Bool.and_eq_true,Bool.not_eq_true'] at hb;obtain⟨h1,h2,h3⟩:=hb;simp only[VK] at h
  cases e:Nat.beq i id with
  |false=>rw[e] at h;exact EP h3 id x h
  |true=>
   rw[e] at h;obtain rfl:=Nat.eq_of_beq_eq_true e;cases h;refine⟨h1,?_⟩;split at h2
   . rename_i y hy
     refine .inl ⟨y,hy,fun ho=>?_⟩;simp only[Bool.or_eq_true,Bool.not_eq_true'] at h2;rcases h2 with h2|h2
     . rw[ho] at h2;cases h2
     . exact h2
   . rename_i hy
     simp only[Bool.and_eq_true,Nat.blt_eq] at h2;exact .inr ⟨hy,Nat.le_of_ble_eq_true h2.1,h2.2.1,h2.2.2⟩
theorem KT:∀{ids:List Nat} {blks:List ABlk} {id:Nat} {x:ABlk},ZY (ids.zip blks) id=some x->(id,x)∈ids.zip blks
 | [],_,_,_,h=>by cases h
 |_::_,[],_,_,h=>by cases h
 | i::is,b::bs,id,x,h=>by
  simp only[List.zip_cons_cons,VK] at h
  cases e:Nat.beq i id with
  |true=>
   rw[e] at h;obtain rfl:=Nat.eq_of_beq_eq_true e;cases h;exact List.mem_cons_self ..
  |false=>rw[e] at h;exact List.mem_cons_of_mem _ (KT h)
theorem Cw:∀{ids:List Nat} {blks:List ABlk},ids.length=blks.length->∀id,id∈ids->∃x,ZY (ids.zip blks) id=some x
 | [],_,_,_,h=>by cases h
 |_::_,[],h,_,_=>by cases h
 | i::is,b::bs,hl,id,h=>by
  simp only[List.zip_cons_cons,VK]
  cases e:Nat.beq i id with
  |true=>exact⟨b,rfl⟩
  |false=>
   rcases List.mem_cons.1 h with rfl|h
   . rw[Nat.beq_refl] at e;cases e
   . exact Cw (by simpa using hl) id h
def Y5:List AC->List AC->Bool
 | [],[]=>true
 | .v (.bool a)::r,.v (.bool b)::q=>(a==b)&&Y5 r q
 | .v (.int k a)::r,.v (.int l b)::q=>decide (k=l)&&(decide (a=b)&&Y5 r q)
 |_,_=>false
theorem I1:∀{l q:List AC},Y5 l q=true->l=q
 | [],[],_=>rfl
 | .v (.bool a)::r,.v (.bool b)::q,h=>by
  simp only[Y5,Bool.and_eq_true,beq_iff_eq] at h;rw[h.1,I1 h.2]
 | .v (.int k a)::r,.v (.int l b)::q,h=>by
  simp only[Y5,Bool.and_eq_true,decide_eq_true_eq] at h;rw[h.1,h.2.1,I1 h.2.2]
theorem I0:∀(l:List Value),(∀v∈l,(∃b,v= .bool b)\/∃k z,v= .int k z)->Y5 (l.map .v) (l.map .v)=true
 | [],_=>rfl
 |v::r,h=>by
  have ih:=I0 r fun x hx=>h x (List.mem_cons_of_mem _ hx)
  rcases h v (List.mem_cons_self ..) with⟨b,rfl⟩|⟨k,z,rfl⟩
  . simp[Y5,ih]
  . simp[Y5,ih]
def KF (g:Yk) (l:List AC):Yk:=fun xs m ib=>
 match g xs m ib with
 |some (.agg r,news,k,ob)=>some (.agg l,news,k,Y5 r l::ob)
 |_=>none
theorem EW {P:Program} {f:FuncId} {g:Yk} (l:List AC) (h:ZA P f g):ZA P f (KF g l):=by
 refine⟨h.1,fun C β m m2 w args ib r news k ob vs hct ho hs hr hfree hlim hv=>?_⟩;unfold KF at hct;split at hct
 . rename_i r' news' k' ob' hg
   simp only[Option.some.injEq,Prod.mk.injEq] at hct;obtain⟨rfl,rfl,rfl,rfl⟩:=hct;simp only[ZZ,List.forall_mem_cons] at ho;obtain⟨o1,o2⟩:=ho;obtain rfl:=I1 o1;exact h.2 C β m m2 w args ib _ _ _ _ vs hg o2 hs hr hfree hlim hv
 . cases hct
def Mo (p:Nat->Bool) (k:Nat):List Nat:=(List.range k).filter p
def XN (p:Nat->Bool) (k:Nat):Nat:=(Mo p k).length
def Va (p:Nat->Bool) (n j:Nat):Nat:=(Mo p n).getD j 0
theorem Lp (p:Nat->Bool) (k:Nat):Mo p (k+1)=Mo p k++if p k=true then[k] else[]:=by
 unfold Mo;rw[List.range_succ,List.filter_append];congr 1;cases h:p k<;>simp[h]
theorem LI {p:Nat->Bool} {k:Nat} (h:p k=true):XN p (k+1)=XN p k+1:=by
 unfold XN;rw[Lp,if_pos h];simp
theorem IN {p:Nat->Bool} {k:Nat} (h:p k=false):XN p (k+1)=XN p k:=by
 unfold XN;rw[Lp,if_neg (by simp[h])];simp
theorem NM (p:Nat->Bool) (k:Nat):XN p k<=k:=by
 have:=List.length_filter_le p (List.range k);simpa[XN,Mo] using this
theorem Dw (p:Nat->Bool) {k n:Nat} (h:k<=n):XN p k<=XN p n:=by
 induction n with
 | zero => obtain rfl:k=0:=by omega
           exact Nat.le_refl _
 |succ n ih=>
  by_cases e:k=n+1
  . subst e;exact Nat.le_refl _
  . refine Nat.le_trans (ih (by omega)) ?_
    cases hp:p n with
    |true=>rw[LI hp];omega
    |false=>rw[IN hp];exact Nat.le_refl _
theorem jjll {p:Nat->Bool} {n j:Nat} (h:j<XN p n):Va p n j<n/\p (Va p n j)=true:=by
 unfold Va XN at *;have:(Mo p n)[j]∈Mo p n:=List.getElem_mem h;rw[List.getD_eq_getElem?_getD,List.getElem?_eq_getElem h,Option.getD_some];unfold Mo at this ⊢;obtain⟨h1,h2⟩:=List.mem_filter.1 this;exact⟨by simpa using h1,h2⟩
theorem jjlj {p:Nat->Bool} {k j:Nat} (h:j<XN p k):Va p (k+1) j=Va p k j:=by
 unfold Va;rw[Lp,List.getD_eq_getElem?_getD,List.getElem?_append_left h,<- List.getD_eq_getElem?_getD]
theorem jjlk {p:Nat->Bool} {k:Nat} (h:p k=true):Va p (k+1) (XN p k)=k:=by
 unfold Va XN;rw[Lp,if_pos h,List.getD_eq_getElem?_getD,List.getElem?_append_right (Nat.le_refl _)];simp
theorem jjix {p:Nat->Bool} {k n j:Nat} (hk:k<=n) (h:j<XN p k):Va p n j=Va p k j:=by
 induction n with
 | zero => obtain rfl:k=0:=by omega
           rfl
 |succ n ih=>
  by_cases e:k=n+1
  . subst e;rfl
  . have:=Dw p (show k<=n by omega)
    rw[jjlj (by omega),ih (by omega)]
theorem F7 {p:Nat->Bool} {s n:Nat} (h:p s=true) (hs:s<n):Va p n (XN p s)=s/\XN p s<XN p n:=by
 have h1:XN p (s+1)=XN p s+1:=LI h;have h2:=Dw p (show s+1<=n by omega);exact⟨by rw[jjix (show s+1<=n by omega) (by omega),jjlk h],by omega⟩
section
variable {n nh n':Nat} {ρ:Rn} {tm1:List AV} {m1:AMem}
def CW (n nh n':Nat) (ρ:Rn) (a x:AC):Prop:=∀(β:Nm) (v:Value),γc β a=some v->γc (XL n nh n' ρ β) x=some v
theorem Fx {x:AC} (h:YI n x=true):CW n nh n' ρ x x:=fun _ _ e=>P9 h e
theorem Pk {a x:AC} (h:GW n nh n' ρ (.c a) (.c x)):CW n nh n' ρ a x:=fun β v e=>h β v e
def MemD (n nh n':Nat) (ρ:Rn) (m1:AMem) (id:Nat) (x:ABlk):Prop:=
 Ks n nh n' ρ m1 id x\/
 ((id<n\/n'<=id)/\∃y,ZY m1 id=some y/\y.own=x.own/\y.row=x.row/\y.ty=x.ty/\y.sz=x.sz/\∃l1 l2,y.cs= .lit l1/\x.cs= .lit l2/\l1.length=l2.length/\∀j,CW n nh n' ρ (l1.getD j ZV) (l2.getD j ZV))
theorem jjoy (h1:n<=nh) (h2:nh<=n') (h3:n'<=ZR) {N:Nat} {lv:List (Nat × AV)} {m2:AMem} (hlen:tm1.length=N) (hrn:VO n nh n' ρ m2=true) (hm:∀id x,ZY m2 id=some x->MemD n nh n' ρ m1 id x) (hf:B8 n nh n' ρ tm1 lv):
 Wk n nh n' tm1 m1 (ZQ N lv) m2:=by
 intro C β w tmps hfr hr
 have hgid:∀g,XL n nh n' ρ β (Z2 g)=β (Z2 g):=fun g=>by
  have:n'<=Z2 g:=by unfold Z2;unfold ZR at h3;omega
  simp[XL,this]
 -- a block's place
 have hpl:∀id x,ZY m2 id=some x->∃L,XL n nh n' ρ β id=some L/\YV C (XL n nh n' ρ β) w L x/\(L.nil=false->∃o y,Ym n nh n' ρ id=some o/\ZY m1 o=some y/\y.own=x.own/\β o=some L):=by
  intro id x hx
  have conv:∀(L:Loc) (y:ABlk),BEq y x->Zd n x->YV C β w L y->YV C (XL n nh n' ρ β) w L x:=by
   intro L y hb hlow hk;refine⟨by rw[hb.sz];exact hk.sz,fun l hl=>?_,fun k j hi=>?_,hk.lt,fun ho hn=>?_,fun q g hg i hi=>?_,fun hrw hn q g hg=>?_⟩
   . rcases hb.cs with⟨l',e1,e2⟩|⟨q,f,g,e1,e2,_⟩|⟨o,o'',e1,e2,_⟩
     . rw[hb.sz];exact hk.lit l' e1
     . rw[e2] at hl;cases hl
     . rw[e2] at hl;cases hl
   . have hlow':=hlow.1 k j hi
     have hi':=hi;rw[Ix hb] at hi;obtain⟨g1,u,g2,g3,g4⟩:=hk.cells k j hi;refine⟨g1,u,?_,g3,g4⟩
     have e:x.cs.get k j=y.cs.get k j:=by
      rcases hb.cs with⟨l',e1,e2⟩|⟨q,f,g,e1,e2,e3⟩|⟨o,o'',e1,e2,_⟩
      . rw[e1,e2]
      rotate_left
      . simp only[e1,e2,Cs.get]
      . rw[e1,e2]
        have:k<q:=by
         simp only[ABlk.inb,e1,Bool.and_eq_true,decide_eq_true_eq] at hi;exact hi.1
        simp only[Cs.get];rw[e3 k this]
     rw[e] at hlow' ⊢;exact P9 hlow' g2
   . rw[hb.own] at ho
     obtain⟨o1,o2,cs,o3,o4⟩:=hk.own ho hn;refine⟨o1,o2,cs,by rw[hb.ty];exact o3,fun hrw=>?_⟩;rw[hb.row] at hrw;obtain⟨r1,r2,q,f,r3,r4⟩:=o4 hrw;rcases hb.cs with⟨l',e1,e2⟩|⟨q',f',g,e1,e2,e3⟩|⟨o,o'',e1,e2,_⟩
     . rw[e1] at r3;cases r3
     rotate_left
     . rw[e1] at r3;cases r3
     . rw[e1] at r3
       cases r3;exact⟨by rw[hb.sz];exact r1,by rw[hb.sz];exact r2,_,g,e2,r4⟩
   . rcases hb.cs with⟨l',e1,e2⟩|⟨q',f',g',e1,e2,e3⟩|⟨o,o'',e1,e2,_⟩
     . rw[e2] at hg;cases hg
     rotate_left
     . rw[e2] at hg;cases hg
     . rw[e2] at hg
       cases hg;rw[<- e3 i hi,hb.sz];exact hk.arrl _ f' e1 i hi
   . rw[hb.row] at hrw
     rcases hb.cs with⟨l',e1,e2⟩|⟨q',f',g',e1,e2,e3⟩|⟨o,o'',e1,e2,_⟩
     . rw[e2] at hg;cases hg
     rotate_left
     . rw[e2] at hg;cases hg
     . rw[e2] at hg
       cases hg;exact hk.rowc hrw hn _ f' e1
  rcases hm id x hx with (⟨c1,c2,c3⟩|⟨c1,c2,o,y,c3,c4,c5,c6⟩|⟨c1,c2,c3,c4,f,c5⟩|⟨c1,y,c4,c5,c6⟩)|⟨c1,y,c4,k1,k2,k3,k4,l1,l2,k5,k6,k7,k8⟩
  rotate_left 4
  . obtain⟨L,hL,hk⟩:=hr.blk id y c4
    refine⟨L,by simp[XL,c1,hL],⟨by rw[<- k4];exact hk.sz,fun l hl=>?_,fun k j hi=>?_,hk.lt,fun ho hn=>?_,fun q g hg=>(by rw[k6] at hg;cases hg),fun _ _ q g hg=>(by rw[k6] at hg;cases hg)⟩,fun hn=>⟨id,y,?_,c4,k1,hL⟩⟩
    . rw[<- k4];exact hk.lit l1 k5
    . have hi':y.inb k (j+1)=true:=by
       rw[<- hi];simp only[ABlk.inb,k5,k6,k4,k7]
      obtain⟨g1,u,g2,g3,g4⟩:=hk.cells k j hi';refine⟨g1,u,?_,g3,g4⟩;rw[k5] at g2;rw[k6];simp only[Cs.get] at g2 ⊢;exact k8 _ β u g2
    . rw[<- k1] at ho
      obtain⟨o1,o2,cs,o3,o4⟩:=hk.own ho hn;refine⟨o1,o2,cs,by rw[<- k3];exact o3,fun hrw=>?_⟩;rw[<- k2] at hrw;obtain⟨_,_,q,f,r3,_⟩:=o4 hrw;rw[k5] at r3;cases r3
    . unfold Ym
      have:(Nat.blt id n||Nat.ble n' id)=true:=by
       rcases c1 with h|h
       . have:Nat.blt id n=true:=by rw[Nat.blt_eq];exact h
         rw[this];rfl
       . rw[Nat.ble_eq_true_of_le h,Bool.or_true]
      rw[this]
  rotate_left 3
  . obtain⟨L,hL,hk⟩:=hr.blk id y c4
    refine⟨L,by simp[XL,c1,hL],conv L y c5 c6 hk,fun hn=>⟨id,y,?_,c4,c5.own.symm,hL⟩⟩;unfold Ym
    have:(Nat.blt id n||Nat.ble n' id)=true:=by
     rcases c1 with h|h
     . have:Nat.blt id n=true:=by rw[Nat.blt_eq];exact h
       rw[this];rfl
     . rw[Nat.ble_eq_true_of_le h,Bool.or_true]
    rw[this]
  . obtain⟨L,hL,hk⟩:=hr.blk id x c2
    refine⟨L,by simp[XL,c1,hL],conv L x (BEq.refl x) c3 hk,fun hn=>⟨id,x,?_,c2,rfl,hL⟩⟩;unfold Ym
    have:(Nat.blt id n||Nat.ble n' id)=true:=by
     rcases c1 with h|h
     . have:Nat.blt id n=true:=by rw[Nat.blt_eq];exact h
       rw[this];rfl
     . rw[Nat.ble_eq_true_of_le h,Bool.or_true]
    rw[this]
  . obtain⟨L,hL,hk⟩:=hr.blk o y c4
    have hnot:¬(id<n\/n'<=id):=by omega
    refine⟨L,by simp[XL,hnot,c2,c3,hL],conv L y c5 c6 hk,fun hn=>⟨o,y,?_,c4,c5.own.symm,hL⟩⟩;unfold Ym
    have:(Nat.blt id n||Nat.ble n' id)=false:=by
     rw[Bool.or_eq_false_iff];refine⟨?_,?_⟩
     . rw[Bool.eq_false_iff];intro h;rw[Nat.blt_eq] at h;omega
     . rw[Bool.eq_false_iff];intro h;have:=Nat.le_of_ble_eq_true h;omega
    rw[this,c3]
  . have hnot:¬(id<n\/n'<=id):=by omega
    refine⟨⟨0,0,x.sz,0,true⟩,by simp[XL,hnot,c2,c3],⟨rfl,fun l hl=>(by rw[c5] at hl;cases hl),fun k j hi=>?_,fun h=>(by cases h),fun _ h=>(by cases h),fun q g hg i hi=>?_,fun _ h=>(by cases h)⟩,fun h=>(by cases h)⟩
    . simp[ABlk.inb,c5] at hi
    . rw[c5] at hg;cases hg;omega
 refine⟨XL n nh n' ρ β,fun id hid=>by simp[XL,hid],fun id hid1 hid2=>?_,⟨?_,fun t av ht=>?_⟩,hr.os,hr.tape,hr.output,hr.size,hr.base,hr.out,fun id x hx=>?_,?_,fun g L hL=>hr.glob g L (by rw[hgid g] at hL;exact hL),fun id x ob hx hxo=>?_⟩
 . have:¬(id<n\/n'<=id):=by omega
   simp[XL,this,show ¬id<nh by omega]
 . rw[ZQ,Hk,<- hlen];exact hfr.1
 . rw[ZQ,HL,Nat.zero_add] at ht
   split at ht
   . cases ht
     rcases @Iw lv t with h|h
     . exact .inl h
     . obtain⟨a1,e1,e2,e3⟩:=IK hf h
       rcases hfr.2 t a1 e1 with h4|⟨v,h4,h5⟩
       . exact absurd h4 e2
       . exact .inr ⟨v,e3 β v h4,h5⟩
   . cases ht
 . obtain⟨L,hL,hk,_⟩:=hpl id x hx
   exact⟨L,hL,hk⟩
 . intro id id' x x' L L' hx hx' hne ho hL hL' hn hn'
   obtain⟨M,hM,_,hM2⟩:=hpl id x hx;rw[hL] at hM;cases hM;obtain⟨M',hM',_,hM2'⟩:=hpl id' x' hx';rw[hL'] at hM';cases hM';obtain⟨o,y,o1,o2,o3,o4⟩:=hM2 hn;obtain⟨o',y',p1,p2,p3,p4⟩:=hM2' hn'
   have hoo:o≠o':=fun e=>by
    subst e;exact Ng hrn hx hx' hne _ o1 p1
   exact hr.sep o o' y y' L L' o2 p2 hoo (by rw[o3];exact ho) o4 p4 hn hn'
 . obtain ⟨oi,y,q1,q2,q3,q4,q5⟩:∃oi y,Ym n nh n' ρ id=some oi/\ZY m1 oi=some y/\(∃ob',y.cs= .obj ob'/\OLe ob' ob)/\Po n ob=true/\XL n nh n' ρ β id=β oi:=by
    rcases hm id x hx with (⟨c1,c2,c3⟩|⟨c1,c2,o,y,c3,c4,c5,c6⟩|⟨c1,c2,c3,c4,f,c5⟩|⟨c1,y,c4,c5,c6⟩)|⟨c1,y,c4,k1,k2,k3,k4,l1,l2,k5,k6,k7,k8⟩
    rotate_left 4
    . rw[k6] at hxo;cases hxo
    rotate_left 3
    . refine⟨id,y,?_,c4,?_,c6.2 ob hxo,by simp[XL,c1]⟩
      . unfold Ym
        have:(Nat.blt id n||Nat.ble n' id)=true:=by
         rcases c1 with h|h
         . have:Nat.blt id n=true:=by rw[Nat.blt_eq];exact h
           rw[this];rfl
         . rw[Nat.ble_eq_true_of_le h,Bool.or_true]
        rw[this]
      . rcases c5.cs with⟨l,e1,e2⟩|⟨q,f,g,e1,e2,_⟩|⟨o',o2,e1,e2,e3⟩
        . rw[hxo] at e2;cases e2
        . rw[hxo] at e2;cases e2
        . rw[hxo] at e2;cases e2;exact⟨_,e1,e3⟩
    . refine⟨id,x,?_,c2,⟨_,hxo,OLe.refl _⟩,c3.2 ob hxo,by simp[XL,c1]⟩
      unfold Ym
      have:(Nat.blt id n||Nat.ble n' id)=true:=by
       rcases c1 with h|h
       . have:Nat.blt id n=true:=by rw[Nat.blt_eq];exact h
         rw[this];rfl
       . rw[Nat.ble_eq_true_of_le h,Bool.or_true]
      rw[this]
    . have hnot:¬(id<n\/n'<=id):=by omega
      refine⟨o,y,?_,c4,?_,c6.2 ob hxo,by simp[XL,hnot,c2,c3]⟩
      . unfold Ym
        have:(Nat.blt id n||Nat.ble n' id)=false:=by
         rw[Bool.or_eq_false_iff];refine⟨?_,?_⟩
         . rw[Bool.eq_false_iff];intro h;rw[Nat.blt_eq] at h;omega
         . rw[Bool.eq_false_iff];intro h;have:=Nat.le_of_ble_eq_true h;omega
        rw[this,c3]
      . rcases c5.cs with⟨l,e1,e2⟩|⟨q,f,g,e1,e2,_⟩|⟨o',o2,e1,e2,e3⟩
        . rw[hxo] at e2;cases e2
        . rw[hxo] at e2;cases e2
        . rw[hxo] at e2;cases e2;exact⟨_,e1,e3⟩
    . rw[hxo] at c5;cases c5
   obtain⟨ob',q3,q6⟩:=q3;obtain⟨L,k1,k2,k3,k4,k5⟩:=hr.objs oi y ob' q2 q3;refine⟨L,by rw[q5];exact k1,k2,k3,(k4.le q6).low q4,fun id' x' L' g1 g2 g3 g4=>?_⟩;obtain⟨M',hM',_,hM2'⟩:=hpl id' x' g2;rw[g3] at hM';cases hM';obtain⟨o',y',p1,p2,p3,p4⟩:=hM2' g4;refine k5 o' y' L' (fun e=>?_) p2 p4 g4;subst e;exact Ng hrn hx g2 (fun e=>g1 e.symm) _ q1 p1
def MK (n nh n':Nat) (ρ:Rn) (mv:List (Nat × Option ABlk)) (id:Nat) (x:ABlk):Prop:=
 (n<=id/\id<nh/\∃o y,ρ id= .inl o/\(o,some y)∈mv/\BEq y x/\Zd n x)\/
 (n<=id/\id<nh/\ρ id= .inr x.sz/\0<x.sz/\∃f,x.cs= .arr 0 f)\/
 ((id<n\/n'<=id)/\∃y,(id,some y)∈mv/\BEq y x/\Zd n x)\/
 ((id<n\/n'<=id)/\∃y,(id,some y)∈mv/\y.own=x.own/\y.row=x.row/\y.ty=x.ty/\y.sz=x.sz/\∃l1 l2,y.cs= .lit l1/\x.cs= .lit l2/\l1.length=l2.length/\∀j,CW n nh n' ρ (l1.getD j ZV) (l2.getD j ZV))
structure Mt (n nh n':Nat) (ρ:Rn) (tv:List (Nat × Option AV)) (mv:List (Nat × Option ABlk)) (lv:List (Nat × AV)) (mm:AMem):Prop where
 rn:VO n nh n' ρ mm=true
 fr:∀q∈lv,∃a,(q.1,some a)∈tv/\a≠ .any/\GW n nh n' ρ a q.2
 me:∀p∈mm,MK n nh n' ρ mv p.1 p.2
theorem Mt.wk {N:Nat} {lv:List (Nat × AV)} {mm:AMem} {tv:List (Nat × Option AV)} {mv:List (Nat × Option ABlk)} (h:Mt n nh n' ρ tv mv lv mm) (h1:n<=nh) (h2:nh<=n') (h3:n'<=ZR) (hlen:tm1.length=N) (ht:∀q∈tv,tm1[q.1]? =q.2) (hm:∀p∈mv,ZY m1 p.1=p.2):Wk n nh n' tm1 m1 (ZQ N lv) mm:=by
 refine jjoy (ρ:=ρ) h1 h2 h3 hlen h.rn (fun id x hx=>?_) (HF fun q hq=>?_)
 . rcases h.me _ (Vn hx) with⟨a1,a2,o,y,a3,a4,a5,a6⟩|h|⟨a1,y,a2,a3,a4⟩|⟨a1,y,a2,a3⟩
   . exact .inl (.inr (.inl ⟨a1,a2,o,y,a3,hm _ a4,a5,a6⟩))
   . exact .inl (.inr (.inr (.inl h)))
   . exact .inl (.inr (.inr (.inr ⟨a1,y,hm _ a2,a3,a4⟩)))
   . exact .inr ⟨a1,y,hm _ a2,a3⟩
 . obtain⟨a,b1,b2,b3⟩:=h.fr q hq
   exact⟨a,ht _ b1,b2,b3⟩
end
theorem Ql {α β:Type} {f:α->β}:∀{l:List α},∀q∈l.zip (l.map f),f q.1=q.2
 | [],q,h=>by cases h
 |a::l,q,h=>by
  rcases List.mem_cons.1 h with e|h
  . rw[e]
  . exact Ql q h
def Jr {S:Type} (n nh n' N:Nat) (hs vids gs ids:List Nat) (inv:S->Prop) (μ:S->Nat) (vals:S->List AV) (gb blks:S->List ABlk) (e:Exit) (out:List (Nat × AV)) (mF:AMem) (s:S) (r:VC):Prop:=
 ZZ r.2.2.2.2.2.1/\(∀q∈r.2.2.2.2.2.2,q)/\r.2.2.2.2.1<=n'/\r.2.2.2.1=N/\
  ((r.1= .normal/\∃s',inv s'/\μ s'<μ s/\∃ρ:Rn,Mt n nh n' ρ (hs.zip r.2.1) (vids.zip r.2.2.1) (hs.zip (vals s')) (gs.zip (gb s')++ids.zip (blks s')))\/
   (r.1≠ .normal/\r.1=e/\∃ρ:Rn,Mt n n' n' ρ (hs.zip r.2.1) (vids.zip r.2.2.1) out mF))
theorem jje0 {E:Env} (hE:ZC E) {fuel:Nat} {body:Code} {S:Type} (inv:S->Prop) (μ:S->Nat) (hs vids gs ids eids:List Nat) (vals:S->List AV) (gb blks:S->List ABlk) {evals:List (Option AV)} {eblks:List (Option ABlk)} {N n nh n' str:Nat} {e:Exit} {out:List (Nat × AV)} {mF:AMem}
 (hn1:n<=nh) (hn2:nh<=n') (hn3:n'<=ZR) {s0:S} (h0:inv s0) (entry:∃ρ:Rn,Mt n nh n' ρ (hs.zip evals) (eids.zip eblks) (hs.zip (vals s0)) (gs.zip (gb s0)++ids.zip (blks s0)))
 (step:∀s,inv s->∃p lp r,view hs vids (fC E fuel body nh str ⟨ZQ N (hs.zip (vals s)),gs.zip (gb s)++ids.zip (blks s),0,0,false,p,[],[],[],none,lp⟩)=some r/\Jr n nh n' N hs vids gs ids inv μ vals gb blks e out mF s r):
 LoopV E.P body hs eids evals eblks N n (ZQ N out) mF n' e none:=by
 refine Pd hE (fuel:=fuel) (str:=str) inv μ (fun s=>ZQ N (hs.zip (vals s))) (fun s=>gs.zip (gb s)++ids.zip (blks s)) hn1 hn2 (fun _ h=>by cases h) h0 (fun tm m g1 g2 g3=>?_) fun s hi=>?_
 . obtain⟨ρ,h⟩:=entry
   subst g1;subst g2;exact h.wk hn1 hn2 hn3 g3 Ql Ql
 . obtain⟨p,lp,⟨e',l,b,len1,n1,ob,po⟩,hv,hob,hpo,hn,hN,hw⟩:=step s hi
   simp only at hob hpo hn hN hw;obtain⟨st,v1,v2,v3,v4,v6,v7,v8⟩:=P3 hv;subst v2;subst v3;refine⟨p,lp,e',n1,st,v1,hn,⟨by rw[v6];exact hob,by rw[v7];exact hpo⟩,v8,?_⟩;rcases hw with⟨rfl,s',i1,i2,ρ,h⟩|⟨hne,rfl,ρ,h⟩
   . exact .inl ⟨rfl,s',i1,i2,h.wk hn1 hn2 hn3 (v4.trans hN) Ql Ql⟩
   . exact .inr ⟨hne,rfl,h.wk (by omega) (Nat.le_refl _) hn3 (v4.trans hN) Ql Ql⟩
end Go.Proofs.YtljeokninakliaaGreatDoor
end
section
namespace Go.Proofs.YtljeokninakliaaGreatDoor
open Go.RowKit
theorem jjmx {n n' id:Nat} (h:Zc n n' id=true):id<n\/n'<=id:=by
 simp only[Zc,Bool.or_eq_true] at h;exact h.imp (fun h=>by rwa[Nat.blt_eq] at h) Nat.le_of_ble_eq_true
theorem Sj {n nh n':Nat} {ρ:Rn} {hs gs ids:List Nat} {vals:List AV} {tv:List (Nat × Option AV)} {gb blks:List ABlk} {A mv:List (Nat × Option ABlk)} {kb:List (Option ABlk)} (hmv:mv=A++ids.zip kb) (hrn:VO n nh n' ρ (gs.zip gb++ids.zip blks)=true)
 (hfr:∀q∈hs.zip vals,∃a,(q.1,some a)∈tv/\a≠ .any/\GW n nh n' ρ a q.2) (hg:∀p∈gs.zip gb,MK n nh n' ρ mv p.1 p.2) (hk:ids.all (Zc n n')=true) (hlow:∀b∈blks,Zd n b) (hb:BL blks kb):
 Mt n nh n' ρ tv mv (hs.zip vals) (gs.zip gb++ids.zip blks):=by
 refine⟨hrn,hfr,fun p hp=>?_⟩;rcases List.mem_append.1 hp with hp|hp
 . exact hg p hp
 . obtain⟨y,h1,h2⟩:=hb.mem p hp
   exact .inr (.inr (.inl ⟨jjmx (List.all_eq_true.1 hk _ (List.of_mem_zip hp).1),y,by rw[hmv];exact List.mem_append_right _ h1,h2,hlow _ (List.of_mem_zip hp).2⟩))
theorem WY {n nh n':Nat} {ρ:Rn} {tv:List (Nat × Option AV)} {h:Nat} {a x:AV} {hs:List Nat} {vals:List AV} (h1:(h,some a)∈tv) (h2:a≠ .any) (h3:GW n nh n' ρ a x) (hr:∀q∈hs.zip vals,∃a,(q.1,some a)∈tv/\a≠ .any/\GW n nh n' ρ a q.2):∀q∈(h::hs).zip (x::vals),∃a,(q.1,some a)∈tv/\a≠ .any/\GW n nh n' ρ a q.2:=by
 intro q hq;rcases List.mem_cons.1 hq with rfl|hq
 . exact⟨a,h1,h2,h3⟩
 . exact hr q hq
theorem Sm {n nh n':Nat} {ρ:Rn} {tv:List (Nat × Option AV)}:∀q∈([]:List Nat).zip ([]:List AV),∃a,(q.1,some a)∈tv/\a≠ .any/\GW n nh n' ρ a q.2:=fun _ h=>by cases h
theorem Tv {P:Nat->ABlk->Prop} {g:Nat} {b:ABlk} {gs:List Nat} {gb:List ABlk} (h:P g b) (hr:∀p∈gs.zip gb,P p.1 p.2):∀p∈(g::gs).zip (b::gb),P p.1 p.2:=by
 intro p hp;rcases List.mem_cons.1 hp with rfl|hp
 . exact h
 . exact hr p hp
theorem Sk {P:Nat->ABlk->Prop}:∀p∈([]:List Nat).zip ([]:List ABlk),P p.1 p.2:=fun _ h=>by cases h
theorem Ph {n nh n':Nat} {ρ:Rn} {mv:List (Nat × Option ABlk)} {id o:Nat} {x y:ABlk} (h1:Nat.ble n id=true) (h2:Nat.blt id nh=true) (h3:ρ id= .inl o) (h4:(o,some y)∈mv) (h5:BEq y x) (h6:Zd n x):MK n nh n' ρ mv id x:=.inl ⟨Nat.le_of_ble_eq_true h1,by rwa[Nat.blt_eq] at h2,o,y,h3,h4,h5,h6⟩
theorem jjq6 {n nh n':Nat} {ρ:Rn} {mv:List (Nat × Option ABlk)} {id:Nat} {x:ABlk} (h1:Nat.ble n id=true) (h2:Nat.blt id nh=true) (h3:ρ id= .inr x.sz) (h4:Nat.ble 1 x.sz=true) (h5:∃f,x.cs= .arr 0 f):MK n nh n' ρ mv id x:=.inr (.inl ⟨Nat.le_of_ble_eq_true h1,by rwa[Nat.blt_eq] at h2,h3,Nat.le_of_ble_eq_true h4,h5⟩)
theorem Du {β:Nm} {x:AC}:∀{l:List AC} {vs:List Value},γs β (l++[x])=some vs->∃us u,γs β l=some us/\γc β x=some u/\vs=us++[u]
 | [],vs,h=>by
  simp only[List.nil_append,γs] at h;split at h
  . rename_i u us h1 h2
    cases h2;cases h;exact⟨[],u,rfl,h1,rfl⟩
  . cases h
 |a::l,vs,h=>by
  simp only[List.cons_append,γs] at h;split at h
  . rename_i u us h1 h2
    cases h;obtain⟨us',u',g1,g2,rfl⟩:=Du h2;exact⟨u::us',u',by simp only[γs,h1,g1],g2,rfl⟩
  . cases h
section
variable {n nh n':Nat} {ρ:Rn}
theorem EZ {l:List AC} {x y:AC} {z:Value} (hl:l.all (YI n)=true) (hx:CW n nh n' ρ x y):GW n nh n' ρ (.tup [.agg (l++[x]),.c (.v z)]) (.tup [.agg (l++[y]),.c (.v z)]):=by
 intro β v e;simp only[γ,γt,γ1,γc] at e ⊢
 cases h:γs β (l++[x]) with
 |none=>rw[h] at e;simp at e
 | some vs=>
  obtain⟨us,u,g1,g2,rfl⟩:=Du h;have h1:γ (XL n nh n' ρ β) (.agg l)=some (.agg us.toArray):=Fw hl β _ (by simp only[γ,γ1,g1])
  have h2:γs (XL n nh n' ρ β) l=some us:=by
   simp only[γ,γ1] at h1;split at h1
   . rename_i us' e1
     rw[e1];simp only[Option.some.injEq,Value.agg.injEq] at h1;have:=congrArg Array.toList h1;simp at this;rw[this]
   . cases h1
  have h3:γs (XL n nh n' ρ β) [y]=some [u]:=by simp only[γs,hx β u g2]
  rw[CB h2 h3];rw[h] at e;exact e
end
theorem NR {E:Env} (hE:ZC E) {f:FuncId} {args:List AV} {fuel str n n':Nat} {ids vids:List Nat} {blks:List ABlk} {r:AV} {mF:AMem} (hnn:n<=n') (hn:n'<=ZR) (hl:ids.length=blks.length) (ho:blks.all (fun x=>!Xm x)=true) (hF:ON n n' ids blks mF=true) {eblks:List (Option ABlk)} (heb:BL blks eblks)
 (run:∃p lp q,ZB vids (ZM E (fC E fuel) f args n str (XW (ids.zip blks) p lp))=some q/\q.2.2.1<=n'/\ZZ q.2.2.2.1/\(∀z∈q.2.2.2.2,z)/\∃ρ:Rn,Mt n n' n' ρ [(0,some q.1)] (vids.zip q.2.1) [(0,r)] mF):CallV E.P f args ids eblks n r mF n':=by
 intro C β m w vs hm hv hr hfree;obtain⟨p,lp,⟨v,b,n1,ob,po⟩,hrun,hn1,hob,hpo,ρ,hmt⟩:=run;simp only at hn1 hob hpo hmt;obtain⟨s',r1,r2,r3,r4⟩:=T7 hrun
 have hsub:∀id x,ZY (ids.zip blks) id=some x->Xm x=false/\∃y,ZY m id=some y/\BEq y x:=fun id x hx=>by
  have hx':=KT hx;have h1:=List.all_eq_true.1 ho x (List.of_mem_zip hx').2;obtain⟨y,g1,g2⟩:=heb.mem _ hx';rw[<- hm] at g1;exact⟨by simpa using h1,y,(QC g1).symm,g2⟩
 have hr0:=jjfy (DG hr hsub) fun id x hx=>(hsub id x hx).1
 refine(Xa hE r1 ⟨by rw[r3];exact hob,by rw[r4];exact hpo⟩ (C:=⟨w,w.heap.size,O6 β (ids.zip blks)⟩) (β:=β) (w:=w) (vs:=vs) hv hr0 (fun id h1 h2=>hfree id h1 (by omega))).mono ?_;rintro e w' ⟨β',u,rfl,e1,e2,e3,e4⟩;have hwk:Wk n n' n' [v] s'.m (ZQ 1 [(0,r)]) mF:=hmt.wk hnn (Nat.le_refl _) hn rfl (fun q hq=>by rw[List.mem_singleton.1 hq];rfl) (fun p hp=>by rw[<- r2] at hp;exact(QC hp).symm)
 obtain⟨β2,b1,_,b3,b4⟩:=hwk _ β' w' #[u] ⟨rfl,fun t av ht=>by
  cases t with
  |zero=>simp at ht;subst ht;exact .inr ⟨u,e3,rfl⟩
  |succ t=>simp at ht⟩ e4
 have e5:Ext β β2:=fun id L h=>by
  by_cases q:n<=id/\id<n'
  . rw[hfree id q.1 q.2] at h;cases h
  . rw[b1 id (by omega)];exact e1 id L h
 refine⟨β2,u,rfl,e5,fun id h=>(b1 id h).trans (e2 id (by omega)),?_,?_⟩
 . rcases b3.2 0 r rfl with h|⟨u',h1,h2⟩
   . obtain⟨a,h1,h2,h3⟩:=hmt.fr _ (List.mem_singleton.2 rfl)
     obtain⟨rfl⟩:a=v:=by simpa using h1
     have:=h3 β' u e3;rw[show r=AV.any from h] at this;cases this
   . simp at h2
     subst h2;exact h1
 have hF':=fun id x hx=>EP hF id x hx
 refine jjfz (m0:=ids.zip blks) (n:=n) (n':=n') hr b4 e5 (fun id x hx=>?_) (fun id h=>Cw hl id h) hfree fun id x hx=>?_
 . obtain⟨_,y,g1,g2⟩:=hsub id x hx
   exact⟨(List.of_mem_zip (KT hx)).1,y,g1,g2.own.symm⟩
 . obtain⟨h1,⟨y,h2,h3⟩|⟨h2,h3,h4,h5⟩⟩:=hF' id x hx
   . exact⟨h1,.inl ⟨(List.of_mem_zip (KT h2)).1,fun y' hy' ho=>by rw[h2] at hy';cases hy';exact h3 ho⟩⟩
   . exact⟨h1,.inr ⟨h3,h4,h5⟩⟩
theorem CallV.mono {P:Program} {f:FuncId} {args:List AV} {ids:List Nat} {blks:List (Option ABlk)} {n n0 n':Nat} {r:AV} {mF:AMem} (h:CallV P f args ids blks n0 r mF n') (hn:n<=n0):CallV P f args ids blks n r mF n':=by
 intro C β m w vs h1 h2 h3 h4;refine(h C β m w vs h1 h2 h3 fun id a b=>h4 id (by omega) b).mono ?_;rintro e w' ⟨β',v,e1,e2,e3,e4⟩;exact⟨β',v,e1,e2,fun id hi=>e3 id (by omega),e4⟩
theorem LoopV.mono {P:Program} {c:Code} {slots ids:List Nat} {vals:List (Option AV)} {blks:List (Option ABlk)} {len n n0:Nat} {tm':List AV} {m':AMem} {n':Nat} {e:Exit} {rd:Option Nat} (h:LoopV P c slots ids vals blks len n0 tm' m' n' e rd) (hn:n<=n0):LoopV P c slots ids vals blks len n tm' m' n' e rd:=by
 intro tm m h1 h2 h3 r C β a w g1 g2 g3 g4;refine I6 (h tm m h1 h2 h3 r C β a w g1 g2 g3 fun id a b=>g4 id (by omega) b) ?_;rintro e' a' w' ⟨e1,e2,β',e3,e4,e5,e6⟩;exact⟨e1,e2,β',e3,fun id hi=>e4 id (by omega),e5,e6⟩
end Go.Proofs.YtljeokninakliaaGreatDoor
end
