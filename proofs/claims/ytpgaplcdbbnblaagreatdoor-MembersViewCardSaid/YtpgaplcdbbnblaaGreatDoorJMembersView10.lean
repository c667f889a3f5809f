/- Parts, one behind the other. The symbolic evaluator: loops by a relation at the head of each round; names given anew. No Go text is in sight. -/
import Derived.Test.YtpgaplcdbbnblaaGreatDoorJMembersView9
import Derived.Test.YtpgaplcdbbnblaaGreatDoorJMembersView3
import Derived.IntWalk
set_option linter.unusedSimpArgs false
set_option linter.unusedVariables false
/- The symbolic evaluator: loops by a relation at the head of each round; names given anew. No Go text is in sight. -/
section
namespace Go.Proofs.YtpgaplcdbbnblaaGreatDoor
open Go.RowKit
def lkA:List (Nat × AV)→Nat→AV
 | [],_=>.any
 |(i,v)::r,t=>match Nat.beq i t with|true=>v|false=>lkA r t
def mkFrG (lv:List (Nat × AV)):Nat→Nat→List AV
 |0,_=>[]
 |n+1,i=>lkA lv i::mkFrG lv n (i+1)
def mkFr (n:Nat) (lv:List (Nat × AV)):List AV:=mkFrG lv n 0
theorem mkFrG_length (lv:List (Nat × AV)):∀n i,(mkFrG lv n i).length=n
 |0,_=>rfl
 |n+1,i=>by simp[mkFrG,mkFrG_length lv n (i+1)]
theorem mkFrG_get (lv:List (Nat × AV)):∀n i t,(mkFrG lv n i)[t]? =if t<n then some (lkA lv (i+t)) else none
 |0,_,t=>by simp[mkFrG]
 |n+1,i,0=>by simp[mkFrG]
 |n+1,i,t+1=>by
  simp only[mkFrG,List.getElem?_cons_succ]
  rw[mkFrG_get lv n (i+1) t,show i+1+t=i+(t+1) by omega]
  simp
theorem lkA_mem:∀{lv:List (Nat × AV)} {t:Nat},lkA lv t= .any∨(t,lkA lv t)∈lv
 | [],t=>.inl rfl
 | (i,v)::r,t=>by
  simp only[lkA]
  split
  · rename_i h
    have:=Nat.eq_of_beq_eq_true h
    subst this
    exact .inr (by simp)
  · rcases @lkA_mem r t with h|h
    · exact .inl h
    · exact .inr (List.mem_cons_of_mem _ h)
abbrev Rn:=Nat→Nat ⊕ Nat
def rnm (n nh n':Nat) (ρ:Rn) (β:Nm):Nm:=fun id=>
 if id<n∨n'≤id then β id else if id<nh then (match ρ id with | .inl o=>β o | .inr s=>some ⟨0,0,s,0,true⟩) else none
def Wk (n nh n':Nat) (tm1:List AV) (m1:AMem) (tm2:List AV) (m2:AMem):Prop:=
 ∀(C:Ctx) (β1:Nm) (w:World) (tmps:Array Value),FrOk β1 tm1 tmps→Rel C β1 m1 w→
  ∃β2:Nm,(∀id,id<n∨n'≤id→β2 id=β1 id)∧(∀id,nh≤id→id<n'→β2 id=none)∧FrOk β2 tm2 tmps∧Rel C β2 m2 w
section
variable {n nh n':Nat} {ρ:Rn} {tm1:List AV} {m1:AMem}
def GW (n nh n':Nat) (ρ:Rn) (a1 a2:AV):Prop:=∀(β:Nm) (v:Value),γ β a1=some v→γ (rnm n nh n' ρ β) a2=some v
def FrW (n nh n':Nat) (ρ:Rn) (tm1:List AV):List (Nat × AV)→Prop
 | []=>True
 |(t,av)::r=>(∃a1,tm1[t]? =some a1∧a1≠ .any∧GW n nh n' ρ a1 av)∧FrW n nh n' ρ tm1 r
def lowC (n:Nat):AC→Bool
 | .v _=>true
 | .ptr id _ _=>Nat.blt id n
 | .sl id _ _ _ _=>Nat.blt id n
 | .fn _ caps=>caps.all fun p=>Nat.blt p.1 n
 | .yld id=>Nat.blt id n
 | .cap id _=>Nat.blt id n
 | .mv _ id _ _=>Nat.blt id n
mutual
def lowV (n:Nat):AV→Bool
 | .c x=>lowC n x
 | .agg l=>l.all (lowC n)
 | .tup l=>lowT n l
 | .any=>true
def lowT (n:Nat):List AV→Bool
 | []=>true
 |x::r=>lowV n x&&lowT n r
end
def lowO (n:Nat):AObj→Bool
 | .loop _ _ tm _ _ _ dn=>lowT n tm&&Nat.blt dn n
 | .dfr _=>true
def lowB (n:Nat) (x:ABlk):Prop:=(∀k j,x.inb k (j+1)=true→lowC n (x.cs.get k j)=true)∧∀o,x.cs= .obj o→lowO n o=true
theorem lowB_cells {n:Nat} {x:ABlk} (h:∀k j,lowC n (x.cs.get k j)=true) (ho:∀o,x.cs= .obj o→False):lowB n x:=⟨fun k j _=>h k j,fun o e=>(ho o e).elim⟩
def tmLe (tm tm':List AV):Prop:=tm.length=tm'.length∧∀(t:Nat) av,tm'[t]? =some av→av= .any∨tm[t]? =some av
def OLe:AObj→AObj→Prop
 | .loop st pd tm ps as bd dn,.loop st' pd' tm' ps' as' bd' dn'=>st=st'∧pd=pd'∧tmLe tm tm'∧ps=ps'∧as=as'∧bd=bd'∧dn=dn'
 | .dfr a,.dfr b=>a=b
 |_,_=>False
theorem tmLe.refl (tm:List AV):tmLe tm tm:=⟨rfl,fun _ _ h=>.inr h⟩
theorem OLe.refl:∀(o:AObj),OLe o o
 | .loop _ _ _ _ _ _ _=>⟨rfl,rfl,tmLe.refl _,rfl,rfl,rfl,rfl⟩
 | .dfr _=>rfl
theorem FrOk.le {β:Nm} {tm tm':List AV} {tmps:Array Value} (h:FrOk β tm tmps) (hl:tmLe tm tm'):FrOk β tm' tmps:=
 ⟨h.1.trans hl.1,fun t av ht=>(hl.2 t av ht).elim .inl (h.2 t av)⟩
theorem ObjOk.le {β:Nm} {w:World} {b:Nat} {o o':AObj} (h:ObjOk β w b o) (hl:OLe o o'):ObjOk β w b o':=by
 cases o with
 | loop st pd tm ps as bd dn=>
  cases o' with
  |loop st' pd' tm' ps' as' bd' dn'=>
   obtain⟨rfl,rfl,hl,rfl,rfl,rfl,rfl⟩:=hl
   obtain⟨fn,tmps,D,h1,h2,h3,h4⟩:=h
   exact⟨fn,tmps,D,h1.le hl,h2,h3,h4⟩
  |dfr _=>exact hl.elim
 |dfr a=>
  cases o' with
  |loop _ _ _ _ _ _ _=>exact hl.elim
  |dfr _=>obtain rfl:=hl;exact h
structure BEq (x y:ABlk):Prop where
 own:y.own=x.own
 row:y.row=x.row
 ty:y.ty=x.ty
 sz:y.sz=x.sz
 cs:(∃l,x.cs= .lit l∧y.cs= .lit l)∨(∃q f g,x.cs= .arr q f∧y.cs= .arr q g∧∀k,k<q→f k=g k)∨∃o o',x.cs= .obj o∧y.cs= .obj o'∧OLe o o'
theorem BEq.refl (x:ABlk):BEq x x:=⟨rfl,rfl,rfl,rfl,by cases h:x.cs with|lit l=>exact .inl ⟨l,rfl,rfl⟩|arr q f=>exact .inr (.inl ⟨q,f,f,rfl,rfl,fun _ _=>rfl⟩)|obj o=>exact .inr (.inr ⟨o,o,rfl,rfl,OLe.refl o⟩)⟩
def MemC (n nh n':Nat) (ρ:Rn) (m1:AMem) (id:Nat) (x:ABlk):Prop:=
 ((id<n∨n'≤id)∧look m1 id=some x∧lowB n x)∨
 (n≤id∧id<nh∧∃o y,ρ id= .inl o∧look m1 o=some y∧BEq y x∧lowB n x)∨
 (n≤id∧id<nh∧ρ id= .inr x.sz∧0<x.sz∧∃f,x.cs= .arr 0 f)∨
 ((id<n∨n'≤id)∧∃y,look m1 id=some y∧BEq y x∧lowB n x)
def MemW (n nh n':Nat) (ρ:Rn) (m1:AMem):AMem→Prop
 | []=>True
 |(id,x)::r=>MemC n nh n' ρ m1 id x∧MemW n nh n' ρ m1 r
def oldId (n nh n':Nat) (ρ:Rn) (id:Nat):Option Nat:=
 match Nat.blt id n||Nat.ble n' id with
 |true=>some id
 |false=>match ρ id with | .inl o=>some o | .inr _=>none
def rnOk (n nh n':Nat) (ρ:Rn):AMem→Bool
 | []=>true
 |(id,_)::r=>(r.all fun p=>Nat.beq p.1 id||match oldId n nh n' ρ id,oldId n nh n' ρ p.1 with|some a,some b=>!(Nat.beq a b)|_,_=>true)&&rnOk n nh n' ρ r
theorem γc_low {β:Nm} {x:AC} {v:Value} (h:lowC n x=true) (e:γc β x=some v):γc (rnm n nh n' ρ β) x=some v:=by
 have hr:∀id,Nat.blt id n=true→rnm n nh n' ρ β id=β id:=fun id hid=>by
  rw[Nat.blt_eq] at hid
  simp[rnm,hid]
 cases x with
 |v x=>exact e
 |ptr id k j=>simp only[γc,ad] at e ⊢;rw[hr id h];exact e
 |sl id k j len cap=>simp only[γc] at e ⊢;rw[hr id h];exact e
 | fn f caps=>
  simp only[γc] at e ⊢
  have key:∀{l:List (Nat × Nat × Nat)} {vs:List Value},(l.all fun p=>Nat.blt p.1 n)=true→γp β l=some vs→γp (rnm n nh n' ρ β) l=some vs:=by
   intro l
   induction l with
   |nil=>intro vs _ h;exact h
   |cons p r ih=>
    intro vs hl hp
    obtain⟨id,k,j⟩:=p
    simp only[List.all_cons,Bool.and_eq_true] at hl
    simp only[γp] at hp ⊢
    split at hp
    · rename_i a us ha hus
      simp only[ad] at ha ⊢
      rw[hr id hl.1,ha,ih hl.2 hus]
      exact hp
    · cases hp
  split at e
  · rename_i vs hvs
    rw[key h hvs]
    exact e
  · cases e
 |yld id=>simp only[γc] at e ⊢;rw[hr id h];exact e
 |cap id k=>simp only[γc] at e ⊢;rw[hr id h];exact e
 |mv f id k j=>simp only[γc,ad] at e ⊢;rw[hr id h];exact e
theorem GW_low {x:AC} (h:lowC n x=true):GW n nh n' ρ (.c x) (.c x):=fun _ _ e=>γc_low h e
theorem GW_agg {l:List AC} (h:l.all (lowC n)=true):GW n nh n' ρ (.agg l) (.agg l):=fun β v e=>by
 simp only[γ,γ1] at e ⊢
 split at e
 · rename_i vs hvs
   have:γs (rnm n nh n' ρ β) l=some vs:=by
    rw[γs_iff]
    refine⟨γs_length hvs,fun i x hx=>?_⟩
    obtain⟨u,h1,h2⟩:=γs_get hvs hx
    exact⟨u,h1,γc_low (List.all_eq_true.1 h x (List.mem_of_getElem? hx)) h2⟩
   rw[this]
   exact e
 · cases e
theorem γ1_low {β:Nm} {x:AV} {v:Value} (h:lowV n x=true) (e:γ1 β x=some v):γ1 (rnm n nh n' ρ β) x=some v:=by
 cases x with
 |c x=>exact γc_low (by simpa[lowV] using h) e
 |agg l=>
  have:=GW_agg (nh:=nh) (n':=n') (ρ:=ρ) (l:=l) (by simpa[lowV] using h) β v e
  exact this
 |tup l=>cases e
 |any=>cases e
theorem γt_low {β:Nm}:∀{l:List AV} {vs:List Value},lowT n l=true→γt β l=some vs→γt (rnm n nh n' ρ β) l=some vs
 | [],vs,_,e=>e
 |x::r,vs,h,e=>by
  simp only[lowT,Bool.and_eq_true] at h
  simp only[γt] at e ⊢
  split at e
  · rename_i v us hv hus
    rw[γ1_low h.1 hv,γt_low h.2 hus]
    exact e
  · cases e
theorem γ_low {β:Nm} {x:AV} {v:Value} (h:lowV n x=true) (e:γ β x=some v):γ (rnm n nh n' ρ β) x=some v:=by
 cases x with
 |tup l=>
  simp only[γ] at e ⊢
  split at e
  · rename_i vs hvs
    rw[γt_low (by simpa[lowV] using h) hvs]
    exact e
  · cases e
 |c x=>exact γ1_low (x:=.c x) h e
 |agg l=>exact γ1_low (x:=.agg l) h e
 |any=>cases e
theorem lowT_get:∀{l:List AV} {t:Nat} {x:AV},lowT n l=true→l[t]? =some x→lowV n x=true
 | [],t,x,_,h=>by simp at h
 |y::r,0,x,hl,h=>by simp only[lowT,Bool.and_eq_true] at hl;simp at h;subst h;exact hl.1
 |y::r,t+1,x,hl,h=>by simp only[lowT,Bool.and_eq_true] at hl;exact lowT_get hl.2 (by simpa using h)
theorem FrOk.low {β:Nm} {tm:List AV} {tmps:Array Value} (h:lowT n tm=true) (hf:FrOk β tm tmps):FrOk (rnm n nh n' ρ β) tm tmps:=
 ⟨hf.1,fun t av ht=>(hf.2 t av ht).imp id fun⟨v,h1,h2⟩=>⟨v,γ_low (lowT_get h ht) h1,h2⟩⟩
theorem ObjOk.low {β:Nm} {w:World} {b:Nat} {o:AObj} (h:lowO n o=true) (ho:ObjOk β w b o):ObjOk (rnm n nh n' ρ β) w b o:=by
 cases o with
 |loop st pd tm ps as bd dn=>
  simp only[lowO,Bool.and_eq_true] at h
  obtain⟨fn,tmps,D,h1,h2,h3,h4⟩:=ho
  have hdn:dn<n:=by have:=h.2;rwa[Nat.blt_eq] at this
  exact⟨fn,tmps,D,h1.low h.1,by simp[rnm,hdn,h2],h3,h4⟩
 |dfr op=>exact ho
theorem GW_sl {id o k j len:Nat} {cap:Option Nat} (h1:n≤id) (h2:id<nh) (h3:id<n') (h:ρ id= .inl o):GW n nh n' ρ (.c (.sl o k j len cap)) (.c (.sl id k j len cap)):=fun β v e=>by
 simp only[γ,γ1,γc] at e ⊢
 have:rnm n nh n' ρ β id=β o:=by simp[rnm,show ¬(id<n∨n'≤id) by omega,h2,h]
 rw[this];exact e
theorem GW_nil {id s:Nat} (h1:n≤id) (h2:id<nh) (h3:id<n') (h:ρ id= .inr s):GW n nh n' ρ (.c (.v (.slice none 0 0))) (.c (.sl id 0 0 0 none)):=fun β v e=>by
 cases e
 simp only[γ,γ1,γc]
 have:rnm n nh n' ρ β id=some ⟨0,0,s,0,true⟩:=by simp[rnm,show ¬(id<n∨n'≤id) by omega,h2,h]
 rw[this];rfl
theorem FrW_mem:∀{lv:List (Nat × AV)},FrW n nh n' ρ tm1 lv→∀{t av},(t,av)∈lv→∃a1,tm1[t]? =some a1∧a1≠ .any∧GW n nh n' ρ a1 av
 |(t',av')::r,h,t,av,hm=>by
  rcases List.mem_cons.1 hm with e|e
  · cases e;exact h.1
  · exact FrW_mem h.2 e
theorem MemW_look:∀{m2:AMem},MemW n nh n' ρ m1 m2→∀{id x},look m2 id=some x→MemC n nh n' ρ m1 id x
 | (i,b)::r,h,id,x,hx=>by
  simp only[look_cons] at hx
  split at hx
  · rename_i hb
    cases hx
    have:=Nat.eq_of_beq_eq_true hb
    subst this
    exact h.1
  · exact MemW_look h.2 hx
theorem rnOk_apart:∀{m2:AMem},rnOk n nh n' ρ m2=true→∀{id id' x x'},look m2 id=some x→look m2 id'=some x'→id≠id'→∀a,oldId n nh n' ρ id=some a→oldId n nh n' ρ id'≠some a
 | (i,b)::r,h,id,id',x,x',hx,hx',hne,a,ha=>by
  simp only[rnOk,Bool.and_eq_true] at h
  have hall:=fun p hp=>List.all_eq_true.1 h.1 p hp
  simp only[look_cons] at hx hx'
  split at hx
  · rename_i hb
    have:=Nat.eq_of_beq_eq_true hb
    subst this
    split at hx'
    · rename_i hb'
      exact absurd (Nat.eq_of_beq_eq_true hb') hne
    · have h1:=hall _ (look_mem hx')
      simp only[Bool.or_eq_true] at h1
      rcases h1 with h1|h1
      · exact absurd (Nat.eq_of_beq_eq_true h1).symm hne
      · rw[ha] at h1
        intro e
        rw[e] at h1
        simp at h1
  · split at hx'
    · rename_i hb'
      have:=Nat.eq_of_beq_eq_true hb'
      subst this
      have h1:=hall _ (look_mem hx)
      simp only[Bool.or_eq_true] at h1
      rcases h1 with h1|h1
      · exact absurd (Nat.eq_of_beq_eq_true h1) hne
      · intro e
        rw[e,ha] at h1
        simp at h1
    · exact rnOk_apart h.2 hx hx' hne a ha
theorem inb_beq {x y:ABlk} (h:BEq x y) (k j:Nat):y.inb k j=x.inb k j:=by
 rcases h.cs with⟨l,h1,h2⟩|⟨q,f,g,h1,h2,_⟩|⟨o,o',h1,h2,_⟩<;>simp only[ABlk.inb,h1,h2,h.sz]
theorem wk_mk (h1:n≤nh) (h2:nh≤n') (h3:n'≤lim) {N:Nat} {lv:List (Nat × AV)} {m2:AMem} (hlen:tm1.length=N) (hrn:rnOk n nh n' ρ m2=true) (hm:MemW n nh n' ρ m1 m2) (hf:FrW n nh n' ρ tm1 lv):
 Wk n nh n' tm1 m1 (mkFr N lv) m2:=by
 intro C β w tmps hfr hr
 have hgid:∀g,rnm n nh n' ρ β (gid g)=β (gid g):=fun g=>by
  have:n'≤gid g:=by unfold gid;unfold lim at h3;omega
  simp[rnm,this]
 -- a block's place
 have hpl:∀id x,look m2 id=some x→∃L,rnm n nh n' ρ β id=some L∧BlkOk C (rnm n nh n' ρ β) w L x∧(L.nil=false→∃o y,oldId n nh n' ρ id=some o∧look m1 o=some y∧y.own=x.own∧β o=some L):=by
  intro id x hx
  have conv:∀(L:Loc) (y:ABlk),BEq y x→lowB n x→BlkOk C β w L y→BlkOk C (rnm n nh n' ρ β) w L x:=by
   intro L y hb hlow hk
   refine⟨by rw[hb.sz];exact hk.sz,fun l hl=>?_,fun k j hi=>?_,hk.lt,fun ho hn=>?_,fun q g hg i hi=>?_,fun hrw hn q g hg=>?_⟩
   · rcases hb.cs with⟨l',e1,e2⟩|⟨q,f,g,e1,e2,_⟩|⟨o,o'',e1,e2,_⟩
     · rw[hb.sz];exact hk.lit l' e1
     · rw[e2] at hl;cases hl
     · rw[e2] at hl;cases hl
   · have hlow':=hlow.1 k j hi
     have hi':=hi
     rw[inb_beq hb] at hi
     obtain⟨g1,u,g2,g3,g4⟩:=hk.cells k j hi
     refine⟨g1,u,?_,g3,g4⟩
     have e:x.cs.get k j=y.cs.get k j:=by
      rcases hb.cs with⟨l',e1,e2⟩|⟨q,f,g,e1,e2,e3⟩|⟨o,o'',e1,e2,_⟩
      · rw[e1,e2]
      rotate_left
      · simp only[e1,e2,Cs.get]
      · rw[e1,e2]
        have:k<q:=by
         simp only[ABlk.inb,e1,Bool.and_eq_true,decide_eq_true_eq] at hi
         exact hi.1
        simp only[Cs.get]
        rw[e3 k this]
     rw[e] at hlow' ⊢
     exact γc_low hlow' g2
   · rw[hb.own] at ho
     obtain⟨o1,o2,cs,o3,o4⟩:=hk.own ho hn
     refine⟨o1,o2,cs,by rw[hb.ty];exact o3,fun hrw=>?_⟩
     rw[hb.row] at hrw
     obtain⟨r1,r2,q,f,r3,r4⟩:=o4 hrw
     rcases hb.cs with⟨l',e1,e2⟩|⟨q',f',g,e1,e2,e3⟩|⟨o,o'',e1,e2,_⟩
     · rw[e1] at r3;cases r3
     rotate_left
     · rw[e1] at r3;cases r3
     · rw[e1] at r3
       cases r3
       exact⟨by rw[hb.sz];exact r1,by rw[hb.sz];exact r2,_,g,e2,r4⟩
   · rcases hb.cs with⟨l',e1,e2⟩|⟨q',f',g',e1,e2,e3⟩|⟨o,o'',e1,e2,_⟩
     · rw[e2] at hg;cases hg
     rotate_left
     · rw[e2] at hg;cases hg
     · rw[e2] at hg
       cases hg
       rw[← e3 i hi,hb.sz]
       exact hk.arrl _ f' e1 i hi
   · rw[hb.row] at hrw
     rcases hb.cs with⟨l',e1,e2⟩|⟨q',f',g',e1,e2,e3⟩|⟨o,o'',e1,e2,_⟩
     · rw[e2] at hg;cases hg
     rotate_left
     · rw[e2] at hg;cases hg
     · rw[e2] at hg
       cases hg
       exact hk.rowc hrw hn _ f' e1
  rcases MemW_look hm hx with⟨c1,c2,c3⟩|⟨c1,c2,o,y,c3,c4,c5,c6⟩|⟨c1,c2,c3,c4,f,c5⟩|⟨c1,y,c4,c5,c6⟩
  rotate_left 3
  · obtain⟨L,hL,hk⟩:=hr.blk id y c4
    refine⟨L,by simp[rnm,c1,hL],conv L y c5 c6 hk,fun hn=>⟨id,y,?_,c4,c5.own.symm,hL⟩⟩
    unfold oldId
    have:(Nat.blt id n||Nat.ble n' id)=true:=by
     rcases c1 with h|h
     · have:Nat.blt id n=true:=by rw[Nat.blt_eq];exact h
       rw[this];rfl
     · rw[Nat.ble_eq_true_of_le h,Bool.or_true]
    rw[this]
  · obtain⟨L,hL,hk⟩:=hr.blk id x c2
    refine⟨L,by simp[rnm,c1,hL],conv L x (BEq.refl x) c3 hk,fun hn=>⟨id,x,?_,c2,rfl,hL⟩⟩
    unfold oldId
    have:(Nat.blt id n||Nat.ble n' id)=true:=by
     rcases c1 with h|h
     · have:Nat.blt id n=true:=by rw[Nat.blt_eq];exact h
       rw[this];rfl
     · rw[Nat.ble_eq_true_of_le h,Bool.or_true]
    rw[this]
  · obtain⟨L,hL,hk⟩:=hr.blk o y c4
    have hnot:¬(id<n∨n'≤id):=by omega
    refine⟨L,by simp[rnm,hnot,c2,c3,hL],conv L y c5 c6 hk,fun hn=>⟨o,y,?_,c4,c5.own.symm,hL⟩⟩
    unfold oldId
    have:(Nat.blt id n||Nat.ble n' id)=false:=by
     rw[Bool.or_eq_false_iff]
     refine⟨?_,?_⟩
     · rw[Bool.eq_false_iff];intro h;rw[Nat.blt_eq] at h;omega
     · rw[Bool.eq_false_iff];intro h;have:=Nat.le_of_ble_eq_true h;omega
    rw[this,c3]
  · have hnot:¬(id<n∨n'≤id):=by omega
    refine⟨⟨0,0,x.sz,0,true⟩,by simp[rnm,hnot,c2,c3],⟨rfl,fun l hl=>(by rw[c5] at hl;cases hl),fun k j hi=>?_,fun h=>(by cases h),fun _ h=>(by cases h),fun q g hg i hi=>?_,fun _ h=>(by cases h)⟩,fun h=>(by cases h)⟩
    · simp[ABlk.inb,c5] at hi
    · rw[c5] at hg;cases hg;omega
 refine⟨rnm n nh n' ρ β,fun id hid=>by simp[rnm,hid],fun id hid1 hid2=>?_,⟨?_,fun t av ht=>?_⟩,hr.os,hr.tape,hr.output,hr.size,hr.base,hr.out,fun id x hx=>?_,?_,fun g L hL=>hr.glob g L (by rw[hgid g] at hL;exact hL),fun id x ob hx hxo=>?_⟩
 · have:¬(id<n∨n'≤id):=by omega
   simp[rnm,this,show ¬id<nh by omega]
 · rw[mkFr,mkFrG_length,← hlen];exact hfr.1
 · rw[mkFr,mkFrG_get,Nat.zero_add] at ht
   split at ht
   · cases ht
     rcases @lkA_mem lv t with h|h
     · exact .inl h
     · obtain⟨a1,e1,e2,e3⟩:=FrW_mem hf h
       rcases hfr.2 t a1 e1 with h4|⟨v,h4,h5⟩
       · exact absurd h4 e2
       · exact .inr ⟨v,e3 β v h4,h5⟩
   · cases ht
 · obtain⟨L,hL,hk,_⟩:=hpl id x hx
   exact⟨L,hL,hk⟩
 · intro id id' x x' L L' hx hx' hne ho hL hL' hn hn'
   obtain⟨M,hM,_,hM2⟩:=hpl id x hx
   rw[hL] at hM
   cases hM
   obtain⟨M',hM',_,hM2'⟩:=hpl id' x' hx'
   rw[hL'] at hM'
   cases hM'
   obtain⟨o,y,o1,o2,o3,o4⟩:=hM2 hn
   obtain⟨o',y',p1,p2,p3,p4⟩:=hM2' hn'
   have hoo:o≠o':=fun e=>by
    subst e
    exact rnOk_apart hrn hx hx' hne _ o1 p1
   exact hr.sep o o' y y' L L' o2 p2 hoo (by rw[o3];exact ho) o4 p4 hn hn'
 · obtain ⟨oi,y,q1,q2,q3,q4,q5⟩:∃oi y,oldId n nh n' ρ id=some oi∧look m1 oi=some y∧(∃ob',y.cs= .obj ob'∧OLe ob' ob)∧lowO n ob=true∧rnm n nh n' ρ β id=β oi:=by
    rcases MemW_look hm hx with⟨c1,c2,c3⟩|⟨c1,c2,o,y,c3,c4,c5,c6⟩|⟨c1,c2,c3,c4,f,c5⟩|⟨c1,y,c4,c5,c6⟩
    rotate_left 3
    · refine⟨id,y,?_,c4,?_,c6.2 ob hxo,by simp[rnm,c1]⟩
      · unfold oldId
        have:(Nat.blt id n||Nat.ble n' id)=true:=by
         rcases c1 with h|h
         · have:Nat.blt id n=true:=by rw[Nat.blt_eq];exact h
           rw[this];rfl
         · rw[Nat.ble_eq_true_of_le h,Bool.or_true]
        rw[this]
      · rcases c5.cs with⟨l,e1,e2⟩|⟨q,f,g,e1,e2,_⟩|⟨o',o2,e1,e2,e3⟩
        · rw[hxo] at e2;cases e2
        · rw[hxo] at e2;cases e2
        · rw[hxo] at e2;cases e2;exact⟨_,e1,e3⟩
    · refine⟨id,x,?_,c2,⟨_,hxo,OLe.refl _⟩,c3.2 ob hxo,by simp[rnm,c1]⟩
      unfold oldId
      have:(Nat.blt id n||Nat.ble n' id)=true:=by
       rcases c1 with h|h
       · have:Nat.blt id n=true:=by rw[Nat.blt_eq];exact h
         rw[this];rfl
       · rw[Nat.ble_eq_true_of_le h,Bool.or_true]
      rw[this]
    · have hnot:¬(id<n∨n'≤id):=by omega
      refine⟨o,y,?_,c4,?_,c6.2 ob hxo,by simp[rnm,hnot,c2,c3]⟩
      · unfold oldId
        have:(Nat.blt id n||Nat.ble n' id)=false:=by
         rw[Bool.or_eq_false_iff]
         refine⟨?_,?_⟩
         · rw[Bool.eq_false_iff];intro h;rw[Nat.blt_eq] at h;omega
         · rw[Bool.eq_false_iff];intro h;have:=Nat.le_of_ble_eq_true h;omega
        rw[this,c3]
      · rcases c5.cs with⟨l,e1,e2⟩|⟨q,f,g,e1,e2,_⟩|⟨o',o2,e1,e2,e3⟩
        · rw[hxo] at e2;cases e2
        · rw[hxo] at e2;cases e2
        · rw[hxo] at e2;cases e2;exact⟨_,e1,e3⟩
    · rw[hxo] at c5;cases c5
   obtain⟨ob',q3,q6⟩:=q3
   obtain⟨L,k1,k2,k3,k4,k5⟩:=hr.objs oi y ob' q2 q3
   refine⟨L,by rw[q5];exact k1,k2,k3,(k4.le q6).low q4,fun id' x' L' g1 g2 g3 g4=>?_⟩
   obtain⟨M',hM',_,hM2'⟩:=hpl id' x' g2
   rw[g3] at hM'
   cases hM'
   obtain⟨o',y',p1,p2,p3,p4⟩:=hM2' g4
   refine k5 o' y' L' (fun e=>?_) p2 p4 g4
   subst e
   exact rnOk_apart hrn hx g2 (fun e=>g1 e.symm) _ q1 p1
end
def view (slots ids:List Nat) (r:Option (Exit × Nat × St)):Option (Exit × List (Option AV) × List (Option ABlk) × Nat × Nat × List Bool × List Prop):=
 match r with
 |some (e,n,s)=>match s.ms with| []=>some (e,slots.map (fun t=>s.tm[t]?),ids.map (look s.m),s.tm.length,n,s.ob,s.po)|_::_=>none
 |none=>none
theorem view_out {slots ids:List Nat} {r:Option (Exit × Nat × St)} {e:Exit} {l:List (Option AV)} {b:List (Option ABlk)} {len n:Nat} {ob:List Bool} {po:List Prop} (h:view slots ids r=some (e,l,b,len,n,ob,po)):
 ∃s,r=some (e,n,s)∧slots.map (fun t=>s.tm[t]?)=l∧ids.map (look s.m)=b∧s.tm.length=len∧s.ob=ob∧s.po=po∧s.ms=[]:=by
 unfold view at h
 split at h
 · rename_i e' n' s
   split at h
   · rename_i hms
     simp only[Option.some.injEq,Prod.mk.injEq] at h
     obtain⟨rfl,h1,h2,h3,rfl,h5,h6⟩:=h
     exact⟨s,rfl,h1,h2,h3,h5,h6,hms⟩
   · cases h
 · cases h
theorem loop_ob {E:Env} (hE:EnvOk E) {fuel:Nat} {body:Code} {S:Type} (inv:S→Prop) (μ:S→Nat) (tmI:S→List AV) (mI:S→AMem) {tmF:List AV} {mF:AMem} {n nh n' str:Nat} {e:Exit} {rd:Option Nat} (hn1:n≤nh) (hn2:nh≤n') (hrd:∀id,rd=some id→id<n)
 {slots ids:List Nat} {vals:List (Option AV)} {blks:List (Option ABlk)} {len:Nat}
 {s0:S} (h0:inv s0) (start:∀tm m,slots.map (fun t=>tm[t]?)=vals→ids.map (look m)=blks→tm.length=len→Wk n nh n' tm m (tmI s0) (mI s0))
 (step:∀s,inv s→∃path lp e' n1 st',fC E fuel body nh str ⟨tmI s,mI s,0,0,false,path,[],[],[],rd,lp⟩=some (e',n1,st')∧n1≤n'∧Obs st'∧st'.ms=[]∧
  ((e'= .normal∧∃s',inv s'∧μ s'<μ s∧Wk n nh n' st'.tm st'.m (tmI s') (mI s'))∨(e'≠ .normal∧e'=e∧Wk n n' n' st'.tm st'.m tmF mF))):
 LoopV E.P body slots ids vals blks len n tmF mF n' e rd:=by
 intro tm0 m0 hv1 hv2 hv3 ro C β a w hrdo hf hr hfree
 have hrd':∀β',(∀id,id<n∨n'≤id→β' id=β id)→RdOk β' rd ro:=by
  intro β' hs
  cases rd with
  | none=>cases ro with
    |none=>trivial
    |some _=>exact hrdo
  | some id=>cases ro with
    |none=>exact hrdo
    |some b=>obtain⟨L,h1,h2⟩:=hrdo;exact⟨L,by rw[hs id (.inl (hrd id rfl))];exact h1,h2⟩
 have key:∀k a1 w,(∃s,μ s=k∧inv s∧a1.defers=a.defers∧∃β',(∀id,id<n∨n'≤id→β' id=β id)∧(∀id,nh≤id→id<n'→β' id=none)∧FrOk β' (tmI s) a1.tmps∧Rel C β' (mI s) w)→
  lwp ro E.P body (fun e' a' w'=>e'=e∧a'.defers=a.defers∧∃β',Ext β β'∧(∀id,id<n∨n'≤id→β' id=β id)∧FrOk β' tmF a'.tmps∧Rel C β' mF w') a1 w:=by
  refine lwp_ind _ fun k a1 w ⟨s,hk,hi,hd,β',g1,g2,g3,g4⟩=>?_
  obtain⟨path,lp,e',n1,st',hsx,hle,ho,hms,hres⟩:=step s hi
  obtain⟨gr,hwp⟩:=sxC_ok hE fuel _ _ _ _ (fC_sim _ _ _ _ _ _ _ _ hsx)
  have:=hwp (ho.congr rfl rfl) ro a1.defers C β' a1 w (hrd' β' g1) g3 rfl g4 fun id h1 h2=>g2 id h1 (by have h2:id<n1:=h2;omega)
  refine wpIn_mono (wp_of_wpL this) fun e'' a' w' ⟨he,β'',x1,x2,x3,hd',x4⟩=>?_
  have hd':DfOk β'' st'.ms a1.defers a'.defers:=hd'
  rw[hms] at hd'
  have hd':a'.defers=a1.defers:=hd'
  subst he
  have hsame:∀id,id<n∨n'≤id→β'' id=β id:=fun id hid=>by
   rw[x2 id (by show id<nh∨n1≤id;omega)];exact g1 id hid
  rcases hres with⟨rfl,s',i1,i2,i3⟩|⟨hne,rfl,i3⟩
  · obtain⟨β2,y1,y2,y3,y4⟩:=i3 C β'' w' a'.tmps x3 x4
    exact⟨μ s',by omega,s',rfl,i1,hd'.trans hd,β2,fun id hid=>by rw[y1 id hid];exact hsame id hid,y2,y3,y4⟩
  · obtain⟨β2,y1,y2,y3,y4⟩:=i3 C β'' w' a'.tmps x3 x4
    have hpost:(fun e' (a':Act) w'=>e'=e''∧a'.defers=a.defers∧∃β',Ext β β'∧(∀id,id<n∨n'≤id→β' id=β id)∧FrOk β' tmF a'.tmps∧Rel C β' mF w') e'' a' w':=by
     refine⟨rfl,hd'.trans hd,β2,fun id L hL=>?_,fun id hid=>by rw[y1 id hid];exact hsame id hid,y3,y4⟩
     rcases Nat.lt_or_ge id n with h|h
     · rw[y1 id (.inl h),hsame id (.inl h)];exact hL
     · rcases Nat.lt_or_ge id n' with h'|h'
       · rw[hfree id h h'] at hL;cases hL
       · rw[y1 id (.inr h'),hsame id (.inr h')];exact hL
    cases e'' with
    |normal=>exact absurd rfl hne
    |_=>exact hpost
 obtain⟨β2,y1,y2,y3,y4⟩:=start tm0 m0 hv1 hv2 hv3 C β w a.tmps hf hr
 exact key (μ s0) a w ⟨s0,rfl,h0,rfl,β2,y1,y2,y3,y4⟩
def viewF (ids:List Nat) (r:Option (AV × Nat × St)):Option (AV × List (Option ABlk) × Nat × List Bool × List Prop):=
 match r with
 |some (v,n,s)=>some (v,ids.map (look s.m),n,s.ob,s.po)
 |none=>none
theorem viewF_out {ids:List Nat} {r:Option (AV × Nat × St)} {v:AV} {b:List (Option ABlk)} {n:Nat} {ob:List Bool} {po:List Prop} (h:viewF ids r=some (v,b,n,ob,po)):
 ∃s,r=some (v,n,s)∧ids.map (look s.m)=b∧s.ob=ob∧s.po=po:=by
 unfold viewF at h
 split at h
 · rename_i v' n' s
   simp only[Option.some.injEq,Prod.mk.injEq] at h
   obtain⟨rfl,h1,rfl,h3,h4⟩:=h
   exact⟨s,rfl,h1,h3,h4⟩
 · cases h
theorem calls_f {E:Env} (hE:EnvOk E) {g:Nat} {f:FuncId} {args:List AV} {n str n':Nat} {s s':St} {r:AV} (h:fCallF E (fC E g) f args n str s=some (r,n',s')) (ho:Obs s') {C:Ctx} {β:Nm} {w:World} {vs:List Value}
 (hvs:γt β args=some vs) (hr:Rel C β s.m w) (hfree:∀id,n≤id→id<n'→β id=none):
 Calls E.P f vs.toArray w (fun e w'=>∃β' v,e= .returned v∧Ext β β'∧(∀id,id<n∨n'≤id→β' id=β id)∧γ β' r=some v∧Rel C β' s'.m w'):=
 calls_sx hE (fCallF_sim _ _ _ _ _ _ _ _ h) (ho.congr rfl rfl) hvs hr hfree
def stA (m:AMem) (path:List Dec) (lp:List (Option LSum)):St:=⟨[],m,0,0,false,path,[],[],[],none,lp⟩
end Go.Proofs.YtpgaplcdbbnblaaGreatDoor
end
/- The symbolic evaluator: words for its use. -/
section
namespace Go.Proofs.YtpgaplcdbbnblaaGreatDoor
open Go.RowKit
abbrev VF:=AV × List (Option ABlk) × Nat × List Bool × List Prop
abbrev VC:=Exit × List (Option AV) × List (Option ABlk) × Nat × Nat × List Bool × List Prop
def i64 (n:Int):AV:=.c (.v (.int .i64 n))
def bo (b:Bool):AV:=.c (.v (.bool b))
def rBlk (ty sz n:Nat) (f:Nat→List Value):ABlk:=⟨false,false,ty,sz,.arr n fun k=>(f k).map .v⟩
def wBlk (ty sz n:Nat) (f:Nat→List Value):ABlk:=⟨true,true,ty,sz,.arr n fun k=>(f k).map .v⟩
def oBlk (ty:Nat) (l:List Value):ABlk:=⟨true,false,ty,0,.lit (l.map .v)⟩
def E1 (P:Program):Env:=⟨P,[]⟩
theorem low_map {n:Nat} (l:List Value) (j:Nat):lowC n ((l.map AC.v).getD j nov)=true:=by
 simp only[List.getD,List.getElem?_map]
 cases l[j]?<;>rfl
theorem rBlk_low {n ty sz q:Nat} {f:Nat→List Value}:lowB n (rBlk ty sz q f):=lowB_cells (fun _ _=>low_map _ _) (fun _ h=>by cases h)
theorem wBlk_low {n ty sz q:Nat} {f:Nat→List Value}:lowB n (wBlk ty sz q f):=lowB_cells (fun _ _=>low_map _ _) (fun _ h=>by cases h)
theorem oBlk_low {n ty:Nat} {l:List Value}:lowB n (oBlk ty l):=lowB_cells (fun _ _=>low_map _ _) (fun _ h=>by cases h)
theorem GW_i64 {n nh n':Nat} {ρ:Rn} {a b:Int} (h:a=b):GW n nh n' ρ (i64 a) (i64 b):=by subst h;exact GW_low rfl
def namesB (P:Program):Bool:=P.funcs.toList.all fun fn=>fn.body.isNone||!(fn.name== "runtime.NumGoroutine")
theorem envOk {P:Program} {ct:List (FuncId × CtF)} (hc:∀f g,(f,g)∈ct→CtOk P f g) (hm:P.follows .mixedOrders=true) (hn:namesB P=true):EnvOk ⟨P,ct⟩:=
 ⟨hc,hm,fun f fn c h1 h2=>by
  have hmem:fn∈P.funcs.toList:=by
   rw[← Array.getElem?_toList] at h1
   exact List.mem_of_getElem? h1
  have:=List.all_eq_true.1 hn fn hmem
  simpa[h2] using this⟩
theorem rel_nil (w:World):Rel (loneC w) (fun _=>none) [] w:=by
 refine⟨rfl,rfl,rfl,Nat.le_refl _,Nat.le_refl _,fun _ _ _=>rfl,fun id x h=>?_,fun id id' x x' L L' h=>?_,fun g L h=>?_,fun id x o h=>?_⟩<;>cases h
def stC (m:AMem):St:=⟨[],m,0,0,true,[],[],[],[],none,[]⟩
def pD:Nat→Nat→List Dec
 |0,_=>[]
 |n+1,m=>(match m % 3 with|0=>Dec.a|1=>Dec.b true|_=>Dec.b false)::pD n (m / 3)
theorem two {b:Bool} {A B X:Prop} (H:(b=true→A)∧(b=false→B)) (h1:A→X) (h2:B→X):X:=
 match b,H with
 |true,H=>h1 (H.1 rfl)
 |false,H=>h2 (H.2 rfl)
end Go.Proofs.YtpgaplcdbbnblaaGreatDoor
end
/- A call that hands out one new list of plain cells: from what it does alone to what it does anywhere. No Go text is in sight. -/
section
namespace Go.Proofs.YtpgaplcdbbnblaaGreatDoor
open Go.RowKit
theorem γc_plain {β β':Nm} {c:AC} {u:Value} (h:∃v,c= .v v) (e:γc β c=some u):γc β' c=some u:=by
 obtain⟨v,rfl⟩:=h
 exact e
theorem rel_fresh {C:Ctx} {β β1:Nm} {m m1:AMem} {w w':World} (h:Rel C β m w) (hb:Below w.heap.size w w') {id:Nat} (hid:β id=none) (hg:∀g,id≠gid g) (h1:Rel (loneC w) β1 m1 w') {i1:Nat} {x:ABlk} (hx:look m1 i1=some x) (hown:x.own=true)
 {n:Nat} {f:Nat→List AC} (hcs:x.cs= .arr n f) (hpl:∀k j,x.inb k (j+1)=true→∃v,x.cs.get k j= .v v) {L:Loc} (hL1:β1 i1=some L):
 Rel C (ext1 β id L) (m++[(id,x)]) w':=by
 have hw':Rel C β m w':=h.below hb
 obtain⟨L',e,hbk⟩:=h1.blk i1 x hx
 rw[hL1] at e
 cases e
 have hnewb:L.nil=false→w.heap.size≤L.b:=fun hn=>by
  obtain⟨_,h2,_⟩:=hbk.own hown hn
  rcases h2 with h2|h2
  · exact h2
  · exact h2.elim
 have hbase:C.base≤w.heap.size:=by have:=h.size;have:=h.base;omega
 have he:Ext β (ext1 β id L):=ext1_ext hid
 have hno:look m id=none:=by
  cases e:look m id with
  |none=>rfl
  |some x=>obtain⟨L,hL,_⟩:=h.blk id x e;rw[hid] at hL;cases hL
 have hlk:∀i y,look (m++[(id,x)]) i=some y→(look m i=some y∧i≠id)∨(i=id∧y=x):=by
  intro i y e
  rw[look_append] at e
  cases e':look m i with
  |some z=>
   rw[e'] at e
   cases e
   exact .inl ⟨rfl,fun h'=>by subst h';rw[hno] at e';cases e'⟩
  |none=>
   rw[e'] at e
   simp only[look_cons] at e
   cases hb:Nat.beq id i with
   |true=>rw[hb] at e;cases e;exact .inr ⟨(Nat.eq_of_beq_eq_true hb).symm,rfl⟩
   |false=>rw[hb] at e;cases e
 refine⟨hw'.os,hw'.tape,hw'.output,hw'.size,hw'.base,hw'.out,fun i y e=>?_,?_,?_,?_⟩
 · rcases hlk i y e with⟨e1,hne⟩|⟨rfl,rfl⟩
   · obtain⟨M,hM,hk⟩:=hw'.blk i y e1
     exact⟨M,he i M hM,hk.keep he (Nat.le_refl _) (fun _=>rfl)⟩
   · refine⟨L,ext1_same,hbk.sz,hbk.lit,fun k j hi=>?_,hbk.lt,fun ho hn=>?_,hbk.arrl,hbk.rowc⟩
     · obtain⟨g1,u,g2,g3,g4⟩:=hbk.cells k j hi
       exact⟨g1,u,γc_plain (hpl k j hi) g2,g3,g4⟩
     · obtain⟨g1,_,g3⟩:=hbk.own ho hn
       exact⟨g1,.inl (by have:=hnewb hn;omega),g3⟩
 · intro i i' y y' M M' e e' hne ho hM hM' hn hn'
   rcases hlk i y e with⟨e1,g1⟩|⟨rfl,rfl⟩
   · rcases hlk i' y' e' with⟨e2,g2⟩|⟨rfl,rfl⟩
     · simp only[ext1,g1,g2,if_false] at hM hM'
       exact hw'.sep i i' y y' M M' e1 e2 hne ho hM hM' hn hn'
     · simp only[ext1,g1,if_false,if_true] at hM hM'
       cases hM'
       obtain⟨K,hK,hk⟩:=h.blk i y e1
       rw[hK] at hM
       cases hM
       have:=hk.lt hn
       have:=hnewb hn'
       omega
   · rcases hlk i' y' e' with⟨e2,g2⟩|⟨rfl,rfl⟩
     · simp only[ext1,g2,if_false,if_true] at hM hM'
       cases hM
       obtain⟨K,hK,hk⟩:=h.blk i' y' e2
       rw[hK] at hM'
       cases hM'
       have:=hk.lt hn'
       have:=hnewb hn
       omega
     · exact absurd rfl hne
 · intro g M e
   have:gid g≠id:=fun e=>hg g e.symm
   simp only[ext1,this,if_false] at e
   exact h.glob g M e
 · intro i y o e ho
   rcases hlk i y e with⟨e1,hne⟩|⟨rfl,rfl⟩
   · obtain⟨M,g1,g2,g3,g4,g5⟩:=hw'.objs i y o e1 ho
     obtain⟨M',hM',hk⟩:=h.blk i y e1
     rw[g1] at hM'
     cases hM'
     refine⟨M,he i M g1,g2,g3,g4.keep he rfl,fun i' y' K q1 q2 q3 q4=>?_⟩
     rcases hlk i' y' q2 with⟨e2,hne2⟩|⟨rfl,rfl⟩
     · simp only[ext1,hne2,if_false] at q3
       exact g5 i' y' K q1 e2 q3 q4
     · simp only[ext1,if_true] at q3
       cases q3
       have:=hk.lt g2
       have:=hnewb q4
       omega
   · rw[hcs] at ho;cases ho
theorem not_gid {id:Nat} (h:id<lim) (g:Nat):id≠gid g:=by unfold lim at h;unfold gid;omega
end Go.Proofs.YtpgaplcdbbnblaaGreatDoor
end
/- The symbolic evaluator: loops told by what is looked at, at each head. No Go text is in sight. -/
section
namespace Go.Proofs.YtpgaplcdbbnblaaGreatDoor
open Go.RowKit
theorem low_lit {n ty sz:Nat} {own row:Bool} {l:List AC} (h:l.all (lowC n)=true):lowB n ⟨own,row,ty,sz,.lit l⟩:=
 lowB_cells (fun k j=>by
  simp only[Cs.get,List.getD]
  cases e:l[j]? with
  |none=>rfl
  |some x=>exact List.all_eq_true.1 h x (List.mem_of_getElem? e)) (fun o e=>by cases e)
theorem low_arr {n ty sz q:Nat} {own row:Bool} {f:Nat→List AC} (h:∀k j,lowC n ((f k).getD j nov)=true):lowB n ⟨own,row,ty,sz,.arr q f⟩:=
 lowB_cells h (fun o e=>by cases e)
theorem GW_lowV {n nh n':Nat} {ρ:Rn} {x:AV} (h:lowV n x=true):GW n nh n' ρ x x:=fun _ _ e=>γ_low h e
theorem MemW_mem {n nh n':Nat} {ρ:Rn} {m1:AMem}:∀{m2:AMem},(∀p∈m2,MemC n nh n' ρ m1 p.1 p.2)→MemW n nh n' ρ m1 m2
 | [],_=>trivial
 |(_,_)::_,h=>⟨h _ (List.mem_cons_self ..),MemW_mem fun p hp=>h p (List.mem_cons_of_mem _ hp)⟩
theorem FrW_of_mem {n nh n':Nat} {ρ:Rn} {tm1:List AV}:∀{lv:List (Nat × AV)},(∀q∈lv,∃a1,tm1[q.1]? =some a1∧a1≠ .any∧GW n nh n' ρ a1 q.2)→FrW n nh n' ρ tm1 lv
 | [],_=>trivial
 |(_,_)::_,h=>⟨h _ (List.mem_cons_self ..),FrW_of_mem fun p hp=>h p (List.mem_cons_of_mem _ hp)⟩
def keptB (n n':Nat) (id:Nat):Bool:=Nat.blt id n||Nat.ble n' id
theorem rnOk_kept {n nh n':Nat} {ρ:Rn}:∀{m:AMem},(∀p∈m,keptB n n' p.1=true)→rnOk n nh n' ρ m=true
 | [],_=>rfl
 | (id,_)::r,h=>by
  simp only[rnOk,Bool.and_eq_true]
  refine⟨List.all_eq_true.2 fun p hp=>?_,rnOk_kept fun p hp=>h p (List.mem_cons_of_mem _ hp)⟩
  have h1:keptB n n' id=true:=h _ (List.mem_cons_self ..)
  have h2:keptB n n' p.1=true:=h p (List.mem_cons_of_mem _ hp)
  unfold keptB at h1 h2
  simp only[oldId,h1,h2]
  cases e:Nat.beq p.1 id with
  |true=>rfl
  |false=>
   simp only[Bool.false_or,Bool.not_eq_true']
   rw[Bool.eq_false_iff]
   intro h3
   have:=Nat.eq_of_beq_eq_true h3
   subst this
   simp at e
theorem wk_kept {n nh n':Nat} {tm:List AV} {m:AMem} {N:Nat} {lv:List (Nat × AV)} {mm:AMem} (h1:n≤nh) (h2:nh≤n') (h3:n'≤lim) (hlen:tm.length=N)
 (hk:(mm.all fun p=>keptB n n' p.1)=true) (hm:∀p∈mm,lowB n p.2∧∃y,look m p.1=some y∧BEq y p.2)
 (hf:∀q∈lv,tm[q.1]? =some q.2∧q.2≠ .any∧lowV n q.2=true):Wk n nh n' tm m (mkFr N lv) mm:=by
 have hk:∀p∈mm,keptB n n' p.1=true:=fun p hp=>List.all_eq_true.1 hk p hp
 refine wk_mk (ρ:=fun _=>.inr 1) h1 h2 h3 hlen (rnOk_kept hk) (MemW_mem fun p hp=>?_) (FrW_of_mem fun q hq=>?_)
 · obtain⟨g1,y,g2,g3⟩:=hm p hp
   refine .inr (.inr (.inr ⟨?_,y,g2,g3,g1⟩))
   have:=hk p hp
   simp only[keptB,Bool.or_eq_true] at this
   rcases this with h|h
   · exact .inl (by rwa[Nat.blt_eq] at h)
   · exact .inr (Nat.le_of_ble_eq_true h)
 · obtain⟨g1,g2,g3⟩:=hf q hq
   exact⟨_,g1,g2,GW_lowV g3⟩
def BL:List ABlk→List (Option ABlk)→Prop
 | [],[]=>True
 |b::bs,some y::ys=>BEq y b∧BL bs ys
 |_,_=>False
theorem BL.refl:∀(l:List ABlk),BL l (l.map some)
 | []=>trivial
 |b::bs=>⟨BEq.refl b,BL.refl bs⟩
theorem BL.mem:∀{ids:List Nat} {bs:List ABlk} {ys:List (Option ABlk)},BL bs ys→∀p∈ids.zip bs,∃y,(p.1,some y)∈ids.zip ys∧BEq y p.2
 | [],_,_,_,p,hp=>by simp at hp
 |_::_,[],_,_,p,hp=>by simp at hp
 |i::is,b::bs,[],h,p,hp=>h.elim
 |i::is,b::bs,none::ys,h,p,hp=>h.elim
 |i::is,b::bs,some y::ys,h,p,hp=>by
  rw[List.zip_cons_cons,List.mem_cons] at hp
  rcases hp with rfl|hp
  · exact⟨y,by simp,h.1⟩
  · obtain⟨y',h1,h2⟩:=h.2.mem p hp
    exact⟨y',by rw[List.zip_cons_cons];exact List.mem_cons_of_mem _ h1,h2⟩
theorem zip_map_mem {α β:Type} {f:α→β}:∀{l:List α} {a:α} {b:β},(a,b)∈l.zip (l.map f)→b=f a
 | [],a,b,h=>by simp at h
 |x::r,a,b,h=>by
  rw[List.map_cons,List.zip_cons_cons,List.mem_cons] at h
  rcases h with h|h
  · cases h;rfl
  · exact zip_map_mem h
theorem zip_append_mem {α β:Type}:∀{l l':List α} {r:List β} {p:α × β},p∈l.zip r→p∈(l++l').zip r
 | [],_,_,_,h=>by simp at h
 |x::l,l',[],_,h=>by simp at h
 |x::l,l',y::r,p,h=>by
  rw[List.zip_cons_cons,List.mem_cons] at h
  rw[List.cons_append,List.zip_cons_cons,List.mem_cons]
  exact h.imp id zip_append_mem
theorem zip_take_mem {α β:Type}:∀{l:List α} {r:List β} {p:α × β},p∈l.zip (r.take l.length)→p∈l.zip r
 | [],_,_,h=>by simp at h
 |x::l,[],_,h=>by simp at h
 |x::l,y::r,p,h=>by
  rw[List.length_cons,List.take_succ_cons,List.zip_cons_cons,List.mem_cons] at h
  rw[List.zip_cons_cons,List.mem_cons]
  exact h.imp id zip_take_mem
theorem zip_some_mem {α β:Type}:∀{l:List α} {r:List β} {p:α × β},p∈l.zip r→(p.1,some p.2)∈l.zip (r.map some)
 | [],_,_,h=>by simp at h
 |x::l,[],_,h=>by simp at h
 |x::l,y::r,p,h=>by
  rw[List.zip_cons_cons,List.mem_cons] at h
  rw[List.map_cons,List.zip_cons_cons,List.mem_cons]
  rcases h with rfl|h
  · exact .inl rfl
  · exact .inr (zip_some_mem h)
def notAny:AV→Bool
 | .any=>false
 |_=>true
theorem notAny_ne {x:AV} (h:notAny x=true):x≠ .any:=by intro e;subst e;cases h
def okV (n:Nat) (v:AV):Bool:=lowV n v&&notAny v
theorem zip_fst_all {f:Nat→Bool}:∀{ids:List Nat} {bs:List ABlk},ids.all f=true→((ids.zip bs).all fun p=>f p.1)=true
 | [],_,_=>by simp
 |_::_,[],_=>by simp
 |i::is,b::bs,h=>by
  simp only[List.all_cons,Bool.and_eq_true] at h
  rw[List.zip_cons_cons,List.all_cons,Bool.and_eq_true]
  exact⟨h.1,zip_fst_all h.2⟩
def StepV {S:Type} (n n' N:Nat) (hs xs ids:List Nat) (inv:S→Prop) (μ:S→Nat) (vals:S→List AV) (blks:S→List ABlk) (e:Exit) (out:List (Nat × AV)) (mF:AMem) (s:S) (r:VC):Prop:=
 allT r.2.2.2.2.2.1∧r.2.2.2.2.2.2=[]∧r.2.2.2.2.1≤n'∧r.2.2.2.1=N∧
  ((r.1= .normal∧∃s',inv s'∧μ s'<μ s∧r.2.1.take hs.length=(vals s').map some∧BL (blks s') r.2.2.1)∨
   (r.1≠ .normal∧r.1=e∧(∀q∈out,okV n q.2=true∧(q.1,some q.2)∈(hs++xs).zip r.2.1)∧∀p∈mF,keptB n n' p.1=true∧lowB n p.2∧∃y,(p.1,some y)∈ids.zip r.2.2.1∧BEq y p.2))
theorem loop_viewE {E:Env} (hE:EnvOk E) {fuel:Nat} {body:Code} {S:Type} (inv:S→Prop) (μ:S→Nat) (hs xs ids:List Nat) (vals:S→List AV) (blks:S→List ABlk) {N n nh n' str:Nat} {e:Exit} {out:List (Nat × AV)} {mF:AMem}
 (hn1:n≤nh) (hn2:nh≤n') (hn3:n'≤lim) {s0:S} (h0:inv s0) (hlen:∀s,hs.length=(vals s).length∧ids.length=(blks s).length) (hids:ids.all (keptB n n')=true) {eblks:List (Option ABlk)} (heb:BL (blks s0) eblks)
 (hlow:∀s,inv s→((vals s).all (okV n))=true∧∀b∈blks s,lowB n b)
 (step:∀s,inv s→∃p lp r,view (hs++xs) ids (fC E fuel body nh str ⟨mkFr N (hs.zip (vals s)),ids.zip (blks s),0,0,false,p,[],[],[],none,lp⟩)=some r∧StepV n n' N hs xs ids inv μ vals blks e out mF s r):
 LoopV E.P body hs ids ((vals s0).map some) eblks N n (mkFr N out) mF n' e none:=by
 have kept:∀s,inv s→∀tm m,(∀q∈hs.zip (vals s),tm[q.1]? =some q.2)→(∀p∈ids.zip (blks s),∃y,look m p.1=some y∧BEq y p.2)→tm.length=N→Wk n nh n' tm m (mkFr N (hs.zip (vals s))) (ids.zip (blks s)):=by
  intro s hi tm m g1 g2 g3
  obtain⟨l1,l2⟩:=hlow s hi
  refine wk_kept hn1 hn2 hn3 g3 (zip_fst_all hids) (fun p hp=>⟨l2 _ (List.of_mem_zip hp).2,g2 p hp⟩) fun q hq=>?_
  have:=List.all_eq_true.1 l1 _ (List.of_mem_zip hq).2
  simp only[okV,Bool.and_eq_true] at this
  exact⟨g1 q hq,notAny_ne this.2,this.1⟩
 refine loop_ob hE (fuel:=fuel) (str:=str) inv μ (fun s=>mkFr N (hs.zip (vals s))) (fun s=>ids.zip (blks s)) hn1 hn2 (fun _ h=>by cases h) h0 (fun tm m g1 g2 g3=>kept s0 h0 tm m (fun q hq=>?_) (fun p hp=>?_) g3) fun s hi=>?_
 · have:=zip_some_mem hq
   rw[← g1] at this
   exact(zip_map_mem this).symm
 · obtain⟨y,h1,h2⟩:=heb.mem p hp
   rw[← g2] at h1
   exact⟨y,(zip_map_mem h1).symm,h2⟩
 · obtain⟨p,lp,⟨e',l,b,len,n1,ob,po⟩,hv,hob,hpo,hn,hN,hw⟩:=step s hi
   simp only at hob hpo hn hN hw
   obtain⟨st,v1,v2,v3,v4,v6,v7,v8⟩:=view_out hv
   refine⟨p,lp,e',n1,st,v1,hn,⟨by rw[v6];exact hob,by rw[v7,hpo];simp⟩,v8,?_⟩
   rcases hw with⟨rfl,s',i1,i2,i3,i4⟩|⟨hne,rfl,i3,i4⟩
   · refine .inl ⟨rfl,s',i1,i2,kept s' i1 _ _ (fun q hq=>?_) (fun p hp=>?_) (v4.trans hN)⟩
     · have h1:=zip_some_mem hq
       rw[← i3] at h1
       have h2:(q.1,some q.2)∈(hs++xs).zip l:=zip_append_mem (zip_take_mem h1)
       rw[← v2] at h2
       exact(zip_map_mem h2).symm
     · obtain⟨y,h1,h2⟩:=i4.mem p hp
       rw[← v3] at h1
       exact⟨y,(zip_map_mem h1).symm,h2⟩
   · refine .inr ⟨hne,rfl,wk_kept (by omega) (Nat.le_refl _) hn3 (v4.trans hN) (List.all_eq_true.2 fun p hp=>(i4 p hp).1) (fun p hp=>?_) fun q hq=>?_⟩
     · obtain⟨_,g2,y,g3,g4⟩:=i4 p hp
       rw[← v3] at g3
       exact⟨g2,y,(zip_map_mem g3).symm,g4⟩
     · obtain⟨g1,g2⟩:=i3 q hq
       simp only[okV,Bool.and_eq_true] at g1
       rw[← v2] at g2
       exact⟨(zip_map_mem g2).symm,notAny_ne g1.2,g1.1⟩
theorem loop_view {E:Env} (hE:EnvOk E) {fuel:Nat} {body:Code} {S:Type} (inv:S→Prop) (μ:S→Nat) (hs xs ids:List Nat) (vals:S→List AV) (blks:S→List ABlk) {N n nh n' str:Nat} {e:Exit} {out:List (Nat × AV)} {mF:AMem}
 (hn1:n≤nh) (hn2:nh≤n') (hn3:n'≤lim) {s0:S} (h0:inv s0) (hlen:∀s,hs.length=(vals s).length∧ids.length=(blks s).length) (hids:ids.all (keptB n n')=true)
 (hlow:∀s,inv s→((vals s).all (okV n))=true∧∀b∈blks s,lowB n b)
 (step:∀s,inv s→∃p lp r,view (hs++xs) ids (fC E fuel body nh str ⟨mkFr N (hs.zip (vals s)),ids.zip (blks s),0,0,false,p,[],[],[],none,lp⟩)=some r∧StepV n n' N hs xs ids inv μ vals blks e out mF s r):
 LoopV E.P body hs ids ((vals s0).map some) ((blks s0).map some) N n (mkFr N out) mF n' e none:=
 loop_viewE hE (fuel:=fuel) (nh:=nh) (str:=str) inv μ hs xs ids vals blks hn1 hn2 hn3 h0 hlen hids (BL.refl _) hlow step
end Go.Proofs.YtpgaplcdbbnblaaGreatDoor
end
/- Closed runs that read package variables, as contracts. No Go text is in sight. -/
section
namespace Go.Proofs.YtpgaplcdbbnblaaGreatDoor
open Go.RowKit
def eqAC:AC→AC→Bool
 | .v (.int k x),.v (.int k' y)=>decide (k=k')&&decide (x=y)
 | .v (.bool a),.v (.bool b)=>a==b
 |_,_=>false
theorem eqAC_eq {x y:AC} (h:eqAC x y=true):x=y:=by
 unfold eqAC at h
 split at h
 · simp only[Bool.and_eq_true,decide_eq_true_eq] at h;rw[h.1,h.2]
 · simp at h;rw[h]
 · cases h
def eqLs:List AC→List AC→Bool
 | [],[]=>true
 |x::r,y::q=>eqAC x y&&eqLs r q
 |_,_=>false
theorem eqLs_eq:∀{l q:List AC},eqLs l q=true→l=q
 | [],[],_=>rfl
 | [],_::_,h=>by simp[eqLs] at h
 |_::_,[],h=>by simp[eqLs] at h
 |x::r,y::q,h=>by
  simp only[eqLs,Bool.and_eq_true] at h
  rw[eqAC_eq h.1,eqLs_eq h.2]
def eqBk (x y:ABlk):Bool:=
 match x.cs,y.cs with
 | .lit l,.lit q=>eqLs l q&&(x.row==y.row&&(Nat.beq x.ty y.ty&&Nat.beq x.sz y.sz))
 |_,_=>false
theorem eqBk_eq {x y:ABlk} (h:eqBk x y=true): {x with own:=false}=({y with own:=false}:ABlk):=by
 obtain⟨o,rw,t,s,c⟩:=x
 obtain⟨o',rw',t',s',c'⟩:=y
 unfold eqBk at h
 split at h
 · rename_i l q h1 h2
   simp only at h1 h2
   subst h1;subst h2
   simp only[Bool.and_eq_true,beq_iff_eq] at h
   obtain⟨e1,e2,e3,e4⟩:=h
   rw[eqLs_eq e1,e2,Nat.eq_of_beq_eq_true e3,Nat.eq_of_beq_eq_true e4]
 · cases h
def subB (g m:AMem):Bool:=g.all fun p=>match look m p.1 with|some b=>!p.2.own&&eqBk b p.2|none=>false
def nmG (β:Nm):Nm:=fun id=>if lim≤id then β id else none
theorem rel_glob {C:Ctx} {β:Nm} {m m2 g:AMem} {w:World} (hr:Rel C β m2 w) (hs:Sub m m2) (hg:subB g m=true) (hlim:(g.all fun p=>Nat.ble lim p.1)=true):Rel (loneC w) (nmG β) g w:=by
 have hlk:∀id x,look g id=some x→lim≤id∧x.own=false∧∃b,look m2 id=some b∧({b with own:=false}:ABlk)=x∧isO x=false:=by
  intro id x hx
  have hm:=look_mem hx
  have h1:=List.all_eq_true.1 hg _ hm
  have h2:=List.all_eq_true.1 hlim _ hm
  simp only at h1 h2
  split at h1
  · rename_i b hb
    simp only[Bool.and_eq_true,Bool.not_eq_true'] at h1
    have e:=eqBk_eq h1.2
    have ho:x= {x with own:=false}:=by rw[← h1.1]
    refine⟨Nat.le_of_ble_eq_true h2,h1.1,b,hs _ _ hb,by rw[e,← ho],?_⟩
    have h3:=h1.2
    unfold eqBk at h3
    split at h3
    · rename_i l q _ hq;simp[isO,hq]
    · cases h3
  · cases h1
 refine⟨rfl,rfl,rfl,Nat.le_refl _,Nat.le_refl _,fun _ _ _=>rfl,fun id x hx=>?_,fun id id' x x' L L' hx _ _ ho=>?_,fun k L hL=>?_,fun id x o hx ho=>?_⟩
 · obtain ⟨h1,h2,b,h3,h4,_⟩:=hlk id x hx
   obtain⟨L,hL,hb⟩:=hr.blk id b h3
   subst h4
   refine⟨L,by simp[nmG,h1,hL],hb.sz,hb.lit,fun k j hi=>?_,hb.lt,fun h=>(by cases h),hb.arrl,hb.rowc⟩
   obtain⟨g1,u,g2,g3,g4⟩:=hb.cells k j hi
   obtain⟨_,_,b',h3',h4',_⟩:=hlk id _ hx
   have hm:=look_mem hx
   have h5:=List.all_eq_true.1 hg _ hm
   simp only at h5
   -- the cells are plain values
   split at h5
   · rename_i b2 hb2
     simp only[Bool.and_eq_true] at h5
     have h6:=h5.2
     unfold eqBk at h6
     split at h6
     · rename_i l q hl hq
       have hplain:∀{l q:List AC},eqLs l q=true→∀x∈q,∃v,x= .v v:=by
        intro l
        induction l with
        | nil=>intro q h x hx;cases q with
          |nil=>cases hx
          |cons _ _=>simp[eqLs] at h
        | cons a r ih=>intro q h x hx;cases q with
          |nil=>simp[eqLs] at h
          |cons c q=>
           simp only[eqLs,Bool.and_eq_true] at h
           rcases List.mem_cons.1 hx with rfl|hx
           · have:=h.1
             unfold eqAC at this
             split at this
             · exact⟨_,rfl⟩
             · exact⟨_,rfl⟩
             · cases this
           · exact ih h.2 x hx
       simp only[Bool.and_eq_true] at h6
       have hq:b.cs= .lit q:=hq
       refine⟨g1,u,?_,g3,g4⟩
       simp only[hq,Cs.get] at g2 ⊢
       have hgv:∃v,q.getD j nov= .v v:=by
        simp only[List.getD]
        cases hj:q[j]? with
        |none=>exact⟨_,rfl⟩
        |some x=>exact hplain h6.1 x (List.mem_of_getElem? hj)
       obtain⟨v,hv⟩:=hgv
       rw[hv] at g2 ⊢
       exact g2
     · cases h6
   · cases h5
 · obtain⟨_,h2,_⟩:=hlk id x hx
   rw[h2] at ho
   cases ho
 · have:nmG β (gid k)=β (gid k):=by
    unfold nmG
    rw[if_pos (by unfold gid lim;omega)]
   rw[this] at hL
   exact hr.glob k L hL
 · obtain⟨_,_,_,_,_,h5⟩:=hlk id x hx
   simp[isO,ho] at h5
def ctTG (g:AMem):CtF
 | [],m,_=>match subB g m with|true=>some (.c (.v (.bool true)),[],0,[])|false=>none
 |_,_,_=>none
theorem below_lone {w w':World} {β:Nm} {m:AMem} (h:Rel (loneC w) β m w'):Below w.heap.size w w':=⟨h.os,h.tape,h.output,h.size,fun b hb=>h.out b hb fun h=>h⟩
theorem ctTG_of {E:Env} (hE:EnvOk E) {f:FuncId} {g:AMem} {k n str n':Nat} (hf:∃(fn:Func) (c:Code),E.P.funcs[f]? =some fn∧fn.body=some c) (hlim:(g.all fun p=>Nat.ble lim p.1)=true) (hn:n'≤lim)
 (h:viewF [] (fCallF E (fC E k) f [] n str (stC g))=some (bo true,[],n',[],[])):CtOk E.P f (ctTG g):=by
 refine⟨hf,fun C β m m2 w args ib r news k' ob vs hct ho hs hr hfree hlim' hv=>?_⟩
 unfold ctTG at hct
 split at hct
 · split at hct
   · rename_i hsub
     simp only[Option.some.injEq,Prod.mk.injEq] at hct
     obtain⟨rfl,rfl,rfl,rfl⟩:=hct
     cases hv
     obtain⟨s',r1,r2,r3,r4⟩:=viewF_out h
     refine(calls_f hE r1 ⟨by rw[r3];simp[allT],by rw[r4];simp⟩ (C:=loneC w) (β:=nmG β) (w:=w) (vs:=[]) rfl (rel_glob hr hs hsub hlim) (fun id h1 h2=>by unfold nmG;rw[if_neg (by omega)])).mono ?_
     rintro e w' ⟨β',v,rfl,_,_,hv,hr'⟩
     cases hv
     exact⟨β,_,rfl,Ext.refl _,fun _ _=>rfl,rfl,by rw[List.append_nil];exact hr.below (below_lone hr')⟩
   · cases hct
 · cases hct
end Go.Proofs.YtpgaplcdbbnblaaGreatDoor
end
/- Calls told as contracts: lists that are read, blocks that are handed out. No Go text is in sight. -/
section
namespace Go.Proofs.YtpgaplcdbbnblaaGreatDoor
open Go.RowKit
/-! ### lists that are read -/
theorem rel_add_ro {C:Ctx} {β:Nm} {m:AMem} {w:World} (h:Rel C β m w) (hno:∀id x,look m id=some x→x.own=false∧isO x=false) {id:Nat} (hid:β id=none) (hg:∀g,id≠gid g) {y:ABlk} (hy:y.own=false) (hyo:isO y=false) {L:Loc} (hk:BlkOk C β w L y):
 Rel C (ext1 β id L) (m++[(id,y)]) w∧∀i x,look (m++[(id,y)]) i=some x→x.own=false∧isO x=false:=by
 have he:Ext β (ext1 β id L):=ext1_ext hid
 have hlk:∀i z,look (m++[(id,y)]) i=some z→look m i=some z∧i≠id∨i=id∧z=y:=by
  intro i z e
  rw[look_append] at e
  cases e':look m i with
  |some z'=>
   rw[e'] at e
   obtain rfl:z'=z:=Option.some.inj e
   refine .inl ⟨rfl,fun h'=>?_⟩
   subst h'
   obtain⟨L,hL,_⟩:=h.blk i z' e'
   rw[hid] at hL;cases hL
  |none=>
   rw[e'] at e
   simp only[look_cons] at e
   cases hb:Nat.beq id i with
   |true=>rw[hb] at e;cases e;exact .inr ⟨(Nat.eq_of_beq_eq_true hb).symm,rfl⟩
   |false=>rw[hb] at e;cases e
 have hown:∀i x,look (m++[(id,y)]) i=some x→x.own=false∧isO x=false:=by
  intro i x e
  rcases hlk i x e with⟨e1,_⟩|⟨_,rfl⟩
  · exact hno i x e1
  · exact⟨hy,hyo⟩
 refine⟨⟨h.os,h.tape,h.output,h.size,h.base,h.out,fun i z e=>?_,fun i i' z z' M M' e _ _ ho=>?_,fun g M e=>?_,fun i z o e ho=>?_⟩,hown⟩
 · rcases hlk i z e with⟨e1,_⟩|⟨rfl,rfl⟩
   · obtain⟨M,hM,hk'⟩:=h.blk i z e1
     exact⟨M,he i M hM,hk'.keep he (Nat.le_refl _) (fun _=>rfl)⟩
   · exact⟨L,ext1_same,hk.keep he (Nat.le_refl _) (fun _=>rfl)⟩
 · rw[(hown i z e).1] at ho;cases ho
 · have:gid g≠id:=fun e=>hg g e.symm
   simp only[ext1,this,if_false] at e
   exact h.glob g M e
 · have:=(hown i z e).2
   simp[isO,ho] at this
def eltZ (x:ABlk) (k j s:Nat):Nat→List AC:=
 match x.cs,k with
 | .arr _ f,0=>f
 |_,_=>elt x k j s
theorem eltZ_eq (x:ABlk) (k j s:Nat):eltZ x k j s=elt x k j s:=by
 unfold eltZ
 split
 · rename_i f h
   funext i
   simp[elt,h]
 · rfl
def slOf (s:Nat) (m:AMem):AC→Option (Nat × (Nat→List AC) × Bool)
 | .sl id k j n _=>
  match look m id with
  |some x=>match eltB x k j s n with|some b=>some (n,eltZ x k j s,b)|none=>none
  |none=>none
 | .v (.slice none 0 0)=>some (0,fun _=>[],true)
 |_=>none
theorem blk_slice {C:Ctx} {β:Nm} {m:AMem} {w:World} (hr:Rel C β m w) {s:Nat} (hs:0<s) {a:AC} {n:Nat} {F:Nat→List AC} (h:slOf s m a=some (n,F,true)) {v:Value} (hv:γc β a=some v) (ty:Nat) {G:Nat→List Value}
 (hG:∀i,i<n→F i=(G i).map .v) (hGl:∀i,(G i).length=s) (C':Ctx) (β':Nm) (hC':C'=loneC w):
 ∃L,BlkOk C' β' w L (rBlk ty s n G)∧∀β2:Nm,∀i,β2 i=some L→γc β2 (.sl i 0 0 n none)=some v:=by
 subst hC'
 unfold slOf at h
 split at h
 · rename_i id k j n' cap
   split at h
   · rename_i x hx
     split at h
     · rename_i b hb
       simp only[Option.some.injEq,Prod.mk.injEq,eltZ_eq] at h
       obtain⟨rfl,rfl,rfl⟩:=h
       obtain⟨L,hL,hk⟩:=hr.blk id x hx
       refine⟨⟨L.b,L.o+(k*L.s+j),s,cap.getD (L.cap-k),L.nil⟩,⟨rfl,fun l hl=>(by cases hl),fun k' j' hi=>?_,hk.lt,fun ho=>(by cases ho),fun q f hf i _=>(by cases hf;simp[hGl,rBlk]),fun ho=>(by cases ho)⟩,fun β2 i h2=>?_⟩
       · simp only[ABlk.inb,rBlk,Bool.and_eq_true] at hi
         have hi1:k'<n':=of_decide_eq_true hi.1
         have hi2:j'+1≤s:=of_decide_eq_true hi.2
         have hget:∀u,γc β ((elt x k j s k').getD j' nov)=some u→γc β' ((rBlk ty s n' G).cs.get k' j')=some u:=by
          intro u hu
          rw[hG k' hi1] at hu
          simp only[rBlk,Cs.get]
          have:j'<(G k').length:=by rw[hGl];omega
          simp only[List.getD,List.getElem?_map,List.getElem?_eq_getElem this,Option.map_some,Option.getD_some] at hu ⊢
          exact hu
         cases hc:x.cs with
         | arr q f=>
          simp only[eltB,hc] at hb
          split at hb
          · rename_i hsz
            have hb:k+n'≤q:=of_decide_eq_true (Option.some.inj hb)
            obtain⟨g1,u,g2,g3,g4⟩:=hk.cells (k+k') j' (by simp only[ABlk.inb,hc,hsz.1,Bool.and_eq_true];exact⟨decide_eq_true (by omega),decide_eq_true hi2⟩)
            refine⟨g1,u,hget u ?_,g3,?_⟩
            · rw[hc] at g2
              simpa only[elt,hc,Cs.get] using g2
            · have e:L.o+(k*L.s+j)+(k'*s+j')=L.o+((k+k')*L.s+j'):=by
               rw[hk.sz,hsz.1,hsz.2,Nat.add_mul];omega
              simp only[e]
              exact g4
          · cases hb
         |lit l=>
          simp only[eltB,hc] at hb
          have hb:j+n'*s≤l.length:=of_decide_eq_true (Option.some.inj hb)
          have hz:=hk.lit l hc
          have hle:(k'+1)*s≤n'*s:=Nat.mul_le_mul_right s hi1
          rw[Nat.add_mul,Nat.one_mul] at hle
          obtain⟨g1,u,g2,g3,g4⟩:=hk.cells k (j+(k'*s+j')) (by simp only[ABlk.inb,hc,hz];exact decide_eq_true (by omega))
          refine⟨g1,u,hget u ?_,g3,?_⟩
          · rw[hc] at g2
            simp only[elt,hc]
            simp only[Cs.get,List.getD] at g2 ⊢
            rw[List.getElem?_take,if_pos (by omega),List.getElem?_drop,show j+k'*s+j'=j+(k'*s+j') by omega]
            exact g2
          · have e:L.o+(k*L.s+j)+(k'*s+j')=L.o+(k*L.s+(j+(k'*s+j'))):=by omega
            simp only[e]
            exact g4
         |obj o=>simp[eltB,hc] at hb
       · simp only[γc,hL] at hv
         simp only[γc,h2]
         split at hv
         · rename_i hn
           rw[if_pos hn]
           split at hv
           · rename_i hz
             rw[if_pos ⟨hz.1,rfl⟩];exact hv
           · cases hv
         · rename_i hn
           rw[if_neg hn]
           simpa using hv
     · cases h
   · cases h
 · simp only[Option.some.injEq,Prod.mk.injEq] at h
   obtain⟨rfl,rfl,_⟩:=h
   cases hv
   refine⟨⟨0,0,s,0,true⟩,⟨rfl,fun l hl=>(by cases hl),fun k' j' hi=>?_,fun h=>(by cases h),fun ho=>(by cases ho),fun q f hf i hi=>(by cases hf;simp[hGl,rBlk]),fun ho=>(by cases ho)⟩,fun β2 i h2=>?_⟩
   · simp[ABlk.inb,rBlk] at hi
   · simp[γc,h2]
 · cases h
/-! ### blocks that are handed out -/
def addN (β β1:Nm):List (Nat × Nat × ABlk)→Nm
 | [],id=>β id
 |(a,o,_)::r,id=>if id=a then β1 o else addN β β1 r id
theorem addN_not {β β1:Nm}:∀{N:List (Nat × Nat × ABlk)} {id:Nat},(∀p∈N,p.1≠id)→addN β β1 N id=β id
 | [],_,_=>rfl
 |(a,o,y)::r,id,h=>by
  have:id≠a:=fun e=>h (a,o,y) (by simp) e.symm
  simp only[addN,this,if_false]
  exact addN_not fun p hp=>h p (List.mem_cons_of_mem _ hp)
theorem addN_mem {β β1:Nm}:∀{N:List (Nat × Nat × ABlk)} {p:Nat × Nat × ABlk},(N.map (·.1)).Nodup→p∈N→addN β β1 N p.1=β1 p.2.1
 | (a,o,y)::r,p,hn,hp=>by
  simp only[List.map_cons,List.nodup_cons] at hn
  rcases List.mem_cons.1 hp with rfl|hp
  · simp[addN]
  · have:p.1≠a:=fun e=>hn.1 (by rw[← e];exact List.mem_map_of_mem hp)
    simp only[addN,this,if_false]
    exact addN_mem hn.2 hp
def newsN (N:List (Nat × Nat × ABlk)):AMem:=N.map fun p=>(p.1,p.2.2)
theorem look_newsN:∀{N:List (Nat × Nat × ABlk)} {id:Nat} {y:ABlk},look (newsN N) id=some y→∃p∈N,p.1=id∧p.2.2=y
 | (a,o,z)::r,id,y,h=>by
  simp only[newsN,List.map_cons,look_cons] at h
  split at h
  · rename_i hb
    cases h
    exact⟨(a,o,_),List.mem_cons_self ..,Nat.eq_of_beq_eq_true hb,rfl⟩
  · obtain⟨p,h1,h2⟩:=look_newsN (N:=r) h
    exact⟨p,List.mem_cons_of_mem _ h1,h2⟩
structure OutOk (β1 β':Nm) (m1:AMem) (o:Nat) (y:ABlk) (x:ABlk):Prop where
 lk:look m1 o=some x
 own:x.own=true
 obj:isO x=false
 own':y.own=true
 row:y.row=x.row
 ty:y.ty=x.ty
 sz:y.sz=x.sz
 cs:(∃l l',x.cs= .lit l∧y.cs= .lit l'∧l'.length=l.length)∨∃q f,x.cs= .arr q f∧y.cs= .arr q f
 cells:∀k j,x.inb k (j+1)=true→∀u,γc β1 (x.cs.get k j)=some u→γc β' (y.cs.get k j)=some u
theorem OutOk.inb {β1 β':Nm} {m1:AMem} {o:Nat} {x y:ABlk} (h:OutOk β1 β' m1 o y x) (k j:Nat):y.inb k j=x.inb k j:=by
 rcases h.cs with⟨l,l',h1,h2,h3⟩|⟨q,f,h1,h2⟩<;>simp only[ABlk.inb,h1,h2,h.sz]
 rw[h3]
theorem rel_join {C:Ctx} {β β1:Nm} {m m1:AMem} {w w':World} (h:Rel C β m w) (hb:Below w.heap.size w w') (h1:Rel (loneC w) β1 m1 w') {N:List (Nat × Nat × ABlk)} (hnd:(N.map (·.1)).Nodup) (hnd2:∀p∈N,∀q∈N,p.2.1=q.2.1→p.1=q.1) (hfree:∀p∈N,β p.1=none∧∀g,p.1≠gid g)
 (hN:∀p∈N,∃x,OutOk β1 (addN β β1 N) m1 p.2.1 p.2.2 x):
 Rel C (addN β β1 N) (m++newsN N) w'∧Ext β (addN β β1 N):=by
 have hw':Rel C β m w':=h.below hb
 have he:Ext β (addN β β1 N):=by
  intro id L hL
  rw[addN_not fun p hp e=>?_]
  · exact hL
  · rw[← e,(hfree p hp).1] at hL;cases hL
 refine⟨?_,he⟩
 have hlk:∀i y,look (m++newsN N) i=some y→(look m i=some y∧∀p∈N,p.1≠i)∨∃p∈N,p.1=i∧p.2.2=y:=by
  intro i y e
  rw[look_append] at e
  cases e':look m i with
  |some z=>
   rw[e'] at e
   obtain rfl:z=y:=Option.some.inj e
   refine .inl ⟨rfl,fun p hp e2=>?_⟩
   obtain⟨L,hL,_⟩:=h.blk i z e'
   rw[← e2,(hfree p hp).1] at hL;cases hL
  |none=>rw[e'] at e;exact .inr (look_newsN e)
 have hbase:C.base≤w.heap.size:=by have:=h.size;have:=h.base;omega
 -- an old block
 have old:∀i y,look m i=some y→(∀p∈N,p.1≠i)→∃L,addN β β1 N i=some L∧β i=some L∧BlkOk C β w' L y∧(L.nil=false→L.b<w.heap.size):=by
  intro i y e hp
  obtain⟨L,hL,hk⟩:=hw'.blk i y e
  obtain⟨L',hL',hk'⟩:=h.blk i y e
  rw[hL] at hL'
  cases hL'
  exact⟨L,by rw[addN_not hp];exact hL,hL,hk,hk'.lt⟩
 -- a new one
 have new:∀p∈N,∃L x,addN β β1 N p.1=some L∧β1 p.2.1=some L∧OutOk β1 (addN β β1 N) m1 p.2.1 p.2.2 x∧BlkOk (loneC w) β1 w' L x∧(L.nil=false→w.heap.size≤L.b):=by
  intro p hp
  obtain⟨x,hx⟩:=hN p hp
  obtain⟨L,hL,hk⟩:=h1.blk _ x hx.lk
  refine⟨L,x,by rw[addN_mem hnd hp];exact hL,hL,hx,hk,fun hn=>?_⟩
  obtain⟨_,h2,_⟩:=hk.own hx.own hn
  rcases h2 with h2|h2
  · exact h2
  · exact h2.elim
 refine⟨hw'.os,hw'.tape,hw'.output,hw'.size,hw'.base,hw'.out,fun i y e=>?_,?_,?_,?_⟩
 · rcases hlk i y e with⟨e1,hne⟩|⟨p,hp,rfl,rfl⟩
   · obtain⟨L,g1,_,g3,_⟩:=old i y e1 hne
     exact⟨L,g1,g3.keep he (Nat.le_refl _) (fun _=>rfl)⟩
   · obtain⟨L,x,g1,g2,g3,g4,g5⟩:=new p hp
     refine⟨L,g1,by rw[g3.sz];exact g4.sz,fun l hl=>?_,fun k j hi=>?_,g4.lt,fun ho hn=>?_,fun q f hf i hi=>?_,fun hrw hn q f hf=>?_⟩
     · rcases g3.cs with⟨l1,l',h1,h2,h3⟩|⟨q,f,h1,h2⟩
       · rw[g3.sz];exact g4.lit _ h1
       · rw[h2] at hl;cases hl
     · rw[g3.inb] at hi
       obtain⟨a1,u,a2,a3,a4⟩:=g4.cells k j hi
       exact⟨a1,u,g3.cells k j hi u a2,a3,a4⟩
     · obtain⟨a1,a2,cs,a3,a4⟩:=g4.own g3.own hn
       refine⟨a1,.inl (by have:=g5 hn;omega),cs,by rw[g3.ty];exact a3,fun hrw=>?_⟩
       rw[g3.row] at hrw
       obtain⟨b1,b2,q,f,b3,b4⟩:=a4 hrw
       rw[g3.sz]
       refine⟨b1,b2,q,f,?_,b4⟩
       rcases g3.cs with⟨l1,l',h1,h2,h3⟩|⟨q',f',h1,h2⟩
       · rw[h1] at b3;cases b3
       · rw[h1] at b3;cases b3;exact h2
     · rcases g3.cs with⟨l1,l',h1,h2,h3⟩|⟨q',f',h1,h2⟩
       · rw[h2] at hf;cases hf
       · rw[h2] at hf;cases hf;rw[g3.sz];exact g4.arrl _ _ h1 i hi
     · rw[g3.row] at hrw
       rcases g3.cs with⟨l1,l',h1,h2,h3⟩|⟨q',f',h1,h2⟩
       · rw[h2] at hf;cases hf
       · rw[h2] at hf;cases hf;exact g4.rowc hrw hn _ _ h1
 · intro i i' y y' M M' e e' hne ho hM hM' hn hn'
   rcases hlk i y e with⟨e1,q1⟩|⟨p,hp,rfl,rfl⟩
   · obtain⟨L,g1,g2,_,g4⟩:=old i y e1 q1
     rw[hM] at g1
     cases g1
     rcases hlk i' y' e' with⟨e2,q2⟩|⟨p',hp',rfl,rfl⟩
     · obtain⟨L',f1,f2,_,_⟩:=old i' y' e2 q2
       rw[hM'] at f1
       cases f1
       exact hw'.sep i i' y y' M M' e1 e2 hne ho g2 f2 hn hn'
     · obtain⟨L',x',f1,_,_,_,f5⟩:=new p' hp'
       rw[hM'] at f1
       cases f1
       have:=g4 hn
       have:=f5 hn'
       omega
   · obtain⟨L,x,g1,g2,g3,g4,g5⟩:=new p hp
     rw[hM] at g1
     cases g1
     rcases hlk i' y' e' with⟨e2,q2⟩|⟨p',hp',rfl,rfl⟩
     · obtain⟨L',f1,_,_,f4⟩:=old i' y' e2 q2
       rw[hM'] at f1
       cases f1
       have:=g5 hn
       have:=f4 hn'
       omega
     · obtain⟨L',x',f1,f2,f3,_,_⟩:=new p' hp'
       rw[hM'] at f1
       cases f1
       exact h1.sep p.2.1 p'.2.1 x x' M M' g3.lk f3.lk (fun e=>hne (hnd2 p hp p' hp' e)) g3.own g2 f2 hn hn'
 · intro g M e
   rw[addN_not fun p hp=>(hfree p hp).2 g] at e
   exact h.glob g M e
 · intro i y o e ho
   rcases hlk i y e with⟨e1,q1⟩|⟨p,hp,rfl,rfl⟩
   · obtain⟨M,g1,g2,g3,g4,g5⟩:=hw'.objs i y o e1 ho
     refine⟨M,he i M g1,g2,g3,g4.keep he rfl,fun i' y' K r1 r2 r3 r4=>?_⟩
     rcases hlk i' y' r2 with⟨e2,q2⟩|⟨p',hp',rfl,rfl⟩
     · obtain⟨L',f1,f2,_,_⟩:=old i' y' e2 q2
       rw[r3] at f1
       cases f1
       exact g5 i' y' K r1 e2 f2 r4
     · obtain⟨L',x',f1,_,_,_,f5⟩:=new p' hp'
       rw[r3] at f1
       cases f1
       obtain⟨L0,hL0,_,f4⟩:∃L,β i=some L∧True∧(L.nil=false→L.b<w.heap.size):=by
        obtain⟨L,_,a2,_,a4⟩:=old i y e1 q1
        exact⟨L,a2,trivial,a4⟩
       rw[hL0] at g1
       cases g1
       have:=f4 g2
       have:=f5 r4
       omega
   · obtain⟨L,x,_,_,g3,_,_⟩:=new p hp
     have:=g3.obj
     rcases g3.cs with⟨l1,l',h1,h2,h3⟩|⟨q',f',h1,h2⟩
     · rw[h2] at ho;cases ho
     · rw[h2] at ho;cases ho
end Go.Proofs.YtpgaplcdbbnblaaGreatDoor
end
/- The symbolic evaluator: loops that run over a list up to the first element that stops them. No Go text is in sight. -/
section
namespace Go.Proofs.YtpgaplcdbbnblaaGreatDoor
open Go.RowKit
def stH (N:Nat) (hs ids:List Nat) (vals:List AV) (blks:List ABlk) (p:List Dec) (lp:List (Option LSum)):St:=⟨mkFr N (hs.zip vals),ids.zip blks,0,0,false,p,[],[],[],none,lp⟩
def GoodV (n' N:Nat) (r:VC):Prop:=allT r.2.2.2.2.2.1∧r.2.2.2.2.2.2=[]∧r.2.2.2.2.1≤n'∧r.2.2.2.1=N
def NextV (n' N h:Nat) (vals:List AV) (blks:List ABlk) (r:VC):Prop:=GoodV n' N r∧r.1= .normal∧r.2.1.take h=vals.map some∧BL blks r.2.2.1
def EndV (n n' N:Nat) (ts ids:List Nat) (e:Exit) (out:List (Nat × AV)) (mF:AMem) (r:VC):Prop:=
 GoodV n' N r∧r.1=e∧(∀q∈out,okV n q.2=true∧(q.1,some q.2)∈ts.zip r.2.1)∧∀p∈mF,keptB n n' p.1=true∧lowB n p.2∧∃y,(p.1,some y)∈ids.zip r.2.2.1∧BEq y p.2
theorem scan_ob {E:Env} (hE:EnvOk E) {fuel:Nat} {body:Code} (hs xs ids:List Nat) (vals:Nat→List AV) (blks:List ABlk) {N n nh n' str:Nat} {e:Exit} {out:List (Nat × AV)} {mF:AMem} (j:Nat)
 (hn1:n≤nh) (hn2:nh≤n') (hn3:n'≤lim) (he:e≠ .normal) (hlen:∀k,hs.length=(vals k).length∧ids.length=blks.length) (hids:ids.all (keptB n n')=true) (hlow:∀k,k≤j→((vals k).all (okV n))=true) (hb:∀b∈blks,lowB n b)
 (step:∀k,k<j→∃p r,view (hs++xs) ids (fC E fuel body nh str (stH N hs ids (vals k) blks p []))=some r∧NextV n' N hs.length (vals (k+1)) blks r)
 (stop:∃p r,view (hs++xs) ids (fC E fuel body nh str (stH N hs ids (vals j) blks p []))=some r∧EndV n n' N (hs++xs) ids e out mF r):
 LoopV E.P body hs ids ((vals 0).map some) (blks.map some) N n (mkFr N out) mF n' e none:=by
 refine loop_view hE (fuel:=fuel) (nh:=nh) (str:=str) (S:=Nat) (fun k=>k≤j) (fun k=>j-k) hs xs ids vals (fun _=>blks) hn1 hn2 hn3 (s0:=0) (Nat.zero_le _) hlen hids (fun k hk=>⟨hlow k hk,hb⟩) fun k hk=>?_
 rcases Nat.lt_or_ge k j with h|h
 · obtain⟨p,r,h1,⟨g1,g2,g3,g4⟩,h3,h4,h5⟩:=step k h
   exact⟨p,[],r,h1,g1,g2,g3,g4,.inl ⟨h3,k+1,h,by show j-(k+1)<j-k;omega,h4,h5⟩⟩
 · obtain rfl:k=j:=by omega
   obtain⟨p,r,h1,⟨g1,g2,g3,g4⟩,h3,h4,h5⟩:=stop
   exact⟨p,[],r,h1,g1,g2,g3,g4,.inr ⟨by rw[h3];exact he,h3,h4,h5⟩⟩
theorem EndV_nil {n n' N:Nat} {ts ids:List Nat} {e:Exit} {r:VC} (h:GoodV n' N r) (he:r.1=e):EndV n n' N ts ids e [] [] r:=⟨h,he,(fun _ h=>by cases h),(fun _ h=>by cases h)⟩
theorem EndV_one {n n' N:Nat} {ts ids:List Nat} {e:Exit} {r:VC} {t:Nat} {v:AV} (h:GoodV n' N r) (he:r.1=e) (hv:okV n v=true) (hm:(t,some v)∈ts.zip r.2.1):EndV n n' N ts ids e [(t,v)] [] r:=
 ⟨h,he,(fun q hq=>by rw[List.mem_singleton.1 hq];exact⟨hv,hm⟩),(fun _ h=>by cases h)⟩
theorem inb_arr {o r:Bool} {t s n:Nat} {g:Nat→List AC} {k j:Nat}:ABlk.inb ⟨o,r,t,s,.arr n g⟩ k j=(decide (k<n)&&decide (j≤s)):=rfl
theorem inb_lit {o r:Bool} {t s:Nat} {l:List AC} {k j:Nat}:ABlk.inb ⟨o,r,t,s,.lit l⟩ k j=decide (k*s+j≤l.length):=rfl
theorem first_stop (n:Nat) (q:Nat→Bool):∃j,j≤n∧(∀i,i<j→q i=false)∧(j<n→q j=true):=by
 induction n with
 |zero=>exact⟨0,Nat.le_refl _,fun i h=>by omega,fun h=>by omega⟩
 |succ n ih=>
  obtain⟨j,h1,h2,h3⟩:=ih
  rcases Nat.lt_or_ge j n with h|h
  · exact⟨j,by omega,h2,fun _=>h3 h⟩
  · obtain rfl:j=n:=by omega
    cases hq:q j with
    |true=>exact⟨j,by omega,h2,fun _=>hq⟩
    |false=>
     refine⟨j+1,Nat.le_refl _,fun i hi=>?_,fun h=>by omega⟩
     by_cases e:i=j
     · rw[e];exact hq
     · exact h2 i (by omega)
abbrev ints (ty n:Nat) (f:Nat→Int):ABlk:=rBlk ty 1 n fun i=>[.int .i64 (f i)]
end Go.Proofs.YtpgaplcdbbnblaaGreatDoor
end
/- Contracts of functions that read one list of numbers and write nothing. No Go text is in sight. -/
section
namespace Go.Proofs.YtpgaplcdbbnblaaGreatDoor
open Go.RowKit
def fA (F:Nat→List AC) (i:Nat):Int:=asI ((F i).getD 0 nov)
def isI64:List AC→Bool
 | [.v (.int .i64 _)]=>true
 |_=>false
theorem isI64_eq {l:List AC} (h:isI64 l=true):l=([.int .i64 (asI (l.getD 0 nov))]:List Value).map .v:=by
 unfold isI64 at h
 split at h
 · rfl
 · cases h
def intsOk (n:Nat) (F:Nat→List AC):Bool:=(List.range n).all fun k=>isI64 (F k)
theorem slOf_sub {s:Nat} {m m2:AMem} (h:Sub m m2) {a:AC} {r:Nat × (Nat→List AC) × Bool} (e:slOf s m a=some r):slOf s m2 a=some r:=by
 unfold slOf at e ⊢
 split at e
 · split at e
   · rename_i x hx
     simp only[h _ _ hx]
     exact e
   · cases e
 · exact e
 · cases e
theorem intsOk_eq {n:Nat} {F:Nat→List AC} (h:intsOk n F=true):∀i,i<n→F i=((fun i=>[Value.int .i64 (fA F i)]) i).map .v:=fun i hi=>isI64_eq (List.all_eq_true.1 h i (by simpa using hi))
theorem rel_one {C:Ctx} {β:Nm} {m2:AMem} {w:World} (hr:Rel C β m2 w) {a:AC} {n:Nat} {F:Nat→List AC} (hsl:slOf 1 m2 a=some (n,F,true)) (hI:intsOk n F=true) {v0:Value} (hv:γc β a=some v0) (ty:Nat):
 ∃L,Rel (loneC w) (ext1 (fun _=>none) 0 L) [(0,ints ty n (fA F))] w∧γc (ext1 (fun _=>none) 0 L) (.sl 0 0 0 n none)=some v0:=by
 obtain⟨L,h1,h2⟩:=blk_slice hr Nat.one_pos hsl hv ty (intsOk_eq hI) (fun _=>rfl) (loneC w) (fun _=>none) rfl
 exact⟨L,(rel_add_ro (rel_nil w) (fun _ _ h=>by cases h) rfl (fun g=>by unfold gid;omega) rfl rfl h1).1,h2 _ 0 ext1_same⟩
theorem pure1 {E:Env} (hE:EnvOk E) {f:FuncId} {C:Ctx} {β:Nm} {m m2:AMem} {w:World} (hs:Sub m m2) (hr:Rel C β m2 w) {a:AC} {n ib:Nat} {F:Nat→List AC} (hsl:slOf 1 m a=some (n,F,true)) (hI:intsOk n F=true)
 {restA:List AV} {vs:List Value} (hv:γt β (.c a::restA)=some vs) (hrest:∀(β1 β2:Nm) us,γt β1 restA=some us→γt β2 restA=some us) {res:AV} (hres:∀(β1 β2:Nm) u,γ β1 res=some u→γ β2 res=some u) {fuel str:Nat} (ty:Nat)
 (run:∃p lp r,viewF [] (fCallF E (fC E fuel) f (.c (.sl 0 0 0 n none)::restA) 1000 str (stA [(0,ints ty n (fA F))] p lp))=some r∧r.1=res∧r.2.2.1≤lim∧allT r.2.2.2.1∧∀q∈r.2.2.2.2,q):
 Calls E.P f vs.toArray w (fun e w'=>∃β' v',e= .returned v'∧Ext β β'∧(∀id,id<ib∨ib+0≤id→β' id=β id)∧γ β' res=some v'∧Rel C β' (m2++[]) w'):=by
 obtain⟨p,lp,⟨v,b',n',ob,po⟩,hrun,hvr,hn,hob,hpo⟩:=run
 obtain⟨s',r1,r2,r3,r4⟩:=viewF_out hrun
 simp only[γt] at hv
 split at hv
 · rename_i v0 us hv0 hus
   cases hv
   obtain⟨L,hL1,hL2⟩:=rel_one hr (slOf_sub hs hsl) hI (v0:=v0) hv0 ty
   refine(calls_f hE r1 ⟨by rw[r3];exact hob,by rw[r4];exact hpo⟩ (C:=loneC w) (β:=ext1 (fun _=>none) 0 L) (w:=w) (vs:=v0::us) ?_ hL1 (fun id h1 _=>?_)).mono ?_
   · simp only[γt,γ1,hL2,hrest _ (ext1 (fun _=>none) 0 L) _ hus]
   · unfold ext1;rw[if_neg (by omega)]
   · rintro e w' ⟨β',u,rfl,_,_,hu,hr'⟩
     simp only at hvr
     subst hvr
     exact⟨β,u,rfl,Ext.refl _,fun _ _=>rfl,hres _ _ _ hu,by rw[List.append_nil];exact hr.below (below_lone hr')⟩
 · cases hv
end Go.Proofs.YtpgaplcdbbnblaaGreatDoor
end
/- Contracts of functions that write nothing and answer by plain values, by what they read. No Go text is in sight. -/
section
namespace Go.Proofs.YtpgaplcdbbnblaaGreatDoor
open Go.RowKit
/-! ### plain values -/
def plainC:AC→Bool
 | .v _=>true
 |_=>false
def plainA:AV→Bool
 | .c x=>plainC x
 | .agg l=>l.all plainC
 |_=>false
def plainL (l:List AV):Bool:=l.all plainA
theorem plainC_γ {x:AC} (h:plainC x=true) {β1 β2:Nm} {u:Value} (e:γc β1 x=some u):γc β2 x=some u:=by
 cases x with
 |v x=>exact e
 |_=>cases h
theorem plainS_γ:∀{l:List AC},l.all plainC=true→∀{β1 β2:Nm} {us:List Value},γs β1 l=some us→γs β2 l=some us
 | [],_,_,_,_,e=>e
 | x::r,h,β1,β2,us,e=>by
  simp only[List.all_cons,Bool.and_eq_true] at h
  simp only[γs] at e ⊢
  cases hx:γc β1 x with
  |none=>rw[hx] at e;cases e
  |some u=>
   cases hr:γs β1 r with
   |none=>rw[hx,hr] at e;cases e
   |some us'=>rw[plainC_γ h.1 hx,plainS_γ h.2 hr];rw[hx,hr] at e;exact e
theorem plainA_γ1 {x:AV} (h:plainA x=true) {β1 β2:Nm} {u:Value} (e:γ1 β1 x=some u):γ1 β2 x=some u:=by
 cases x with
 |c x=>exact plainC_γ h e
 |agg l=>
  simp only[γ1] at e ⊢
  cases hl:γs β1 l with
  |none=>rw[hl] at e;cases e
  |some us=>rw[plainS_γ h hl];rw[hl] at e;exact e
 |_=>cases h
theorem plainL_γ:∀{l:List AV},plainL l=true→∀{β1 β2:Nm} {us:List Value},γt β1 l=some us→γt β2 l=some us
 | [],_,_,_,_,e=>e
 | x::r,h,β1,β2,us,e=>by
  simp only[plainL,List.all_cons,Bool.and_eq_true] at h
  simp only[γt] at e ⊢
  cases hx:γ1 β1 x with
  |none=>rw[hx] at e;cases e
  |some u=>
   cases hr:γt β1 r with
   |none=>rw[hx,hr] at e;cases e
   |some us'=>rw[plainA_γ1 h.1 hx,plainL_γ (l:=r) h.2 hr];rw[hx,hr] at e;exact e
def plainR:AV→Bool
 | .tup l=>plainL l
 |x=>plainA x
theorem plainR_γ {x:AV} (h:plainR x=true) (β1 β2:Nm) (u:Value) (e:γ β1 x=some u):γ β2 x=some u:=by
 cases x with
 |tup l=>
  simp only[γ] at e ⊢
  cases hl:γt β1 l with
  |none=>rw[hl] at e;cases e
  |some us=>rw[plainL_γ h hl];rw[hl] at e;exact e
 |c x=>exact plainA_γ1 (x:=.c x) h e
 |agg l=>exact plainA_γ1 (x:=.agg l) h e
 |any=>cases h
theorem plain_map (l:List Value):(l.map AC.v).all plainC=true:=by simp[plainC]
structure Rd (S:Type) where
 dec:List AV→AMem→Option (S × Bool)
 args:S→List AV
 mem:S→AMem
 ok:∀{C:Ctx} {β:Nm} {m m2:AMem} {w:World} {xs:List AV} {s:S} {vs:List Value},Sub m m2→Rel C β m2 w→dec xs m=some (s,true)→γt β xs=some vs→
  ∃β',Rel (loneC w) β' (mem s) w∧γt β' (args s)=some vs∧∀id,1000≤id→id<lim→β' id=none
def ctRd {S:Type} (rd:Rd S) (R:S→AV) (pre:S→Bool):CtF:=fun xs m _=>
 match rd.dec xs m with
 |some (s,b)=>some (R s,[],0,[b,pre s])
 |none=>none
def GoodF (R:AV) (r:VF):Prop:=r.1=R∧r.2.2.1≤lim∧allT r.2.2.2.1∧∀q∈r.2.2.2.2,q
theorem ctRd_of {S:Type} {P:Program} {f:FuncId} (rd:Rd S) {R:S→AV} {pre:S→Bool} (hf:∃(fn:Func) (c:Code),P.funcs[f]? =some fn∧fn.body=some c) (hres:∀s,plainR (R s)=true)
 (run:∀s,pre s=true→∃(E:Env) (fuel str:Nat),E.P=P∧EnvOk E∧∃p lp r,viewF [] (fCallF E (fC E fuel) f (rd.args s) 1000 str (stA (rd.mem s) p lp))=some r∧GoodF (R s) r):CtOk P f (ctRd rd R pre):=by
 refine⟨hf,fun C β m m2 w args ib r news k' ob vs hct ho hs hr hfree hlim hv=>?_⟩
 unfold ctRd at hct
 split at hct
 · rename_i s b hd
   simp only[Option.some.injEq,Prod.mk.injEq] at hct
   obtain⟨rfl,rfl,rfl,rfl⟩:=hct
   simp only[allT,List.forall_mem_cons] at ho
   obtain⟨rfl,o2,_⟩:=ho
   obtain⟨E,fuel,str,rfl,hE,p,lp,⟨v,b',n',ob,po⟩,hrun,hvr,hn,hob,hpo⟩:=run s o2
   obtain⟨s',r1,r2,r3,r4⟩:=viewF_out hrun
   have hn:n'≤lim:=hn
   obtain⟨β1,q1,q2,q3⟩:=rd.ok hs hr hd hv
   refine(calls_f hE r1 ⟨by rw[r3];exact hob,by rw[r4];exact hpo⟩ (C:=loneC w) (β:=β1) (w:=w) (vs:=vs) q2 q1 (fun id h1 h2=>q3 id h1 (by omega))).mono ?_
   rintro e w' ⟨β',u,rfl,_,_,hu,hr'⟩
   simp only at hvr
   subst hvr
   exact⟨β,u,rfl,Ext.refl _,fun _ _=>rfl,plainR_γ (hres s) _ _ _ hu,by rw[List.append_nil];exact hr.below (below_lone hr')⟩
 · cases hct
theorem ctRd_ofE {S:Type} {E:Env} (hE:EnvOk E) {f:FuncId} (rd:Rd S) {R:S→AV} {pre:S→Bool} (hf:∃(fn:Func) (c:Code),E.P.funcs[f]? =some fn∧fn.body=some c) (hres:∀s,plainR (R s)=true) {fuel str:Nat}
 (run:∀s,pre s=true→∃p lp r,viewF [] (fCallF E (fC E fuel) f (rd.args s) 1000 str (stA (rd.mem s) p lp))=some r∧GoodF (R s) r):CtOk E.P f (ctRd rd R pre):=
 ctRd_of rd hf hres fun s h=>⟨E,fuel,str,rfl,hE,run s h⟩
def pureRd (G:AMem) (hG:(G.all fun p=>Nat.ble lim p.1)=true):Rd (List AV) where
 dec:=fun xs m=>match plainL xs,subB G m with|true,true=>some (xs,true)|_,_=>none
 args:=fun xs=>xs
 mem:=fun _=>G
 ok :=by
  intro C β m m2 w xs s vs hs hr hd hv
  split at hd
  · rename_i h1 h2
    cases hd
    exact⟨nmG β,rel_glob hr hs h2 hG,plainL_γ h1 hv,fun id _ h=>by unfold nmG;rw[if_neg (by omega)]⟩
  · cases hd
end Go.Proofs.YtpgaplcdbbnblaaGreatDoor
end
/- Empty lists that are handed out. No Go text is in sight. -/
section
namespace Go.Proofs.YtpgaplcdbbnblaaGreatDoor
open Go.RowKit
theorem look_last {m:AMem} {id i:Nat} {y z:ABlk} (h:look (m++[(id,y)]) i=some z):look m i=some z∨(look m i=none∧i=id∧z=y):=by
 rw[look_append] at h
 cases e:look m i with
 |some z'=>rw[e] at h;exact .inl h
 |none=>
  rw[e] at h
  simp only[look_cons] at h
  cases hb:Nat.beq id i with
  |true=>rw[hb] at h;cases h;exact .inr ⟨rfl,(Nat.eq_of_beq_eq_true hb).symm,rfl⟩
  |false=>rw[hb] at h;cases h
theorem rel_add_nil {C:Ctx} {β:Nm} {m:AMem} {w:World} (h:Rel C β m w) {id:Nat} (hid:β id=none) (hg:∀g,id≠gid g) {y:ABlk} {f:Nat→List AC} (hy:y.cs= .arr 0 f):Rel C (ext1 β id ⟨0,0,y.sz,0,true⟩) (m++[(id,y)]) w:=by
 have he:Ext β (ext1 β id ⟨0,0,y.sz,0,true⟩):=ext1_ext hid
 have hne:∀i x,look m i=some x→i≠id:=by
  intro i x e e2
  subst e2
  obtain⟨L,hL,_⟩:=h.blk i x e
  rw[hid] at hL;cases hL
 have hold:∀i M,i≠id→ext1 β id ⟨0,0,y.sz,0,true⟩ i=some M→β i=some M:=fun i M hi e=>by simpa[ext1,hi] using e
 refine⟨h.os,h.tape,h.output,h.size,h.base,h.out,fun i z e=>?_,fun i i' z z' M M' e e' hn ho hM hM' n1 n2=>?_,fun g M e=>?_,fun i z o e ho=>?_⟩
 · rcases look_last e with e|⟨_,rfl,rfl⟩
   · obtain⟨M,hM,hk⟩:=h.blk i z e
     exact⟨M,he i M hM,hk.keep he (Nat.le_refl _) (fun _=>rfl)⟩
   · refine⟨_,ext1_same,rfl,fun l hl=>(by rw[hy] at hl;cases hl),fun k j hi=>(by simp[ABlk.inb,hy] at hi),fun h=>(by cases h),fun _ h=>(by cases h),fun n g hc i hi=>(by rw[hy] at hc;cases hc;omega),fun _ h=>(by cases h)⟩
 · rcases look_last e with e|⟨_,rfl,rfl⟩
   · rcases look_last e' with e'|⟨_,rfl,rfl⟩
     · exact h.sep i i' z z' M M' e e' hn ho (hold _ _ (hne i z e) hM) (hold _ _ (hne i' z' e') hM') n1 n2
     · rw[ext1_same] at hM';cases hM';cases n2
   · rw[ext1_same] at hM;cases hM;cases n1
 · exact h.glob g M (hold _ _ (fun e=>hg g e.symm) e)
 · rcases look_last e with e|⟨_,rfl,rfl⟩
   · obtain⟨M,g1,g2,g3,g4,g5⟩:=h.objs i z o e ho
     refine⟨M,he i M g1,g2,g3,g4.keep he rfl,fun i' z' K q1 q2 q3 q4=>?_⟩
     rcases look_last q2 with q2|⟨_,rfl,rfl⟩
     · exact g5 i' z' K q1 q2 (hold _ _ (hne i' z' q2) q3) q4
     · rw[ext1_same] at q3;cases q3;cases q4
   · rw[hy] at ho;cases ho
theorem rel_swap0 {C:Ctx} {β:Nm} {m:AMem} {w:World} {id:Nat} {x y:ABlk} (h:Rel C β (m++[(id,x)]) w) (hid:look m id=none) {f g:Nat→List AC} (hx:x.cs= .arr 0 f) (hy:y= {x with cs:=.arr 0 g}):Rel C β (m++[(id,y)]) w:=by
 subst hy
 have lx:look (m++[(id,x)]) id=some x:=by rw[look_append,hid];exact look_eq _ _ _
 have conv:∀i z,look (m++[(id,({x with cs:=.arr 0 g}:ABlk))]) i=some z→∃z',look (m++[(id,x)]) i=some z'∧z'.own=z.own∧(z'=z∨(i=id∧z'=x∧z= {x with cs:=.arr 0 g})):=by
  intro i z e
  rcases look_last e with e|⟨_,rfl,rfl⟩
  · exact⟨z,by rw[look_append,e],rfl,.inl rfl⟩
  · exact⟨x,lx,rfl,.inr ⟨rfl,rfl,rfl⟩⟩
 refine⟨h.os,h.tape,h.output,h.size,h.base,h.out,fun i z e=>?_,fun i i' z z' M M' e e' hn ho hM hM' n1 n2=>?_,h.glob,fun i z o e ho=>?_⟩
 · obtain⟨z',h1,_,h3|⟨rfl,rfl,rfl⟩⟩:=conv i z e
   · subst h3;exact h.blk i z' h1
   · obtain⟨L,hL,hk⟩:=h.blk i z' h1
     refine⟨L,hL,hk.sz,fun l hl=>(by cases hl),fun k j hi=>(by simp[ABlk.inb] at hi),hk.lt,fun ho hn=>?_,fun n q hc i hi=>(by cases hc;omega),fun _ _ n q hc=>(by cases hc;exact Nat.zero_le _)⟩
     obtain⟨a1,a2,cs,a3,a4⟩:=hk.own ho hn
     refine⟨a1,a2,cs,a3,fun hr=>?_⟩
     obtain⟨b1,b2,n,q,b3,b4⟩:=a4 hr
     exact⟨b1,b2,0,g,rfl,Nat.zero_le _,b4.2⟩
 · obtain⟨u,h1,h2,_⟩:=conv i z e
   obtain⟨u',h1',_,_⟩:=conv i' z' e'
   exact h.sep i i' u u' M M' h1 h1' hn (by rw[h2];exact ho) hM hM' n1 n2
 · obtain⟨z',h1,_,h3|⟨rfl,rfl,rfl⟩⟩:=conv i z e
   · subst h3
     obtain⟨M,g1,g2,g3,g4,g5⟩:=h.objs i z' o h1 ho
     refine⟨M,g1,g2,g3,g4,fun i' u K q1 q2 q3 q4=>?_⟩
     obtain⟨u',k1,_,_⟩:=conv i' u q2
     exact g5 i' u' K q1 k1 q3 q4
   · cases ho
end Go.Proofs.YtpgaplcdbbnblaaGreatDoor
end
/- Views as plain data with a number for each pair. No Go text is in sight. -/
section
namespace Go.Proofs.YtpgaplcdbbnblaaGreatDoor
open Go.RowKit
structure Vw where
 inn:Nat→Bool
 miss:Nat→Int
 good:Nat→Int
 score:Nat→Int
 got:Nat→Bool
 command:Int
 mode:Int
def Vw.cells (v:Vw):List Value:=[.bool (v.inn 0),.bool (v.inn 1),.bool (v.inn 2),.bool (v.inn 3),.bool (v.inn 4),.bool (v.inn 5),.bool (v.inn 6),.bool (v.inn 7),.int .u8 (v.miss 0),.int .u8 (v.miss 1),.int .u8 (v.miss 2),.int .u8 (v.miss 3),.int .u8 (v.miss 4),.int .u8 (v.miss 5),.int .u8 (v.miss 6),.int .u8 (v.miss 7),.int .u8 (v.good 0),.int .u8 (v.good 1),.int .u8 (v.good 2),.int .u8 (v.good 3),.int .u8 (v.good 4),.int .u8 (v.good 5),.int .u8 (v.good 6),.int .u8 (v.good 7),.int .u16 (v.score 0),.int .u16 (v.score 1),.int .u16 (v.score 2),.int .u16 (v.score 3),.int .u16 (v.score 4),.int .u16 (v.score 5),.int .u16 (v.score 6),.int .u16 (v.score 7),.bool (v.got 0),.bool (v.got 1),.bool (v.got 2),.bool (v.got 3),.bool (v.got 4),.bool (v.got 5),.bool (v.got 6),.bool (v.got 7),.int .i8 v.command,.int .u8 v.mode]
theorem Vw.len (v:Vw):v.cells.length=42:=rfl
def vwOf (l:List AC):Vw:=⟨fun i=>asB (l.getD i nov),fun i=>asI (l.getD (8+i) nov),fun i=>asI (l.getD (16+i) nov),fun i=>asI (l.getD (24+i) nov),fun i=>asB (l.getD (32+i) nov),asI (l.getD 40 nov),asI (l.getD 41 nov)⟩
def kdB:List (Option IntKind)→List AC→Bool
 | [],[]=>true
 |none::ks,.v (.bool _)::r=>kdB ks r
 |some k::ks,.v (.int q _)::r=>decide (q=k)&&kdB ks r
 |_,_=>false
theorem kdB_b {ks:List (Option IntKind)} {l:List AC} (h:kdB (none::ks) l=true):∃b r,l= .v (.bool b)::r∧kdB ks r=true:=by
 unfold kdB at h
 split at h
 · rename_i e;cases e
 · rename_i e;cases e;exact⟨_,_,rfl,h⟩
 · rename_i e;cases e
 · cases h
theorem kdB_i {k:IntKind} {ks:List (Option IntKind)} {l:List AC} (h:kdB (some k::ks) l=true):∃z r,l= .v (.int k z)::r∧kdB ks r=true:=by
 unfold kdB at h
 split at h
 · rename_i e;cases e
 · rename_i e;cases e
 · rename_i e;cases e;simp only[Bool.and_eq_true,decide_eq_true_eq] at h;obtain⟨rfl,h⟩:=h;exact⟨_,_,rfl,h⟩
 · cases h
theorem kdB_n {l:List AC} (h:kdB [] l=true):l=[]:=by
 cases l with
 |nil=>rfl
 |cons a r=>simp[kdB] at h
def vwKs:List (Option IntKind):=none::none::none::none::none::none::none::none::some .u8::some .u8::some .u8::some .u8::some .u8::some .u8::some .u8::some .u8::some .u8::some .u8::some .u8::some .u8::some .u8::some .u8::some .u8::some .u8::some .u16::some .u16::some .u16::some .u16::some .u16::some .u16::some .u16::some .u16::none::none::none::none::none::none::none::none::some .i8::some .u8::[]
abbrev vwL (v:Vw):List AC:=v.cells.map .v
def isVw (l:List AC):Bool:=kdB vwKs l
theorem vw_eq {l:List AC} (h:isVw l=true):l=(vwOf l).cells.map .v:=by
 unfold isVw vwKs at h
 obtain⟨x0,l0,rfl,h_0⟩:=kdB_b h
 obtain⟨x1,l1,rfl,h_1⟩:=kdB_b h_0
 obtain⟨x2,l2,rfl,h_2⟩:=kdB_b h_1
 obtain⟨x3,l3,rfl,h_3⟩:=kdB_b h_2
 obtain⟨x4,l4,rfl,h_4⟩:=kdB_b h_3
 obtain⟨x5,l5,rfl,h_5⟩:=kdB_b h_4
 obtain⟨x6,l6,rfl,h_6⟩:=kdB_b h_5
 obtain⟨x7,l7,rfl,h_7⟩:=kdB_b h_6
 obtain⟨x8,l8,rfl,h_8⟩:=kdB_i h_7
 obtain⟨x9,l9,rfl,h_9⟩:=kdB_i h_8
 obtain⟨x10,l10,rfl,h_10⟩:=kdB_i h_9
 obtain⟨x11,l11,rfl,h_11⟩:=kdB_i h_10
 obtain⟨x12,l12,rfl,h_12⟩:=kdB_i h_11
 obtain⟨x13,l13,rfl,h_13⟩:=kdB_i h_12
 obtain⟨x14,l14,rfl,h_14⟩:=kdB_i h_13
 obtain⟨x15,l15,rfl,h_15⟩:=kdB_i h_14
 obtain⟨x16,l16,rfl,h_16⟩:=kdB_i h_15
 obtain⟨x17,l17,rfl,h_17⟩:=kdB_i h_16
 obtain⟨x18,l18,rfl,h_18⟩:=kdB_i h_17
 obtain⟨x19,l19,rfl,h_19⟩:=kdB_i h_18
 obtain⟨x20,l20,rfl,h_20⟩:=kdB_i h_19
 obtain⟨x21,l21,rfl,h_21⟩:=kdB_i h_20
 obtain⟨x22,l22,rfl,h_22⟩:=kdB_i h_21
 obtain⟨x23,l23,rfl,h_23⟩:=kdB_i h_22
 obtain⟨x24,l24,rfl,h_24⟩:=kdB_i h_23
 obtain⟨x25,l25,rfl,h_25⟩:=kdB_i h_24
 obtain⟨x26,l26,rfl,h_26⟩:=kdB_i h_25
 obtain⟨x27,l27,rfl,h_27⟩:=kdB_i h_26
 obtain⟨x28,l28,rfl,h_28⟩:=kdB_i h_27
 obtain⟨x29,l29,rfl,h_29⟩:=kdB_i h_28
 obtain⟨x30,l30,rfl,h_30⟩:=kdB_i h_29
 obtain⟨x31,l31,rfl,h_31⟩:=kdB_i h_30
 obtain⟨x32,l32,rfl,h_32⟩:=kdB_b h_31
 obtain⟨x33,l33,rfl,h_33⟩:=kdB_b h_32
 obtain⟨x34,l34,rfl,h_34⟩:=kdB_b h_33
 obtain⟨x35,l35,rfl,h_35⟩:=kdB_b h_34
 obtain⟨x36,l36,rfl,h_36⟩:=kdB_b h_35
 obtain⟨x37,l37,rfl,h_37⟩:=kdB_b h_36
 obtain⟨x38,l38,rfl,h_38⟩:=kdB_b h_37
 obtain⟨x39,l39,rfl,h_39⟩:=kdB_b h_38
 obtain⟨x40,l40,rfl,h_40⟩:=kdB_i h_39
 obtain⟨x41,l41,rfl,h_41⟩:=kdB_i h_40
 obtain rfl:=kdB_n h_41
 rfl
theorem isVw_cells (v:Vw):isVw (v.cells.map .v)=true:=rfl
def vwI (x:View):Vw:=⟨fun i=>vat false x.inn i,fun i=>vat 0 x.miss i,fun i=>vat 0 x.good i,fun i=>vat 0 x.score i,fun i=>vat false x.got i,x.command,x.mode⟩
theorem vwI_cells (x:View):(vwI x).cells=x.cells:=by rw[← View.cellsE_eq];rfl
structure Vw.Ok (v:Vw):Prop where
 miss:∀i,i<8→0≤v.miss i∧v.miss i≤255
 good:∀i,i<8→0≤v.good i∧v.good i≤255
 score:∀i,i<8→0≤v.score i∧v.score i≤65535
 command: -128≤v.command∧v.command≤127
 mode:0≤v.mode∧v.mode≤255
end Go.Proofs.YtpgaplcdbbnblaaGreatDoor
end
/- Views behind a round, behind a hearing; which may be: plain facts. No Go text is in sight. Printed by wip/gen_mb.py. -/
section
namespace Go.Proofs.YtpgaplcdbbnblaaGreatDoor
open Go.RowKit
def upZ (x:Int):Int:=min x 99+1
def penZ (x:Int):Int:=min (min x 1000+8) 1000
def rewZ (x:Int):Int:=max (min x 1000) 1-1
structure RndG where
 np:Nat
 miss:Int
 good:Int
def rMi (g:RndG) (i:Nat) (got:Bool) (m:Int):Int:=if i<g.np then (if got=true then 0 else upZ m) else m
def rGo (g:RndG) (i:Nat) (got:Bool) (x:Int):Int:=if i<g.np then (if got=true then upZ x else 0) else x
def rSc (g:RndG) (i:Nat) (got:Bool) (x:Int):Int:=if i<g.np then (if got=true then rewZ x else penZ x) else x
def rGt (g:RndG) (i:Nat) (got:Bool):Bool:=if i<g.np then false else got
def rIn (g:RndG) (i:Nat) (inn got:Bool) (m x:Int):Bool:=if i<g.np then (if inn=true then decide (rMi g i got m<g.miss) else decide (g.good≤rGo g i got x)) else inn
def rndV (g:RndG) (v:Vw):Vw:=⟨fun i=>rIn g i (v.inn i) (v.got i) (v.miss i) (v.good i),fun i=>rMi g i (v.got i) (v.miss i),fun i=>rGo g i (v.got i) (v.good i),fun i=>rSc g i (v.got i) (v.score i),fun i=>rGt g i (v.got i),v.command,v.mode⟩
def rndL (g:RndG) (l:List AC):List AC:=.v (.bool (rIn g 0 (asB (l.getD 0 nov)) (asB (l.getD 32 nov)) (asI (l.getD 8 nov)) (asI (l.getD 16 nov)))):: .v (.bool (rIn g 1 (asB (l.getD 1 nov)) (asB (l.getD 33 nov)) (asI (l.getD 9 nov)) (asI (l.getD 17 nov)))):: .v (.bool (rIn g 2 (asB (l.getD 2 nov)) (asB (l.getD 34 nov)) (asI (l.getD 10 nov)) (asI (l.getD 18 nov)))):: .v (.bool (rIn g 3 (asB (l.getD 3 nov)) (asB (l.getD 35 nov)) (asI (l.getD 11 nov)) (asI (l.getD 19 nov)))):: .v (.bool (rIn g 4 (asB (l.getD 4 nov)) (asB (l.getD 36 nov)) (asI (l.getD 12 nov)) (asI (l.getD 20 nov)))):: .v (.bool (rIn g 5 (asB (l.getD 5 nov)) (asB (l.getD 37 nov)) (asI (l.getD 13 nov)) (asI (l.getD 21 nov)))):: .v (.bool (rIn g 6 (asB (l.getD 6 nov)) (asB (l.getD 38 nov)) (asI (l.getD 14 nov)) (asI (l.getD 22 nov)))):: .v (.bool (rIn g 7 (asB (l.getD 7 nov)) (asB (l.getD 39 nov)) (asI (l.getD 15 nov)) (asI (l.getD 23 nov)))):: .v (.int .u8 (rMi g 0 (asB (l.getD 32 nov)) (asI (l.getD 8 nov)))):: .v (.int .u8 (rMi g 1 (asB (l.getD 33 nov)) (asI (l.getD 9 nov)))):: .v (.int .u8 (rMi g 2 (asB (l.getD 34 nov)) (asI (l.getD 10 nov)))):: .v (.int .u8 (rMi g 3 (asB (l.getD 35 nov)) (asI (l.getD 11 nov)))):: .v (.int .u8 (rMi g 4 (asB (l.getD 36 nov)) (asI (l.getD 12 nov)))):: .v (.int .u8 (rMi g 5 (asB (l.getD 37 nov)) (asI (l.getD 13 nov)))):: .v (.int .u8 (rMi g 6 (asB (l.getD 38 nov)) (asI (l.getD 14 nov)))):: .v (.int .u8 (rMi g 7 (asB (l.getD 39 nov)) (asI (l.getD 15 nov)))):: .v (.int .u8 (rGo g 0 (asB (l.getD 32 nov)) (asI (l.getD 16 nov)))):: .v (.int .u8 (rGo g 1 (asB (l.getD 33 nov)) (asI (l.getD 17 nov)))):: .v (.int .u8 (rGo g 2 (asB (l.getD 34 nov)) (asI (l.getD 18 nov)))):: .v (.int .u8 (rGo g 3 (asB (l.getD 35 nov)) (asI (l.getD 19 nov)))):: .v (.int .u8 (rGo g 4 (asB (l.getD 36 nov)) (asI (l.getD 20 nov)))):: .v (.int .u8 (rGo g 5 (asB (l.getD 37 nov)) (asI (l.getD 21 nov)))):: .v (.int .u8 (rGo g 6 (asB (l.getD 38 nov)) (asI (l.getD 22 nov)))):: .v (.int .u8 (rGo g 7 (asB (l.getD 39 nov)) (asI (l.getD 23 nov)))):: .v (.int .u16 (rSc g 0 (asB (l.getD 32 nov)) (asI (l.getD 24 nov)))):: .v (.int .u16 (rSc g 1 (asB (l.getD 33 nov)) (asI (l.getD 25 nov)))):: .v (.int .u16 (rSc g 2 (asB (l.getD 34 nov)) (asI (l.getD 26 nov)))):: .v (.int .u16 (rSc g 3 (asB (l.getD 35 nov)) (asI (l.getD 27 nov)))):: .v (.int .u16 (rSc g 4 (asB (l.getD 36 nov)) (asI (l.getD 28 nov)))):: .v (.int .u16 (rSc g 5 (asB (l.getD 37 nov)) (asI (l.getD 29 nov)))):: .v (.int .u16 (rSc g 6 (asB (l.getD 38 nov)) (asI (l.getD 30 nov)))):: .v (.int .u16 (rSc g 7 (asB (l.getD 39 nov)) (asI (l.getD 31 nov)))):: .v (.bool (rGt g 0 (asB (l.getD 32 nov)))):: .v (.bool (rGt g 1 (asB (l.getD 33 nov)))):: .v (.bool (rGt g 2 (asB (l.getD 34 nov)))):: .v (.bool (rGt g 3 (asB (l.getD 35 nov)))):: .v (.bool (rGt g 4 (asB (l.getD 36 nov)))):: .v (.bool (rGt g 5 (asB (l.getD 37 nov)))):: .v (.bool (rGt g 6 (asB (l.getD 38 nov)))):: .v (.bool (rGt g 7 (asB (l.getD 39 nov)))):: .v (.int .i8 (asI (l.getD 40 nov))):: .v (.int .u8 (asI (l.getD 41 nov)))::[]
theorem rndL_eq (g:RndG) (v:Vw):rndL g (vwL v)=vwL (rndV g v):=rfl
def updV (k:Nat) (a:Bool) (m x s:Int) (t:Bool) (u:Vw):Vw:=⟨fun i=>if i=k then a else u.inn i,fun i=>if i=k then m else u.miss i,fun i=>if i=k then x else u.good i,fun i=>if i=k then s else u.score i,fun i=>if i=k then t else u.got i,u.command,u.mode⟩
def hGt (h:Bool) (s:Int) (i:Nat) (got:Bool):Bool:=(decide (s=(i:Int))&&h)||got
def hrdV (h:Bool) (s:Int) (v:Vw):Vw:={v with got:=fun i=>hGt h s i (v.got i)}
def hrdL (h:Bool) (s:Int) (l:List AC):List AC:=.v (.bool (asB (l.getD 0 nov))):: .v (.bool (asB (l.getD 1 nov))):: .v (.bool (asB (l.getD 2 nov))):: .v (.bool (asB (l.getD 3 nov))):: .v (.bool (asB (l.getD 4 nov))):: .v (.bool (asB (l.getD 5 nov))):: .v (.bool (asB (l.getD 6 nov))):: .v (.bool (asB (l.getD 7 nov))):: .v (.int .u8 (asI (l.getD 8 nov))):: .v (.int .u8 (asI (l.getD 9 nov))):: .v (.int .u8 (asI (l.getD 10 nov))):: .v (.int .u8 (asI (l.getD 11 nov))):: .v (.int .u8 (asI (l.getD 12 nov))):: .v (.int .u8 (asI (l.getD 13 nov))):: .v (.int .u8 (asI (l.getD 14 nov))):: .v (.int .u8 (asI (l.getD 15 nov))):: .v (.int .u8 (asI (l.getD 16 nov))):: .v (.int .u8 (asI (l.getD 17 nov))):: .v (.int .u8 (asI (l.getD 18 nov))):: .v (.int .u8 (asI (l.getD 19 nov))):: .v (.int .u8 (asI (l.getD 20 nov))):: .v (.int .u8 (asI (l.getD 21 nov))):: .v (.int .u8 (asI (l.getD 22 nov))):: .v (.int .u8 (asI (l.getD 23 nov))):: .v (.int .u16 (asI (l.getD 24 nov))):: .v (.int .u16 (asI (l.getD 25 nov))):: .v (.int .u16 (asI (l.getD 26 nov))):: .v (.int .u16 (asI (l.getD 27 nov))):: .v (.int .u16 (asI (l.getD 28 nov))):: .v (.int .u16 (asI (l.getD 29 nov))):: .v (.int .u16 (asI (l.getD 30 nov))):: .v (.int .u16 (asI (l.getD 31 nov))):: .v (.bool (hGt h s 0 (asB (l.getD 32 nov)))):: .v (.bool (hGt h s 1 (asB (l.getD 33 nov)))):: .v (.bool (hGt h s 2 (asB (l.getD 34 nov)))):: .v (.bool (hGt h s 3 (asB (l.getD 35 nov)))):: .v (.bool (hGt h s 4 (asB (l.getD 36 nov)))):: .v (.bool (hGt h s 5 (asB (l.getD 37 nov)))):: .v (.bool (hGt h s 6 (asB (l.getD 38 nov)))):: .v (.bool (hGt h s 7 (asB (l.getD 39 nov)))):: .v (.int .i8 (asI (l.getD 40 nov))):: .v (.int .u8 (asI (l.getD 41 nov)))::[]
theorem hrdL_eq (h:Bool) (s:Int) (v:Vw):hrdL h s (vwL v)=vwL (hrdV h s v):=rfl
def mOne (t:Nat→Bool) (i:Nat) (inn got:Bool) (m g s:Int):Bool:=(t i||(!inn&&(!got&&(decide (m=0)&&(decide (g=0)&&decide (s=0))))))&&(decide (m≤100)&&(decide (g≤100)&&decide (s≤1000)))
def mayP (t:Nat→Bool) (v:Vw) (p:Nat):Bool:=mOne t p (v.inn p) (v.got p) (v.miss p) (v.good p) (v.score p)
def mayL (t:Nat→Bool) (l:List AC):Bool:=mOne t 0 (asB (l.getD 0 nov)) (asB (l.getD 32 nov)) (asI (l.getD 8 nov)) (asI (l.getD 16 nov)) (asI (l.getD 24 nov))&&mOne t 1 (asB (l.getD 1 nov)) (asB (l.getD 33 nov)) (asI (l.getD 9 nov)) (asI (l.getD 17 nov)) (asI (l.getD 25 nov))&&mOne t 2 (asB (l.getD 2 nov)) (asB (l.getD 34 nov)) (asI (l.getD 10 nov)) (asI (l.getD 18 nov)) (asI (l.getD 26 nov))&&mOne t 3 (asB (l.getD 3 nov)) (asB (l.getD 35 nov)) (asI (l.getD 11 nov)) (asI (l.getD 19 nov)) (asI (l.getD 27 nov))&&mOne t 4 (asB (l.getD 4 nov)) (asB (l.getD 36 nov)) (asI (l.getD 12 nov)) (asI (l.getD 20 nov)) (asI (l.getD 28 nov))&&mOne t 5 (asB (l.getD 5 nov)) (asB (l.getD 37 nov)) (asI (l.getD 13 nov)) (asI (l.getD 21 nov)) (asI (l.getD 29 nov))&&mOne t 6 (asB (l.getD 6 nov)) (asB (l.getD 38 nov)) (asI (l.getD 14 nov)) (asI (l.getD 22 nov)) (asI (l.getD 30 nov))&&mOne t 7 (asB (l.getD 7 nov)) (asB (l.getD 39 nov)) (asI (l.getD 15 nov)) (asI (l.getD 23 nov)) (asI (l.getD 31 nov))
theorem mayL_eq (t:Nat→Bool) (v:Vw):mayL t (vwL v)=(List.range 8).all (mayP t v):=by
 simp[mayL,mayP,List.range,List.range.loop,Bool.and_assoc]
 rfl
theorem mayL_iff (t:Nat→Bool) (v:Vw):mayL t (vwL v)=true↔∀p,p<8→mayP t v p=true:=by
 rw[mayL_eq,List.all_eq_true]
 constructor
 · intro h p hp;exact h p (List.mem_range.2 hp)
 · intro h p hp;exact h p (List.mem_range.1 hp)
end Go.Proofs.YtpgaplcdbbnblaaGreatDoor
end
/- Views in one order: their numbers, the first one that is unlike. No Go text is in sight. -/
section
namespace Go.Proofs.YtpgaplcdbbnblaaGreatDoor
open Go.RowKit
def oneI (b:Bool):Int:=match b with|true=>1|false=>0
def keyF (l:List AC) (j:Nat):Int:=
 if j<40 then
  (match j % 5 with
   |0=>oneI (asB (l.getD (j / 5) nov))
   |1=>oneI (asB (l.getD (32+j / 5) nov))
   |2=>IntKind.wrap .i64 (asI (l.getD (8+j / 5) nov))
   |3=>IntKind.wrap .i64 (asI (l.getD (16+j / 5) nov))
   |_=>IntKind.wrap .i64 (asI (l.getD (24+j / 5) nov)))
 else if j=40 then IntKind.wrap .i64 (asI (l.getD 40 nov)) else IntKind.wrap .i64 (asI (l.getD 41 nov))
def lexF (f g:Nat→Int):Nat→Nat→Bool
 |0,_=>false
 |n+1,i=>match decide (f i=g i) with|true=>lexF f g n (i+1)|false=>decide (f i<g i)
def lessL (x y:List AC):Bool:=lexF (keyF x) (keyF y) 42 0
theorem lex_eq {f g:Nat→Int} {n i:Nat} (h:f i=g i):lexF f g (n+1) i=lexF f g n (i+1):=by
 show (match decide (f i=g i) with|true=>lexF f g n (i+1)|false=>decide (f i<g i))=_
 rw[decide_eq_true h]
theorem lex_ne {f g:Nat→Int} {n i:Nat} (h:f i≠g i):lexF f g (n+1) i=decide (f i<g i):=by
 show (match decide (f i=g i) with|true=>lexF f g n (i+1)|false=>decide (f i<g i))=_
 rw[decide_eq_false h]
theorem lex_skip {f g:Nat→Int}:∀(k:Nat) {n i:Nat},(∀j,i≤j→j<i+k→f j=g j)→lexF f g (n+k) i=lexF f g n (i+k)
 |0,n,i,_=>rfl
 |k+1,n,i,h=>by
  rw[show n+(k+1)=(n+k)+1 by omega,lex_eq (h i (Nat.le_refl _) (by omega)),lex_skip k fun j h1 h2=>h j (by omega) (by omega),show i+1+k=i+(k+1) by omega]
theorem lex_first {f g:Nat→Int} {n j:Nat} (hj:j<n) (h:∀i,i<j→f i=g i) (hne:f j≠g j):lexF f g n 0=decide (f j<g j):=by
 have e:=lex_skip (f:=f) (g:=g) j (n:=n-j-1+1) (i:=0) fun i _ hi=>h i (by omega)
 rw[show n-j-1+1+j=n by omega,Nat.zero_add] at e
 rw[e,lex_ne hne]
theorem lex_all {f g:Nat→Int} {n:Nat} (h:∀i,i<n→f i=g i):lexF f g n 0=false:=by
 have e:=lex_skip (f:=f) (g:=g) n (n:=0) (i:=0) fun i _ hi=>h i (by omega)
 rw[Nat.zero_add] at e
 rw[e];rfl
theorem key_in (v:Vw) (i:Nat) (h:i<8):keyF (vwL v) (5*i)=oneI (v.inn i)∧keyF (vwL v) (5*i+1)=oneI (v.got i)∧keyF (vwL v) (5*i+2)=IntKind.wrap .i64 (v.miss i)∧keyF (vwL v) (5*i+3)=IntKind.wrap .i64 (v.good i)∧keyF (vwL v) (5*i+4)=IntKind.wrap .i64 (v.score i):=by
 match i,h with
 |0,_=>exact⟨rfl,rfl,rfl,rfl,rfl⟩
 |1,_=>exact⟨rfl,rfl,rfl,rfl,rfl⟩
 |2,_=>exact⟨rfl,rfl,rfl,rfl,rfl⟩
 |3,_=>exact⟨rfl,rfl,rfl,rfl,rfl⟩
 |4,_=>exact⟨rfl,rfl,rfl,rfl,rfl⟩
 |5,_=>exact⟨rfl,rfl,rfl,rfl,rfl⟩
 |6,_=>exact⟨rfl,rfl,rfl,rfl,rfl⟩
 |7,_=>exact⟨rfl,rfl,rfl,rfl,rfl⟩
theorem key_end (v:Vw):keyF (vwL v) 40=IntKind.wrap .i64 v.command∧keyF (vwL v) 41=IntKind.wrap .i64 v.mode:=⟨rfl,rfl⟩
end Go.Proofs.YtpgaplcdbbnblaaGreatDoor
end
/- The symbolic evaluator: loops within loops: a round may ask for sums of its own. No Go text is in sight. -/
section
namespace Go.Proofs.YtpgaplcdbbnblaaGreatDoor
open Go.RowKit
theorem mem_zip_some {ids:List Nat} {blks:List ABlk} {p:Nat × ABlk} (h:p∈ids.zip blks):(p.1,some p.2)∈ids.zip (blks.map some):=by
 rw[List.zip_map_right]
 exact List.mem_map.2 ⟨p,h,rfl⟩
theorem mf_all {n n':Nat} {ids:List Nat} {blks:List ABlk} {r:List (Option ABlk)} (hk:ids.all (keptB n n')=true) (hl:∀b∈blks,lowB n b) (hr:r=blks.map some):∀p∈ids.zip blks,keptB n n' p.1=true∧lowB n p.2∧∃y,(p.1,some y)∈ids.zip r∧BEq y p.2:=by
 intro p hp
 subst hr
 exact⟨List.all_eq_true.1 hk _ (List.of_mem_zip hp).1,hl _ (List.of_mem_zip hp).2,p.2,mem_zip_some hp,BEq.refl _⟩
end Go.Proofs.YtpgaplcdbbnblaaGreatDoor
end
/- The symbolic evaluator: loops that grow a list of their own, other blocks kept. No Go text is in sight. -/
section
namespace Go.Proofs.YtpgaplcdbbnblaaGreatDoor
open Go.RowKit
def StepG {S:Type} (n nh n' N g:Nat) (hs gids ids:List Nat) (inv:S→Prop) (μ len:S→Nat) (gblk:S→ABlk) (vals:S→List AV) (blks:S→List ABlk) (e:Exit) (lf:Nat) (gF:ABlk) (out:List (Nat × AV)) (mF:AMem) (s:S) (r:VC):Prop:=
 allT r.2.2.2.2.2.1∧(∀q∈r.2.2.2.2.2.2,q)∧r.2.2.2.2.1≤n'∧r.2.2.2.1=N∧
  ((r.1= .normal∧∃s',inv s'∧μ s'<μ s∧r.2.1.tail=(vals s').map some∧BL (blks s') (r.2.2.1.drop gids.length)∧
   ∃o y,r.2.1.head? =some (some (.c (.sl o 0 0 (len s') none)))∧(o=g∨(nh≤o∧o<n'))∧(o,some y)∈gids.zip r.2.2.1∧BEq y (gblk s'))∨
   (r.1≠ .normal∧r.1=e∧(∀q∈out,okV n q.2=true∧(q.1,some q.2)∈hs.zip r.2.1.tail)∧(∀p∈mF,keptB n n' p.1=true∧lowB n p.2∧∃y,(p.1,some y)∈ids.zip (r.2.2.1.drop gids.length)∧BEq y p.2)∧
    ∃o y,r.2.1.head? =some (some (.c (.sl o 0 0 lf none)))∧(o=g∨(nh≤o∧o<n'))∧(o,some y)∈gids.zip r.2.2.1∧BEq y gF))
theorem map_drop_app {α β:Type} {f:α→β} {a b:List α} {l:List β} (h:(a++b).map f=l):b.map f=l.drop a.length:=by
 subst h;simp
theorem zip_app_left {α β:Type} {f:α→β} {a b:List α} {l:List β} (h:(a++b).map f=l) {x:α} {y:β} (hm:(x,y)∈a.zip l):f x=y:=by
 have:(x,y)∈(a++b).zip l:=zip_append_mem hm
 rw[← h] at this
 exact(zip_map_mem this).symm
theorem loop_growE {E:Env} (hE:EnvOk E) {fuel:Nat} {body:Code} {S:Type} (inv:S→Prop) (μ:S→Nat) (tg g:Nat) (hs gids ids:List Nat) (len:S→Nat) (gblk:S→ABlk) (vals:S→List AV) (blks:S→List ABlk) {N n nh n' str:Nat} {e:Exit} {lf:Nat} {gF:ABlk} {out:List (Nat × AV)} {mF:AMem}
 (hg1:n≤g) (hg2:g<nh) (hn2:nh≤n') (hn3:n'≤lim) {s0:S} (h0:inv s0) (hl0:len s0=0) (hb0:∃f,(gblk s0).cs= .arr 0 f) (hsz:0<(gblk s0).sz) (hlen:∀s,hs.length=(vals s).length∧ids.length=(blks s).length) (hids:ids.all (keptB n n')=true) {eblks:List (Option ABlk)} (heb:BL (blks s0) eblks)
 (hlow:∀s,inv s→((vals s).all (okV n))=true∧(∀b∈blks s,lowB n b)∧lowB n (gblk s)) (hgF:lowB n gF)
 (step:∀s,inv s→∃p lp r,view (tg::hs) (gids++ids) (fC E fuel body nh str ⟨mkFr N ((tg,.c (.sl g 0 0 (len s) none))::hs.zip (vals s)),(g,gblk s)::ids.zip (blks s),0,0,false,p,[],[],[],none,lp⟩)=some r∧StepG n nh n' N g hs gids ids inv μ len gblk vals blks e lf gF out mF s r):
 LoopV E.P body (tg::hs) ids (some (.c (.v (.slice none 0 0)))::(vals s0).map some) eblks N n (mkFr N ((tg,.c (.sl g 0 0 lf none))::out)) ((g,gF)::mF) n' e none:=by
 have hk:∀s,∀p∈ids.zip (blks s),keptB n n' p.1=true:=fun s p hp=>List.all_eq_true.1 hids _ (List.of_mem_zip hp).1
 refine loop_ob hE (fuel:=fuel) (str:=str) inv μ (fun s=>mkFr N ((tg,.c (.sl g 0 0 (len s) none))::hs.zip (vals s))) (fun s=>(g,gblk s)::ids.zip (blks s)) (by omega) hn2 (fun _ h=>by cases h) h0 (fun tm m g1 g2 g3=>?_) fun s hi=>?_
 · obtain⟨l1,l2,l3⟩:=hlow s0 h0
   simp only[List.map_cons,List.cons.injEq] at g1
   refine wk_mk (ρ:=fun _=>.inr (gblk s0).sz) (by omega) hn2 hn3 g3 ?_ ?_ ?_
   · simp only[rnOk,Bool.and_eq_true]
     refine⟨List.all_eq_true.2 fun p hp=>?_,rnOk_kept (hk s0)⟩
     have e1:oldId n nh n' (fun _=>.inr (gblk s0).sz) g=none:=by
      unfold oldId
      rw[show (Nat.blt g n||Nat.ble n' g)=false by
       rw[Bool.or_eq_false_iff]
       refine⟨?_,?_⟩
       · rw[Bool.eq_false_iff];intro h;rw[Nat.blt_eq] at h;omega
       · rw[Bool.eq_false_iff];intro h;have:=Nat.le_of_ble_eq_true h;omega]
     rw[e1]
     simp
   · refine⟨.inr (.inr (.inl ⟨hg1,hg2,rfl,hsz,hb0⟩)),MemW_mem fun p hp=>?_⟩
     obtain⟨y,h1,h2⟩:=heb.mem p hp
     rw[← g2] at h1
     have h3:=hk s0 p hp
     simp only[keptB,Bool.or_eq_true] at h3
     refine .inr (.inr (.inr ⟨h3.imp (fun h=>by rwa[Nat.blt_eq] at h) Nat.le_of_ble_eq_true,y,(zip_map_mem h1).symm,h2,l2 _ (List.of_mem_zip hp).2⟩))
   · refine⟨⟨_,g1.1,by simp,by rw[hl0];exact GW_nil hg1 hg2 (by omega) rfl⟩,FrW_of_mem fun q hq=>?_⟩
     have h1:=zip_some_mem hq
     rw[← g1.2] at h1
     have h2:=List.all_eq_true.1 l1 _ (List.of_mem_zip hq).2
     simp only[okV,Bool.and_eq_true] at h2
     exact⟨_,(zip_map_mem h1).symm,notAny_ne h2.2,GW_lowV h2.1⟩
 · obtain⟨p,lp,⟨e',l,b,len1,n1,ob,po⟩,hv,hob,hpo,hn,hN,hw⟩:=step s hi
   simp only at hob hpo hn hN hw
   obtain⟨st,v1,v2,v3,v4,v6,v7,v8⟩:=view_out hv
   have v2':=v2
   rw[List.map_cons] at v2'
   have hmk:∀(lg:Nat) (gb:ABlk) (lv:List (Nat × AV)) (mm:AMem) (h9:Nat),(h9=nh∨h9=n')→lowB n gb→(∀p∈mm,keptB n n' p.1=true∧lowB n p.2∧∃y,(p.1,some y)∈ids.zip (b.drop gids.length)∧BEq y p.2)→(∀q∈lv,okV n q.2=true∧(q.1,some q.2)∈hs.zip l.tail)→
    (∃o y,l.head? =some (some (.c (.sl o 0 0 lg none)))∧(o=g∨(nh≤o∧o<n'))∧(o,some y)∈gids.zip b∧BEq y gb)→Wk n h9 n' st.tm st.m (mkFr N ((tg,.c (.sl g 0 0 lg none))::lv)) ((g,gb)::mm):=by
    rintro lg gb lv mm h9 h9e hgb q1 q2 ⟨o,y,q3,q4,q5,q6⟩
    have h9a:nh≤h9∧h9≤n':=by rcases h9e with rfl|rfl<;>omega
    have hl:l=some (.c (.sl o 0 0 lg none))::l.tail:=by
     cases l with
     |nil=>cases q3
     |cons a r=>simp at q3;subst q3;rfl
    rw[hl] at v2'
    simp only[List.cons.injEq] at v2'
    refine wk_mk (ρ:=fun _=>.inl o) (by omega) h9a.2 hn3 (v4.trans hN) ?_ ?_ ?_
    · simp only[rnOk,Bool.and_eq_true]
      refine⟨List.all_eq_true.2 fun p hp=>?_,rnOk_kept fun p hp=>(q1 p hp).1⟩
      have hkp:=(q1 p hp).1
      have hp1:p.1<n∨n'≤p.1:=by
       simp only[keptB,Bool.or_eq_true] at hkp
       rcases hkp with h|h
       · exact .inl (by rwa[Nat.blt_eq] at h)
       · exact .inr (Nat.le_of_ble_eq_true h)
      have e1:oldId n h9 n' (fun _=>.inl o) g=some o:=by
       unfold oldId
       rw[show (Nat.blt g n||Nat.ble n' g)=false by
        rw[Bool.or_eq_false_iff]
        refine⟨?_,?_⟩
        · rw[Bool.eq_false_iff];intro h;rw[Nat.blt_eq] at h;omega
        · rw[Bool.eq_false_iff];intro h;have:=Nat.le_of_ble_eq_true h;omega]
      have e2:oldId n h9 n' (fun _=>.inl o) p.1=some p.1:=by
       unfold oldId
       unfold keptB at hkp
       rw[hkp]
      rw[e1,e2]
      simp only[Bool.or_eq_true,Bool.not_eq_true']
      right
      rw[Bool.eq_false_iff]
      intro h
      have:=Nat.eq_of_beq_eq_true h
      omega
    · refine⟨.inr (.inl ⟨hg1,by omega,o,y,rfl,zip_app_left v3 q5,q6,hgb⟩),MemW_mem fun p hp=>?_⟩
      obtain⟨a1,a2,y',a3,a4⟩:=q1 p hp
      rw[← map_drop_app v3] at a3
      simp only[keptB,Bool.or_eq_true] at a1
      exact .inr (.inr (.inr ⟨a1.imp (fun h=>by rwa[Nat.blt_eq] at h) Nat.le_of_ble_eq_true,y',(zip_map_mem a3).symm,a4,a2⟩))
    · refine⟨⟨_,v2'.1,by simp,GW_sl hg1 (by omega) (by omega) rfl⟩,FrW_of_mem fun q hq=>?_⟩
      obtain⟨a1,a2⟩:=q2 q hq
      rw[← v2'.2] at a2
      simp only[okV,Bool.and_eq_true] at a1
      exact⟨_,(zip_map_mem a2).symm,notAny_ne a1.2,GW_lowV a1.1⟩
   refine⟨p,lp,e',n1,st,v1,hn,⟨by rw[v6];exact hob,by rw[v7];exact hpo⟩,v8,?_⟩
   rcases hw with⟨rfl,s',i1,i2,i3,i4,i5⟩|⟨hne,rfl,i3,i4,i5⟩
   · obtain⟨l1,l2,l3⟩:=hlow s' i1
     refine .inl ⟨rfl,s',i1,i2,hmk _ _ _ _ nh (.inl rfl) l3 (fun p hp=>⟨hk s' p hp,l2 _ (List.of_mem_zip hp).2,?_⟩) (fun q hq=>⟨List.all_eq_true.1 l1 _ (List.of_mem_zip hq).2,?_⟩) i5⟩
     · exact i4.mem p hp
     · rw[i3];exact zip_some_mem hq
   · exact .inr ⟨hne,rfl,hmk _ _ _ _ n' (.inr rfl) hgF i4 i3 i5⟩
end Go.Proofs.YtpgaplcdbbnblaaGreatDoor
end
/- A call that reads what an 'Rd' says and hands out one new list of plain cells: its contract. No Go text is in sight. -/
section
namespace Go.Proofs.YtpgaplcdbbnblaaGreatDoor
open Go.RowKit
theorem low_plain {n:Nat} {y:ABlk} {q:Nat} {F:Nat→List AC} (hcs:y.cs= .arr q F) (hpl:∀k j,y.inb k (j+1)=true→∃v,y.cs.get k j= .v v):lowB n y:=by
 refine⟨fun k j hi=>?_,fun o e=>by rw[hcs] at e;cases e⟩
 obtain⟨v,hv⟩:=hpl k j hi
 rw[hv]
 rfl
theorem rel_sub1 {C:Ctx} {β:Nm} {m:AMem} {w:World} (hr:Rel C β m w) {g:Nat} {x y:ABlk} (hx:look m g=some x) (hb:BEq x y) {q:Nat} {F:Nat→List AC} (hcs:y.cs= .arr q F) (hpl:∀k j,y.inb k (j+1)=true→∃v,y.cs.get k j= .v v):
 ∃β2:Nm,(∀id,β2 id=β id)∧Rel C β2 [(g,y)] w:=by
 obtain⟨β2,h1,_,_,h4⟩:=wk_mk (n:=0) (nh:=0) (n':=0) (ρ:=fun _=>.inr 1) (tm1:=[]) (m1:=m) (Nat.le_refl _) (Nat.le_refl _) (Nat.zero_le _) (N:=0) (lv:=[]) (m2:=[(g,y)]) rfl (by simp[rnOk]) ⟨.inr (.inr (.inr ⟨.inr (Nat.zero_le _),x,hx,hb,low_plain hcs hpl⟩)),trivial⟩ trivial C β w #[] ⟨rfl,fun t av h=>by simp at h⟩ hr
 exact⟨β2,fun id=>h1 id (.inr (Nat.zero_le _)),h4⟩
def ctRdL {S:Type} (rd:Rd S) (len:S→Nat) (blk:S→ABlk) (pre:S→Bool):CtF:=fun xs m ib=>
 match rd.dec xs m with
 |some (s,b)=>some (.c (.sl ib 0 0 (len s) none),[(ib,blk s)],1,[b,pre s])
 |none=>none
def GoodL (g n:Nat) (b:ABlk) (r:VF):Prop:=r.1= .c (.sl g 0 0 n none)∧(∃y,r.2.1=[some y]∧BEq y b)∧r.2.2.1≤lim∧allT r.2.2.2.1∧∀q∈r.2.2.2.2,q
theorem ctRdL_of {S:Type} {E:Env} (hE:EnvOk E) {f:FuncId} (rd:Rd S) {len:S→Nat} {blk:S→ABlk} {pre:S→Bool} (g:Nat) (hf:∃(fn:Func) (c:Code),E.P.funcs[f]? =some fn∧fn.body=some c)
 (hown:∀s,(blk s).own=true) (hcs:∀s,∃q F,(blk s).cs= .arr q F) (hpl:∀s k j,(blk s).inb k (j+1)=true→∃v,(blk s).cs.get k j= .v v) {fuel str:Nat}
 (run:∀s,pre s=true→∃p lp r,viewF [g] (fCallF E (fC E fuel) f (rd.args s) 1000 str (stA (rd.mem s) p lp))=some r∧GoodL g (len s) (blk s) r):CtOk E.P f (ctRdL rd len blk pre):=by
 refine⟨hf,fun C β m m2 w args ib r news k' ob vs hct ho hs hr hfree hlim hv=>?_⟩
 unfold ctRdL at hct
 split at hct
 · rename_i s b hd
   simp only[Option.some.injEq,Prod.mk.injEq] at hct
   obtain⟨rfl,rfl,rfl,rfl⟩:=hct
   simp only[allT,List.forall_mem_cons] at ho
   obtain⟨rfl,o2,_⟩:=ho
   obtain⟨p,lp,⟨v,b',n',ob,po⟩,hrun,hvr,⟨y,hy,hb⟩,hn,hob,hpo⟩:=run s o2
   obtain⟨s',r1,r2,r3,r4⟩:=viewF_out hrun
   simp only at hvr hy hn hob hpo
   subst hvr
   obtain⟨β1,q1,q2,q3⟩:=rd.ok hs hr hd hv
   refine(calls_f hE r1 ⟨by rw[r3];exact hob,by rw[r4];exact hpo⟩ (C:=loneC w) (β:=β1) (w:=w) (vs:=vs) q2 q1 (fun id h1 h2=>q3 id h1 (by omega))).mono ?_
   rintro e w' ⟨β',u,rfl,_,_,hu,hr'⟩
   rw[hy] at r2
   simp only[List.map_cons,List.map_nil,List.cons.injEq,and_true] at r2
   obtain⟨q,F,hq⟩:=hcs s
   obtain⟨β2,e2,hr2⟩:=rel_sub1 hr' r2 hb hq (hpl s)
   obtain⟨L,hL,_⟩:=hr2.blk g (blk s) (by simp[look_cons])
   have hid:β ib=none:=hfree ib (Nat.le_refl _) (by omega)
   refine⟨ext1 β ib L,u,rfl,ext1_ext hid,fun id h=>?_,?_,?_⟩
   · unfold ext1
     rw[if_neg (by omega)]
   · have hL':β' g=some L:=by rw[← e2];exact hL
     simp only[γ,γ1,γc,hL'] at hu
     simp only[γ,γ1,γc,ext1_same]
     exact hu
   · exact rel_fresh hr (below_lone hr') hid (not_gid (by omega)) hr2 (i1:=g) (by simp[look_cons]) (hown s) hq (hpl s) hL
 · cases hct
theorem wBlk_pl {ty sz n:Nat} {f:Nat→List Value} (hf:∀k,(f k).length=sz) (k j:Nat) (h:(wBlk ty sz n f).inb k (j+1)=true):∃v,(wBlk ty sz n f).cs.get k j= .v v:=by
 simp only[ABlk.inb,wBlk,Bool.and_eq_true,decide_eq_true_eq] at h
 have h2:j+1≤sz:=of_decide_eq_true h.2
 have hj:j<(f k).length:=by rw[hf];omega
 exact⟨(f k)[j],by simp[Cs.get,wBlk,List.getD,List.getElem?_map,List.getElem?_eq_getElem hj]⟩
/-! the same, where the list is handed out to be read alone -/
def roB (x:ABlk):ABlk:={x with own:=false}
theorem rel_ro {C:Ctx} {β:Nm} {m:AMem} {w:World} {id:Nat} {x:ABlk} {q:Nat} {F:Nat→List AC} (h:Rel C β (m++[(id,x)]) w) (hcs:x.cs= .arr q F):Rel C β (m++[(id,roB x)]) w:=by
 have hlk:∀i z,look (m++[(id,roB x)]) i=some z→look (m++[(id,x)]) i=some z∨(z=roB x∧look (m++[(id,x)]) i=some x):=by
  intro i z e
  rw[look_append] at e ⊢
  cases e':look m i with
  |some z'=>rw[e'] at e;exact .inl e
  |none=>
   rw[e'] at e
   simp only[look_cons] at e ⊢
   cases hb:Nat.beq id i with
   |true=>rw[hb] at e;cases e;exact .inr ⟨rfl,rfl⟩
   |false=>rw[hb] at e;cases e
 have hob:∀i z,look (m++[(id,roB x)]) i=some z→∃y,look (m++[(id,x)]) i=some y∧(z.own=true→y.own=true)∧z.cs=y.cs:=by
  intro i z e
  rcases hlk i z e with e1|⟨rfl,e1⟩
  · exact⟨z,e1,fun h=>h,rfl⟩
  · exact⟨x,e1,fun h=>(by cases h),rfl⟩
 refine⟨h.os,h.tape,h.output,h.size,h.base,h.out,fun i z e=>?_,fun i i' z z' M M' e e' hne ho hM hM' hn hn'=>?_,h.glob,fun i z o e ho=>?_⟩
 · rcases hlk i z e with e1|⟨rfl,e1⟩
   · exact h.blk i z e1
   · obtain⟨L,hL,hk⟩:=h.blk i x e1
     exact⟨L,hL,hk.sz,hk.lit,fun k j hi=>hk.cells k j hi,hk.lt,fun ho=>(by cases ho),hk.arrl,hk.rowc⟩
 · obtain⟨y,g1,g2,_⟩:=hob i z e
   obtain⟨y',g1',_,_⟩:=hob i' z' e'
   exact h.sep i i' y y' M M' g1 g1' hne (g2 ho) hM hM' hn hn'
 · obtain⟨y,g1,_,g3⟩:=hob i z e
   obtain⟨L,p1,p2,p3,p4,p5⟩:=h.objs i y o g1 (by rw[← g3];exact ho)
   refine⟨L,p1,p2,p3,p4,fun i' y' K q1 q2 q3 q4=>?_⟩
   obtain⟨u,u1,_,_⟩:=hob i' y' q2
   exact p5 i' u K q1 u1 q3 q4
def ctRdR {S:Type} (rd:Rd S) (len:S→Nat) (blk:S→ABlk) (pre:S→Bool):CtF:=fun xs m ib=>
 match rd.dec xs m with
 |some (s,b)=>some (.c (.sl ib 0 0 (len s) none),[(ib,roB (blk s))],1,[b,pre s])
 |none=>none
theorem ctRdR_of {S:Type} {P:Program} {f:FuncId} {rd:Rd S} {len:S→Nat} {blk:S→ABlk} {pre:S→Bool} (hcs:∀s,∃q F,(blk s).cs= .arr q F) (h:CtOk P f (ctRdL rd len blk pre)):CtOk P f (ctRdR rd len blk pre):=by
 refine⟨h.1,fun C β m m2 w args ib r news k ob vs hct ho hs hr hfree hlim hv=>?_⟩
 unfold ctRdR at hct
 split at hct
 · rename_i s b hd
   simp only[Option.some.injEq,Prod.mk.injEq] at hct
   obtain⟨rfl,rfl,rfl,rfl⟩:=hct
   refine(h.2 C β m m2 w args ib _ [(ib,blk s)] 1 _ vs (by unfold ctRdL;rw[hd]) ho hs hr hfree hlim hv).mono ?_
   rintro e w' ⟨β',v,e1,e2,e3,e4,e5⟩
   obtain⟨q,F,hq⟩:=hcs s
   exact⟨β',v,e1,e2,e3,e4,rel_ro e5 hq⟩
 · cases hct
end Go.Proofs.YtpgaplcdbbnblaaGreatDoor
end
/- Views in one order: of two that are unlike just one stands ahead. No Go text is in sight. -/
section
namespace Go.Proofs.YtpgaplcdbbnblaaGreatDoor
open Go.RowKit
theorem vwI_ok {x:View} (h:x.Ok):(vwI x).Ok:=⟨fun i hi=>h.1 i hi,fun i hi=>h.2.1 i hi,fun i hi=>h.2.2.1 i hi,h.2.2.2.1,h.2.2.2.2⟩
end Go.Proofs.YtpgaplcdbbnblaaGreatDoor
end
