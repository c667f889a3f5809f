/- Parts, one behind the other. Parts of a proof. -/
import Derived.Test.YtljeokninakliaaGreatDoorJModelsCrew9
import Derived.Lib.LaidTab
import Derived.MakeChecks
import Derived.Test.YtljeokninakliaaGreatDoorJModelsCrew2
set_option linter.unusedSimpArgs false
set_option linter.unusedVariables false
section
namespace Go.Proofs.YtljeokninakliaaGreatDoor
open Go.RowKit
def gβ:Nm:=fun id=>if ZR<=id then some ⟨id-ZR,0,0,0,false⟩ else none
def VS (w:World) (p:Nat × ABlk):Prop:=
 ∃g l,p.1=Z2 g/\p.2.own=false/\p.2.row=false/\p.2.sz=0/\p.2.cs= .lit l/\0<l.length/\∀j,j<l.length->∃u,l.getD j ZV= .v u/\u.oneCell'=true/\w.cell? ⟨g,j,none⟩=some u
theorem EK (g:Nat):gβ (Z2 g)=some ⟨g,0,0,0,false⟩:=by
 unfold gβ;rw[if_pos (by unfold Z2 ZR;omega)];have:Z2 g-ZR=g:=by unfold Z2 ZR;omega
 rw[this]
theorem jjql {id:Nat} (h:id<ZR):gβ id=none:=by unfold gβ;rw[if_neg (by omega)]
theorem jjp9 {w:World} {m:AMem} (h:∀p∈m,VS w p):Rel (ZG w) gβ m w:=by
 refine⟨rfl,rfl,rfl,Nat.le_refl _,Nat.le_refl _,fun _ _ _=>rfl,fun id x hx=>?_,fun id id' x x' L L' hx _ _ ho=>?_,fun k L hL=>?_,fun id x o hx ho=>?_⟩
 . obtain⟨g,l,h1,h2,h3,h4,h5,h6,h7⟩:=h _ (Vn hx)
   simp only at h1 h2 h3 h4 h5;subst h1;refine⟨⟨g,0,0,0,false⟩,EK g,?_⟩;refine⟨h4.symm,fun _ _=>h4,fun k j hi=>?_,fun _=>?_,fun ho=>(by rw[h2] at ho;cases ho),fun n f hc=>(by rw[h5] at hc;cases hc),fun ho=>(by rw[h3] at ho;cases ho)⟩
   . unfold ABlk.inb at hi
     rw[h5] at hi;simp only[decide_eq_true_eq,h4] at hi;obtain⟨u,e1,e2,e3⟩:=h7 j (by omega);refine⟨rfl,u,?_,e2,by simpa using e3⟩;rw[h5];simp only[Cs.get,e1,γc]
   . obtain⟨u,_,_,e3⟩:=h7 0 h6
     rcases Nat.lt_or_ge g w.heap.size with hlt|hge
     . exact hlt
     . unfold World.cell? at e3
       simp[show w.heap[g]? =none by simp[hge]] at e3
 . obtain⟨g,l,_,h2,_⟩:=h _ (Vn hx)
   simp only at h2;rw[h2] at ho;cases ho
 . rw[EK] at hL;cases hL;exact⟨rfl,rfl,rfl,rfl⟩
 . obtain⟨g,l,_,_,_,_,h5,_⟩:=h _ (Vn hx)
   simp only at h5;rw[h5] at ho;cases ho
def Jm (ty:Nat) (k:IntKind) (zs:List Int):ABlk:=⟨false,false,ty,0,.lit (zs.map fun z=>.v (.int k z))⟩
theorem jje8 {P:Program} {w:World} {name:String} {k:IntKind} {zs:List Int} {g ty:Nat} (h:Lib.TabIs P w name k zs) (hg:P.globalNamed name=some g) (hp:0<zs.length):VS w (Z2 g,Jm ty k zs):=by
 refine⟨g,_,rfl,rfl,rfl,rfl,rfl,by simpa using hp,fun j hj=>?_⟩;have hj:j<zs.length:=by simpa using hj
 refine⟨.int k (zs.getD j 0),?_,rfl,h.cell hg j hj⟩;simp[List.getD,List.getElem?_map,List.getElem?_eq_getElem hj]
theorem jj9z {P:Program} {w:World} {x:String × DataW Unit} {l:List (String × DataW Unit)} (h:laidMet P (x::l) w):laidMet P l w:=by
 obtain⟨n,d⟩:=x;obtain⟨ps,⟨g,t,cs,fuel,p,q,h1,h2,h3,h4,h5,rfl⟩,hn,hb⟩:=h;exact⟨q,h5,(List.nodup_append.1 hn).2.1,fun b off hm=>hb b off (List.mem_append_right _ hm)⟩
end Go.Proofs.YtljeokninakliaaGreatDoor
end
section
namespace Go.Proofs.YtljeokninakliaaGreatDoor
open Go.RowKit Go.WideShapes Go.ChangeShapes
def B1 (L:Loc) (n:Nat):Value:=if L.nil then .slice none 0 0 else .slice (some ⟨L.b,L.o,none⟩) n L.cap
def UO (w:World) (sz n:Nat) (F:Nat->List Value) (v:Value):Prop:=
 ∃L:Loc,L.s=sz/\(L.nil=true->n=0)/\v=B1 L n/\∀β ty,YV (ZG w) β w L (XX ty sz n F)
theorem jjp5 {β:Nm} {id n:Nat} {L:Loc} (h:β id=some L) (hn:L.nil=true->n=0):γc β (.sl id 0 0 n none)=some (B1 L n):=by
 cases hL:L.nil with
 |true=>simp[γc,h,hL,B1,hn hL]
 |false=>simp[γc,h,hL,B1]
theorem Dk {S:Type} {cells:S->List Value} {C:Nat} (hC:0<C) (hlen:∀x,(cells x).length=C) (d:S):∀(l:List S) (k j:Nat),k<l.length->j<C->(l.flatMap cells)[k*C+j]? =(cells (l.getD k d))[j]?
 | [],k,j,h,_=>absurd h (by simp)
 |y::r,0,j,_,hj=>by
  rw[List.flatMap_cons,Nat.zero_mul,Nat.zero_add,List.getElem?_append_left (by rw[hlen];exact hj)];rfl
 |y::r,k+1,j,h,hj=>by
  have e:(k+1)*C+j=C+(k*C+j):=by rw[Nat.succ_mul];omega
  rw[List.flatMap_cons,e,List.getElem?_append_right (by rw[hlen];omega),hlen,show C+(k*C+j)-C=k*C+j by omega,Dk hC hlen d r k j (by simpa using h) hj];rfl
theorem I8 {w:World} {S:Type} {cells:S->List Value} {C:Nat} (hC:0<C) (hlen:∀x,(cells x).length=C) (hone:∀x,YL (cells x)=true) (d:S) {A:Option Addr} {n c:Nat} {l:List S}
 (hA:Ku w A n c) (hsl:Sl w w.heap.size C A n (l.flatMap cells)) (h1:l.length=n):UO w C n (fun k=>cells (l.getD k d)) (.slice A n c):=by
 have key:∀L:Loc,L.s=C->(L.nil=true->n=0)->(L.nil=false->L.b<w.heap.size/\A=some ⟨L.b,L.o,none⟩)->∀β ty,YV (ZG w) β w L (XX ty C n fun k=>cells (l.getD k d)):=by
  intro L hs hn hb β ty;refine⟨hs,fun l h=>(by cases h),fun k j hi=>?_,fun h=>(hb h).1,fun h=>(by cases h),fun q g hg i hi=>?_,fun h=>(by cases h)⟩
  . simp only[ABlk.inb,XX,Bool.and_eq_true] at hi
    have h1':k<n:=of_decide_eq_true hi.1;have h2':j+1<=C:=of_decide_eq_true hi.2
    have hnil:L.nil=false:=by
     cases h:L.nil with
     |false=>rfl
     |true=>have:=hn h;omega
    have hj:j<(cells (l.getD k d)).length:=by rw[hlen];omega
    refine⟨hnil,(cells (l.getD k d))[j],?_,List.all_eq_true.1 (hone _) _ (List.getElem_mem hj),?_⟩
    . simp[XX,Cs.get,List.getD,hj,γc] at hj ⊢
      simp[hj,γc]
    . obtain⟨b',o',e',_,hc⟩:=hsl.at_ (by omega)
      have hA':=(hb hnil).2;rw[hA'] at e';cases e';rw[hs];refine hc (k*C+j) _ ?_;rw[Dk hC hlen d l k j (by omega) (by omega),List.getElem?_eq_getElem hj]
  . cases hg
    rw[List.length_map,hlen];rfl
 rcases hA with⟨rfl,rfl,rfl⟩|⟨b,o,rfl,hb⟩
 . exact⟨⟨0,0,C,0,true⟩,rfl,fun _=>rfl,rfl,key _ rfl (fun _=>rfl) (fun h=>by cases h)⟩
 . exact⟨⟨b,o,C,c,false⟩,rfl,fun h=>(by cases h),rfl,key _ rfl (fun h=>by cases h) (fun _=>⟨hb,rfl⟩)⟩
theorem NG {β:Nm} {m:AMem} {w:World} (h:Rel (ZG w) β m w) (hno:∀id x,ZY m id=some x->x.own=false/\Xm x=false) {id:Nat} (hid:β id=none) (hg:∀g,id≠Z2 g) {sz n:Nat} {F:Nat->List Value} {v:Value} (hl:UO w sz n F v) (ty:Nat):
 ∃L,Rel (ZG w) (ZU β id L) (m++[(id,XX ty sz n F)]) w/\(∀i x,ZY (m++[(id,XX ty sz n F)]) i=some x->x.own=false/\Xm x=false)/\∀β',β' id=some L->γc β' (.sl id 0 0 n none)=some v:=by
 obtain⟨L,hs,hn,rfl,hb⟩:=hl;obtain⟨r1,n1⟩:=QD h hno hid hg (y:=XX ty sz n F) rfl rfl (hb β ty);exact⟨L,r1,n1,fun β' e=>jjp5 e hn⟩
theorem Gj {w:World} {m:AMem} (h:∀p∈m,VS w p):∀id x,ZY m id=some x->x.own=false/\Xm x=false:=by
 intro id x hx;obtain⟨g,l,_,h2,_,_,h5,_⟩:=h _ (Vn hx);simp only at h2 h5;exact⟨h2,by simp[Xm,h5]⟩
end Go.Proofs.YtljeokninakliaaGreatDoor
end
