/- Parts, one behind the other. Parts of a proof. -/
import Derived.Test.YtljeokninakliaaGreatDoorJModelsCrew16
import Derived.Test.YtljeokninakliaaGreatDoorJModelsCrew15
import Derived.Test.YtljeokninakliaaGreatDoorJModelsCrew20
import Derived.Test.YtljeokninakliaaGreatDoorJModelsCrew21
import Derived.Laws.IdiomRangeMap
import Derived.Test.YtljeokninakliaaGreatDoorJModelsCrew9
import Derived.Test.YtljeokninakliaaGreatDoorJModelsCrew23
set_option linter.unusedSimpArgs false
set_option linter.unusedVariables false
set_option maxRecDepth 1000000
section
namespace Go.Proofs.YtljeokninakliaaGreatDoor
open Go.RowKit Tryz Go.MapKept
theorem Ig {P:Program} {f:FuncId} {g:Yk} (h:ZA P f g) {args:List AV} {mem:AMem} {r:AV} {ob:List Bool} (hct:g args mem 1000=some (r,[],0,ob)) (ho:ZZ ob) {w:World} {β:Nm} {vs:List Value} (hr:Rel (ZG w) β mem w) (hv:γt β args=some vs) (hp:XV r=true) {v:Value} (hrv:γ β r=some v):
 Calls P f vs.toArray w fun e w'=>e= .returned v/\Below w.heap.size w w':=by
 refine(h.2 (ZG w) β mem mem w args 1000 r [] 0 ob vs hct ho (Sub.refl _) hr (fun id h1 h2=>by omega) (by unfold ZR;omega) hv).mono ?_;rintro e w' ⟨β',u,rfl,_,_,hu,hr'⟩;have:=HK hp β' β u hu;rw[hrv] at this;cases this;exact⟨rfl,So hr'⟩
theorem LO {w w1:World} {β:Nm} {mem:AMem} (hr:Rel (ZG w) β mem w) (hb:Below w.heap.size w w1) (hm:Mj mem=mem):Rel (ZG w1) β mem w1:=by
 have h:=(hr.below hb).ro (Sub.refl mem)
 rwa[hm] at h
theorem NI (c:Cfg) (nq:Nat) (fq:Nat->Int):Mj (mS++Xg c nq fq)=mS++Xg c nq fq:=rfl
theorem Ea {β:Nm} {x:AV} {r:List AV} {vs:List Value} (h:γt β (x::r)=some vs):∃v us,vs=v::us/\γ1 β x=some v/\γt β r=some us:=by
 simp only[γt] at h;split at h
 . rename_i v us h1 h2
   cases h;exact⟨v,us,rfl,h1,h2⟩
 . cases h
end Go.Proofs.YtljeokninakliaaGreatDoor
end
section
namespace Go.Proofs.YtljeokninakliaaGreatDoor
open Go.RowKit Tryz Go.MapKept
theorem jjkw {S:Type} {P:Program} {f:FuncId} {rd:Rd S} {R:S->AV} {pre:S->Bool} (h:ZA P f (Y9 rd R pre)) {args:List AV} {mem:AMem} {s:S} {b:Bool} (hd:rd.dec args mem=some (s,b)) (hb:b=true) (hp:pre s=true) {w:World} {β:Nm} {vs:List Value} (hr:Rel (ZG w) β mem w) (hv:γt β args=some vs) (hpl:XV (R s)=true) {v:Value} (hrv:γ β (R s)=some v):
 Calls P f vs.toArray w fun e w'=>e= .returned v/\Below w.heap.size w w':=
 Ig h (args:=args) (mem:=mem) (r:=R s) (ob:=[b,pre s]) (by unfold Y9;rw[hd]) (by simp[ZZ,hb,hp]) hr hv hpl hrv
theorem jjgp (c:Cfg) (nq:Nat) (fq:Nat->Int) (x:View) {w:World} {β:Nm} {a:Addr} (hr:Rel (ZG w) β (mS++Xg c nq fq) w) (ha:γ1 β (.c (.ptr 5 0 0))=some (.pointer (some a))):
 Calls prog 6 #[.pointer (some a),.agg x.cells.toArray] w fun e w'=>e= .returned (.bool (XQ c nq fq (x.cells.map .v)))/\Below w.heap.size w w':=by
 have e:ZX (T4 x)=x.cells.map .v:=by show (T4 x).cells.map AC.v=_;rw[Qp]
 rw[<- e];exact jjkw Fq (args:=[.c (.ptr 5 0 0),.agg (ZX (T4 x))]) (mem:=mS++Xg c nq fq) (s:=⟨c,nq,fq,[.agg (ZX (T4 x))]⟩) (b:=Zf c nq fq) (by kernel_rfl) (YN c nq fq) (by kernel_rfl) hr (vs:=[.pointer (some a),.agg x.cells.toArray]) (by have ha':γc β (.ptr 5 0 0)=some (.pointer (some a)):=ha;simp only[γt,γ1,ha',ZX,V3,Qp]) rfl rfl
def OR (c:Cfg) (nq:Nat) (fq:Nat->Int):View:=⟨#v[Z8 c nq fq 0,Z8 c nq fq 1,Z8 c nq fq 2,Z8 c nq fq 3,Z8 c nq fq 4,Z8 c nq fq 5,Z8 c nq fq 6,Z8 c nq fq 7],Vector.replicate 8 0,Vector.replicate 8 0,Vector.replicate 8 0,Vector.replicate 8 false,0,0⟩
theorem CM (c:Cfg) (nq:Nat) (fq:Nat->Int):(OR c nq fq).cells=(Xr c nq fq).cells:=rfl
theorem jjlg {k:Nat}:Yo (0:Int) (Vector.replicate 8 0) k=0:=by by_cases h:k<8<;>simp[Yo,h]
theorem jjne (c:Cfg) (nq:Nat) (fq:Nat->Int):(OR c nq fq).Ok:=by
 refine⟨fun k _=>?_,fun k _=>?_,fun k _=>?_,(by show (-128:Int)<=0/\(0:Int)<=127;decide),(by show (0:Int)<=0/\(0:Int)<=255;decide)⟩
 all_goals (simp only[OR,jjlg];decide)
theorem jjch (c:Cfg) (nq:Nat) (fq:Nat->Int) (hp:WN c nq=true) {w:World} {β:Nm} {a:Addr} (hr:Rel (ZG w) β (mS++Xg c nq fq) w) (ha:γ1 β (.c (.ptr 5 0 0))=some (.pointer (some a))) (hl:∀id,1000<=id->id<ZR->β id=none):
 Calls prog 21 #[.pointer (some a)] w fun e w'=>(∃u1 u2 u3 u4 u5 u6 u7 u8,e= .returned (.agg #[.int .i64 c.nodes,u1,u2,u3,u4,u5,u6,u7,u8]))/\Below w.heap.size w w':=by
 have hrun:∃p r,gvR prog c nq fq p=some r/\(∃x1 x2 x3 x4 x5 x6 x7 x8,r.1= .agg [.v (.int .i64 c.nodes),x1,x2,x3,x4,x5,x6,x7,x8])/\r.2.2.1<=ZR/\ZZ r.2.2.2.1/\∀q∈r.2.2.2.2,q:=by
  refine gvT c nq fq _ ?_;simp only[WN,Bool.and_eq_true,decide_eq_true_eq] at hp
  (repeat' (first|refine⟨fun h=>?_,fun h=>?_⟩|fail))
  all_goals (first|(exfalso;simp_all;omega)|skip)
  all_goals (refine⟨⟨_,_,_,_,_,_,_,_,rfl⟩,(by first|(unfold ZR;omega)|(dsimp only;unfold ZR;omega)),?_,by simp⟩)
  all_goals first
   |(simp_all[ZZ,Yb,YN,Yi,Ya,XZ,Y0,YR,Zt,Yv,Rg,YK,YW];done)
   |(simp_all[ZZ,Yb,YN,Yi,Ya,XZ,Y0,YR,Zt,Yv,Rg,YK,YW];omega)
 obtain⟨p,r,h1,⟨x1,x2,x3,x4,x5,x6,x7,x8,h2⟩,h3,h4,h5⟩:=hrun;obtain⟨s',r1,r2,r3,r4⟩:=T7 h1;refine(Xa hEGv r1 ⟨by rw[r3];exact h4,by rw[r4];exact h5⟩ (C:=ZG w) (β:=β) (w:=w) (vs:=[.pointer (some a)]) (by simp only[γt,ha]) hr (fun id h1 h2=>hl id h1 (Nat.lt_of_lt_of_le h2 h3))).mono ?_;rintro e w' ⟨β',v,rfl,_,_,hv,hr'⟩;refine⟨?_,So hr'⟩;rw[h2] at hv;simp only[γ,γ1] at hv;split at hv
 . rename_i us hus
   cases hv;obtain⟨hlen,hget⟩:=U5.1 hus
   match us,hlen,hget with
   | [u0,u1,u2,u3,u4,u5,u6,u7,u8],_,hget=>
    obtain⟨u,e1,e2⟩:=hget 0 _ rfl;cases e1;simp only[γc,Option.some.injEq] at e2;subst e2;exact⟨u1,u2,u3,u4,u5,u6,u7,u8,rfl⟩
 . cases hv
end Go.Proofs.YtljeokninakliaaGreatDoor
end
