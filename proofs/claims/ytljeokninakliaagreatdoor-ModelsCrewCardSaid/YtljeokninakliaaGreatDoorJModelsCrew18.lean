/- Parts of a proof. -/
import Derived.Test.YtljeokninakliaaGreatDoorJModelsCrew17
import Derived.Test.YtljeokninakliaaGreatDoorJModelsCrew10
set_option linter.unusedSimpArgs false
set_option linter.unusedVariables false
section
namespace Go.Proofs.YtljeokninakliaaGreatDoor
open Go.RowKit Tryz Go.WideShapes Go.ChangeShapes
def MJ (z:Int):Prop:= -9223372036854775808<=z/\z<=9223372036854775807
structure Cfg.Ok (c:Cfg):Prop where
 nodes:MJ c.nodes
 long:MJ c.long
 miss:MJ c.miss
 good:MJ c.good
 fresh:MJ c.fresh
 np:c.np<=9223372036854775807
 ns:c.ns<=9223372036854775807
 nb:c.nb<=9223372036854775807
 nt:c.nt<=9223372036854775807
 fp:∀i,MJ (c.fp i)
 fs:∀i,MJ (c.fs i)
 fb:∀i,MJ (c.fb i)
 ft:∀i,(c.ft i).Ok
def PD (w:World) (c:Cfg) (cs:List Value):Prop:=
 ∃v1 v2 v4 v5:Value,cs=[.int .i64 c.nodes,v1,v2,.int .i64 c.long,v4,v5,.int .i64 c.miss,.int .i64 c.good,.int .i64 c.fresh]/\
  UO w 1 c.np (fun i=>[.int .i64 (c.fp i)]) v1/\UO w 1 c.ns (fun i=>[.int .i64 (c.fs i)]) v2/\UO w 1 c.nb (fun i=>[.int .i64 (c.fb i)]) v4/\
  UO w 3 c.nt (fun i=>[.int .i64 (c.ft i).node,.int .u32 (c.ft i).safe,.int .i64 (c.ft i).hold]) v5
theorem jja1 {cs:List Value} (h:Flat [some .i64] cs):∃x:Int,MJ x/\cs=[.int .i64 x]:=by
 obtain⟨c0,r0,rfl,⟨v0,rfl,w0⟩,h1⟩:=h.uncons;obtain rfl:=h1.unnil;exact⟨v0,bounds_i64 w0,rfl⟩
theorem EL {S:Type} {l:List S} {d:S} {ok:S->Prop} (hd:ok d) (h:∀x∈l,ok x) (i:Nat):ok (l.getD i d):=by
 simp only[List.getD]
 cases e:l[i]? with
 |none=>exact hd
 |some x=>exact h x (List.mem_of_getElem? e)
section
set_option maxRecDepth 100000
variable {H:Type} {enc:TypeId × Value->H} {w:World}
theorem I7 {r:Go.Reach} {b0 fuel:Nat} {v:Value} {x:DataW H × List MemPlace} (hv:Cell.okWide prog w r b0 22 v) (h:DataW.trod enc prog w 0 (fun _=>true) true fuel 22 [v]=some x):
 ∃(n:Nat) (f:Nat->Int),n<=9223372036854775807/\(∀i,MJ (f i))/\UO w 1 n (fun i=>[.int .i64 (f i)]) v:=by
 have hv':Value.okWide prog w r b0 22 v:=by simp only[Value.okWide,Tryz.underlying22];exact hv
 obtain⟨A,len,cap,rfl⟩:=okWide_slice Tryz.underlying22 hv';obtain⟨A',n,c,l,he,h1,h2,h3,h4,h5,h6⟩:=Ho (m:=9) (C:=1) Tryz.underlying22 (fun z:Int=>[Value.int .i64 z]) MJ (fun _=>rfl) (ks:=[some .i64]) (by kernel_rfl) (by kernel_rfl) (fun _ h=>jja1 h) (by omega) hv' ⟨fuel,h⟩;cases he;refine⟨len,fun i=>l.getD i 0,?_,EL ⟨by omega,by omega⟩ h6,I8 (cells:=fun z:Int=>[Value.int .i64 z]) (C:=1) (by omega) (fun _=>rfl) (fun _=>rfl) 0 h3 h4 h5⟩;unfold maxLen at h2;omega
theorem jjmv {r:Go.Reach} {b0 fuel:Nat} {v:Value} {x:DataW H × List MemPlace} (hv:Cell.okWide prog w r b0 23 v) (h:DataW.trod enc prog w 0 (fun _=>true) true fuel 23 [v]=some x):
 ∃(n:Nat) (f:Nat->Station),n<=9223372036854775807/\(∀i,(f i).Ok)/\UO w 3 n (fun i=>[.int .i64 (f i).node,.int .u32 (f i).safe,.int .i64 (f i).hold]) v:=by
 have hv':Value.okWide prog w r b0 23 v:=by simp only[Value.okWide,Tryz.underlying23];exact hv
 obtain⟨A,len,cap,rfl⟩:=okWide_slice Tryz.underlying23 hv';obtain⟨A',n,c,l,he,h1,h2,h3,h4,h5,h6⟩:=Ho (m:=9) (C:=3) Tryz.underlying23 Station.cells Station.Ok Station.len (ks:=Station.ks) (by kernel_rfl) (by kernel_rfl) (fun _ h=>Station.of_flat h) (by omega) hv' ⟨fuel,h⟩;cases he;refine⟨len,fun i=>l.getD i Station.zero,?_,EL (by simp[Station.Ok,Station.zero]) h6,I8 (cells:=Station.cells) (C:=3) (by omega) (fun _=>rfl) (fun _=>rfl) Station.zero h3 h4 h5⟩;unfold maxLen at h2;omega
theorem jjjv {r:Go.Reach} {b0:Nat} {v:Value} {d:DataW H} {p:List MemPlace} (hv:Value.okWide prog w r b0 25 v) (h:DataW.Trod enc prog w 0 (fun _=>true) true 25 v d p):
 ∃(c:Cfg) (cs:List Value),v= .agg cs.toArray/\PD w c cs/\c.Ok:=by
 simp only[Value.okWide,Tryz.underlying25] at hv;obtain⟨cs,rfl,hsz,ts,hts,_,hcell⟩:=hv;have hts':Tryz.prog.cellTypes Tryz.prog.depth 25=some [3,22,22,3,22,23,3,3,3]:=by kernel_rfl
 rw[hts'] at hts;cases hts;obtain⟨fuel,hf⟩:=h;obtain⟨xs,n,rfl,hx,hl,hxl,hfl⟩:=DataW.trod_struct Tryz.underlying25 hf
 have hl9:cs.toList.length=9:=by
  simp only[Value.cells] at hl;rw[hl];kernel_rfl
 obtain⟨l,rfl⟩:∃l:List Value,cs=l.toArray:=⟨cs.toList,by simp⟩
 simp only[Value.cells] at hfl hl9
 match l,hl9 with
 | [a0,a1,a2,a3,a4,a5,a6,a7,a8],_=>
  have c1:Tryz.prog.cellsOf 3=1:=by kernel_rfl
  have c2:Tryz.prog.cellsOf 22=1:=by kernel_rfl
  have c3:Tryz.prog.cellsOf 23=1:=by kernel_rfl
  have hx9:xs.length=9:=hxl
  match xs,hx9 with
  | [x0,x1,x2,x3,x4,x5,x6,x7,x8],_=>
   have e0:=hfl 0 _ rfl;have e1:=hfl 1 _ rfl;have e2:=hfl 2 _ rfl;have e3:=hfl 3 _ rfl;have e4:=hfl 4 _ rfl;have e5:=hfl 5 _ rfl;have e6:=hfl 6 _ rfl;have e7:=hfl 7 _ rfl;have e8:=hfl 8 _ rfl;simp only[c1,c2,c3,List.drop,List.take,List.getElem?_cons_zero,List.getElem?_cons_succ] at e0 e1 e2 e3 e4 e5 e6 e7 e8;obtain⟨z0,q0,_,w0⟩:=DataW.trod_int Tryz.underlying3 e0;obtain⟨z3,q3,_,w3⟩:=DataW.trod_int Tryz.underlying3 e3;obtain⟨z6,q6,_,w6⟩:=DataW.trod_int Tryz.underlying3 e6;obtain⟨z7,q7,_,w7⟩:=DataW.trod_int Tryz.underlying3 e7;obtain⟨z8,q8,_,w8⟩:=DataW.trod_int Tryz.underlying3 e8;cases q0;cases q3;cases q6;cases q7;cases q8
   obtain⟨u1,t1,k1⟩:=hcell 1 a1 rfl;obtain⟨u2,t2,k2⟩:=hcell 2 a2 rfl;obtain⟨u4,t4,k4⟩:=hcell 4 a4 rfl;obtain⟨u5,t5,k5⟩:=hcell 5 a5 rfl;cases t1;cases t2;cases t4;cases t5
   obtain⟨n1,f1,g1,o1,i1⟩:=I7 k1 e1;obtain⟨n2,f2,g2,o2,i2⟩:=I7 k2 e2;obtain⟨n4,f4,g4,o4,i4⟩:=I7 k4 e4;obtain⟨n5,f5,g5,o5,i5⟩:=jjmv k5 e5;exact⟨⟨z0,n1,f1,n2,f2,z3,n4,f4,n5,f5,z6,z7,z8⟩,_,rfl,⟨a1,a2,a4,a5,rfl,i1,i2,i4,i5⟩,⟨bounds_i64 w0,bounds_i64 w3,bounds_i64 w6,bounds_i64 w7,bounds_i64 w8,g1,g2,g4,g5,o1,o2,o4,o5⟩⟩
end
theorem jjg0 {w:World} {G:AMem} (hG:∀p∈G,VS w p) {c:Cfg} {cs:List Value} (h:PD w c cs):
 ∃β,Rel (ZG w) β (G++MO c) w/\γs β (VU c)=some cs/\(∀id x,ZY (G++MO c) id=some x->x.own=false/\Xm x=false)/\∀id,4<=id->id<ZR->β id=none:=by
 obtain⟨v1,v2,v4,v5,rfl,i1,i2,i4,i5⟩:=h;have r0:=jjp9 hG;have n0:=Gj hG;have hlo:∀id,id<ZR->gβ id=none:=fun id h=>jjql h
 have hgi:∀(id:Nat),id<ZR->∀g,id≠Z2 g:=fun id h=>W8 h
 obtain⟨L0,r1,n1,z0⟩:=NG r0 n0 (id:=0) (hlo 0 (by unfold ZR;omega)) (hgi 0 (by unfold ZR;omega)) i1 3;obtain⟨L1,r2,n2,z1⟩:=NG r1 n1 (id:=1) (by simp[ZU,hlo 1 (by unfold ZR;omega)]) (hgi 1 (by unfold ZR;omega)) i2 3;obtain⟨L2,r3,n3,z2⟩:=NG r2 n2 (id:=2) (by simp[ZU,hlo 2 (by unfold ZR;omega)]) (hgi 2 (by unfold ZR;omega)) i4 3;obtain⟨L3,r4,n4,z3⟩:=NG r3 n3 (id:=3) (by simp[ZU,hlo 3 (by unfold ZR;omega)]) (hgi 3 (by unfold ZR;omega)) i5 70;simp only[List.append_assoc,List.cons_append,List.nil_append] at r4 n4;refine⟨_,r4,?_,n4,fun id h1 h2=>?_⟩
 . simp only[VU,γs,γc]
   have y0:=z0 (ZU (ZU (ZU (ZU gβ 0 L0) 1 L1) 2 L2) 3 L3) (by simp[ZU]);have y1:=z1 (ZU (ZU (ZU (ZU gβ 0 L0) 1 L1) 2 L2) 3 L3) (by simp[ZU]);have y2:=z2 (ZU (ZU (ZU (ZU gβ 0 L0) 1 L1) 2 L2) 3 L3) (by simp[ZU]);have y3:=z3 (ZU (ZU (ZU (ZU gβ 0 L0) 1 L1) 2 L2) 3 L3) (by simp[ZU]);simp only[γc] at y0 y1 y2 y3;rw[y0,y1,y2,y3]
 . simp[ZU,hlo id h2,show id≠0 by omega,show id≠1 by omega,show id≠2 by omega,show id≠3 by omega]
end Go.Proofs.YtljeokninakliaaGreatDoor
end
