/- Parts, one behind the other. Parts of a proof. -/
import Derived.Test.YtljeokninakliaaGreatDoorJModelsCrew28
import Derived.Test.YtljeokninakliaaGreatDoorJModelsCrew25
import Derived.Test.YtljeokninakliaaGreatDoorJModelsCrew9
import Derived.Test.YtljeokninakliaaGreatDoorJModelsCrew16
set_option linter.unusedSimpArgs false
set_option linter.unusedVariables false
set_option maxRecDepth 1000000
section
namespace Go.Proofs.YtljeokninakliaaGreatDoor
open Go.RowKit Tryz
def saA (l:List AC) (o:Nat):Said:=⟨Zz (l.getD o ZV),ZP (l.getD (o+1) ZV),⟨ZP (l.getD (o+2) ZV),ZP (l.getD (o+3) ZV),ZP (l.getD (o+4) ZV),ZP (l.getD (o+5) ZV)⟩⟩
def Jk (l:List AC):RP:=(Zz (l.getD 0 ZV),saA l 8)
theorem jjfw (h:Held):Jk (h.cells.map .v)=rp h:=rfl
def XF (f:Nat->List AC) (n:Nat):List RP:=(List.range n).map fun k=>Jk (f k)
def Bg (cap:Option Nat) (n:Nat) (row:Bool):Bool:=match cap with|some c=>decide (n<=c)|none=>row
def GF:Yk
 | [.c (.v (.int .i64 nn)),.c (.sl id 0 0 n cap),.c (.v (.int .i64 a))],m,_=>
  match ZY m id with
  |some ⟨_,row,_,sz,.arr q f⟩=>
   some (.agg ((PO nn (XF f n) a).cells.map .v),[],0,[decide (n<=q),Nat.beq sz 56,decide (n<=1000000),Bg cap n row,(List.range n).all fun k=>Zn Held.ks (f k)])
  |_=>none
 |_,_,_=>none
theorem Rk {β:Nm} {x:AV} {r:List AV} {vs:List Value} (h:γt β (x::r)=some vs):∃v us,vs=v::us/\γ1 β x=some v/\γt β r=some us:=by
 simp only[γt] at h;split at h
 . rename_i v us h1 h2
   cases h;exact⟨v,us,rfl,h1,h2⟩
 . cases h
theorem jjkn {args:List AV} {m:AMem} {ib:Nat} {r:AV} {news:AMem} {k:Nat} {ob:List Bool} (h:GF args m ib=some (r,news,k,ob)) (ho:ZZ ob) {C:Ctx} {β:Nm} {m2:AMem} {w:World} {vs:List Value} (hs:Sub m m2) (hr:Rel C β m2 w) (hv:γt β args=some vs):
 ∃nn a n c A L x f q,vs=[.int .i64 nn,.slice A n c,.int .i64 a]/\n<=c/\n<=1000000/\news=[]/\k=0/\x.cs= .arr q f/\x.sz=56/\n<=q/\YV C β w L x/\
  ((L.nil=true/\A=none/\n=0/\c=0)\/(L.nil=false/\A=some ⟨L.b,L.o,none⟩))/\
  ∃l:List Held,l.length=n/\(∀h∈l,h.Ok)/\(∀i (hi:i<l.length),f i=(l[i]).cells.map .v)/\r= .agg ((PO nn (l.map rp) a).cells.map .v):=by
 unfold GF at h;split at h
 . rename_i nn id n cap a
   split at h
   . rename_i own row ty sz q f hlk
     simp only[Option.some.injEq,Prod.mk.injEq] at h;obtain⟨rfl,rfl,rfl,rfl⟩:=h;simp only[ZZ,List.forall_mem_cons] at ho;obtain⟨o1,o2,o3,o4,o5,_⟩:=ho;rw[decide_eq_true_eq] at o1 o3;have o2:=Nat.eq_of_beq_eq_true o2;subst o2;obtain⟨L,hL,hk⟩:=hr.blk id _ (hs _ _ hlk)
     have key:∀j,j<=n->∃l:List Held,l.length=j/\(∀h∈l,h.Ok)/\(∀i (hi:i<l.length),f i=(l[i]).cells.map .v)/\XF f j=l.map rp:=by
      intro j
      induction j with
      |zero=>exact fun _=>⟨[],rfl,by simp,fun i hi=>absurd hi (by simp),rfl⟩
      |succ j ih=>
       intro hj;obtain⟨l,h1,h2,h3,h4⟩:=ih (by omega);obtain⟨us,hu,hfl⟩:=Nz (List.all_eq_true.1 o5 j (by simp;omega));obtain⟨y,hy,rfl⟩:=Held.of_flat hfl;refine⟨l++[y],by simp[h1],?_,fun i hi=>?_,?_⟩
       . intro h hm
         rcases List.mem_append.1 hm with e|e
         . exact h2 h e
         . rw[List.mem_singleton.1 e];exact hy
       . by_cases hij:i<l.length
         . rw[List.getElem_append_left hij];exact h3 i hij
         . have:i=j:=by simp at hi;omega
           subst this;rw[hu];simp[h1]
       . rw[XF] at h4 ⊢
         rw[List.range_succ,List.map_append,h4,List.map_append,List.map_singleton,List.map_singleton,hu,jjfw]
     obtain⟨l,h1,h2,h3,h4⟩:=key n (Nat.le_refl _);obtain⟨v1,u1,rfl,e1,ha1⟩:=Rk hv;obtain⟨v2,u2,rfl,e2,ha2⟩:=Rk ha1;obtain⟨v3,u3,rfl,e3,ha3⟩:=Rk ha2;clear hv ha1 ha2;cases e1;cases e3;cases ha3;simp only[γ1,γc,hL] at e2
     cases hn:L.nil with
     |true=>
      rw[hn] at e2;simp only[if_true] at e2;split at e2
      . rename_i h0
        obtain⟨h01,h02⟩:=h0;cases e2;subst h01;exact⟨nn,a,0,0,none,L,_,f,q,rfl,Nat.le_refl _,by omega,rfl,rfl,rfl,rfl,by omega,hk,.inl ⟨hn,rfl,rfl,rfl⟩,l,h1,h2,h3,by rw[h4]⟩
      . cases e2
     | false=>
      rw[hn] at e2;simp only[Bool.false_eq_true,if_false,Nat.zero_mul,Nat.add_zero,Option.some.injEq] at e2;subst e2;refine⟨nn,a,n,_,_,L,_,f,q,rfl,?_,o3,rfl,rfl,rfl,rfl,o1,hk,.inr ⟨hn,rfl⟩,l,h1,h2,h3,by rw[h4]⟩
      cases cap with
      |some c=>simpa[Bg] using o4
      |none=>
       have:=hk.rowc o4 hn q f rfl;simp;omega
   . cases h
 . cases h
theorem jjr8 {P:Program} {f:FuncId} (hf:∃(fn:Func) (c:Code),P.funcs[f]? =some fn/\fn.body=some c)
 (h:∀(nn a:Int) (A:Option Addr) (n c:Nat) (l:List Held) (w:World),n<=c->n<=1000000->l.length=n->(∀h∈l,h.Ok)->((A=none/\n=0/\c=0)\/∃b o,A=some ⟨b,o,none⟩/\b<w.heap.size)->Sl w w.heap.size 56 A n (l.flatMap Held.cells)->
  Calls P f #[.int .i64 nn,.slice A n c,.int .i64 a] w fun e w'=>e= .returned (.agg (PO nn (l.map rp) a).cells.toArray)/\Below w.heap.size w w'):ZA P f GF:=by
 refine⟨hf,fun C β m m2 w args ib r news k ob vs hct ho hs hr hfree hlim hv=>?_⟩;obtain⟨nn,a,n,c,A,L,x,ff,q,rfl,hnc,hn,rfl,rfl,hcs,h56,hnq,hk,hA,l,h1,h2,h3,rfl⟩:=jjkn hct ho hs hr hv
 have hsl:Sl w w.heap.size 56 A n (l.flatMap Held.cells):=by
  rcases hA with⟨_,rfl,rfl,rfl⟩|⟨hn,rfl⟩
  . obtain rfl:=List.length_eq_zero_iff.1 h1
    exact Sl.nil
  . exact Ds hk hcs h56 hnq hn h1 h3
 have hA2:(A=none/\n=0/\c=0)\/∃b o,A=some ⟨b,o,none⟩/\b<w.heap.size:=by
  rcases hA with⟨_,rfl,rfl,rfl⟩|⟨hn,rfl⟩
  . exact .inl ⟨rfl,rfl,rfl⟩
  . exact .inr ⟨_,_,rfl,hk.lt hn⟩
 refine(h nn a A n c l w hnc hn h1 h2 hA2 hsl).mono ?_;rintro e w' ⟨rfl,hb⟩;exact⟨β,_,rfl,Ext.refl _,fun _ _=>rfl,by simp only[γ,γ1,V3],by rw[List.append_nil];exact hr.below hb⟩
theorem C8:ZA prog 28 GF:=
 jjr8 ⟨_,_,Tryz.func28,rfl⟩ fun nn a A n c l w hnc hn h1 h2 _ hsl=>by
  rw[<- jjaa];exact jj6m nn a A n c l w hnc (by unfold maxLen;omega) h1 h2 hsl
def Kl (u:Vw) (d:Said):Hq:=⟨true,0,false,0,0,0,0,0,d.is,d.at_,d.p.kind,d.p.st,d.p.seq,d.p.val,u⟩
def Wj (b:Nat) (o:Hq) (u:Vw) (d:Said) (k:Nat):Hq:=if k=b then o else Kl u d
theorem jjp2 {u:Vw} (hu:u.Ok) {d:Said} (hd:d.Ok):Zn Held.ks (YC (Kl u d))=true:=by
 obtain⟨d1,d2,d3,d4,d5⟩:=hd;refine LA ?_
 have e:Flat (none::some .i64::none::some .i64::some .u8::some .u8::some .u32::some .u32::none::some .i64::some .u8::some .u8::some .u32::some .u32::Ud) (Ts (Kl u d)):=by
  unfold Ud;show Flat _ (.bool true:: .int .i64 0:: .bool false:: .int .i64 0:: .int .u8 0:: .int .u8 0:: .int .u32 0:: .int .u32 0:: .bool d.is:: .int .i64 d.at_:: .int .u8 d.p.kind:: .int .u8 d.p.st:: .int .u32 d.p.seq:: .int .u32 d.p.val::u.cells);unfold Vw.cells
  repeat' first|exact Flat.nil|refine Flat.cons ⟨_,rfl⟩ ?_|refine Flat.cons ⟨_,rfl,?_⟩ ?_
  all_goals first
   |exact Wo (by decide) (by decide)
   |exact Wo d1.1 d1.2
   |exact Wo d2.1 d2.2
   |exact Wo d3.1 d3.2
   |exact Wo d4.1 d4.2
   |exact Wo d5.1 d5.2
   |exact Wo (hu.miss _ (by decide)).1 (hu.miss _ (by decide)).2
   |exact Wo (hu.good _ (by decide)).1 (hu.good _ (by decide)).2
   |exact Wo (hu.score _ (by decide)).1 (hu.score _ (by decide)).2
   |exact Wo hu.command.1 hu.command.2
   |exact Wo hu.mode.1 hu.mode.2
 exact e
theorem LW {b:Nat} {o:Hq} (ho:Zn Held.ks (YC o)=true) {u:Vw} (hu:u.Ok) {d:Said} (hd:d.Ok) (n:Nat):YS n (fun k=>YC (Wj b o u d k))=true:=jjge fun k _=>by
 unfold Wj;split
 . exact ho
 . exact jjp2 hu hd
theorem Eh {c:Cfg} {nq:Nat} {fq:Nat->Int} {b:Nat} {o:Hq} (ho:Zn Held.ks (YC o)=true) {u:Vw} (hu:u.Ok) {d:Said} (hd:d.Ok) (h4:4<=c.nodes.toNat) (hm:XQ c nq fq (ZX u)=true):ZX (OG c nq fq c.nodes.toNat (fun k=>YC (Wj b o u d k)))=ZX u:=by
 have hF:=LW (b:=b) ho hu hd c.nodes.toNat;rw[Bf c nq fq hF,Nat.min_self];refine jjf9 (b:=b) (Iy c nq fq) hm ⟨u,rfl⟩ hF h4 fun k _ hne=>?_
 have e:Wj b o u d k=Kl u d:=if_neg hne;rw[e];exact⟨rfl,rfl⟩
theorem F6 {c:Cfg} {nq:Nat} {fq:Nat->Int} {b:Nat} {o:Hq} (ho:Zn Held.ks (YC o)=true) {u:Vw} (hu:u.Ok) {d:Said} (hd:d.Ok) (h4:4<=c.nodes.toNat) (hm:XQ c nq fq (ZX u)=true):V5 (Zx (XQ c nq fq) (ZX (Xr c nq fq)) (min c.nodes.toNat c.nodes.toNat) (fun k=>YC (Wj b o u d k)))=true:=by
 rw[Nat.min_self];refine jjgx (b:=b) (Iy c nq fq) hm ⟨u,rfl⟩ (LW (b:=b) ho hu hd c.nodes.toNat) h4 fun k _ hne=>?_
 have e:Wj b o u d k=Kl u d:=if_neg hne;rw[e];exact⟨rfl,rfl⟩
theorem Ek (b:Nat):∀n,n<=QQ b (fun _=>true) n+(if b<n then 1 else 0)
 |0=>Nat.zero_le _
 |n+1=>by
  have:=Ek b n;simp only[QQ,and_true];by_cases e:n=b
  . rw[if_neg (show ¬n≠b by omega),if_pos (show b<n+1 by omega)]
    split at this<;>omega
  . rw[if_pos (show n≠b from e)]
    split at this
    . rw[if_pos (show b<n+1 by omega)];omega
    . split<;>omega
theorem DE (b:Nat):∀n,QQ b (fun _=>false) n=0
 |0=>rfl
 |n+1=>by simp[QQ,DE b n]
theorem Eg {b:Nat} {o:Hq} {u:Vw} {d:Said} {n:Nat} {a:Int} {p:Payload} {t:Nat->Bool} (h:∀k,d=if t k=true then⟨true,a,p⟩ else Said.zero):XF (fun k=>YC (Wj b o u d k)) n=(List.range n).map (OA b (Jk (YC o)) t a p):=by
 unfold XF;refine List.map_congr_left fun k _=>?_
 show Jk (YC (Wj b o u d k))=OA b (Jk (YC o)) t a p k;unfold OA Wj;by_cases e:k=b
 . rw[if_pos e,if_pos e]
 . rw[if_neg e,if_neg e,<- h k]
   rfl
theorem jjld {b n:Nat} {o:Hq} {u:Vw} {a:Int} {p:Payload} (hb:b<n) (h4:4<=n) (h16:n<=16) (ha:X5 a=true):PO (n:Int) (XF (fun k=>YC (Wj b o u ⟨true,a,p⟩ k)) n) a=⟨true,a,p⟩:=by
 rw[Eg (d:=⟨true,a,p⟩) (t:=fun _=>true) (a:=a) (p:=p) fun _=>rfl];rcases Ej hb h4 h16 ha (t:=fun _=>true) (p:=p) (y:=Jk (YC o)) rfl with⟨h,_⟩|⟨_,h,_⟩
 . exact h
 . have:=Ek b n
   rw[if_pos hb] at this;omega
theorem jjle {b n:Nat} {o:Hq} {u:Vw} {a:Int} (hb:b<n) (h4:4<=n) (h16:n<=16) (ha:X5 a=true):PO (n:Int) (XF (fun k=>YC (Wj b o u Said.zero k)) n) a=Said.zero:=by
 rw[Eg (d:=Said.zero) (t:=fun _=>false) (a:=a) (p:=Payload.zero) fun _=>rfl];rcases Ej hb h4 h16 ha (t:=fun _=>false) (p:=Payload.zero) (y:=Jk (YC o)) rfl with⟨_,h,_⟩|⟨h,_⟩
 . rw[DE] at h;omega
 . exact h
theorem C4 {h:Hq} (hf:Zn Held.ks (YC h)=true) {i:Int} (h0: -9223372036854775808<=i) (h1:i<=9223372036854775807):Zn Held.ks (YC {h with ra:=i})=true:=by
 obtain⟨x,hx,e,_⟩:=NJ hf
 have e2:YC {h with ra:=i}=YC (Rc {x with cell:={x.cell with report:={x.cell.report with at_:=i}}}):=by
  have a1:YC {h with ra:=i}=(YC h).set 9 (.v (.int .i64 i)):=rfl;rw[a1,e];rfl
 rw[e2];exact JQ ⟨hx.1,hx.2.1,⟨⟨h0,h1⟩,hx.2.2.1.2⟩,hx.2.2.2⟩
def QV (i:Nat) (s:Said):Said:=if s.is=true/\(s.p.kind=1\/s.p.kind=2) then⟨true,Int.ofNat i,s.p⟩ else Said.zero
def mcO (i:Nat) (s:Said) (h:Hq):Hq:=if s.is=true/\(s.p.kind=1\/s.p.kind=2) then h else {h with ra:=Int.ofNat i}
theorem jjqc {i:Nat} (hi:i<=60) (s:Said) {h:Hq} (hf:Zn Held.ks (YC h)=true):Zn Held.ks (YC (mcO i s h))=true:=by
 unfold mcO;split
 . exact hf
 . exact C4 hf (by simp<;>omega) (by simp<;>omega)
theorem jjqe {i:Nat} (hi:i<=60) {s:Said} (hs:s.Ok):(QV i s).Ok:=by
 unfold QV;split
 . exact⟨⟨by simp<;>omega,by simp<;>omega⟩,hs.2⟩
 . refine⟨⟨by decide,by decide⟩,⟨by decide,by decide⟩,⟨by decide,by decide⟩,⟨by decide,by decide⟩,⟨by decide,by decide⟩⟩
theorem jjqb {i:Nat} (hi:i<=60) (s:Said) {b n:Nat} {o:Hq} {u:Vw} (hb:b<n) (h4:4<=n) (h16:n<=16):PO (n:Int) (XF (fun k=>YC (Wj b o u (QV i s) k)) n) (Int.ofNat i)=QV i s:=by
 have ha:X5 (Int.ofNat i)=true:=by
  unfold X5;simp;omega
 unfold QV;split
 . exact jjld hb h4 h16 ha
 . exact jjle hb h4 h16 ha
end Go.Proofs.YtljeokninakliaaGreatDoor
end
