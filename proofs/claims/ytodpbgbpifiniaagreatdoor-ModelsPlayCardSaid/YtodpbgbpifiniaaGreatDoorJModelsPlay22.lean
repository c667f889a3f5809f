/- Parts, one behind the other. Parts of a proof. -/
import Derived.Test.YtodpbgbpifiniaaGreatDoorJModelsPlay21
import Derived.Test.YtodpbgbpifiniaaGreatDoorJModelsPlay20
import Derived.Test.YtodpbgbpifiniaaGreatDoorJModelsPlay14
import Derived.Test.YtodpbgbpifiniaaGreatDoorJModelsPlay9
set_option linter.unusedSimpArgs false
set_option linter.unusedVariables false
set_option maxRecDepth 1000000
set_option maxHeartbeats 4000000
section
namespace Go.Proofs.YtodpbgbpifiniaaGreatDoor
open Go.RowKit Tryz
theorem pjT (c:Cfg) (w:Vw) (x y:Int) (d:Said) (T:Nat->ZO) (g:Nat->Int) (k:Nat) (F:Nat->Said) (j:Nat) (Q:VC->Prop) (H:let zN:=Int.ofNat;let zz1:=(ABlk.mk true false 65 0 (Cs.lit (zI x::zB (Said.is d)::zI (Said.at_ d)::zU (Payload.kind (Said.p d))::zU (Payload.st (Said.p d))::zW (Payload.seq (Said.p d))::zW (Payload.val (Said.p d))::(ZW w++[AC.sl Yj 0 0 (Cfg.nt c) none]))));let zz3:=(ABlk.mk true true 52 1 (Cs.arr (Cfg.nt c) fun k=>List.map AC.v ((fun j=>[Value.int IntKind.u32 (g j)]) k)));let zz2:=(ABlk.mk true true 52 1 (Cs.arr (Cfg.nt c) fun k=>List.map AC.v ((fun i=>[Value.int IntKind.u32 (g i)]) k)));let zz0:=[some zz1,yR 68 0 (Cs.lit (zI x::zB (Said.is d)::zI (Said.at_ d)::zU (Payload.kind (Said.p d))::zU (Payload.st (Said.p d))::zW (Payload.seq (Said.p d))::zW (Payload.val (Said.p d))::(ZW w++[AC.sl Xs 0 0 (Cfg.nt c) none]))),some zz3,some zz2,some zz1,some ZA,some Zw,some (ZG 3 (Cfg.np c) (Cfg.fp c)),some (ZG 3 (Cfg.ns c) (Cfg.fs c)),some (ZG 3 (Cfg.nb c) (Cfg.fb c)),some (Xj (Cfg.nt c) (Cfg.ft c)),some (QI k F),some (WC 51 c),some (ZM (Int.toNat (Cfg.nodes c)) (ZI c (2*Cfg.np c))),some (ZM (Cfg.np c) (Cfg.fp c)),some (ZM (Cfg.ns c) (Cfg.fs c)),some (ZM (Cfg.nb c) (Cfg.fb c)),some (YC (Cfg.nt c) (Cfg.ft c)),some (VQ c w y),some (WH (Cfg.nt c) T),some (Vx c w y),some (Y1 (Cfg.nt c) T)];let zz4:=(g (0+Int.toNat (zN j)) !=g (0+Int.toNat (zN j)));let zq0:List Bool:=[true];let zq1:List Bool:=(ABlk.inb zz2 (0+Int.toNat (zN j)) 1)::true::(decide (zN 0<=zN j/\zN j < ↑(c.nt)))::true::(ABlk.inb zz3 (0+Int.toNat (zN j)) 1)::true::(decide (zN 0<=zN j/\zN j < ↑(c.nt)))::true::(decide (zN j < ↑(c.nt))==true)::zq0;let zs0:=fun (l:List (Option AV))=>some (ZN (List.zip NX (K0 j)) 2)::some (ZN (List.zip NX (K0 j)) 3)::l;(((decide (zN j < ↑(c.nt)))=true->((zz4=true->Q (Exit.ret,(zs0 [some (ZN (List.zip NX (K0 j)) 5)]),zz0,52,1000000000000000110000000000000000000000000000000000000006,((zz4==true)::zq1),[]))/\(zz4=false->Q (Exit.normal,(zs0 [some (.c (zI (IntKind.wrap .i64 (zN j+zN 1))))]),zz0,52,1000000000000000110000000000000000000000000000000000000008,((zz4==false)::zq1),[]))))/\((decide (zN j < ↑(c.nt)))=false->Q (Exit.exit 0,(zs0 [some (ZN (List.zip NX (K0 j)) 5)]),zz0,52,1000000000000000000000000000000000000000000000000000000005,((decide (zN j < ↑(c.nt))==false)::zq0),[])))):
 ∃p r,pjR prog c w x y d T g k F j p=some r/\Q r:=
 ZL H (fun g1=>ZL g1 (fun g2=>⟨pD 2 4,_,by kernel_rfl,g2⟩) (fun g2=>⟨pD 2 7,_,by kernel_rfl,g2⟩)) (fun g1=>⟨pD 1 2,_,by kernel_rfl,g1⟩)
theorem pzT (c:Cfg) (w:Vw) (x y:Int) (d:Said) (T:Nat->ZO) (g:Nat->Int) (k:Nat) (F:Nat->Said) (i j:Nat) (Q:VC->Prop) (H:let zN:=Int.ofNat;let zz0:=(ABlk.mk true false 65 0 (Cs.lit (zI x::zB (Said.is d)::zI (Said.at_ d)::zU (Payload.kind (Said.p d))::zU (Payload.st (Said.p d))::zW (Payload.seq (Said.p d))::zW (Payload.val (Said.p d))::(ZW w++[AC.sl Yj 0 0 (Cfg.nt c) none]))));let zz1:=(ABlk.mk true true 52 1 (Cs.arr (Cfg.nt c) fun k=>List.map AC.v ((fun j=>[Value.int IntKind.u32 (g j)]) k)));let zs0:=fun (l:List (Option ABlk))=>some (ZG 3 c.np c.fp)::some (ZG 3 c.ns c.fs)::some (ZG 3 c.nb c.fb)::some (Xj c.nt c.ft)::some (QI k F)::some (WC 51 c)::some (ZM (Int.toNat c.nodes) (ZI c (2*c.np)))::some (ZM c.np c.fp)::some (ZM c.ns c.fs)::some (ZM c.nb c.fb)::some (YC c.nt c.ft)::some (VQ c w y)::some (WH c.nt T)::some (Vx c w y)::some (Y1 c.nt T)::l;let zs1:=fun (l:List (Option AV))=>some (ZN (List.zip Px (Mx k i j)) 2)::some (ZN (List.zip Px (Mx k i j)) 10)::some (ZN (List.zip Px (Mx k i j)) 12)::some (ZN (List.zip Px (Mx k i j)) 15)::some (ZN (List.zip Px (Mx k i j)) 16)::l;(((decide (zN j < ↑(c.nt)))=true->Q (Exit.normal,(zs1 [some (.c (zI (IntKind.wrap .i64 (zN j+zN 1))))]),(yO 52 1 (Cs.arr c.nt fun i=>if i=0+Int.toNat (zN j) then YB ((fun k=>List.map AC.v ((fun j=>[Value.int .u32 (g j)]) k)) i) 0 [zW (IntKind.wrap .u32 (g (0+Int.toNat (zN j))+zN 1))] else List.map AC.v ((fun j=>[Value.int .u32 (g j)]) i))::some zz0::some ZA::some Zw::zs0 []),174,100000000000000000000000000000000000000000000000000000000016,[ABlk.inb zz1 (0+Int.toNat (zN j)) 1,decide (zN 0<=zN j/\zN j < ↑(c.nt)),ABlk.inb zz1 (0+Int.toNat (zN j)) 1,true,decide (zN 0<=zN j/\zN j < ↑(c.nt)),true,decide (zN j < ↑(c.nt))==true,true],[]))/\((decide (zN j < ↑(c.nt)))=false->Q (Exit.exit 4,(zs1 [some (ZN (List.zip Px (Mx k i j)) 20)]),(some zz1::some zz0::some ZA::some Zw::zs0 []),174,100000000000000000000000000000000000000000000000000000000005,[decide (zN j < ↑(c.nt))==false,true],[])))):
 ∃p r,pzR prog c w x y d T g k F i j p=some r/\Q r:=
 ZL H (fun g1=>⟨pD 1 1,_,by kernel_rfl,g1⟩) (fun g1=>⟨pD 1 2,_,by kernel_rfl,g1⟩)
abbrev AL:Nat:=260000000000000000000000000000000000000000
theorem UE {N:Nat} (hN:AL<=N) (i:Nat) (h:Nat.blt i AL=true):Nat.blt i N=true:=by
 rw[Nat.blt_eq] at h ⊢;exact Nat.lt_of_lt_of_le h hN
theorem Pb {N:Nat} (hN:AL<=N) {c:Cfg} {u:Vw} {x:Int} {S:Nat->ZO} {k:Nat} {F:Nat->Said}:∀b∈SM c u x S k F,Zc N b:=by
 intro b hb;simp only[List.mem_cons,List.not_mem_nil,or_false] at hb;rcases hb with rfl|rfl|rfl|rfl|rfl|rfl|rfl|rfl|rfl|rfl|rfl|rfl|rfl|rfl|rfl|rfl|rfl
 . exact XW rfl
 . exact XW rfl
 . exact WU
 . exact WU
 . exact WU
 . exact WU
 . exact WU
 . refine XW ?_
   simp[Jc,Yu,UE hN 51 rfl,UE hN 52 rfl,UE hN 53 rfl,UE hN 54 rfl,UE hN 55 rfl,UE hN 56 rfl]
 . exact XT
 . exact XT
 . exact XT
 . exact XT
 . exact XT
 . refine XW ?_
   rw[List.all_append,List.all_append,Sk];simp[Yu,UE hN 51 rfl,UE hN RE rfl]
 . exact XT
 . refine XW ?_
   rw[List.all_append,List.all_append,List.all_append,Sk];simp[Yi,Yu,UE hN 0 rfl,UE hN 1 rfl,UE hN 2 rfl,UE hN 3 rfl,UE hN Q3 rfl]
 . exact XT
theorem Lu {ty o n N:Nat} {x:Int} {d:Said} {w:Vw} (h:Nat.blt o N=true):Zc N (Hh ty o x d w n):=by
 refine XW ?_;rw[List.all_append,List.all_cons,List.all_append,Sk];simp[Yu,h]
theorem Ev {c:Cfg} {w:Vw} {x y:Int} {d:Said} {T:Nat->ZO} {g:Nat->Int} {k:Nat} {F:Nat->Said}:∀b∈NY c w x y d T g k F,Zc AF b:=by
 intro b hb;rcases List.mem_append.1 hb with hb|hb
 . simp only[List.mem_cons,List.not_mem_nil,or_false] at hb
   rcases hb with rfl|rfl|rfl|rfl|rfl
   . exact Lu rfl
   . exact Lu rfl
   . exact XT
   . exact XT
   . exact Lu rfl
 . exact Pb (by decide) b hb
abbrev B6:Nat:=10000000000000000000000000000000000000000000000000000000004
theorem jjje {c:Cfg} {w:Vw} {x y:Int} {d:Said} {T:Nat->ZO} {g:Nat->Int} {k:Nat} {F:Nat->Said}:∀b∈Hj c w x y d T g k F,Zc B6 b:=by
 intro b hb;rcases List.mem_append.1 hb with hb|hb
 . simp only[List.mem_cons,List.not_mem_nil,or_false] at hb
   rcases hb with rfl|rfl
   . exact XT
   . exact Lu rfl
 . exact Pb (by decide) b hb
theorem jjnc (c : Cfg) (w : Vw) (x y:Int) (d:Said) (T:Nat->ZO) (g:Nat->Int) (k:Nat) (F:Nat->Said) (hn:c.nt<=8) {eb:List (Option ABlk)} (hL:BL (NY c w x y d T g k F) eb):
 LoopV prog (ZY prog 14 0) NX pjI ((K0 0).map some) eb 52 AF (ZT 52 []) (pjI.zip (NY c w x y d T g k F)) Pq (.exit 0) none:=by
 refine Rx VL (fuel:=100) (str:=nSt) (nh:=FT) (S:=Nat) (fun j=>j<=c.nt) (fun j=>c.nt-j) NX [] pjI (fun j=>K0 j) (fun _=>NY c w x y d T g k F) (by decide) (by decide) (by unfold ZQ Pq;omega) (s0:=0) (Nat.zero_le _) (fun _=>⟨rfl,rfl⟩) (by kernel_rfl) hL (fun j _=>⟨rfl,Ev⟩) ?_;intro j hj;refine(?_:(∃p r,pjR prog c w x y d T g k F j p=some r/\_)->_) (pjT c w x y d T g k F j (XS AF Pq 52 NX [] pjI (fun j=>j<=c.nt) (fun j=>c.nt-j) (fun j=>K0 j) (fun _=>NY c w x y d T g k F) (.exit 0) [] (pjI.zip (NY c w x y d T g k F)) j) ?_)
 . rintro⟨p,r,h1,h2⟩
   exact⟨p,[],r,h1,h2⟩
 . refine⟨fun c1=>⟨fun c2=>?_,fun c2=>?_⟩,fun c1=>?_⟩
   . simp at c2
   . have hlt:j<c.nt:=by simpa using c1
     refine⟨?_,rfl,by unfold Pq;dsimp only;omega,rfl,.inl ⟨rfl,j+1,hlt,by show c.nt-(j+1)<c.nt-j;omega,?_,BL.refl (NY c w x y d T g k F)⟩⟩
     . simp only[ZZ,List.forall_mem_cons,XE]
       simp[Z6,Xn,Xo];omega
     . dsimp only;rw[TM (show j<9223372036854775807 by omega)];rfl
   . obtain rfl : j = c.nt := by have:¬j<c.nt:=by simpa using c1
                                 omega
     exact⟨by simp only[ZZ,List.forall_mem_cons,c1];simp,rfl,by unfold Pq;dsimp only;omega,rfl,.inr ⟨by simp,rfl,(fun _ h=>by cases h),Ru (by kernel_rfl) Ev rfl⟩⟩
def Mw (g:Nat->Int) (k j:Nat):Int:=if j<k then IntKind.wrap .u32 (g j+Int.ofNat 1) else g j
theorem jjmz (g:Nat->Int) (k:Nat):Mw g k k=g k:=if_neg (Nat.lt_irrefl k)
theorem jjjo {n n':Nat} {c:Cfg} {w:Vw} {y:Int} {T:Nat->ZO} {k:Nat} {F:Nat->Said} {z:ABlk} {o:ABlk} (hk:pmI.all (Zb n n')=true) (hl:∀b∈SM c w y T k F,Zc n b) {r:List (Option ABlk)} (hr:r=[some o,some z]++(SM c w y T k F).map some):∀p∈pmI.zip (SM c w y T k F),Zb n n' p.1=true/\Zc n p.2/\∃y,(p.1,some y)∈pzI.zip r/\BEq y p.2:=by
 intro p hp;subst hr;refine⟨List.all_eq_true.1 hk _ (List.of_mem_zip hp).1,hl _ (List.of_mem_zip hp).2,p.2,?_,BEq.refl _⟩;exact .tail _ (.tail _ (CZ hp))
theorem jjmy (c : Cfg) (w : Vw) (x y:Int) (d:Said) (T:Nat->ZO) (g:Nat->Int) (k:Nat) (F:Nat->Said) (i:Nat) (hn:c.nt<=8) {eb:List (Option ABlk)} (hL:BL (Hj c w x y d T g k F) eb):
 LoopV prog (ZY prog 3 2) Px pzI ((Mx k i 0).map some) eb 174 B6 (ZT 174 (pmH.zip (Ua k i))) (pmI.zip (SM c w y T k F)) Py (.exit 4) none:=by
 have g0:Mw g 0=g:=by funext j;exact if_neg (Nat.not_lt_zero _)
 refine Rx VL (fuel:=100) (str:=nSt) (nh:=GI) (S:=Nat) (fun j=>j<=c.nt) (fun j=>c.nt-j) Px [] pzI (fun j=>Mx k i j) (fun j=>Hj c w x y d T (Mw g j) k F) (by decide) (by decide) (by unfold ZQ Py;omega) (s0:=0) (Nat.zero_le _) (fun _=>⟨rfl,rfl⟩) (by kernel_rfl) (by rw[g0];exact hL) (fun j _=>⟨rfl,jjje⟩) ?_;intro j hj;refine(?_:(∃p r,pzR prog c w x y d T (Mw g j) k F i j p=some r/\_)->_) (pzT c w x y d T (Mw g j) k F i j (XS B6 Py 174 Px [] pzI (fun j=>j<=c.nt) (fun j=>c.nt-j) (fun j=>Mx k i j) (fun j=>Hj c w x y d T (Mw g j) k F) (.exit 4) (pmH.zip (Ua k i)) (pmI.zip (SM c w y T k F)) j) ?_)
 . rintro⟨p,r,h1,h2⟩
   exact⟨p,[],r,h1,h2⟩
 . refine ⟨fun c1=>?_,fun c1=>?_⟩
   . have hlt:j<c.nt:=by simpa using c1
     refine⟨?_,rfl,by unfold Py;dsimp only;omega,rfl,.inl ⟨rfl,j+1,hlt,by show c.nt-(j+1)<c.nt-j;omega,?_,?_⟩⟩
     . simp only[ZZ,List.forall_mem_cons,XE]
       simp[Z6,Xn,Xo];omega
     . dsimp only;rw[TM (show j<9223372036854775807 by omega)];rfl
     . refine⟨⟨rfl,rfl,rfl,rfl,.inr (.inl ⟨c.nt,_,_,rfl,rfl,fun m hm=>?_⟩)⟩,BL.refl (Hh 65 Yj x d w c.nt::SM c w y T k F)⟩
       by_cases e:m=0+Int.toNat (Int.ofNat j)
       . have e2:m=j:=by rw[e,XE]
         rw[if_pos e];subst e2;have:Mw g (m+1) m=IntKind.wrap .u32 (g m+Int.ofNat 1):=if_pos (Nat.lt_succ_self m);dsimp only;rw[this,XE,jjmz];simp[YB,VB,ZU]
       . rw[if_neg e]
         rw[XE] at e
         have:Mw g (j+1) m=Mw g j m:=by
          unfold Mw;by_cases h:m<j
          . rw[if_pos h,if_pos (by omega)]
          . rw[if_neg h,if_neg (by omega)]
         dsimp only;rw[this]
   . obtain rfl : j = c.nt := by have:¬j<c.nt:=by simpa using c1
                                 omega
     refine⟨by simp only[ZZ,List.forall_mem_cons,c1];simp,rfl,by unfold Py;dsimp only;omega,rfl,.inr ⟨by simp,rfl,?_,jjjo (by kernel_rfl) (Pb (by decide)) rfl⟩⟩;intro q hq;simp only[pmH,Ua,List.zip_cons_cons,List.zip_nil_right,List.mem_cons,List.not_mem_nil,or_false] at hq;rcases hq with rfl|rfl|rfl|rfl
     . exact⟨rfl,.head _⟩
     . exact⟨rfl,.tail _ (.head _)⟩
     . exact⟨rfl,.tail _ (.tail _ (.head _))⟩
     . exact⟨rfl,.tail _ (.tail _ (.tail _ (.head _)))⟩
structure RT where
 u:Vw
 x:Int
 S:Nat->ZO
structure SW (s:RT):Prop where
 v:s.u.Ok
 x0:0<=s.x
 x1:s.x<=1099511627776
 st:∀j,YK (s.S j).rnd=true
structure PxC (c:Cfg):Prop where
 g:CfgGood c
 e0:ZH c=0
 st:XM c c.nodes.toNat=true
 hh:Yr c=true
def BP (c:Cfg) (s:RT) (d:Said):Vw:=if d.is=true then V8 c s.u s.x else s.u
def B0 (c:Cfg) (s:RT):Bool:=Int.tmod (YJ s.x) (c.ns:Int)==Int.ofNat 0
def Ob (c:Cfg) (s:RT) (d:Said):Vw:=if B0 c s=true then T6 c (BP c s d) else BP c s d
def M4 (c:Cfg) (s:RT) (d:Said):Nat->ZO:=if d.is=true then Vv c s.u s.x d.p s.S else s.S
def Je (c:Cfg) (s:RT) (d:Said):RT:=if s.x<1099511627776 then⟨Ob c s d,YJ s.x,M4 c s d⟩ else s
def B1 (x:Int) (d:Said):Said:=if d.is=true then⟨true,x,d.p⟩ else Said.zero
theorem jjn8 {c:Cfg} (h:ZH c=0):Yr c=true:=by
 have h9:=(Ni h).2.2.2.2.2.2.2.2.1;unfold Ys at h9;refine List.all_eq_true.2 fun i hi=>?_
 have hz:Zo c i=0:=by
  split at h9
  . rename_i j hj
    have:=List.find?_some hj;rw[h9] at this;simp at this
  . rename_i hn
    have:=List.find?_eq_none.1 hn i hi;simpa using this
 unfold Zo at hz;split at hz
 . have:=T5 hz
   simpa using this
 . cases hz
theorem jjn7 {c:Cfg} (g:CfgGood c):XM c c.nodes.toNat=true:=by
 have:=g.n4;have:=g.n16;have:=g.p2;have:=g.p8;have:=g.s1;have:=g.s16;have:=g.nt;have:=g.nb;simp[XM];omega
theorem jjna {c:Cfg} (h:ZH c=0):PxC c:=⟨E8 h,h,jjn7 (E8 h),jjn8 h⟩
theorem Fi (z:Int):YK (IntKind.wrap .i64 z)=true:=by
 unfold YK;simp only[IntKind.wrap,IntKind.bits,IntKind.signed,Bool.and_eq_true,decide_eq_true_eq]
 first|omega|(simp;omega)
theorem G6 {c:Cfg} (g:CfgGood c):TF c c.nodes.toNat=true:=by
 have:=g.s16;have:=g.n16;have:=g.nt;have:=g.nb;have:=g.n4;have:=g.p2;have:=g.p8;have:=g.s1;simp[TF];omega
theorem Pj {c:Cfg} (g:CfgGood c):(Zg c c.nodes.toNat==Int.ofNat 0)=false:=by
 have:=g.s1;have:=g.s16;have:=g.n4;have:=g.n16;have:=g.l1;have:=g.l4;have l0:(c.ns:Int)*4<=(c.ns:Int)*c.long:=Int.mul_le_mul_of_nonneg_left (by omega) (by omega);have l1:(c.ns:Int)*c.long<=16*4096:=Int.mul_le_mul (by omega) (by omega) (by omega) (by omega);unfold Zg;rw[if_neg (by omega),XG _ (by omega) (by omega)];simp;omega
theorem G9 (c:Cfg) (nq:Nat) (fq:Nat->Int) (l:List AC):pX Jt ⟨c,nq,fq,[.agg l]⟩=(Yx l&&(true&&(decide (c.np<=8)&&(TF c nq&&(Vy l&&(decide (0<=ZP (l.getD 41 ZS))&&!(Zg c nq==Int.ofNat 0))))))):=rfl
theorem G8 (c:Cfg) (nq:Nat) (fq:Nat->Int) (l:List AC) (z:Int):pW VM ⟨c,nq,fq,[.agg l,.c (.v (.int .i64 z))]⟩=(Yx l&&decide (c.np<=8)):=rfl
theorem Ga (c:Cfg) (l:List AC) (z:Int):M5 ⟨c,[.agg l,.c (.v (.int .i64 z))]⟩=(Yx l&&decide (c.np<=8)):=rfl
theorem Eu {v:Vw} (h:v.Ok):(Zk (ZW v)).Ok:=by
 have e:=HY v;have e:(Zk (ZW v)).Same v:=e;exact⟨fun i hi=>by rw[e.miss i hi];exact h.miss i hi,fun i hi=>by rw[e.good i hi];exact h.good i hi,fun i hi=>by rw[e.score i hi];exact h.score i hi,by rw[e.command];exact h.command,by rw[e.mode];exact h.mode⟩
section
variable {c:Cfg} (f:PxC c)
include f
theorem K4 (x:Int):Uh c x=VS c x:=by
 have:=f.g.n4;show (if c.nodes.toNat=0 then -1 else U7 c.fs c.ns (Int.tmod x (c.ns:Int)))=_;rw[if_neg (by omega)]
theorem G7 (u:Vw) (x:Int):V8 c u x=Uj c u x:=by
 have:=f.g.n4;have e:=K4 f x;unfold V8 Uj;rw[e];have:decide (Int.ofNat 0<=ZE c c.nodes.toNat (ZI c (2*c.np)) (VS c x))=decide (Int.ofNat 0<=VS c x/\VS c x<(c.np:Int)):=decide_eq_decide.2 (P1 f.g (by omega) _ _);rw[this]
theorem K1 {w:Vw} (hw:w.Ok):T6 c w=U1 c w:=by
 have:=f.g.n4;have hq:0<c.nodes.toNat:=by omega
 obtain⟨v,hv⟩:∃v,Zk (ZW w)=v:=⟨_,rfl⟩
 have hk:=Eu hw;unfold T6 U1;rw[hv] at hk ⊢
 have hK:Tr c c.nodes.toNat (ZI c (2*c.np)) (ZW (ZD ⟨c.np,c.miss,c.good⟩ v))=Xm c (Zk (ZW (ZD ⟨c.np,c.miss,c.good⟩ v))):=by
  obtain⟨u,hu⟩:∃u,ZD ⟨c.np,c.miss,c.good⟩ v=u:=⟨_,rfl⟩
  have huc:u.command=v.command:=by rw[<- hu];rfl
  rw[hu];have e:ZW (Zk (ZW u))=ZW u:=jjcg (WT u);have hc:=hk.command;have:=jjlg f.g hq (ZI c (2*c.np)) (Zk (ZW u)) (by show -128<=u.command/\u.command<=127;omega);rw[e] at this;exact this
 unfold Hb Mp;rw[hK,jjlk f.e0]
theorem jjnb {w:Vw} (hw:w.Ok):(T6 c w).Ok:=by
 have p8:=f.g.p8;have hk:=Eu hw;have e:=K1 f hw;rw[e];unfold U1;obtain⟨v,hv⟩:∃v,Zk (ZW w)=v:=⟨_,rfl⟩
 rw[hv] at hk ⊢;have hK:=EY p8 (Zk (ZW (ZD ⟨c.np,c.miss,c.good⟩ v)));refine⟨fun i hi=>?_,fun i hi=>?_,fun i hi=>?_,?_,?_⟩
 . have a:=hk.miss i hi
   show 0<=Vf ⟨c.np,c.miss,c.good⟩ i (v.got i) (v.miss i)/\Vf ⟨c.np,c.miss,c.good⟩ i (v.got i) (v.miss i)<=255;unfold Vf Zi;constructor<;>(repeat' split)<;>omega
 . have a:=hk.good i hi
   show 0<=Ve ⟨c.np,c.miss,c.good⟩ i (v.got i) (v.good i)/\Ve ⟨c.np,c.miss,c.good⟩ i (v.got i) (v.good i)<=255;unfold Ve Zi;constructor<;>(repeat' split)<;>omega
 . have a:=hk.score i hi
   show 0<=UT ⟨c.np,c.miss,c.good⟩ i (v.got i) (v.score i)/\UT ⟨c.np,c.miss,c.good⟩ i (v.got i) (v.score i)<=65535;unfold UT Zn Zj;constructor<;>(repeat' split)<;>omega
 . show -128<=Xm c _/\Xm c _<=127
   omega
 . have:=L5 c.np (Wa (ZD ⟨c.np,c.miss,c.good⟩ v)) (Xm c (Zk (ZW (ZD ⟨c.np,c.miss,c.good⟩ v))))
   show 0<=Ws (Xg c.np (Wa (ZD ⟨c.np,c.miss,c.good⟩ v)) (Xm c (Zk (ZW (ZD ⟨c.np,c.miss,c.good⟩ v))))) v.mode/\Ws (Xg c.np (Wa (ZD ⟨c.np,c.miss,c.good⟩ v)) (Xm c (Zk (ZW (ZD ⟨c.np,c.miss,c.good⟩ v))))) v.mode<=255;unfold Ws;split
   . omega
   . simp only[IntKind.wrap,IntKind.bits,IntKind.signed]
     first|omega|(simp;omega)
omit f in
theorem LF (s:RT) (h:s.u.Ok) (d:Said):(BP c s d).Ok:=by
 unfold BP;split
 . exact⟨h.miss,h.good,h.score,h.command,h.mode⟩
 . exact h
theorem jjn5 {s:RT} (h:SW s) (d:Said):(Ob c s d).Ok:=by
 unfold Ob;split
 . exact jjnb f (LF s h.v d)
 . exact LF s h.v d
omit f in
theorem J2 {s:RT} (h:SW s) (d:Said) (j:Nat):YK (M4 c s d j).rnd=true:=by
 unfold M4;split
 . show YK (if j<c.nt then _ else _:ZO).rnd=true
   split
   . unfold LU U4
     dsimp only;split
     . exact Fi _
     . exact h.st j
   . exact h.st j
 . exact h.st j
theorem jjjl {s:RT} (h:SW s) (d:Said):SW (Je c s d):=by
 unfold Je;split
 . rename_i hx
   have x0:=h.x0;have e:YJ s.x=s.x+1:=XG (s.x+1) (by omega) (by omega);exact⟨jjn5 f h d,by show 0<=YJ s.x;rw[e];omega,by show YJ s.x<=_;rw[e];omega,J2 h d⟩
 . exact h
theorem RH {s:RT} (hx:s.x<1099511627776):Mo c s.u s.x:=⟨f.g.nt,by have:=f.g.s1;omega,f.st,f.hh,hx,Fi _⟩
theorem K2 (u:Vw) (z:Int):pW VM ⟨c,c.nodes.toNat,ZI c (2*c.np),[.agg (ZW u),.c (.v (.int .i64 z))]⟩=true:=by
 rw[G8,WT u,decide_eq_true f.g.p8];rfl
theorem K5 (u:Vw) (z:Int):M5 ⟨c,[.agg (ZW u),.c (.v (.int .i64 z))]⟩=true:=by
 rw[Ga,WT u,decide_eq_true f.g.p8];rfl
theorem K3 {w:Vw} (hv:w.Ok):pX Jt ⟨c,c.nodes.toNat,ZI c (2*c.np),[.agg (ZW w)]⟩=true:=by
 have pv:Vy (ZW w)=true:=(Rj w).2 fun i hi=>⟨(hv.miss i hi).1,(hv.good i hi).1,(hv.score i hi).1⟩
 have hm:decide (0<=ZP ((ZW w).getD 41 ZS))=true:=decide_eq_true hv.mode.1;rw[G9,WT w,decide_eq_true f.g.p8,G6 f.g,pv,hm,Pj f.g];rfl
theorem K6 {w:Vw} (hv:w.Ok):RM ⟨c,[.agg (ZW w)]⟩=true:=by
 have qv:S0 (ZW w)=true:=(Ea w).2 fun i hi=>⟨hv.miss i hi,hv.good i hi,hv.score i hi⟩
 have hc:decide (-128<=ZP ((ZW w).getD 40 ZS)/\ZP ((ZW w).getD 40 ZS)<=127)=true:=decide_eq_true hv.command;have hm:decide (0<=ZP ((ZW w).getD 41 ZS)/\ZP ((ZW w).getD 41 ZS)<=255)=true:=decide_eq_true hv.mode;rw[jjjc,WT w,decide_eq_true f.g.p8,qv,hc,hm];rfl
theorem jjjn {s:RT} (h:SW s) (hx:s.x<1099511627776) (d:Said) {eb:List (Option ABlk)} (hE:BL (V9 c s.u s.x s.S) eb):
 CallV prog 12 [.c (.ptr Ze 0 0),.agg (d.cells.map .v)] plI eb Yj (LT c s.x (U5 (B1 s.x d)) (Ob c s d)) (RD c (Ob c s d) (YJ s.x) (M4 c s d) (WX c s.x (M4 c s d))) 100000000000000000000000000000000000000000000000000:=by
 obtain⟨is,t,q⟩:=d;have hT:=J2 (c:=c) h ⟨is,t,q⟩;have hV:=LF (c:=c) s h.v ⟨is,t,q⟩;unfold Ob
 cases hb:B0 c s with
 |false=>
  rw[if_neg (by simp)]
  cases is with
  |true=>exact Bw c s.u s.x t q s.S (RH f hx) hT hb (K2 f _ _) hE
  |false=>exact Bu c s.u s.x t q s.S (RH f hx) hT hb hE
 |true=>
  rw[if_pos rfl]
  cases is with
  |true=>exact Bv c s.u s.x t q s.S (RH f hx) hT hb (K2 f _ _) (K3 f hV) hE
  |false=>exact Bt c s.u s.x t q s.S (RH f hx) hT hb (K3 f hV) hE
theorem jjn9 {s:RT} (h:SW s) (hx:s.x<1099511627776) (d:Said) {eb:List (Option ABlk)} (hE:BL (XA c s.u s.x s.S) eb):
 CallV prog 13 [.c (.ptr VR 0 0),.agg (d.cells.map .v)] plWI eb Xs (M3 c s.x (U5 (B1 s.x d)) (Ob c s d)) (RK c (Ob c s d) (YJ s.x) (M4 c s d) (WX c s.x (M4 c s d))) 100000000000000000000000000000000000000000000000000000000:=by
 obtain⟨is,t,q⟩:=d;have hT:=J2 (c:=c) h ⟨is,t,q⟩;have hV:=LF (c:=c) s h.v ⟨is,t,q⟩;have e1:=K4 f s.x;have e2:=G7 f s.u s.x;unfold Ob
 cases hb:B0 c s with
 | false=>
  rw[if_neg (by simp)]
  cases is with
  |true=>
   have eT:Vv c s.u s.x q s.S=Uk c s.u s.x q s.S:=by unfold Vv Uk;rw[e1,e2]
   have hT:∀j,YK (Vv c s.u s.x q s.S j).rnd=true:=hT
   have:=BD c s.u s.x t q s.S (RH f hx) (by rw[<- eT];exact hT) hb (K5 f _ _) hE;rw[<- eT,<- e2] at this;exact this
  |false=>exact BB c s.u s.x t q s.S (RH f hx) hT hb hE
 | true=>
  rw[if_pos rfl,K1 f hV]
  cases is with
  |true=>
   have eT:Vv c s.u s.x q s.S=Uk c s.u s.x q s.S:=by unfold Vv Uk;rw[e1,e2]
   have hT:∀j,YK (Vv c s.u s.x q s.S j).rnd=true:=hT
   have hV:(V8 c s.u s.x).Ok:=hV;have:=BC c s.u s.x t q s.S (RH f hx) (by rw[<- eT];exact hT) hb (K5 f _ _) (by rw[<- e2];exact K6 f hV) hE;rw[<- eT,<- e2] at this;exact this
  |false=>exact BA c s.u s.x t q s.S (RH f hx) hT hb (K6 f hV) hE
end
end Go.Proofs.YtodpbgbpifiniaaGreatDoor
end
section
namespace Go.Proofs.YtodpbgbpifiniaaGreatDoor
open Go.RowKit Tryz
theorem AM (err:Cfg->Int) (c:Cfg) (u w:Vw) (x y:Int) (S T:Nat->ZO) (g:Nat->Int) (d:Said) (k:Nat) (F:Nat->Said) (i:Nat) (Q:VC->Prop) (H:let zN:=Int.ofNat;let zD:=Int.toNat;let zz0:=(ABlk.mk true false 65 0 (Cs.lit (zI x::zB (Said.is d)::zI (Said.at_ d)::zU (Payload.kind (Said.p d))::zU (Payload.st (Said.p d))::zW (Payload.seq (Said.p d))::zW (Payload.val (Said.p d))::(ZW w++[AC.sl Yj 0 0 (Cfg.nt c) none]))));let zz1:=[zB (Said.is (F (0+zD (zN i)))),zI (Said.at_ (F (0+zD (zN i)))),zU (Payload.kind (Said.p (F (0+zD (zN i))))),zU (Payload.st (Said.p (F (0+zD (zN i))))),zW (Payload.seq (Said.p (F (0+zD (zN i))))),zW (Payload.val (Said.p (F (0+zD (zN i)))))];let zz2:=[zB (Said.is d),zI (Said.at_ d),zU (Payload.kind (Said.p d)),zU (Payload.st (Said.p d)),zW (Payload.seq (Said.p d)),zW (Payload.val (Said.p d))];let zs0:=fun (l:List (Option ABlk))=>some (ZG 3 c.np c.fp)::some (ZG 3 c.ns c.fs)::some (ZG 3 c.nb c.fb)::some (Xj c.nt c.ft)::some (QI k F)::some (WC 51 c)::some (ZM (zD c.nodes) (ZI c (2*c.np)))::some (ZM c.np c.fp)::some (ZM c.ns c.fs)::some (ZM c.nb c.fb)::some (YC c.nt c.ft)::some (VQ c w y)::some (WH c.nt T)::some (Vx c w y)::some (Y1 c.nt T)::l;Q (Exit.normal,[some (ZN (List.zip pmH (Ua k i)) 2),some (ZN (List.zip pmH (Ua k i)) 10),some (ZN (List.zip pmH (Ua k i)) 12),some (.c (zI (IntKind.wrap .i64 (zN i+zN 1))))],(some ZA::some Zw::zs0 []),174,1000000000000000000000000000000000000000000000000000000000003,((((zN c.nt) != ↑(c.nt))==false)::true::true::((!TB [none,none,none,none,none,none,none,none,some .u8,some .u8,some .u8,some .u8,some .u8,some .u8,some .u8,some .u8,some .u8,some .u8,some .u8,some .u8,some .u8,some .u8,some .u8,some .u8,some .u16,some .u16,some .u16,some .u16,some .u16,some .u16,some .u16,some .u16,none,none,none,none,none,none,none,none,some .i8,some .u8] (ZW w) (ZW w))==false)::(zu (zu (zu (zu (zu (zt (true::true::(((!TB [none,some .i64,some .u8,some .u8,some .u32,some .u32] zz2 zz2)==false)::(zt (zt (zt (true::true::(((x !=x)==false)::(zu (zu (zu (zt (true::((ABlk.inb (QI k F) (0+zD (zN i)) 6)::y3 (y3 ((decide (zN 0<=zN i/\zN i < ↑k))::true::(ABlk.inb (QI k F) (0+zD (zN i)) 6)::y3 (y3 ((decide (zN 0<=zN i/\zN i < ↑k))::((x !=x)==false)::y3 (true::true::(decide (zN i < ↑k)==true)::[]))))))))))))))))))))))))),[LoopV prog (ZY prog 3 2) Px pzI [some (.c (.sl 5 0 0 k none)),some (.c (.ptr Ze 0 0)),some (.c (.ptr VR 0 0)),some (.c (zI (zN i))),some (.c (.ptr 100000000000000000000000000000000000000000000000003 0 0)),some (.c (zI (zN 0)))] (yO 52 1 (Cs.arr c.nt fun k=>List.map AC.v ((fun j=>[Value.int .u32 (g j)]) k))::some zz0::some ZA::some Zw::zs0 []) 174 10000000000000000000000000000000000000000000000000000000004 (ZT 174 (List.zip pmH (Ua k i))) (List.zip pmI (SM c w y T k F)) 1000000000000000000000000000000000000000000000000000000000000 (Exit.exit 4) none,LoopV prog (ZY prog 14 0) NX pjI [some (.c (.ptr 100000000000000000000000000000000000000000000000000000012 0 0)),some (.c (.ptr 100000000000000000000000000000000000000000000000000000013 0 0)),some (.c (zI (zN 0)))] (some zz0::yR 68 0 (Cs.lit (zI x::zB (Said.is d)::zI (Said.at_ d)::zU (Payload.kind (Said.p d))::zU (Payload.st (Said.p d))::zW (Payload.seq (Said.p d))::zW (Payload.val (Said.p d))::(ZW w++[AC.sl Xs 0 0 c.nt none])))::yO 52 1 (Cs.arr c.nt fun k=>List.map AC.v ((fun j=>[Value.int .u32 (g j)]) k))::yO 52 1 (Cs.arr c.nt fun k=>List.map AC.v ((fun i=>[Value.int .u32 (g i)]) k))::some zz0::some ZA::some Zw::zs0 []) 52 100000000000000000000000000000000000000000000000000000044 (ZT 52 []) (List.zip pjI (NY c w x y d T g k F)) 10000000000000000000000000000000000000000000000000000000000 (Exit.exit 0) none,CallV prog 13 [.c (.ptr VR 0 0),AV.agg zz1] plWI [some ZA,some Zw,some (ZG 3 c.np c.fp),some (ZG 3 c.ns c.fs),some (ZG 3 c.nb c.fb),some (Xj c.nt c.ft),some (Vx c u x),some (Y1 c.nt S)] Xs (M3 c x (U5 d) w) (RK c w y T g) 100000000000000000000000000000000000000000000000000000000,CallV prog 12 [.c (.ptr Ze 0 0),AV.agg zz1] plI [some ZA,some Zw,some (WC 51 c),some (ZM (zD c.nodes) (ZI c (2*c.np))),some (ZM c.np c.fp),some (ZM c.ns c.fs),some (ZM c.nb c.fb),some (YC c.nt c.ft),some (VQ c u x),some (WH c.nt S)] Yj (LT c x (U5 d) w) (RD c w y T g) 100000000000000000000000000000000000000000000000000])):
 ∃p r,Hi prog err c u x S k F i p [some (pmA c x y d w T g),some (pmW c x y d w T g),some (pjS c w x y d T g k F),some (pzS c w y T k F i)]=some r/\Q r:=
 ⟨pD 31 45774592068439,_,by kernel_rfl,H⟩
theorem AN (err:Cfg->Int) (c:Cfg) (u:Vw) (x:Int) (S:Nat->ZO) (k:Nat) (F:Nat->Said) (i:Nat) (Q:VC->Prop) (H:let zN:=Int.ofNat;let zD:=Int.toNat;let zz0:=[zB (Said.is (F (0+zD (zN i)))),zI (Said.at_ (F (0+zD (zN i)))),zU (Payload.kind (Said.p (F (0+zD (zN i))))),zU (Payload.st (Said.p (F (0+zD (zN i))))),zW (Payload.seq (Said.p (F (0+zD (zN i))))),zW (Payload.val (Said.p (F (0+zD (zN i)))))];let zs0:=fun (l:List (Option ABlk))=>some (WC 51 c)::some (ZM (zD c.nodes) (ZI c (2*c.np)))::some (ZM c.np c.fp)::some (ZM c.ns c.fs)::some (ZM c.nb c.fb)::some (YC c.nt c.ft)::some (VQ c u x)::some (WH c.nt S)::l;Q (Exit.normal,[some (ZN (List.zip pmH (Ua k i)) 2),some (ZN (List.zip pmH (Ua k i)) 10),some (ZN (List.zip pmH (Ua k i)) 12),some (.c (zI (IntKind.wrap .i64 (zN i+zN 1))))],(some ZA::some Zw::some (ZG 3 c.np c.fp)::some (ZG 3 c.ns c.fs)::some (ZG 3 c.nb c.fb)::some (Xj c.nt c.ft)::some (QI k F)::zs0 [some (Vx c u x),some (Y1 c.nt S)]),174,100000000000000000000000000000000000000000000000000000061,(zu (zu (zu (zu (zu (zu (zu (zu (zu (zt (zt (true::((ABlk.inb (QI k F) (0+zD (zN i)) 6)::y3 (y3 ((decide (zN 0<=zN i/\zN i < ↑k))::true::(ABlk.inb (QI k F) (0+zD (zN i)) 6)::y3 (y3 ((decide (zN 0<=zN i/\zN i < ↑k))::((x !=x)==false)::y3 (true::true::(decide (zN i < ↑k)==true)::[])))))))))))))))))),[CallV prog 13 [.c (.ptr VR 0 0),AV.agg zz0] plWI [some ZA,some Zw,some (ZG 3 c.np c.fp),some (ZG 3 c.ns c.fs),some (ZG 3 c.nb c.fb),some (Xj c.nt c.ft),some (Vx c u x),some (Y1 c.nt S)] Xs T8 (List.zip plWI (XA c u x S)) 100000000000000000000000000000000000000000000000000000000,CallV prog 12 [.c (.ptr Ze 0 0),AV.agg zz0] plI (some ZA::some Zw::zs0 []) Yj T8 (List.zip plI (V9 c u x S)) 100000000000000000000000000000000000000000000000000])):
 ∃p r,Hi prog err c u x S k F i p [some (G4 c x u S),some (G5 c x u S)]=some r/\Q r:=
 ⟨pD 33 4375,_,by kernel_rfl,H⟩
theorem AO (err:Cfg->Int) (c:Cfg) (u:Vw) (x:Int) (S:Nat->ZO) (k:Nat) (F:Nat->Said) (i:Nat) (Q:VC->Prop) (H:Q (Exit.exit 2,[some (ZN (List.zip pmH (Ua k i)) 2),some (ZN (List.zip pmH (Ua k i)) 10),some (ZN (List.zip pmH (Ua k i)) 12),some (ZN (List.zip pmH (Ua k i)) 15)],[some (ZA),some (Zw),some (ZG 3 (c.np) (c.fp)),some (ZG 3 (c.ns) (c.fs)),some (ZG 3 (c.nb) (c.fb)),some (Xj (c.nt) (c.ft)),some (QI k F),some (WC 51 c),some (ZM (Int.toNat (c.nodes)) (ZI c (2*c.np))),some (ZM (c.np) (c.fp)),some (ZM (c.ns) (c.fs)),some (ZM (c.nb) (c.fb)),some (YC (c.nt) (c.ft)),some (VQ c u x),some (WH (c.nt) S),some (Vx c u x),some (Y1 (c.nt) S)],174,1000000000000000000000000000000000000000004,[decide (Int.ofNat i < ↑k)==false],[])):
 ∃p r,Hi prog err c u x S k F i p []=some r/\Q r:=
 ⟨pD 1 2,_,by kernel_rfl,H⟩
theorem Ph:∀(ks:List (Option IntKind)) (xs:List AC),TB ks xs xs=true
 |none::ks,x::xs=>by simp[TB,Ph ks xs]
 |some _::ks,x::xs=>by simp[TB,Ph ks xs]
 | [],_=>by simp[TB]
 |none::_,[]=>by simp[TB]
 |some _::_,[]=>by simp[TB]
def XU (c:Cfg) (F:Nat->Said) (s:RT):Nat->RT
 |0=>s
 |i+1=>Je c (XU c F s i) (F i)
theorem DT {c:Cfg} (f:PxC c) (F:Nat->Said) {s:RT} (h:SW s):∀i,SW (XU c F s i)
 |0=>h
 |i+1=>jjjl f (DT f F h i) (F i)
abbrev Pr:Nat:=280000000000000000000000000000000000000003
abbrev T9:Nat:=10000000000000000000000000000000000000000000000000000000000000
abbrev Jd:List (Nat × AV):=[(10,.c (.ptr Ze 0 0)),(12,.c (.ptr VR 0 0))]
abbrev Vb (c:Cfg) (k:Nat) (F:Nat->Said) (s:RT):List ABlk:=SM c s.u s.x s.S k F
theorem jjn6 {c:Cfg} (f:PxC c) {s:RT} (h:SW s) (k:Nat) (hk:k<=100) (F:Nat->Said) {eb:List (Option ABlk)} (hL:BL (Vb c k F s) eb):
 LoopV prog (ZY prog 3 1) pmH pmI ((Ua k 0).map some) eb 174 Pr (ZT 174 Jd) (pmI.zip (Vb c k F (XU c F s k))) T9 (.exit 2) none:=by
 refine Dh (JL Lk) (fuel:=100) (str:=nSt) (nh:=1000000000000000000000000000000000000000000) (S:=Nat) (fun i=>i<=k) (fun i=>k-i) pmH [] pmI (fun i=>Ua k i) (fun i=>Vb c k F (XU c F s i)) (by decide) (by decide) (by unfold ZQ T9;omega) (s0:=0) (Nat.zero_le _) (fun _=>⟨rfl,rfl⟩) (by kernel_rfl) hL (fun i _=>⟨rfl,Pb (by decide)⟩) ?_;intro i hi;have ho:=DT f F h i;obtain⟨z,hz⟩:∃z,XU c F s i=z:=⟨_,rfl⟩
 have hs:XU c F s (i+1)=Je c z (F i):=by show Je c (XU c F s i) (F i)=_;rw[hz]
 rw[hz] at ho;have hnt:=f.g.nt;have goal:∀r:VC,Tj Pr T9 174 pmH [] pmI (fun i=>i<=k) (fun i=>k-i) (fun i=>Ua k i) (fun i=>Vb c k F (XU c F s i)) (.exit 2) Jd (pmI.zip (Vb c k F (XU c F s k))) i r->Tj Pr T9 174 pmH [] pmI (fun i=>i<=k) (fun i=>k-i) (fun i=>Ua k i) (fun i=>Vb c k F (XU c F s i)) (.exit 2) Jd (pmI.zip (Vb c k F (XU c F s k))) i r:=fun _ x=>x
 rcases Nat.lt_or_ge i k with hlt|hge
 . have d0:(decide (Int.ofNat i<(k:Int))==true)=true:=by simp;omega
   have d1:decide (Int.ofNat 0<=Int.ofNat i/\Int.ofNat i<(k:Int))=true:=by simp;omega
   have w1:=TM (show i<9223372036854775807 by omega);have dx:((z.x !=z.x)==false)=true:=by simp
   rcases Int.lt_or_le z.x 1099511627776 with hx|hx
   . have hn:Je c z (F i)=⟨Ob c z (F i),YJ z.x,M4 c z (F i)⟩:=if_pos hx
     obtain⟨w,hw⟩:∃w,Ob c z (F i)=w:=⟨_,rfl⟩
     obtain⟨T,hT⟩:∃T,M4 c z (F i)=T:=⟨_,rfl⟩
     have ca:=fun {eb}=>jjjn f ho hx (F i) (eb:=eb)
     have cd:=fun {eb}=>jjn9 f ho hx (F i) (eb:=eb)
     rw[hw,hT] at ca cd hn;obtain⟨g,hg⟩:∃g,WX c z.x T=g:=⟨_,rfl⟩
     rw[hg] at ca cd;obtain⟨d,hd⟩:∃d,B1 z.x (F i)=d:=⟨_,rfl⟩
     rw[hd] at ca cd;refine(?_:(∃p r,Hi prog ZH c z.u z.x z.S k F i p [some (pmA c z.x (YJ z.x) d w T g),some (pmW c z.x (YJ z.x) d w T g),some (pjS c w z.x (YJ z.x) d T g k F),some (pzS c w (YJ z.x) T k F i)]=some r/\_)->_) (AM ZH c z.u w z.x (YJ z.x) z.S T g d k F i (Tj Pr T9 174 pmH [] pmI (fun i=>i<=k) (fun i=>k-i) (fun i=>Ua k i) (fun i=>Vb c k F (XU c F s i)) (.exit 2) Jd (pmI.zip (Vb c k F (XU c F s k))) i) ?_)
     . rintro⟨p,r,h1,h2⟩
       exact⟨p,_,r,by rw[hz];exact h1,h2⟩
     . refine⟨?_,?_,by unfold T9;dsimp only;omega,rfl,.inl ⟨rfl,i+1,hlt,by show k-(i+1)<k-i;omega,?_,?_⟩⟩
       . simp only[ZZ,List.forall_mem_cons,XE,List.not_mem_nil,false_implies,implies_true,and_true,true_and]
         repeat' apply And.intro
         all_goals first
          |exact d0
          |exact d1
          |exact dx
          |rfl
          |(rw[Ph];rfl)
          |(simp[Z6,Xn,Xo];done)
          |(simp[Z6,Xn,Xo]<;>omega)
       . simp only[List.forall_mem_cons,List.not_mem_nil,false_implies,implies_true,and_true,XE]
         refine⟨jjmy c w z.x (YJ z.x) d T g k F i hnt (BL.refl (Hj c w z.x (YJ z.x) d T g k F)),jjnc c w z.x (YJ z.x) d T g k F hnt (BL.refl (NY c w z.x (YJ z.x) d T g k F)),cd (BL.refl (XA c z.u z.x z.S)),ca (BL.refl (V9 c z.u z.x z.S))⟩
       . dsimp only;rw[w1];rfl
       . dsimp only
         rw[hs,hn];exact BL.refl (SM c w (YJ z.x) T k F)
   . have hn:Je c z (F i)=z:=if_neg (by omega)
     have ca:=fun {eb}=>slE c z.u z.x z.S (F i) hx (eb:=eb)
     have cd:=fun {eb}=>swE c z.u z.x z.S (F i) hx (eb:=eb)
     refine(?_:(∃p r,Hi prog ZH c z.u z.x z.S k F i p [some (G4 c z.x z.u z.S),some (G5 c z.x z.u z.S)]=some r/\_)->_) (AN ZH c z.u z.x z.S k F i (Tj Pr T9 174 pmH [] pmI (fun i=>i<=k) (fun i=>k-i) (fun i=>Ua k i) (fun i=>Vb c k F (XU c F s i)) (.exit 2) Jd (pmI.zip (Vb c k F (XU c F s k))) i) ?_)
     . rintro⟨p,r,h1,h2⟩
       exact⟨p,_,r,by rw[hz];exact h1,h2⟩
     . refine⟨?_,?_,by unfold T9;dsimp only;omega,rfl,.inl ⟨rfl,i+1,hlt,by show k-(i+1)<k-i;omega,?_,?_⟩⟩
       . simp only[ZZ,List.forall_mem_cons,XE,List.not_mem_nil,false_implies,implies_true,and_true,true_and]
         repeat' apply And.intro
         all_goals first
          |exact d0
          |exact d1
          |exact dx
          |rfl
          |(rw[Ph];rfl)
          |(simp[Z6,Xn,Xo];done)
          |(simp[Z6,Xn,Xo]<;>omega)
       . simp only[List.forall_mem_cons,List.not_mem_nil,false_implies,implies_true,and_true,XE]
         exact⟨cd (BL.refl (XA c z.u z.x z.S)),ca (BL.refl (V9 c z.u z.x z.S))⟩
       . dsimp only;rw[w1];rfl
       . dsimp only
         rw[hs,hn];exact BL.refl (SM c z.u z.x z.S k F)
 . obtain rfl:i=k:=Nat.le_antisymm hi hge
   refine(?_:(∃p r,Hi prog ZH c z.u z.x z.S i F i p []=some r/\_)->_) (AO ZH c z.u z.x z.S i F i (Tj Pr T9 174 pmH [] pmI (fun j=>j<=i) (fun j=>i-j) (fun j=>Ua i j) (fun j=>Vb c i F (XU c F s j)) (.exit 2) Jd (pmI.zip (Vb c i F (XU c F s i))) i) ?_)
   . rintro⟨p,r,h1,h2⟩
     exact⟨p,_,r,by rw[hz];exact h1,h2⟩
   . rw[hz]
     have d0:(decide (Int.ofNat i<(i:Int))==false)=true:=by simp
     refine⟨by simp only[ZZ,List.forall_mem_cons,d0];simp,(fun q hq=>by cases hq),by unfold T9;dsimp only;omega,rfl,.inr ⟨by simp,rfl,?_,Ru (by kernel_rfl) (Pb (by decide)) rfl⟩⟩;intro q hq;simp only[Jd,List.mem_cons,List.not_mem_nil,or_false] at hq;rcases hq with rfl|rfl
     . exact⟨rfl,.tail _ (.head _)⟩
     . exact⟨rfl,.tail _ (.tail _ (.head _))⟩
theorem Fg (S:Nat->ZO) (j:Nat):X3 S j j=S j:=if_neg (Nat.lt_irrefl j)
theorem jjgv (S:Nat->ZO):X3 S 0=S:=by funext i;exact if_neg (Nat.not_lt_zero i)
theorem Es (z:Int) (v:Vw) (m:Nat) (S:Nat->ZO) (j:Nat):∀b∈O9 z v m S j,Zc LW b:=by
 intro b hb;rcases List.mem_append.1 hb with hb|hb
 . simp only[List.mem_cons,List.not_mem_nil,or_false] at hb
   rcases hb with rfl|rfl|rfl
   . refine XW ?_
     rw[List.all_cons,List.all_append,Sk];rfl
   . exact WU
   . exact XT
 . simp only[List.mem_cons,List.not_mem_nil,or_false] at hb
   rcases hb with rfl|rfl<;>exact XW rfl
theorem Lt (z : Int) (v : Vw) (m:Nat) (S:Nat->ZO) (hm:m<=1000) {eb:List (Option ABlk)} (hL:BL (O9 z v m S 0) eb):
 LoopV prog (ZY prog 3 0) WF U0 ((UO z v m S 0).map some) eb 174 LW (ZT 174 (QL z v m S)) (QK z v m S) QM (.exit 0) none:=by
 refine Rx VL (fuel:=100) (str:=1000000) (nh:=Gv) (S:=Nat) (fun j=>j<=m) (fun j=>m-j) WF [] U0 (fun j=>UO z v m S j) (fun j=>O9 z v m S j) (by decide) (by decide) (by unfold ZQ QM;omega) (s0:=0) (Nat.zero_le _) (fun _=>⟨rfl,rfl⟩) (by kernel_rfl) hL (fun j _=>⟨rfl,Es z v m S j⟩) ?_;intro j hj;refine(?_:(∃p r,Gw prog z v m S j p=some r/\_)->_) (AY z v m S j (XS LW QM 174 WF [] U0 (fun j=>j<=m) (fun j=>m-j) (fun j=>UO z v m S j) (fun j=>O9 z v m S j) (.exit 0) (QL z v m S) (QK z v m S) j) ?_)
 . rintro⟨p,r,h1,h2⟩
   exact⟨p,[],r,h1,h2⟩
 . simp only[XE,Fg,Ph]
   refine⟨fun c1=>⟨fun c2=>?_,fun c2=>?_⟩,fun c1=>?_⟩
   . simp at c2
   . have hlt:j<m:=by simpa using c1
     refine⟨?_,rfl,by unfold QM;dsimp only;omega,rfl,.inl ⟨rfl,j+1,hlt,by show m-(j+1)<m-j;omega,?_,?_⟩⟩
     . simp only[ZZ,List.forall_mem_cons]
       simp[Z6,Xn,Xo];omega
     . dsimp only;rw[TM (show j<9223372036854775807 by omega)];rfl
     . refine⟨BEq.refl _,BEq.refl _,⟨rfl,rfl,rfl,rfl,.inr (.inl ⟨m,_,_,rfl,rfl,fun i hi=>?_⟩)⟩,BL.refl ([ZA,Zw])⟩
       by_cases e:i=j
       . rw[if_pos e]
         subst e;have:X3 S (i+1) i=⟨true,99,0,0⟩:=if_pos (Nat.lt_succ_self i);dsimp only;rw[this];simp[YB,VB,ZU]
       . rw[if_neg e]
         have:X3 S (j+1) i=X3 S j i:=by
          unfold X3;by_cases h:i<j
          . rw[if_pos h,if_pos (by omega)]
          . rw[if_neg h,if_neg (by omega)]
         dsimp only;rw[this]
   . obtain rfl : j = m := by have:¬j<m:=by simpa using c1
                              omega
     refine⟨by simp only[ZZ,List.forall_mem_cons,c1];simp,rfl,by unfold QM;dsimp only;omega,rfl,.inr ⟨by simp,rfl,?_,fun p hp=>?_⟩⟩
     . intro q hq
       simp only[List.mem_cons,List.not_mem_nil,or_false] at hq;rcases hq with rfl|rfl
       . exact⟨rfl,.tail _ (.tail _ (.head _))⟩
       . exact⟨rfl,.tail _ (.tail _ (.tail _ (.head _)))⟩
     . exact Ru (n:=LW) (n':=QM) (ids:=U0) (by kernel_rfl) (Es z v j S j) rfl p (.tail _ (.tail _ (.tail _ hp)))
theorem Er (c:Cfg) (z:Int) (v:Vw) (m:Nat) (S:Nat->ZO) (k:Nat) (F:Nat->Said) (j:Nat):∀b∈Oa c z v m S k F j,Zc LY b:=by
 intro b hb;rcases List.mem_append.1 hb with hb|hb
 . simp only[List.mem_cons,List.not_mem_nil,or_false] at hb
   rcases hb with rfl|rfl|rfl
   . refine XW ?_
     rw[List.all_cons,List.all_append,Sk];rfl
   . exact WU
   . exact XT
 . exact Pb (by decide) b hb
theorem jjjh (c:Cfg) (z:Int) (v:Vw) (m:Nat) (S:Nat->ZO) (k:Nat) (F:Nat->Said) (hm:m<=1000) {eb:List (Option ABlk)} (hL:BL (Oa c z v m S k F 0) eb):
 LoopV prog (ZY prog 3 0) WP RJ ((Wg c z v m S k F 0).map some) eb 174 LY (ZT 174 (LZ c z v m S k F)) (LX c z v m S k F) QN (.exit 0) none:=by
 refine Rx VL (fuel:=100) (str:=1000000) (nh:=Gx) (S:=Nat) (fun j=>j<=m) (fun j=>m-j) WP [] RJ (fun j=>Wg c z v m S k F j) (fun j=>Oa c z v m S k F j) (by decide) (by decide) (by unfold ZQ QN;omega) (s0:=0) (Nat.zero_le _) (fun _=>⟨rfl,rfl⟩) (by kernel_rfl) hL (fun j _=>⟨rfl,Er c z v m S k F j⟩) ?_;intro j hj;refine(?_:(∃p r,Gy prog c z v m S k F j p=some r/\_)->_) (AZ c z v m S k F j (XS LY QN 174 WP [] RJ (fun j=>j<=m) (fun j=>m-j) (fun j=>Wg c z v m S k F j) (fun j=>Oa c z v m S k F j) (.exit 0) (LZ c z v m S k F) (LX c z v m S k F) j) ?_)
 . rintro⟨p,r,h1,h2⟩
   exact⟨p,[],r,h1,h2⟩
 . simp only[XE,Fg,Ph]
   refine⟨fun c1=>⟨fun c2=>?_,fun c2=>?_⟩,fun c1=>?_⟩
   . simp at c2
   . have hlt:j<m:=by simpa using c1
     refine⟨?_,rfl,by unfold QN;dsimp only;omega,rfl,.inl ⟨rfl,j+1,hlt,by show m-(j+1)<m-j;omega,?_,?_⟩⟩
     . simp only[ZZ,List.forall_mem_cons]
       simp[Z6,Xn,Xo];omega
     . dsimp only;rw[TM (show j<9223372036854775807 by omega)];rfl
     . refine⟨BEq.refl _,BEq.refl _,⟨rfl,rfl,rfl,rfl,.inr (.inl ⟨m,_,_,rfl,rfl,fun i hi=>?_⟩)⟩,BL.refl (SM c v z S k F)⟩
       by_cases e:i=j
       . rw[if_pos e]
         subst e;have:X3 S (i+1) i=⟨true,99,0,0⟩:=if_pos (Nat.lt_succ_self i);dsimp only;rw[this];simp[YB,VB,ZU]
       . rw[if_neg e]
         have:X3 S (j+1) i=X3 S j i:=by
          unfold X3;by_cases h:i<j
          . rw[if_pos h,if_pos (by omega)]
          . rw[if_neg h,if_neg (by omega)]
         dsimp only;rw[this]
   . obtain rfl : j = m := by have:¬j<m:=by simpa using c1
                              omega
     refine⟨by simp only[ZZ,List.forall_mem_cons,c1];simp,rfl,by unfold QN;dsimp only;omega,rfl,.inr ⟨by simp,rfl,?_,fun p hp=>?_⟩⟩
     . intro q hq
       simp only[List.mem_cons,List.not_mem_nil,or_false] at hq;rcases hq with rfl|rfl|rfl|rfl
       . exact⟨rfl,.head _⟩
       . exact⟨rfl,.tail _ (.tail _ (.tail _ (.head _)))⟩
       . exact⟨rfl,.tail _ (.tail _ (.tail _ (.tail _ (.head _))))⟩
       . exact⟨rfl,.tail _ (.tail _ (.tail _ (.tail _ (.tail _ (.head _)))))⟩
     . exact Ru (n:=LY) (n':=QN) (ids:=RJ) (by kernel_rfl) (Er c z v j S k F j) rfl p (.tail _ (.tail _ (.tail _ hp)))
theorem B2 (m:Nat) (S:Nat->ZO) (k:Nat) (Q:VC->Prop) (H:let zN:=Int.ofNat;let zz0:=(ABlk.mk false false 54 4 (Cs.arr m fun k=>List.map AC.v ((fun i=>[Value.bool (ZO.any (S i)),Value.int IntKind.u32 (ZO.seq (S i)),Value.int IntKind.u32 (ZO.val (S i)),Value.int IntKind.i64 (ZO.rnd (S i))]) k)));(((decide (zN k < ↑m))=true->Q (Exit.normal,[some (ZN (List.zip pxXH (QO m k)) 0),some (.c (.sl 75000000000000000000000000000000023000004 0 0 (k+1) none)),some (.c (zI (IntKind.wrap .i64 (zN k+zN 1))))],[none,yO 92 4 (Cs.arr (k+1) fun i=>if i<k then List.map AC.v ((fun i=>[Value.bool (ZO.any (S i)),Value.int .u32 (ZO.seq (S i)),Value.int .u32 (ZO.val (S i)),Value.int .i64 (ZO.rnd (S i))]) i) else Z8 (ABlk.mk true false 92 0 (Cs.lit [zB (ZO.any (S (0+Int.toNat (zN k)))),zW (ZO.seq (S (0+Int.toNat (zN k)))),zW (ZO.val (S (0+Int.toNat (zN k)))),zI (ZO.rnd (S (0+Int.toNat (zN k))))])) 0 0 4 (i-k)),some zz0],36,75000000000000000000000000000000023000009,[true,true,decide (k<=k),decide ((k+1)*24<=140737488355328),ABlk.inb zz0 (0+Int.toNat (zN k)) 4,true,decide (zN 0<=zN k/\zN k < ↑m),ABlk.inb zz0 (0+Int.toNat (zN k)) 3,true,decide (zN 0<=zN k/\zN k < ↑m),ABlk.inb zz0 (0+Int.toNat (zN k)) 2,true,decide (zN 0<=zN k/\zN k < ↑m),ABlk.inb zz0 (0+Int.toNat (zN k)) 1,true,decide (zN 0<=zN k/\zN k < ↑m),decide (zN k < ↑m)==true],[]))/\((decide (zN k < ↑m))=false->Q (Exit.exit 0,[some (ZN (List.zip pxXH (QO m k)) 0),some (ZN (List.zip pxXH (QO m k)) 3),some (ZN (List.zip pxXH (QO m k)) 4)],[yO 92 4 (Cs.arr k fun k=>List.map AC.v ((fun i=>[Value.bool (ZO.any (S i)),Value.int .u32 (ZO.seq (S i)),Value.int .u32 (ZO.val (S i)),Value.int .i64 (ZO.rnd (S i))]) k)),none,some zz0],36,75000000000000000000000000000000000000004,[decide (zN k < ↑m)==false],[])))):
 ∃p r,GB prog m S k p=some r/\Q r:=
 ZL H (fun g1=>⟨pD 1 1,_,by kernel_rfl,g1⟩) (fun g1=>⟨pD 1 2,_,by kernel_rfl,g1⟩)
theorem B3 (m:Nat) (S:Nat->ZO) (Q:VF->Prop) (H:let zz0:=(Cs.arr m fun k=>List.map AC.v ((fun i=>[Value.bool (ZO.any (S i)),Value.int IntKind.u32 (ZO.seq (S i)),Value.int IntKind.u32 (ZO.val (S i)),Value.int IntKind.i64 (ZO.rnd (S i))]) k));Q (.c (.sl 72500000000000000000000000000000000000000 0 0 m none),[yO 92 4 zz0,yF 54 4 zz0],76000000000000000000000000000000000000002,[],[LoopV prog (ZY prog 10 0) pxXH [4] [some (.c (.sl 4 0 0 m none)),some (.c (AC.v (Value.slice none 0 0))),some (.c (zI (Int.ofNat 0)))] [yF 54 4 zz0] 36 70000000000000000000000000000000000001003 (ZT 36 [(3,.c (.sl Xt 0 0 m none))]) [(Xt,Y1 m S),(4,Yl m S)] 76000000000000000000000000000000000000000 (Exit.exit 0) none])):
 ∃p r,GA prog m S p [some (GC m S)]=some r/\Q r:=
 ⟨pD 0 0,_,by kernel_rfl,H⟩
theorem B4 (m:Nat) (S:Nat->ZO) (k:Nat) (Q:VC->Prop) (H:let zN:=Int.ofNat;let zz0:=(ABlk.mk false false 54 4 (Cs.arr m fun k=>List.map AC.v ((fun i=>[Value.bool (ZO.any (S i)),Value.int IntKind.u32 (ZO.seq (S i)),Value.int IntKind.u32 (ZO.val (S i)),Value.int IntKind.i64 (ZO.rnd (S i))]) k)));(((decide (zN k < ↑m))=true->Q (Exit.normal,[some (ZN (List.zip pyXH (QQ m k)) 0),some (.c (.sl 195000000000000000000000000000000023000004 0 0 (k+1) none)),some (.c (zI (IntKind.wrap .i64 (zN k+zN 1))))],[none,yO 92 4 (Cs.arr (k+1) fun i=>if i<k then List.map AC.v ((fun i=>[Value.bool (ZO.any (S i)),Value.int .u32 (ZO.seq (S i)),Value.int .u32 (ZO.val (S i)),Value.int .i64 (ZO.rnd (S i))]) i) else Z8 (ABlk.mk true false 92 0 (Cs.lit [zB (ZO.any (S (0+Int.toNat (zN k)))),zW (ZO.seq (S (0+Int.toNat (zN k)))),zW (ZO.val (S (0+Int.toNat (zN k)))),zI (ZO.rnd (S (0+Int.toNat (zN k))))])) 0 0 4 (i-k)),some zz0],36,195000000000000000000000000000000023000009,[true,true,decide (k<=k),decide ((k+1)*24<=140737488355328),ABlk.inb zz0 (0+Int.toNat (zN k)) 4,true,decide (zN 0<=zN k/\zN k < ↑m),ABlk.inb zz0 (0+Int.toNat (zN k)) 3,true,decide (zN 0<=zN k/\zN k < ↑m),ABlk.inb zz0 (0+Int.toNat (zN k)) 2,true,decide (zN 0<=zN k/\zN k < ↑m),ABlk.inb zz0 (0+Int.toNat (zN k)) 1,true,decide (zN 0<=zN k/\zN k < ↑m),decide (zN k < ↑m)==true],[]))/\((decide (zN k < ↑m))=false->Q (Exit.exit 0,[some (ZN (List.zip pyXH (QQ m k)) 0),some (ZN (List.zip pyXH (QQ m k)) 3),some (ZN (List.zip pyXH (QQ m k)) 4)],[yO 92 4 (Cs.arr k fun k=>List.map AC.v ((fun i=>[Value.bool (ZO.any (S i)),Value.int .u32 (ZO.seq (S i)),Value.int .u32 (ZO.val (S i)),Value.int .i64 (ZO.rnd (S i))]) k)),none,some zz0],36,195000000000000000000000000000000000000004,[decide (zN k < ↑m)==false],[])))):
 ∃p r,GF prog m S k p=some r/\Q r:=
 ZL H (fun g1=>⟨pD 1 1,_,by kernel_rfl,g1⟩) (fun g1=>⟨pD 1 2,_,by kernel_rfl,g1⟩)
theorem B5 (m:Nat) (S:Nat->ZO) (Q:VF->Prop) (H:let zz0:=(Cs.arr m fun k=>List.map AC.v ((fun i=>[Value.bool (ZO.any (S i)),Value.int IntKind.u32 (ZO.seq (S i)),Value.int IntKind.u32 (ZO.val (S i)),Value.int IntKind.i64 (ZO.rnd (S i))]) k));Q (.c (.sl 192500000000000000000000000000000000000000 0 0 m none),[yO 92 4 zz0,yF 54 4 zz0],196000000000000000000000000000000000000002,[],[LoopV prog (ZY prog 10 0) pyXH [4] [some (.c (.sl 4 0 0 m none)),some (.c (AC.v (Value.slice none 0 0))),some (.c (zI (Int.ofNat 0)))] [yF 54 4 zz0] 36 190000000000000000000000000000000000001003 (ZT 36 [(3,.c (.sl Xu 0 0 m none))]) [(Xu,Y1 m S),(4,Yl m S)] 196000000000000000000000000000000000000000 (Exit.exit 0) none])):
 ∃p r,GE prog m S p [some (GG m S)]=some r/\Q r:=
 ⟨pD 0 0,_,by kernel_rfl,H⟩
theorem En {k:Nat} {S:Nat->ZO} {h:Nat->List AC} (h1:∀i,i<k->h i=(S i).cells.map AC.v) (h2:h k=(S k).cells.map AC.v):BEq (ABlk.mk true true 92 4 (.arr (k+1) h)) (Y1 (k+1) S):=
 ⟨rfl,rfl,rfl,rfl,.inr (.inl ⟨k+1,_,_,rfl,rfl,fun i hi=>by
  rcases Nat.lt_or_ge i k with e|e
  . rw[h1 i e];rfl
  . obtain rfl:i=k:=by omega
    rw[h2];rfl⟩)⟩
theorem Rs {N m:Nat} {S:Nat->ZO}:∀b∈[Yl m S],Zc N b:=fun b hb=>by
 rw[List.mem_singleton.1 hb];exact WU
theorem jjn1 (m:Nat) (hm:m<=1000) (S:Nat->ZO) {eb:List (Option ABlk)} (hL:BL [Yl m S] eb):
 LoopV prog (ZY prog 10 0) pxXH [4] [some (.c (.sl 4 0 0 m none)),some (.c (.v (.slice none 0 0))),some (i64 (Int.ofNat 0))] eb 36 GD (ZT 36 [(3,.c (.sl Xt 0 0 m none))]) [(Xt,Y1 m S),(4,Yl m S)] Ps (.exit 0) none:=by
 refine KV VL (fuel:=100) (str:=1000000) (nh:=Jf) (S:=Nat) (fun k=>k<=m) (fun k=>m-k) pxXH [Xt,Pt,4] [Xt] [4] [4] (fun k=>QO m k) (fun k=>[Y1 k S]) (fun _=>[Yl m S]) (by decide) (by decide) (by unfold ZQ Ps;omega) (s0:=0) (Nat.zero_le _) ⟨fun _=>.inr 4,?_⟩ ?_
 . refine Wn (A:=[]) rfl (by kernel_rfl) ?_ ?_ (by kernel_rfl) Rs hL
   . exact X0 (.head _) (fun h=>(by cases h)) (Xb rfl) (X0 (.tail _ (.head _)) (fun h=>(by cases h)) (Qx (by decide) (by decide) (by decide) rfl) (X0 (.tail _ (.tail _ (.head _))) (fun h=>(by cases h)) (Xb rfl) Wp))
   . exact WB (LG rfl rfl rfl rfl ⟨_,rfl⟩) Wo
 . intro k hk
   refine(?_:(∃p r,GB prog m S k p=some r/\_)->_) (B2 m S k (R1 GD Jf Ps 36 pxXH [Xt,Pt,4] [Xt] [4] (fun k:Nat=>k<=m) (fun k=>m-k) (fun k=>QO m k) (fun k=>[Y1 k S]) (fun _=>[Yl m S]) (.exit 0) [(3,.c (.sl Xt 0 0 m none))] [(Xt,Y1 m S),(4,Yl m S)] k) ?_)
   . rintro⟨p,r,h1,h2⟩
     exact⟨p,[],r,h1,h2⟩
   . refine⟨fun c1=>?_,fun c1=>?_⟩
     . have hlt:k<m:=by simpa using c1
       have w1:=TM (show k<9223372036854775807 by omega);simp only[w1];refine⟨?_,(fun q hq=>by cases hq),by unfold Ps;dsimp only;omega,rfl,.inl ⟨rfl,k+1,hlt,by show m-(k+1)<m-k;omega,fun _=>.inl Pt,?_⟩⟩
       . simp only[ZZ,List.forall_mem_cons,XE]
         simp[Z6,Xn,Xo];omega
       . refine Wn (A:=[(Xt,_),(Pt,_)]) (kb:=[Yl m S].map some) rfl (by kernel_rfl) ?_ ?_ (by kernel_rfl) Rs (BL.refl [Yl m S])
         . exact X0 (.head _) (fun h=>(by cases h)) (Xb rfl) (X0 (.tail _ (.head _)) (fun h=>(by cases h)) (WN (by decide) (by decide) (by decide) rfl) (X0 (.tail _ (.tail _ (.head _))) (fun h=>(by cases h)) (Xb rfl) Wp))
         . refine WB (Uf rfl rfl rfl (.tail _ (.head _)) (En (fun i hi=>if_pos hi) ?_) XT) Wo
           rw[if_neg (Nat.lt_irrefl k),Nat.sub_self,XE];rfl
     . obtain rfl : k = m := by have:¬k<m:=by simpa using c1
                                omega
       refine⟨by simp only[ZZ,List.forall_mem_cons,c1];simp,(fun q hq=>by cases hq),by unfold Ps;dsimp only;omega,rfl,.inr ⟨by simp,rfl,fun id=>.inl id,?_⟩⟩;refine Wn (hs:=[3]) (vals:=[.c (.sl Xt 0 0 k none)]) (gs:=[Xt]) (gb:=[Y1 k S]) (ids:=[4]) (blks:=[Yl k S]) (A:=[(Xt,_),(Pt,none)]) (kb:=[Yl k S].map some) rfl (by kernel_rfl) ?_ ?_ (by kernel_rfl) Rs (BL.refl [Yl k S])
       . exact X0 (.tail _ (.head _)) (fun h=>(by cases h)) (WN (by decide) (by decide) (by decide) rfl) Wp
       . exact WB (Uf rfl rfl rfl (.head _) (BEq.refl _) XT) Wo
theorem Ls (m:Nat) (hm:m<=1000) (S:Nat->ZO) {eb:List (Option ABlk)} (hL:BL [Yl m S] eb):
 CallV prog 10 [.c (.sl 4 0 0 m none)] [4] eb Sx (.c (.sl Sx 0 0 m none)) ([Sx].zip [Y1 m S]++[4].zip [Yl m S]) QP:=by
 refine Pi VL (fuel:=300) (str:=nSt) (vids:=[Xt,4]) (blks:=[Yl m S]) (by decide) (by unfold ZQ QP;omega) rfl (by kernel_rfl) (by kernel_rfl) hL ?_;refine(?_:(∃p r,GA prog m S p [some (GC m S)]=some r/\_)->_) (B3 m S (fun z=>z.2.2.1<=QP/\ZZ z.2.2.2.1/\(∀e∈z.2.2.2.2,e)/\∃ρ:Rn,Mt Sx QP QP ρ [(0,some z.1)] ([Xt,4].zip z.2.1) [(0,.c (.sl Sx 0 0 m none))] ([Sx].zip [Y1 m S]++[4].zip [Yl m S])) ?_)
 . rintro⟨p,r,h1,h2⟩
   exact⟨p,_,r,h1,h2⟩
 . refine⟨by unfold QP;dsimp only;omega,by simp[ZZ],?_,fun _=>.inl Xt,?_⟩
   . simp only[List.forall_mem_cons,List.not_mem_nil,false_implies,implies_true,and_true]
     exact jjn1 m hm S (BL.refl [Yl m S])
   . refine Wn (hs:=[0]) (vals:=[.c (.sl Sx 0 0 m none)]) (gs:=[Sx]) (gb:=[Y1 m S]) (ids:=[4]) (blks:=[Yl m S]) (A:=[(Xt,_)]) (kb:=[Yl m S].map some) rfl (by kernel_rfl) ?_ ?_ (by kernel_rfl) Rs (BL.refl [Yl m S])
     . exact X0 (.head _) (fun h=>(by cases h)) (WN (by decide) (by decide) (by decide) rfl) Wp
     . exact WB (Uf rfl rfl rfl (.head _) (BEq.refl _) XT) Wo
theorem jjn0 (m:Nat) (hm:m<=1000) (S:Nat->ZO) {eb:List (Option ABlk)} (hL:BL [Yl m S] eb):
 LoopV prog (ZY prog 10 0) pyXH [4] [some (.c (.sl 4 0 0 m none)),some (.c (.v (.slice none 0 0))),some (i64 (Int.ofNat 0))] eb 36 GH (ZT 36 [(3,.c (.sl Xu 0 0 m none))]) [(Xu,Y1 m S),(4,Yl m S)] Pv (.exit 0) none:=by
 refine KV VL (fuel:=100) (str:=1000000) (nh:=Jg) (S:=Nat) (fun k=>k<=m) (fun k=>m-k) pyXH [Xu,Pw,4] [Xu] [4] [4] (fun k=>QQ m k) (fun k=>[Y1 k S]) (fun _=>[Yl m S]) (by decide) (by decide) (by unfold ZQ Pv;omega) (s0:=0) (Nat.zero_le _) ⟨fun _=>.inr 4,?_⟩ ?_
 . refine Wn (A:=[]) rfl (by kernel_rfl) ?_ ?_ (by kernel_rfl) Rs hL
   . exact X0 (.head _) (fun h=>(by cases h)) (Xb rfl) (X0 (.tail _ (.head _)) (fun h=>(by cases h)) (Qx (by decide) (by decide) (by decide) rfl) (X0 (.tail _ (.tail _ (.head _))) (fun h=>(by cases h)) (Xb rfl) Wp))
   . exact WB (LG rfl rfl rfl rfl ⟨_,rfl⟩) Wo
 . intro k hk
   refine(?_:(∃p r,GF prog m S k p=some r/\_)->_) (B4 m S k (R1 GH Jg Pv 36 pyXH [Xu,Pw,4] [Xu] [4] (fun k:Nat=>k<=m) (fun k=>m-k) (fun k=>QQ m k) (fun k=>[Y1 k S]) (fun _=>[Yl m S]) (.exit 0) [(3,.c (.sl Xu 0 0 m none))] [(Xu,Y1 m S),(4,Yl m S)] k) ?_)
   . rintro⟨p,r,h1,h2⟩
     exact⟨p,[],r,h1,h2⟩
   . refine⟨fun c1=>?_,fun c1=>?_⟩
     . have hlt:k<m:=by simpa using c1
       have w1:=TM (show k<9223372036854775807 by omega);simp only[w1];refine⟨?_,(fun q hq=>by cases hq),by unfold Pv;dsimp only;omega,rfl,.inl ⟨rfl,k+1,hlt,by show m-(k+1)<m-k;omega,fun _=>.inl Pw,?_⟩⟩
       . simp only[ZZ,List.forall_mem_cons,XE]
         simp[Z6,Xn,Xo];omega
       . refine Wn (A:=[(Xu,_),(Pw,_)]) (kb:=[Yl m S].map some) rfl (by kernel_rfl) ?_ ?_ (by kernel_rfl) Rs (BL.refl [Yl m S])
         . exact X0 (.head _) (fun h=>(by cases h)) (Xb rfl) (X0 (.tail _ (.head _)) (fun h=>(by cases h)) (WN (by decide) (by decide) (by decide) rfl) (X0 (.tail _ (.tail _ (.head _))) (fun h=>(by cases h)) (Xb rfl) Wp))
         . refine WB (Uf rfl rfl rfl (.tail _ (.head _)) (En (fun i hi=>if_pos hi) ?_) XT) Wo
           rw[if_neg (Nat.lt_irrefl k),Nat.sub_self,XE];rfl
     . obtain rfl : k = m := by have:¬k<m:=by simpa using c1
                                omega
       refine⟨by simp only[ZZ,List.forall_mem_cons,c1];simp,(fun q hq=>by cases hq),by unfold Pv;dsimp only;omega,rfl,.inr ⟨by simp,rfl,fun id=>.inl id,?_⟩⟩;refine Wn (hs:=[3]) (vals:=[.c (.sl Xu 0 0 k none)]) (gs:=[Xu]) (gb:=[Y1 k S]) (ids:=[4]) (blks:=[Yl k S]) (A:=[(Xu,_),(Pw,none)]) (kb:=[Yl k S].map some) rfl (by kernel_rfl) ?_ ?_ (by kernel_rfl) Rs (BL.refl [Yl k S])
       . exact X0 (.tail _ (.head _)) (fun h=>(by cases h)) (WN (by decide) (by decide) (by decide) rfl) Wp
       . exact WB (Uf rfl rfl rfl (.head _) (BEq.refl _) XT) Wo
theorem jjjf (m:Nat) (hm:m<=1000) (S:Nat->ZO) {eb:List (Option ABlk)} (hL:BL [Yl m S] eb):
 CallV prog 10 [.c (.sl 4 0 0 m none)] [4] eb Pu (.c (.sl Pu 0 0 m none)) ([Pu].zip [Y1 m S]++[4].zip [Yl m S]) QR:=by
 refine Pi VL (fuel:=300) (str:=nSt) (vids:=[Xu,4]) (blks:=[Yl m S]) (by decide) (by unfold ZQ QR;omega) rfl (by kernel_rfl) (by kernel_rfl) hL ?_;refine(?_:(∃p r,GE prog m S p [some (GG m S)]=some r/\_)->_) (B5 m S (fun z=>z.2.2.1<=QR/\ZZ z.2.2.2.1/\(∀e∈z.2.2.2.2,e)/\∃ρ:Rn,Mt Pu QR QR ρ [(0,some z.1)] ([Xu,4].zip z.2.1) [(0,.c (.sl Pu 0 0 m none))] ([Pu].zip [Y1 m S]++[4].zip [Yl m S])) ?_)
 . rintro⟨p,r,h1,h2⟩
   exact⟨p,_,r,h1,h2⟩
 . refine⟨by unfold QR;dsimp only;omega,by simp[ZZ],?_,fun _=>.inl Xu,?_⟩
   . simp only[List.forall_mem_cons,List.not_mem_nil,false_implies,implies_true,and_true]
     exact jjn0 m hm S (BL.refl [Yl m S])
   . refine Wn (hs:=[0]) (vals:=[.c (.sl Pu 0 0 m none)]) (gs:=[Pu]) (gb:=[Y1 m S]) (ids:=[4]) (blks:=[Yl m S]) (A:=[(Xu,_)]) (kb:=[Yl m S].map some) rfl (by kernel_rfl) ?_ ?_ (by kernel_rfl) Rs (BL.refl [Yl m S])
     . exact X0 (.head _) (fun h=>(by cases h)) (WN (by decide) (by decide) (by decide) rfl) Wp
     . exact WB (Uf rfl rfl rfl (.head _) (BEq.refl _) XT) Wo
theorem Kc (S:Nat->ZO) (m i:Nat):(if i<0 then[] else Z8 (Yl m S) 0 0 4 (i-0))=(S i).cells.map AC.v:=by
 rw[if_neg (Nat.not_lt_zero i)];show List.map AC.v [.bool (S (0+i)).any,.int .u32 (S (0+i)).seq,.int .u32 (S (0+i)).val,.int .i64 (S (0+i)).rnd]=_;rw[Nat.zero_add];rfl
theorem Gt (S:Nat->ZO) (m i:Nat):(if i<0 then[] else Z8 (ABlk.mk false true 92 4 (Yl m S).cs) 0 0 4 (i-0))=(S i).cells.map AC.v:=by
 rw[if_neg (Nat.not_lt_zero i)];show List.map AC.v [.bool (S (0+i)).any,.int .u32 (S (0+i)).seq,.int .u32 (S (0+i)).val,.int .i64 (S (0+i)).rnd]=_;rw[Nat.zero_add];rfl
theorem Gu (S:Nat->ZO) (m:Nat) (o r:Bool) (t n i:Nat):VV (Zt (ABlk.mk o r t n (.arr m fun i=>if i<0 then[] else Z8 (Yl m S) 0 0 4 (i-0))) 0 0 4) i=S i:=by
 have e:Zt (ABlk.mk o r t n (.arr m fun i=>if i<0 then[] else Z8 (Yl m S) 0 0 4 (i-0))) 0 0 4 i=(S i).cells.map AC.v:=Kc S m i;unfold VV;rw[e];rfl
theorem jjn2 (S:Nat->ZO) (m i:Nat):List.map AC.v [.bool (VV (Zt (ABlk.mk true true 54 4 (.arr m fun i=>if i<0 then[] else Z8 (Yl m S) 0 0 4 (i-0))) 0 0 4) i).any,.int .u32 (VV (Zt (ABlk.mk true true 54 4 (.arr m fun i=>if i<0 then[] else Z8 (Yl m S) 0 0 4 (i-0))) 0 0 4) i).seq,.int .u32 (VV (Zt (ABlk.mk true true 54 4 (.arr m fun i=>if i<0 then[] else Z8 (Yl m S) 0 0 4 (i-0))) 0 0 4) i).val,.int .i64 (VV (Zt (ABlk.mk true true 54 4 (.arr m fun i=>if i<0 then[] else Z8 (Yl m S) 0 0 4 (i-0))) 0 0 4) i).rnd]=(S i).cells.map AC.v:=by
 rw[Gu];rfl
theorem NF (S:Nat->ZO) (m:Nat) (o r:Bool) (t:Nat):BEq (ABlk.mk true true 54 4 (.arr m fun i=>if i<0 then[] else Z8 (Yl m S) 0 0 4 (i-0))) (WH m (X3 S 0)):=by
 rw[jjgv];exact IZ fun i _=>Kc S m i
abbrev Kb (c:Cfg) (z:Int) (v:Vw) (m:Nat) (S:Nat->ZO) (k:Nat) (F:Nat->Said):Prop:=∃p lp r,QH prog ZH c z v m S k F p lp=some r/\Zp (bo true) r
theorem jjjk (c:Cfg) (z:Int) (v:Vw) (m:Nat) (S:Nat->ZO) (k:Nat) (F:Nat->Said) (h0:ZH c≠0) (hb:c.nb<=9223372036854775807) (hm:m<=9223372036854775807):∃p r,FV prog ZH c z v m S k F p []=some r/\Zp (bo true) r:=by
 refine pqN ZH c z v m S k F _ ?_
 (repeat' (first|refine⟨fun h=>?_,fun h=>?_⟩|fail))
 all_goals (refine⟨rfl,(by first|(unfold ZQ;omega)|(dsimp only;unfold ZQ;omega)),?_,by simp⟩)
 all_goals (simp only[decide_eq_true_eq,decide_eq_false_iff_not] at *)
 all_goals first
  |(simp_all[ZZ,YZ,YU,YT,YO,YE,YF,h0,hb];done)
  |(simp_all[ZZ,YZ,YU,YT,YO,YE,YF,h0,hb];omega)
theorem AP (c:Cfg) (z:Int) (v:Vw) (m:Nat) (S:Nat->ZO) (k:Nat) (F:Nat->Said) (g:CfgGood c) (hm:40<m):Kb c z v m S k F:=by
 have:=g.p8;have:=g.s16;have:=g.nt;have:=g.nb;have:=g.n16;refine(?_:(∃p r,QH prog ZH c z v m S k F p []=some r/\Zp (bo true) r)->_) (pqA ZH c z v m S k F _ ?_)
 . rintro⟨p,r,h1,h2⟩
   exact⟨p,_,r,h1,h2⟩
 . refine⟨rfl,(by first|(unfold ZQ;omega)|(dsimp only;unfold ZQ;omega)),?_,by simp⟩
   simp[ZZ];omega
theorem AQ (c:Cfg) (z:Int) (v:Vw) (m:Nat) (S:Nat->ZO) (k:Nat) (F:Nat->Said) (g:CfgGood c) (hm:m<=40) (hk:100<k):Kb c z v m S k F:=by
 have:=g.p8;have:=g.s16;have:=g.nt;have:=g.nb;have:=g.n16;refine(?_:(∃p r,QH prog ZH c z v m S k F p []=some r/\Zp (bo true) r)->_) (pqB ZH c z v m S k F _ ?_)
 . rintro⟨p,r,h1,h2⟩
   exact⟨p,_,r,h1,h2⟩
 . refine⟨rfl,(by first|(unfold ZQ;omega)|(dsimp only;unfold ZQ;omega)),?_,by simp⟩
   simp[ZZ];omega
theorem AW (c:Cfg) (z:Int) (v:Vw) (S:Nat->ZO) (k:Nat) (F:Nat->Said) (f:PxC c) (hv:v.Ok) (hS:∀j,YK (S j).rnd=true) (hk:k<=100) (z0:0<=z) (z1:z<1099511627776) (hy:UK c c.nodes.toNat (ZI c (2*c.np)) (ZW v)=true):Kb c z v c.nt S k F:=by
 have g:=f.g;have h0:=f.e0;have np:=g.p8;have p2:=g.p2;have n4:=g.n4;have n16:=g.n16;have s1:=g.s1;have s16:=g.s16;have nt:=g.nt;have nb:=g.nb;have hw:X4 c.np (ZW v)=true:=by rw[<- J3 g (show 0<c.nodes.toNat by omega) (ZI c (2*c.np)) hv];exact hy
 have e0:∀z:Int,z-Int.ofNat 0=z:=Int.sub_zero
 have ho:SW ⟨v,z,S⟩:=⟨hv,z0,(by show z<=_;omega),hS⟩
 obtain⟨σ,hσ⟩:∃σ,XU c F ⟨v,z,S⟩ k=σ:=⟨_,rfl⟩
 refine(?_:(∃p r,QH prog ZH c z v c.nt S k F p [none,some (pyS c.nt S),some (Gz c z v c.nt S k F),some (pqS c k F σ.u σ.x σ.S)]=some r/\Zp (bo true) r)->_) (pqG ZH c z v c.nt S k F σ.u σ.x σ.S _ ?_)
 . rintro⟨p,r,h1,h2⟩
   exact⟨p,_,r,h1,h2⟩
 refine⟨rfl,(by first|(unfold ZQ;omega)|(dsimp only;unfold ZQ;omega)),?_,?_⟩
 . have hrn:((Zg c c.nodes.toNat==Int.ofNat 0)==false)=true:=by rw[Pj g];rfl
   have a1:((!UK c c.nodes.toNat (ZI c (2*c.np)) (ZW v))==false)=true:=by rw[hy];rfl
   have a2:((!X4 c.np (ZW v))==false)=true:=by rw[hw];rfl
   have pv:Vy (ZW v)=true:=(Rj v).2 fun i hi=>⟨(hv.miss i hi).1,(hv.good i hi).1,(hv.score i hi).1⟩
   have a3:Ox (Zf.mk c [AV.agg (ZW v)])=true:=by rw[NI,WT v,pv,decide_eq_true np];rfl
   have a4:((σ.x==σ.x)==true)=true:=by simp
   have a5:((Int.ofNat 0 !=ZH c)==false)=true:=by rw[h0];rfl
   have a6:decide (ZH c=Int.ofNat 0)=true:=decide_eq_true h0;have a7:(((Int.ofNat c.nt) !=(c.nt:Int))==false)=true:=by simp
   simp only[ZZ,List.forall_mem_cons,List.not_mem_nil,false_implies,implies_true,and_true,true_and];simp only[Nat.zero_add,Option.getD_some,e0,Int.toNat_natCast];clear hv ho hσ
   repeat' apply And.intro
   all_goals first
    |rfl
    |exact YU _ _ _
    |exact YZ _
    |exact hrn
    |exact a1
    |exact a2
    |exact a3
    |exact a4
    |exact a5
    |exact a6
    |exact a7
    |(simp[YZ,YU,YT,YO,YE,YF,YW,Zu,Z6,Xn,Xo];done)
    |(simp[YZ,YU,YT,YO,YE,YF,YW,Zu,Z6,Xn,Xo]<;>omega)
    |(unfold zsOk;refine List.all_eq_true.2 fun k hk=>?_;rfl)
    |(unfold RP;refine List.all_eq_true.2 fun k hk=>?_;rfl)
    |fail
 . simp only[List.forall_mem_cons,List.not_mem_nil,false_implies,implies_true,and_true]
   simp only[Nat.zero_add,Option.getD_some,e0,Int.toNat_natCast];refine⟨?_,(jjjh c z v c.nt S k F (by omega) ?_).mono (by decide),(jjjf c.nt (by omega) S (BL.refl [Yl c.nt S])).mono (by decide)⟩
   . have:=jjn6 f ho k hk F (BL.refl (Vb c k F ⟨v,z,S⟩))
     rw[hσ] at this;exact this
   . refine⟨BEq.refl _,BEq.refl _,NF S c.nt true true 0,BEq.refl _,BEq.refl _,BEq.refl _,BEq.refl _,BEq.refl _,BEq.refl _,BEq.refl _,BEq.refl _,BEq.refl _,BEq.refl _,BEq.refl _,BEq.refl _,BEq.refl _,BEq.refl _,IZ fun i _=>?_,BEq.refl _,Ff fun i _=>Gt S c.nt i,trivial⟩
     exact jjn2 S c.nt i
theorem AR (c:Cfg) (z:Int) (v:Vw) (m:Nat) (S:Nat->ZO) (k:Nat) (F:Nat->Said) (f:PxC c) (hv:v.Ok) (hm:m<=40) (hk:k<=100) (hz:z<0):Kb c z v m S k F:=by
 have g:=f.g;have h0:=f.e0;have np:=g.p8;have p2:=g.p2;have n4:=g.n4;have n16:=g.n16;have s1:=g.s1;have s16:=g.s16;have nt:=g.nt;have nb:=g.nb;have e0:∀z:Int,z-Int.ofNat 0=z:=Int.sub_zero
 refine(?_:(∃p r,QH prog ZH c z v m S k F p [none,some (Ke m S),some (RI z v m S)]=some r/\Zp (bo true) r)->_) (pqC ZH c z v m S k F _ ?_)
 . rintro⟨p,r,h1,h2⟩
   exact⟨p,_,r,h1,h2⟩
 refine⟨rfl,(by first|(unfold ZQ;omega)|(dsimp only;unfold ZQ;omega)),?_,?_⟩
 . have hrn:((Zg c c.nodes.toNat==Int.ofNat 0)==false)=true:=by rw[Pj g];rfl
   have pv:Vy (ZW v)=true:=(Rj v).2 fun i hi=>⟨(hv.miss i hi).1,(hv.good i hi).1,(hv.score i hi).1⟩
   have a3:Ox (Zf.mk c [AV.agg (ZW v)])=true:=by rw[NI,WT v,pv,decide_eq_true np];rfl
   have a5:((Int.ofNat 0 !=ZH c)==false)=true:=by rw[h0];rfl
   have a6:decide (ZH c=Int.ofNat 0)=true:=decide_eq_true h0;simp only[ZZ,List.forall_mem_cons,List.not_mem_nil,false_implies,implies_true,and_true,true_and];simp only[Nat.zero_add,Option.getD_some,e0,Int.toNat_natCast];clear hv
   repeat' apply And.intro
   all_goals first
    |rfl
    |exact YU _ _ _
    |exact YZ _
    |exact hrn
    |exact a3
    |exact a5
    |exact a6
    |(simp[hz];done)
    |(simp[YZ,YU,YT,YO,YE,YF,YW,Zu,Z6,Xn,Xo];done)
    |(simp[YZ,YU,YT,YO,YE,YF,YW,Zu,Z6,Xn,Xo]<;>omega)
    |(unfold zsOk;refine List.all_eq_true.2 fun k hk=>?_;rfl)
    |(unfold RP;refine List.all_eq_true.2 fun k hk=>?_;rfl)
    |fail
 . simp only[List.forall_mem_cons,List.not_mem_nil,false_implies,implies_true,and_true]
   simp only[Nat.zero_add,Option.getD_some,e0,Int.toNat_natCast];refine⟨(Lt z v m S (by omega) ?_).mono (by decide),(Ls m (by omega) S (BL.refl [Yl m S])).mono (by decide)⟩;exact⟨BEq.refl _,BEq.refl _,NF S m true true 0,BEq.refl _,BEq.refl _,trivial⟩
theorem AS (c:Cfg) (z:Int) (v:Vw) (m:Nat) (S:Nat->ZO) (k:Nat) (F:Nat->Said) (f:PxC c) (hv:v.Ok) (hm:m<=40) (hk:k<=100) (z1:1099511627776<=z):Kb c z v m S k F:=by
 have g:=f.g;have h0:=f.e0;have np:=g.p8;have p2:=g.p2;have n4:=g.n4;have n16:=g.n16;have s1:=g.s1;have s16:=g.s16;have nt:=g.nt;have nb:=g.nb;have e0:∀z:Int,z-Int.ofNat 0=z:=Int.sub_zero
 refine(?_:(∃p r,QH prog ZH c z v m S k F p [none,some (Ke m S),some (RI z v m S)]=some r/\Zp (bo true) r)->_) (pqD ZH c z v m S k F _ ?_)
 . rintro⟨p,r,h1,h2⟩
   exact⟨p,_,r,h1,h2⟩
 refine⟨rfl,(by first|(unfold ZQ;omega)|(dsimp only;unfold ZQ;omega)),?_,?_⟩
 . have hrn:((Zg c c.nodes.toNat==Int.ofNat 0)==false)=true:=by rw[Pj g];rfl
   have pv:Vy (ZW v)=true:=(Rj v).2 fun i hi=>⟨(hv.miss i hi).1,(hv.good i hi).1,(hv.score i hi).1⟩
   have a3:Ox (Zf.mk c [AV.agg (ZW v)])=true:=by rw[NI,WT v,pv,decide_eq_true np];rfl
   have a5:((Int.ofNat 0 !=ZH c)==false)=true:=by rw[h0];rfl
   have a6:decide (ZH c=Int.ofNat 0)=true:=decide_eq_true h0;simp only[ZZ,List.forall_mem_cons,List.not_mem_nil,false_implies,implies_true,and_true,true_and];simp only[Nat.zero_add,Option.getD_some,e0,Int.toNat_natCast];clear hv
   repeat' apply And.intro
   all_goals first
    |rfl
    |exact YU _ _ _
    |exact YZ _
    |exact hrn
    |exact a3
    |exact a5
    |exact a6
    |(simp[YZ,YU,YT,YO,YE,YF,YW,Zu,Z6,Xn,Xo];done)
    |(simp[YZ,YU,YT,YO,YE,YF,YW,Zu,Z6,Xn,Xo]<;>omega)
    |(unfold zsOk;refine List.all_eq_true.2 fun k hk=>?_;rfl)
    |(unfold RP;refine List.all_eq_true.2 fun k hk=>?_;rfl)
    |fail
 . simp only[List.forall_mem_cons,List.not_mem_nil,false_implies,implies_true,and_true]
   simp only[Nat.zero_add,Option.getD_some,e0,Int.toNat_natCast];refine⟨(Lt z v m S (by omega) ?_).mono (by decide),(Ls m (by omega) S (BL.refl [Yl m S])).mono (by decide)⟩;exact⟨BEq.refl _,BEq.refl _,NF S m true true 0,BEq.refl _,BEq.refl _,trivial⟩
theorem AT (c:Cfg) (z:Int) (v:Vw) (m:Nat) (S:Nat->ZO) (k:Nat) (F:Nat->Said) (f:PxC c) (hv:v.Ok) (hm:m<=40) (hk:k<=100) (z0:0<=z) (z1:z<1099511627776) (hy:UK c c.nodes.toNat (ZI c (2*c.np)) (ZW v)=false):Kb c z v m S k F:=by
 have g:=f.g;have h0:=f.e0;have np:=g.p8;have p2:=g.p2;have n4:=g.n4;have n16:=g.n16;have s1:=g.s1;have s16:=g.s16;have nt:=g.nt;have nb:=g.nb;have e0:∀z:Int,z-Int.ofNat 0=z:=Int.sub_zero
 refine(?_:(∃p r,QH prog ZH c z v m S k F p [none,some (Ke m S),some (RI z v m S)]=some r/\Zp (bo true) r)->_) (pqE ZH c z v m S k F _ ?_)
 . rintro⟨p,r,h1,h2⟩
   exact⟨p,_,r,h1,h2⟩
 refine⟨rfl,(by first|(unfold ZQ;omega)|(dsimp only;unfold ZQ;omega)),?_,?_⟩
 . have hrn:((Zg c c.nodes.toNat==Int.ofNat 0)==false)=true:=by rw[Pj g];rfl
   have hw:X4 c.np (ZW v)=false:=by rw[<- J3 g (show 0<c.nodes.toNat by omega) (ZI c (2*c.np)) hv];exact hy
   have a1:((!UK c c.nodes.toNat (ZI c (2*c.np)) (ZW v))==true)=true:=by rw[hy];rfl
   have a2:((!X4 c.np (ZW v))==true)=true:=by rw[hw];rfl
   have pv:Vy (ZW v)=true:=(Rj v).2 fun i hi=>⟨(hv.miss i hi).1,(hv.good i hi).1,(hv.score i hi).1⟩
   have a3:Ox (Zf.mk c [AV.agg (ZW v)])=true:=by rw[NI,WT v,pv,decide_eq_true np];rfl
   have a5:((Int.ofNat 0 !=ZH c)==false)=true:=by rw[h0];rfl
   have a6:decide (ZH c=Int.ofNat 0)=true:=decide_eq_true h0;simp only[ZZ,List.forall_mem_cons,List.not_mem_nil,false_implies,implies_true,and_true,true_and];simp only[Nat.zero_add,Option.getD_some,e0,Int.toNat_natCast];clear hv
   repeat' apply And.intro
   all_goals first
    |rfl
    |exact YU _ _ _
    |exact YZ _
    |exact hrn
    |exact a3
    |exact a5
    |exact a6
    |exact a1
    |exact a2
    |(simp[YZ,YU,YT,YO,YE,YF,YW,Zu,Z6,Xn,Xo];done)
    |(simp[YZ,YU,YT,YO,YE,YF,YW,Zu,Z6,Xn,Xo]<;>omega)
    |(unfold zsOk;refine List.all_eq_true.2 fun k hk=>?_;rfl)
    |(unfold RP;refine List.all_eq_true.2 fun k hk=>?_;rfl)
    |fail
 . simp only[List.forall_mem_cons,List.not_mem_nil,false_implies,implies_true,and_true]
   simp only[Nat.zero_add,Option.getD_some,e0,Int.toNat_natCast];refine⟨(Lt z v m S (by omega) ?_).mono (by decide),(Ls m (by omega) S (BL.refl [Yl m S])).mono (by decide)⟩;exact⟨BEq.refl _,BEq.refl _,NF S m true true 0,BEq.refl _,BEq.refl _,trivial⟩
theorem AU (c:Cfg) (z:Int) (v:Vw) (m:Nat) (S:Nat->ZO) (k:Nat) (F:Nat->Said) (f:PxC c) (hv:v.Ok) (hm:m<=40) (hk:k<=100) (z0:0<=z) (z1:z<1099511627776) (hy:UK c c.nodes.toNat (ZI c (2*c.np)) (ZW v)=true) (hmt:m≠c.nt):Kb c z v m S k F:=by
 have g:=f.g;have h0:=f.e0;have np:=g.p8;have p2:=g.p2;have n4:=g.n4;have n16:=g.n16;have s1:=g.s1;have s16:=g.s16;have nt:=g.nt;have nb:=g.nb;have e0:∀z:Int,z-Int.ofNat 0=z:=Int.sub_zero
 refine(?_:(∃p r,QH prog ZH c z v m S k F p [none,some (Ke m S),some (RI z v m S)]=some r/\Zp (bo true) r)->_) (pqF ZH c z v m S k F _ ?_)
 . rintro⟨p,r,h1,h2⟩
   exact⟨p,_,r,h1,h2⟩
 refine⟨rfl,(by first|(unfold ZQ;omega)|(dsimp only;unfold ZQ;omega)),?_,?_⟩
 . have hrn:((Zg c c.nodes.toNat==Int.ofNat 0)==false)=true:=by rw[Pj g];rfl
   have hw:X4 c.np (ZW v)=true:=by rw[<- J3 g (show 0<c.nodes.toNat by omega) (ZI c (2*c.np)) hv];exact hy
   have a1:((!UK c c.nodes.toNat (ZI c (2*c.np)) (ZW v))==false)=true:=by rw[hy];rfl
   have a2:((!X4 c.np (ZW v))==false)=true:=by rw[hw];rfl
   have a4:(((Int.ofNat m) !=(c.nt:Int))==true)=true:=by simp;omega
   have pv:Vy (ZW v)=true:=(Rj v).2 fun i hi=>⟨(hv.miss i hi).1,(hv.good i hi).1,(hv.score i hi).1⟩
   have a3:Ox (Zf.mk c [AV.agg (ZW v)])=true:=by rw[NI,WT v,pv,decide_eq_true np];rfl
   have a5:((Int.ofNat 0 !=ZH c)==false)=true:=by rw[h0];rfl
   have a6:decide (ZH c=Int.ofNat 0)=true:=decide_eq_true h0;simp only[ZZ,List.forall_mem_cons,List.not_mem_nil,false_implies,implies_true,and_true,true_and];simp only[Nat.zero_add,Option.getD_some,e0,Int.toNat_natCast];clear hv
   repeat' apply And.intro
   all_goals first
    |rfl
    |exact YU _ _ _
    |exact YZ _
    |exact hrn
    |exact a3
    |exact a5
    |exact a6
    |exact a1
    |exact a2
    |exact a4
    |(simp[YZ,YU,YT,YO,YE,YF,YW,Zu,Z6,Xn,Xo];done)
    |(simp[YZ,YU,YT,YO,YE,YF,YW,Zu,Z6,Xn,Xo]<;>omega)
    |(unfold zsOk;refine List.all_eq_true.2 fun k hk=>?_;rfl)
    |(unfold RP;refine List.all_eq_true.2 fun k hk=>?_;rfl)
    |fail
 . simp only[List.forall_mem_cons,List.not_mem_nil,false_implies,implies_true,and_true]
   simp only[Nat.zero_add,Option.getD_some,e0,Int.toNat_natCast];refine⟨(Lt z v m S (by omega) ?_).mono (by decide),(Ls m (by omega) S (BL.refl [Yl m S])).mono (by decide)⟩;exact⟨BEq.refl _,BEq.refl _,NF S m true true 0,BEq.refl _,BEq.refl _,trivial⟩
end Go.Proofs.YtodpbgbpifiniaaGreatDoor
end
