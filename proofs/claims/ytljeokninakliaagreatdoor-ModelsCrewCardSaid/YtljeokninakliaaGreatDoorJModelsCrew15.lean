/- Parts, one behind the other. Parts of a proof. -/
import Derived.Test.YtljeokninakliaaGreatDoorJModelsCrew10
import Derived.Test.YtljeokninakliaaGreatDoorJModelsCrew13
import Derived.Test.YtljeokninakliaaGreatDoorJModelsCrew9
import Derived.Test.YtljeokninakliaaGreatDoorJModelsCrew12
import Derived.Test.YtljeokninakliaaGreatDoorJModelsCrew14
set_option linter.unusedSimpArgs false
set_option linter.unusedVariables false
set_option maxRecDepth 1000000
set_option maxHeartbeats 4000000
section
namespace Go.Proofs.YtljeokninakliaaGreatDoor
open Go.RowKit Tryz
def UE (f:Nat->Int) (n:Nat):Bool:=decide ((List.range n).map f).Nodup
def Tp:Yk
 | [.c a],m,_=>match XH 1 m a with|some (n,F,b)=>some (bo (UE (fA F) n),[],0,[b,decide (1<=n),decide (n<=1000000),ZE n F])|none=>none
 |_,_,_=>none
theorem jjgj:ZA prog 45 Tp:=by
 refine⟨⟨_,_,Tryz.func45,rfl⟩,fun C β m m2 w args ib r news k' ob vs hct ho hs hr hfree hlim hv=>?_⟩;unfold Tp at hct;split at hct
 . rename_i a
   split at hct
   . rename_i n F b hsl
     simp only[Option.some.injEq,Prod.mk.injEq] at hct;obtain⟨rfl,rfl,rfl,rfl⟩:=hct;simp only[ZZ,List.forall_mem_cons,decide_eq_true_eq] at ho;obtain⟨rfl,o1,o2,o3,_⟩:=ho;simp only[γt] at hv;split at hv
     . rename_i v0 us hv0 hus
       cases hus;cases hv;obtain⟨L,hk,hL2⟩:=Uy hr Nat.one_pos (UZ hs hsl) hv0 3 (S9 o3) (fun _=>rfl) (ZG w) (fun _=>none) rfl;have hL3:=hL2 (ZU (fun _=>none) 0 L) 0 W9
       have hcell:∀k,k<n->L.nil=false/\w.cell? ⟨L.b,L.o+k,none⟩=some (.int .i64 (fA F k)):=by
        intro k hk';obtain⟨g1,u,g2,_,g4⟩:=hk.cells k 0 (by simp[YK,XX,hk']);have hs1:L.s=1:=hk.sz;simp only[XX,Cs.get,γc,List.map_cons,List.map_nil,List.getD_cons_zero,Option.some.injEq] at g2;subst g2;rw[hs1,Nat.mul_one,Nat.add_zero] at g4;exact⟨g1,g4⟩
       obtain⟨hnil,_⟩:=hcell 0 (by omega);simp only[γc,W9,hnil,Bool.false_eq_true,if_false,Nat.zero_mul,Nat.zero_add,Nat.add_zero,Option.some.injEq] at hL3;subst hL3;have hz:((List.range n).map (fA F)).length=n:=by simp
       have hcs:=jjj4 L.b L.o ((none:Option Nat).getD (L.cap-0)) ((List.range n).map (fA F)) (by rw[hz];exact o2) w (hk.lt hnil) (fun j hj=>by rw[hz] at hj;rw[(hcell j hj).2];simp[hj]) (by intro e;rw[e] at hz;simp at hz;omega);rw[hz] at hcs;refine hcs.mono ?_;rintro e w' ⟨rfl,hb⟩;have hsv:=jjd2 ((List.range n).map (fA F));rw[hz] at hsv;rw[hsv];exact⟨β,_,rfl,Ext.refl _,fun _ _=>rfl,rfl,by rw[List.append_nil];exact hr.below hb⟩
     . cases hv
   . cases hct
 . cases hct
def B6 (P:Program):Env:=⟨P,[(43,VW),(44,VX),(45,Tp),(17,UU)]⟩
theorem hENr:ZC (B6 prog):=by
 refine Xf (fun f g h=>?_) (by kernel_rfl) (by kernel_rfl);simp only[B6,List.mem_cons,Prod.mk.injEq,List.not_mem_nil,or_false] at h;rcases h with⟨rfl,rfl⟩|⟨rfl,rfl⟩|⟨rfl,rfl⟩|⟨rfl,rfl⟩
 . exact HQ
 . exact HP
 . exact jjgj
 . exact Dm
def Gk (P:Program) (c:Cfg) (path:List Dec):Option VF:=ZB [] (ZM (B6 P) (fC (B6 P) 300) 41 [.agg (VU c)] 1000 nSt (XW (SQ c) path []))
theorem ru3 (c:Cfg) (Q:VF->Prop) (H:let zq0:List Bool:=[decide (0+c.np<=c.np),decide (c.np<=1000000),ZE c.np fun k=>List.map AC.v ((fun i=>[Value.int .i64 (c.fp i)]) k),true,true,true];let zq1:List Bool:=(decide (0+c.np<=c.np))::(decide (1<=c.np))::(decide (c.np<=1000000))::(ZE c.np fun k=>List.map AC.v ((fun i=>[Value.int .i64 (c.fp i)]) k))::true::(YU c.fp c.np c.nodes==true)::zq0;let zq2:List Bool:=(decide (0+2*c.np<=2*c.np))::(decide (1<=2*c.np))::(decide (2*c.np<=1000000))::(ZE (2*c.np) fun k=>List.map AC.v ((fun i=>[Value.int .i64 (Zo (Cfg.mk c.nodes c.np (fA (Zj (ABlk.mk false false 3 1 (yP c)) 0 0 1)) c.ns (fA (Zj (ABlk.mk false false 3 1 (yS c)) 0 0 1)) c.long c.nb (fA (Zj (ABlk.mk false false 3 1 (yB c)) 0 0 1)) c.nt (YY (Zj (ABlk.mk false false 70 3 (yT c)) 0 0 3)) c.miss c.good c.fresh) i)]) k))::(decide (0+c.np<=c.np)&&(decide (0+c.ns<=c.ns)&&(decide (0+c.nb<=c.nb)&&(decide (0+c.nt<=c.nt)&&((ZE c.np fun k=>List.map AC.v ((fun i=>[Value.int .i64 (c.fp i)]) k))&&((ZE c.ns fun k=>List.map AC.v ((fun i=>[Value.int .i64 (c.fs i)]) k))&&((ZE c.nb fun k=>List.map AC.v ((fun i=>[Value.int .i64 (c.fb i)]) k))&&Yv c.nt fun k=>List.map AC.v ((fun i=>[Value.int .i64 (Station.node (c.ft i)),Value.int .u32 (Station.safe (c.ft i)),Value.int .i64 (Station.hold (c.ft i))]) k))))))))::(decide (c.np<=1000))::y3 (y3 ((Y7 c.fp c.np==true)::zq1));(((YU c.fp c.np c.nodes)=true->(((Y7 c.fp c.np)=true->(((!UE (Zo c) (2*c.np))=true->Q (.c (zI (Int.ofNat 1)),[],1019,(((!UE (Zo c) (2*c.np))==true)::zq2),[]))/\((!UE (Zo c) (2*c.np))=false->Q (.c (zI (Int.ofNat 0)),[],1019,(((!UE (Zo c) (2*c.np))==false)::zq2),[]))))/\((Y7 c.fp c.np)=false->Q (.c (zI (Int.ofNat 1)),[],1017,((Y7 c.fp c.np==false)::zq1),[]))))/\((YU c.fp c.np c.nodes)=false->Q (.c (zI (Int.ofNat 1)),[],1015,((YU c.fp c.np c.nodes==false)::zq0),[])))):
 ∃p r,Gk prog c p=some r/\Q r:=
 ZD H (fun g1=>ZD g1 (fun g2=>ZD g2 (fun g3=>⟨pD 7 757,_,by kernel_rfl,g3⟩) (fun g3=>⟨pD 7 1486,_,by kernel_rfl,g3⟩)) (fun g2=>⟨pD 7 55,_,by kernel_rfl,g2⟩)) (fun g1=>⟨pD 7 2,_,by kernel_rfl,g1⟩)
theorem HZ {ty n:Nat} {f:Nat->Station} {o r:Bool}:YY (YW ⟨o,r,ty,3,.arr n fun k=>List.map AC.v ((fun i=>[Value.int .i64 (f i).node,.int .u32 (f i).safe,.int .i64 (f i).hold]) k)⟩ 0 0 3)=f:=by
 funext i;simp[YY,YW,ZP]
theorem Ya {n:Nat} {f:Nat->Station}:Yv n (fun k=>List.map AC.v ((fun i=>[Value.int .i64 (f i).node,.int .u32 (f i).safe,.int .i64 (f i).hold]) k))=true:=by
 unfold Yv;exact List.all_eq_true.2 fun i _=>by simp[Rg]
theorem XZ {n:Nat} {f:Nat->Int}:ZE n (fun k=>[AC.v (Value.int .i64 (f k))])=true:=Yi
theorem Y0 {n:Nat} {f:Nat->Station}:Yv n (fun k=>[AC.v (Value.int .i64 (f k).node),AC.v (Value.int .u32 (f k).safe),AC.v (Value.int .i64 (f k).hold)])=true:=Ya
theorem jjoc (c:Cfg):Cfg.mk c.nodes c.np c.fp c.ns c.fs c.long c.nb c.fb c.nt c.ft c.miss c.good c.fresh=c:=rfl
def XB (c:Cfg):Int:=if (YU c.fp c.np c.nodes&&(Y7 c.fp c.np&&UE (Zo c) (2*c.np)))=true then 0 else 1
theorem jjqv:ZA prog 41 (Ys (fun c=>i64 (XB c)) fun c=>decide (1<=c.np)&&decide (c.np<=1000)):=by
 refine LD (E:=B6 prog) (fuel:=300) (str:=nSt) hENr ⟨_,_,Tryz.func41,rfl⟩ (fun c=>Ux _) fun c hp=>?_
 simp only[Bool.and_eq_true,decide_eq_true_eq] at hp;refine(?_:(∃p r,Gk prog c p=some r/\(r.1=i64 (XB c)/\r.2.2.1<=ZR/\ZZ r.2.2.2.1/\∀q∈r.2.2.2.2,q))->_) (ru3 c _ ?_)
 . rintro⟨p,r,h1,h2⟩
   exact⟨p,[],r,h1,h2⟩
 . simp only[Pf,Yi,HZ,Ya,jjoc]
   have h1:c.np<=1000000:=by omega
   have h2:1<=2*c.np:=by omega
   have h3:2*c.np<=1000000:=by omega
   repeat' (first|refine⟨fun h=>?_,fun h=>?_⟩|fail)
   all_goals (refine⟨?_,(by first|(unfold ZR;omega)|(dsimp only;unfold ZR;omega)),?_,by simp⟩)
   all_goals (simp_all[ZZ,XB,i64])
   all_goals (try omega)
def MV:Yk
 | [.c (.v (.int .u64 x)),.c (.v (.int .u64 y))],_,_=>some (.tup [.c (.v (.int .u64 (x*y / 18446744073709551616))),.c (.v (.int .u64 (x*y % 18446744073709551616)))],[],0,[decide (0<=x/\x<18446744073709551616),decide (0<=y/\y<18446744073709551616)])
 |_,_,_=>none
theorem jjr2:ZA prog 60 MV:=by
 refine⟨⟨_,_,Tryz.func60,rfl⟩,fun C β m m2 w args ib r news k' ob vs hct ho hs hr hfree hlim hv=>?_⟩;unfold MV at hct;split at hct
 . rename_i x y
   simp only[Option.some.injEq,Prod.mk.injEq] at hct;obtain⟨rfl,rfl,rfl,rfl⟩:=hct;simp only[ZZ,List.forall_mem_cons,decide_eq_true_eq] at ho;obtain⟨⟨x0,x1⟩,⟨y0,y1⟩,_⟩:=ho;cases hv;obtain⟨a,rfl⟩:=Int.eq_ofNat_of_zero_le x0;obtain⟨b,rfl⟩:=Int.eq_ofNat_of_zero_le y0;refine(Tryz.bits_Mul a b (by omega) (by omega) w).mono ?_;rintro e w' ⟨rfl,rfl⟩;exact⟨β,_,rfl,Ext.refl _,fun _ _=>rfl,by simp[γ,γt,γ1,γc],by rw[List.append_nil];exact hr⟩
 . cases hct
def B5 (P:Program):Env:=⟨P,[(60,MV)]⟩
theorem BY:ZC (B5 prog):=by
 refine Xf (fun f g h=>?_) (by kernel_rfl) (by kernel_rfl);simp only[B5,List.mem_cons,Prod.mk.injEq,List.not_mem_nil,or_false] at h;obtain⟨rfl,rfl⟩:=h;exact jjr2
abbrev repB (x:Int) (n j:Nat):ABlk:=WH 3 1 n fun i=>[.int .i64 (if i<j then x else 0)]
abbrev Py (n j:Nat):List AV:=[.c (.sl 1021 0 0 n none),i64 (Int.ofNat j)]
def Gh (P:Program) (x:Int) (n j:Nat) (path:List Dec):Option VC:=
 view ([7,8]++[]) [1021] (fC (B5 P) 100 (ZW P 16 0) 1000000000000000000000000000000000000000000 nSt (Wi 48 [7,8] [1021] (Py n j) [repB x n j] path []))
theorem rep (x:Int) (n j:Nat) (Q:VC->Prop) (H:let zN:=Int.ofNat;let zD:=Int.toNat;(((decide (zN j < ↑n))=true->Q (Exit.normal,[some (ZO (List.zip [7,8] (Py n j)) (0+1+1+1+1+1+1+1)),some (.c (zI (IntKind.wrap .i64 (zN j + ↑(min (zD (Option.getD none ↑n-Option.getD (some (zN j)) (zN 0))) (zD (Option.getD (some (zN j)) ↑n-zN 0)))))))],[yO 3 1 (Cs.arr n fun p=>if 0+zD (Option.getD (some (zN j)) (zN 0))<=p/\p<0+zD (Option.getD (some (zN j)) (zN 0))+min (zD (Option.getD none ↑n-Option.getD (some (zN j)) (zN 0))) (zD (Option.getD (some (zN j)) ↑n-zN 0)) then YW (ABlk.mk true true 3 1 (Cs.arr n fun k=>List.map AC.v ((fun i=>[Value.int .i64 (if i<j then x else 0)]) k))) 0 0 1 (p-(0+zD (Option.getD (some (zN j)) (zN 0)))) else List.map AC.v ((fun i=>[Value.int .i64 (if i<j then x else 0)]) p))],48,1100000000000000000000000000000000000000004,[decide (0+min (zD (Option.getD none ↑n-Option.getD (some (zN j)) (zN 0))) (zD (Option.getD (some (zN j)) ↑n-zN 0))<=n),decide (0+zD (Option.getD (some (zN j)) (zN 0))+min (zD (Option.getD none ↑n-Option.getD (some (zN j)) (zN 0))) (zD (Option.getD (some (zN j)) ↑n-zN 0))<=n),true,decide (zN 0<=zN 0/\zN 0<=Option.getD (some (zN j)) ↑n/\Option.getD (some (zN j)) ↑n <= ↑(n-0)),true,decide (n=0\/0<n),decide (zN 0<=Option.getD (some (zN j)) (zN 0)/\Option.getD (some (zN j)) (zN 0)<=Option.getD none ↑n/\Option.getD none ↑n<=YR none n none),decide (Option.getD (some (zN j)) (zN 0)=zN 0\/Option.getD (some (zN j)) (zN 0)<YR none n none),decide (YR none n none <= ↑(Option.getD none n)),true,Zt none (ABlk.mk true true 3 1 (Cs.arr n fun k=>List.map AC.v ((fun i=>[Value.int .i64 (if i<j then x else 0)]) k))) 0 n,decide (zN j < ↑n)==true],[]))/\((decide (zN j < ↑n))=false->Q (Exit.exit 0,[some (ZO (List.zip [7,8] (Py n j)) (0+1+1+1+1+1+1+1)),some (ZO (List.zip [7,8] (Py n j)) (0+1+1+1+1+1+1+1+1))],[yO 3 1 (Cs.arr n fun k=>List.map AC.v ((fun i=>[Value.int .i64 (if i<j then x else 0)]) k))],48,1000000000000000000000000000000000000000004,[decide (zN j < ↑n)==false],[])))):
 ∃p r,Gh prog x n j p=some r/\Q r:=
 ZD H (fun g1=>⟨pD 1 1,_,by kernel_rfl,g1⟩) (fun g1=>⟨pD 1 2,_,by kernel_rfl,g1⟩)
def Gg (P:Program) (f:Nat->Int) (n:Int) (path:List Dec):Option VF:=ZB [1021] (ZM (B5 P) (fC (B5 P) 300) 16 [.c (.sl 0 0 0 1 none),i64 n] 1000 nSt (XW [(0,Zb 3 1 f)] path [some ⟨[7,8],[1021],ZQ 48 [(7,.c (.sl 1021 0 0 n.toNat none))],[(1021,repB (f 0) n.toNat n.toNat)],100000000000000000000000000000000000000000000000000,.exit 0⟩]))
theorem Aq (f:Nat->Int) (n:Int) (Q:VF->Prop) (H:let zN:=Int.ofNat;let zD:=Int.toNat;(((decide (n<zN 0))=true->False)/\((decide (n<zN 0))=false->(((decide (zN 1*IntKind.wrap .u64 n / zN 18446744073709551616>zN 0))=true->False)/\((decide (zN 1*IntKind.wrap .u64 n / zN 18446744073709551616>zN 0))=false->(((decide (zN 1*IntKind.wrap .u64 n % zN 18446744073709551616>zN 9223372036854775807))=true->False)/\((decide (zN 1*IntKind.wrap .u64 n % zN 18446744073709551616>zN 9223372036854775807))=false->Q (.c (.sl 1021 0 0 (zD n) none),[yO 3 1 (Cs.arr (zD n) fun k=>List.map AC.v ((fun i=>[Value.int .i64 (if i<zD n then f 0 else 0)]) k))],100000000000000000000000000000000000000000000000002,[decide (0+min (zD (IntKind.wrap .i64 (zN 1*IntKind.wrap .u64 n % zN 18446744073709551616))) 1<=1),decide (0+min (zD (IntKind.wrap .i64 (zN 1*IntKind.wrap .u64 n % zN 18446744073709551616))) 1<=zD (IntKind.wrap .i64 (zN 1*IntKind.wrap .u64 n % zN 18446744073709551616))),decide (zN 0<=IntKind.wrap .i64 (zN 1*IntKind.wrap .u64 n % zN 18446744073709551616)/\IntKind.wrap .i64 (zN 1*IntKind.wrap .u64 n % zN 18446744073709551616)=IntKind.wrap .i64 (zN 1*IntKind.wrap .u64 n % zN 18446744073709551616)/\IntKind.wrap .i64 (zN 1*IntKind.wrap .u64 n % zN 18446744073709551616)*zN 8<=zN 140737488355328),decide (zN 1*IntKind.wrap .u64 n % zN 18446744073709551616>zN 9223372036854775807)==false,decide (zN 1*IntKind.wrap .u64 n / zN 18446744073709551616>zN 0)==false,true,decide (zN 0<=IntKind.wrap .u64 n/\IntKind.wrap .u64 n<zN 18446744073709551616),decide (n<zN 0)==false],[LoopV prog (ZW prog 16 0) [7,8] [1021] [some (.c (.sl 1021 0 0 (zD (IntKind.wrap .i64 (zN 1*IntKind.wrap .u64 n % zN 18446744073709551616))) none)),some (.c (.v (.int .i64 ↑(min (zD (IntKind.wrap .i64 (zN 1*IntKind.wrap .u64 n % zN 18446744073709551616))) 1))))] [yO 3 1 (Cs.arr (zD (IntKind.wrap .i64 (zN 1*IntKind.wrap .u64 n % zN 18446744073709551616))) fun p=>if 0<=p/\p<0+min (zD (IntKind.wrap .i64 (zN 1*IntKind.wrap .u64 n % zN 18446744073709551616))) 1 then YW (ABlk.mk false false 3 1 (Cs.arr 1 fun k=>List.map AC.v ((fun i=>[Value.int .i64 (f i)]) k))) 0 0 1 (p-0) else List.map AC.v (Array.toList (Value.cells (Value.int .i64 0))))] 48 1027 (ZQ 48 [(7,.c (.sl 1021 0 0 (zD n) none))]) [(1021,repB (f 0) (zD n) (zD n))] 100000000000000000000000000000000000000000000000000 (Exit.exit 0) none])))))))):
 ∃p r,Gg prog f n p=some r/\Q r:=
 ZD H (fun g1=>g1.elim) (fun g1=>ZD g1 (fun g2=>g2.elim) (fun g2=>ZD g2 (fun g3=>g3.elim) (fun g3=>⟨pD 4 62,_,by kernel_rfl,g3⟩)))
theorem jjp8 (x:Int) (n:Nat) (h1:1<=n) (hn:n<=1000000) {z:Nat} (hz:z=n) {y:Int} (hy:y=Int.ofNat 1) {eb:Option ABlk} (heb:BL [repB x n 1] [eb]):
 LoopV prog (ZW prog 16 0) [7,8] [1021] [some (.c (.sl 1021 0 0 z none)),some (i64 y)] [eb] 48 1027 (ZQ 48 [(7,.c (.sl 1021 0 0 n none))]) [(1021,repB x n n)] 100000000000000000000000000000000000000000000000000 (.exit 0) none:=by
 subst hz;subst hy;refine Pn BY (fuel:=100) (str:=nSt) (nh:=1000000000000000000000000000000000000000000) (S:=Nat) (fun j=>1<=j/\j<=z) (fun j=>z-j) [7,8] [] [1021] (Py z) (fun j=>[repB x z j]) (by decide) (by decide) (by unfold ZR;omega) (s0:=1) (by omega) (fun _=>⟨rfl,rfl⟩) rfl heb ?_ ?_
 . intro j _
   refine⟨rfl,fun b hb=>?_⟩;rw[List.mem_singleton.1 hb];exact Y8
 . intro j ⟨j1,j2⟩
   have e1:min (Int.toNat (Option.getD none ((z:Nat):Int)-Option.getD (some (Int.ofNat j)) (Int.ofNat 0))) (Int.toNat (Option.getD (some (Int.ofNat j)) ((z:Nat):Int)-Int.ofNat 0))=min (z-j) j:=by
    first|(simp;done)|(simp;omega)
   have e2:0+Int.toNat (Option.getD (some (Int.ofNat j)) (Int.ofNat 0))=j:=by simp
   refine(?_:(∃p r,Gh prog x z j p=some r/\_)->_) (rep x z j (XA 1027 100000000000000000000000000000000000000000000000000 48 [7,8] [] [1021] (fun j=>1<=j/\j<=z) (fun j=>z-j) (Py z) (fun j=>[repB x z j]) (.exit 0) [(7,.c (.sl 1021 0 0 z none))] [(1021,repB x z z)] j) ?_)
   . rintro⟨p,r,h1,h2⟩
     exact⟨p,[],r,h1,h2⟩
   . simp only[e1,e2]
     refine⟨fun c1=>?_,fun c1=>?_⟩
     . have hlt:j<z:=by simpa using c1
       refine⟨?_,rfl,by dsimp only;omega,rfl,.inl ⟨rfl,j+min (z-j) j,by omega,by show z-(j+min (z-j) j)<z-j;omega,?_,?_⟩⟩
       . simp only[ZZ,List.forall_mem_cons]
         simp[YR,Zt,hlt];omega
       . dsimp only
         rw[Wu _ (by simp;omega) (by simp;omega)];simp[ZO,i64]
       . refine⟨⟨rfl,rfl,rfl,rfl,.inr (.inl ⟨z,_,_,rfl,rfl,fun i hi=>?_⟩)⟩,trivial⟩
         by_cases h:j<=i/\i<j+min (z-j) j
         . rw[if_pos h]
           simp[YW,show i-j<j by omega,show i<j+min (z-j) j by omega]
         . rw[if_neg h]
           by_cases h2:i<j
           . simp[h2,show i<j+min (z-j) j by omega]
           . simp[h2,show ¬i<j+min (z-j) j by omega]
     . have hge:j=z:=by simp at c1;omega
       subst hge;refine⟨by simp[ZZ],rfl,by dsimp only;omega,rfl,.inr ⟨by simp,rfl,fun q hq=>?_,fun p hp=>?_⟩⟩
       . rw[List.mem_singleton.1 hq]
         exact⟨rfl,by simp[ZO]⟩
       . rw[List.mem_singleton.1 hp]
         exact⟨rfl,Y8,_,List.mem_cons_self ..,BEq.refl _⟩
def Tm:Yk
 | [.c a,.c (.v (.int .i64 n))],m,ib=>match XH 1 m a with|some (k,F,b)=>some (.c (.sl ib 0 0 n.toNat none),[(ib,repB (fA F 0) n.toNat n.toNat)],1,[b,decide (k=1),decide (1<=n),decide (n<=1000000),ZE k F])|none=>none
 |_,_,_=>none
theorem jjgk:ZA prog 16 Tm:=by
 refine⟨⟨_,_,Tryz.func16,rfl⟩,fun C β m m2 w args ib r news k' ob vs hct ho hs hr hfree hlim hv=>?_⟩;unfold Tm at hct;split at hct
 . rename_i a n
   split at hct
   . rename_i k F b hsl
     simp only[Option.some.injEq,Prod.mk.injEq] at hct;obtain⟨rfl,rfl,rfl,rfl⟩:=hct;simp only[ZZ,List.forall_mem_cons,decide_eq_true_eq] at ho;obtain⟨rfl,rfl,o1,o2,o3,_⟩:=ho;simp only[γt] at hv;split at hv
     . rename_i v0 us hv0 hus
       cases hus;cases hv;obtain⟨L0,hL1,hL2⟩:=El hr (UZ hs hsl) o3 (v0:=v0) hv0 3;obtain⟨q,hq⟩:∃q:Nat,n=q:=Int.eq_ofNat_of_zero_le (by omega)
       have hu:IntKind.wrap IntKind.u64 n=n:=by subst hq;simp[IntKind.wrap,IntKind.bits,IntKind.signed];omega
       have hm:Int.ofNat 1*n % Int.ofNat 18446744073709551616=n:=by simp;omega
       have hd:Int.ofNat 1*n / Int.ofNat 18446744073709551616=0:=by simp;omega
       obtain⟨p,r,hrun,hvr,hbl,hn,hob,hpo⟩:∃p r,Gg prog (fA F) n p=some r/\(r.1= .c (.sl 1021 0 0 n.toNat none)/\r.2.1=[some (repB (fA F 0) n.toNat n.toNat)]/\r.2.2.1<=ZR/\ZZ r.2.2.2.1/\∀q∈r.2.2.2.2,q):=by
        refine Aq (fA F) n _ ?_;simp only[hu,hm,hd,Wu n (by omega) (by omega)];refine⟨fun h=>by simp at h;omega,fun _=>⟨fun h=>by simp at h,fun _=>⟨fun h=>by simp at h;omega,fun _=>?_⟩⟩⟩;refine⟨by first|trivial|rfl,by first|trivial|rfl,(by first|(unfold ZR;omega)|(dsimp only;unfold ZR;omega)),?_,fun q hq=>?_⟩
        . simp[ZZ];omega
        . rw[List.mem_singleton.1 hq]
          refine jjp8 (fA F 0) n.toNat (by omega) (by omega) rfl (by simp;omega) ⟨⟨rfl,rfl,rfl,rfl,.inr (.inl ⟨n.toNat,_,_,rfl,rfl,fun i hi=>?_⟩)⟩,trivial⟩;by_cases h0:i=0
          . subst h0
            simp[YW];omega
          . have h1:¬i<1:=by omega
            have hc:¬i<min n.toNat 1:=by omega
            have hc2:¬(0<=i/\i<0+min n.toNat 1):=by omega
            rw[if_neg (by simpa using hc)];simp[h1];rfl
       obtain⟨v,b',n',ob,po⟩:=r;obtain⟨s',r1,r2,r3,r4⟩:=T7 hrun;have hn:n'<=ZR:=hn;simp only at hvr hbl;subst hvr;subst hbl;refine(Xa BY r1 ⟨by rw[r3];exact hob,by rw[r4];exact hpo⟩ (C:=ZG w) (β:=ZU (fun _=>none) 0 L0) (w:=w) (vs:=[v0,.int .i64 n]) ?_ hL1 (fun id h1 _=>by unfold ZU;rw[if_neg (by omega)])).mono ?_
       . simp only[γt,i64,γ1,hL2]
         rfl
       . rintro e w' ⟨β',u,rfl,_,_,hu,hr'⟩
         simp only[List.map_cons,List.map_nil,List.cons.injEq,and_true] at r2;obtain⟨L,hL,hb⟩:=hr'.blk 1021 _ r2;have hid:β ib=none:=hfree ib (Nat.le_refl _) (by omega);refine⟨ZU β ib L,u,rfl,Wq hid,fun id h=>?_,?_,?_⟩
         . unfold ZU
           rw[if_neg (by omega)]
         . simp only[γ,γ1,γc,hL] at hu
           simp only[γ,γ1,γc,W9];exact hu
         . refine S8 hr (So hr') hid (W8 (by omega)) hr' r2 rfl rfl (fun k j _=>?_) hL
           match j with
           |0=>exact⟨_,rfl⟩
           |j+1=>exact⟨_,rfl⟩
     . cases hv
   . cases hct
 . cases hct
def OH (P:Program) (a:AV) (m:AMem) (path:List Dec):Option VF:=ZB [1003,1005] (ZM (E1 P) (fC (E1 P) 300) 59 [a] 1000 nSt (XW m path []))
theorem clnA (f:Nat->Station) (n:Nat) (Q:VF->Prop) (H:Q (.c (.sl 1005 0 0 (0+n) none),[none,yO 70 3 (Cs.arr (0+n) fun i=>if i<0 then[] else YW (ABlk.mk false false 70 3 (Cs.arr n fun k=>List.map AC.v ((fun i=>[Value.int .i64 (Station.node (f i)),Value.int .u32 (Station.safe (f i)),Value.int .i64 (Station.hold (f i))]) k))) 0 0 3 (i-0))],1007,[decide (0+n<=n),true,true,decide ((0+n)*24<=140737488355328),ABlk.inb (ABlk.mk false false 70 3 (Cs.arr n fun k=>List.map AC.v ((fun i=>[Value.int .i64 (Station.node (f i)),Value.int .u32 (Station.safe (f i)),Value.int .i64 (Station.hold (f i))]) k))) 0 1],[])):
 ∃p r,OH prog (.c (.sl 0 0 0 n none)) [(0,RL n f)] p=some r/\Q r:=
 ⟨pD 1 0,_,by kernel_rfl,H⟩
theorem clnB (Q:VF->Prop) (H:Q (.c (AC.v (Value.slice none 0 0)),[none,none],1004,[],[])):
 ∃p r,OH prog (.c (.v (.slice none 0 0))) [] p=some r/\Q r:=
 ⟨pD 1 0,_,by kernel_rfl,H⟩
theorem clnC (b o cc:Nat) (Q:VF->Prop) (H:Q (.c (.sl 1003 0 0 0 none),[yO 70 3 (Cs.arr 0 fun x=>[]),none],1007,[true,true,true],[])):
 ∃p r,OH prog (.c (.v (.slice (some ⟨b,o,none⟩) 0 cc))) [] p=some r/\Q r:=
 ⟨pD 1 0,_,by kernel_rfl,H⟩
abbrev Yw (n:Nat) (f:Nat->Station):ABlk:=WH 70 3 n fun i=>[.int .i64 (f i).node,.int .u32 (f i).safe,.int .i64 (f i).hold]
def WB:Yk
 | [.c a],m,ib=>match XH 3 m a with|some (n,F,b)=>some (.c (.sl ib 0 0 n none),[(ib,Yw n (YY F))],1,[b,decide (n<=1000000),Yv n F])|none=>none
 |_,_,_=>none
theorem NB : ZA prog 59 WB:=by
 refine⟨⟨_,_,Tryz.func59,rfl⟩,fun C β m m2 w args ib r news k' ob vs hct ho hs hr hfree hlim hv=>?_⟩;unfold WB at hct;split at hct
 . rename_i a
   split at hct
   . rename_i n F b hsl
     simp only[Option.some.injEq,Prod.mk.injEq] at hct;obtain⟨rfl,rfl,rfl,rfl⟩:=hct;simp only[ZZ,List.forall_mem_cons,decide_eq_true_eq] at ho;obtain⟨rfl,o2,o3,_⟩:=ho;simp only[γt] at hv;split at hv
     . rename_i v0 us hv0 hus
       cases hus;cases hv;have hid:β ib=none:=hfree ib (Nat.le_refl _) (by omega)
       have hmid:ZY m2 ib=none:=by
        cases e:ZY m2 ib with
        |none=>rfl
        |some x=>obtain⟨L,hL,_⟩:=hr.blk ib x e;rw[hid] at hL;cases hL
       obtain⟨L,hk,hL2⟩:=Uy hr (by omega:0<3) (UZ hs hsl) hv0 70 (HY o3) (fun _=>rfl) (ZG w) (fun _=>none) rfl;have hL3:=hL2 (ZU (fun _=>none) 0 L) 0 W9;have hrel:=(QD (Se w) (fun _ _ h=>by cases h) (id:=0) rfl (fun g=>by unfold Z2;omega) rfl rfl hk).1;rcases Nat.eq_zero_or_pos n with rfl|hpos
       . cases hnil:L.nil with
         |true=>
          simp only[γc,W9,hnil,if_true] at hL3;have hv1:v0= .slice none 0 0:=by simpa using hL3.symm
          subst hv1;obtain⟨p,⟨v,b',n',ob,po⟩,hrun,hvr,hn,hob,hpo⟩:∃p r,OH prog (.c (.v (.slice none 0 0))) [] p=some r/\(r.1= .c (.v (.slice none 0 0))/\r.2.2.1<=ZR/\ZZ r.2.2.2.1/\∀q∈r.2.2.2.2,q):=clnB _ ⟨rfl,by dsimp only;unfold ZR;omega,by simp[ZZ],by simp⟩
          obtain⟨s',r1,r2,r3,r4⟩:=T7 hrun;refine(Xa Vk r1 ⟨by rw[r3];exact hob,by rw[r4];exact hpo⟩ (C:=ZG w) (β:=fun _=>none) (w:=w) (vs:=[.slice none 0 0]) rfl (Se w) (fun _ _ _=>rfl)).mono ?_;rintro e w' ⟨β',u,rfl,_,_,hu,hr'⟩;simp only at hvr;subst hvr;cases hu;refine⟨ZU β ib ⟨0,0,3,0,true⟩,_,rfl,Wq hid,fun id h=>by unfold ZU;rw[if_neg (by omega)],?_,Cu (y:=Yw 0 (YY F)) (hr.below (So hr')) hid (W8 (by omega)) rfl⟩;simp[γ,γ1,γc,W9]
         |false=>
          simp only[γc,W9,hnil,Bool.false_eq_true,if_false,Option.some.injEq] at hL3;subst hL3;obtain⟨p,⟨v,b',n',ob,po⟩,hrun,hvr,hbl,hn,hob,hpo⟩:∃p r,OH prog (.c (.v (.slice (some ⟨L.b,L.o+(0*L.s+0),none⟩) 0 ((none:Option Nat).getD (L.cap-0))))) [] p=some r/\(r.1= .c (.sl 1003 0 0 0 none)/\r.2.1=[some ⟨true,true,70,3,.arr 0 fun _=>[]⟩,none]/\r.2.2.1<=ZR/\ZZ r.2.2.2.1/\∀q∈r.2.2.2.2,q):=clnC _ _ _ _ ⟨rfl,rfl,by dsimp only;unfold ZR;omega,by simp[ZZ],by simp⟩
          obtain⟨s',r1,r2,r3,r4⟩:=T7 hrun;have hn:n'<=ZR:=hn;simp only at hvr hbl;subst hvr;subst hbl;refine(Xa Vk r1 ⟨by rw[r3];exact hob,by rw[r4];exact hpo⟩ (C:=ZG w) (β:=fun _=>none) (w:=w) (vs:=[_]) rfl (Se w) (fun _ _ _=>rfl)).mono ?_;rintro e w' ⟨β',u,rfl,_,_,hu,hr'⟩;simp only[List.map_cons,List.map_nil,List.cons.injEq,and_true] at r2;obtain⟨r2,_⟩:=r2;obtain⟨L',hL',hb'⟩:=hr'.blk 1003 _ r2;refine⟨ZU β ib L',u,rfl,Wq hid,fun id h=>by unfold ZU;rw[if_neg (by omega)],?_,?_⟩
          . simp only[γ,γ1,γc,hL'] at hu
            simp only[γ,γ1,γc,W9];exact hu
          . exact D6 (S8 hr (So hr') hid (W8 (by omega)) hr' r2 rfl rfl (fun k j hi=>by simp[ABlk.inb] at hi) hL') hmid rfl rfl
       . have hnil:L.nil=false:=(hk.cells 0 0 (by simp[XX,ABlk.inb,hpos])).1
         obtain⟨p,⟨v,b',n',ob,po⟩,hrun,hvr,hbl,hn,hob,hpo⟩:∃p r,OH prog (.c (.sl 0 0 0 n none)) [(0,RL n (YY F))] p=some r/\(r.1= .c (.sl 1005 0 0 n none)/\r.2.1=[none,some (Yw n (YY F))]/\r.2.2.1<=ZR/\ZZ r.2.2.2.1/\∀q∈r.2.2.2.2,q):=by
          refine clnA _ _ _ ?_;simp only[Nat.zero_add];refine⟨?_,?_,(by first|(unfold ZR;omega)|(dsimp only;unfold ZR;omega)),?_,by simp⟩
          . first|trivial|rfl
          . simp[YW,WH]
          . simp[ZZ,YK,hpos];omega
         obtain⟨s',r1,r2,r3,r4⟩:=T7 hrun;have hn:n'<=ZR:=hn;simp only at hvr hbl;subst hvr;subst hbl;refine(Xa Vk r1 ⟨by rw[r3];exact hob,by rw[r4];exact hpo⟩ (C:=ZG w) (β:=ZU (fun _=>none) 0 L) (w:=w) (vs:=[v0]) ?_ hrel (fun id h1 _=>by unfold ZU;rw[if_neg (by omega)])).mono ?_
         . simp only[γt,γ1,hL3]
         . rintro e w' ⟨β',u,rfl,_,_,hu,hr'⟩
           simp only[List.map_cons,List.map_nil,List.cons.injEq,and_true] at r2;obtain⟨_,r2⟩:=r2;obtain⟨L',hL',hb'⟩:=hr'.blk 1005 _ r2;refine⟨ZU β ib L',u,rfl,Wq hid,fun id h=>by unfold ZU;rw[if_neg (by omega)],?_,?_⟩
           . simp only[γ,γ1,γc,hL'] at hu
             simp only[γ,γ1,γc,W9];exact hu
           . refine S8 hr (So hr') hid (W8 (by omega)) hr' r2 rfl rfl (fun k j _=>?_) hL'
             match j with
             |0=>exact⟨_,rfl⟩
             |1=>exact⟨_,rfl⟩
             |2=>exact⟨_,rfl⟩
             |j+3=>exact⟨_,rfl⟩
     . cases hv
   . cases hct
 . cases hct
def ZT (c:Cfg) (k:Nat) (i:Nat):Int:=match (List.range k).find? (fun q=>Zo c q==Int.ofNat i) with|some q=>Int.ofNat (q / 2)|none=> -1
abbrev nwIds:List Nat:=[70000000000000000000000000000000000001149,90000000000000000000000000000000000001150,50000000000000000000000000000000000001149,10000000000000000000000000000000000001170,10000000000000000000000000000000000001197,10000000000000000000000000000000000001224,10000000000000000000000000000000000001241]
abbrev Ac (c:Cfg):ABlk:=⟨true,false,81,0,.lit [.v (.int .i64 c.nodes),.sl 10000000000000000000000000000000000001170 0 0 c.np (some c.np),.sl 10000000000000000000000000000000000001197 0 0 c.ns (some c.ns),.v (.int .i64 c.long),.sl 10000000000000000000000000000000000001224 0 0 c.nb (some c.nb),.sl 10000000000000000000000000000000000001241 0 0 c.nt (some c.nt),.v (.int .i64 c.miss),.v (.int .i64 c.good),.v (.int .i64 c.fresh),.sl 50000000000000000000000000000000000001149 0 0 c.nodes.toNat none]⟩
abbrev ZS (n:Nat) (f:Nat->Int):ABlk:=WH 3 1 n fun i=>[.int .i64 (f i)]
abbrev TF (c:Cfg) (k:Nat):List ABlk:=[Ac c,ZS (2*c.np) (Zo c),ZS c.nodes.toNat (ZT c k),ZS c.np c.fp,ZS c.ns c.fs,ZS c.nb c.fb,Yw c.nt c.ft]
abbrev JY (c:Cfg) (k:Nat):List AV:=[.c (.ptr 70000000000000000000000000000000000001149 0 0),.c (.sl 90000000000000000000000000000000000001150 0 0 (2*c.np) none),i64 (Int.ofNat (2*c.np)),i64 (Int.ofNat k)]
def FK (P:Program) (c:Cfg) (k:Nat) (path:List Dec):Option VC:=
 view ([7,33,34,35]++[]) nwIds (fC (E1 P) 300 (ZW P 5 1) 1000000000000000000000000000000000000000000 nSt (Wi 50 [7,33,34,35] nwIds (JY c k) (TF c k) path []))
theorem nwl (c:Cfg) (k:Nat) (Q:VC->Prop) (H:let zN:=Int.ofNat;let zM:=ABlk.mk;let zD:=Int.toNat;let zs0:=fun (l:List (Option ABlk))=>yR 81 0 (Cs.lit [zI c.nodes,AC.sl 10000000000000000000000000000000000001170 0 0 c.np (some c.np),AC.sl 10000000000000000000000000000000000001197 0 0 c.ns (some c.ns),zI c.long,AC.sl 10000000000000000000000000000000000001224 0 0 c.nb (some c.nb),AC.sl 10000000000000000000000000000000000001241 0 0 c.nt (some c.nt),zI c.miss,zI c.good,zI c.fresh,AC.sl 50000000000000000000000000000000000001149 0 0 (zD c.nodes) none])::yO 3 1 (Cs.arr (2*c.np) fun k=>List.map AC.v ((fun i=>[Value.int .i64 (Zo c i)]) k))::l;let zs1:=fun (l:List (Option AV))=>some (ZO (List.zip [7,33,34,35] (JY c k)) (0+1+1+1+1+1+1+1))::some (ZO (List.zip [7,33,34,35] (JY c k)) (0+1+1+1+1+1+1+1+1+1+1+1+1+1+1+1+1+1+1+1+1+1+1+1+1+1+1+1+1+1+1+1+1+1))::some (ZO (List.zip [7,33,34,35] (JY c k)) (0+1+1+1+1+1+1+1+1+1+1+1+1+1+1+1+1+1+1+1+1+1+1+1+1+1+1+1+1+1+1+1+1+1+1))::l;(((decide (zN k<zN (2*c.np)))=true->Q (Exit.normal,(zs1 [some (.c (zI (IntKind.wrap .i64 (zN k+zN 1))))]),(zs0 [yO 3 1 (Cs.arr (zD c.nodes) fun i=>if i=0+zD (Zo c (0+zD (zN k))) then YD ((fun k_1=>List.map AC.v ((fun i=>[Value.int .i64 (ZT c k i)]) k_1)) i) 0 [zI (IntKind.wrap .i64 (Int.tdiv (zN k) (zN 2)))] else List.map AC.v ((fun i=>[Value.int .i64 (ZT c k i)]) i)),yO 3 1 (yP c),yO 3 1 (yS c),yO 3 1 (yB c),yO 70 3 (yT c)]),50,1000000000000000000000000000000000000000017,[ABlk.inb (zM true true 3 1 (Cs.arr (zD c.nodes) fun k_1=>List.map AC.v ((fun i=>[Value.int .i64 (ZT c k i)]) k_1))) (0+zD (Zo c (0+zD (zN k)))) 1,decide (zN 0<=Zo c (0+zD (zN k))/\Zo c (0+zD (zN k)) < ↑(zD c.nodes)),true,true,ABlk.inb (zM true true 3 1 (Cs.arr (2*c.np) fun k=>List.map AC.v ((fun i=>[Value.int .i64 (Zo c i)]) k))) (0+zD (zN k)) 1,true,decide (zN 0<=zN k/\zN k < ↑(2*c.np)),decide (zN k<zN (2*c.np))==true],[]))/\((decide (zN k<zN (2*c.np)))=false->Q (Exit.exit 2,(zs1 [some (ZO (List.zip [7,33,34,35] (JY c k)) (0+1+1+1+1+1+1+1+1+1+1+1+1+1+1+1+1+1+1+1+1+1+1+1+1+1+1+1+1+1+1+1+1+1+1+1))]),(zs0 [yO 3 1 (Cs.arr (zD c.nodes) fun k_1=>List.map AC.v ((fun i=>[Value.int .i64 (ZT c k i)]) k_1)),yO 3 1 (yP c),yO 3 1 (yS c),yO 3 1 (yB c),yO 70 3 (yT c)]),50,1000000000000000000000000000000000000000001,[decide (zN k<zN (2*c.np))==false],[])))):
 ∃p r,FK prog c k p=some r/\Q r:=
 ZD H (fun g1=>⟨pD 1 1,_,by kernel_rfl,g1⟩) (fun g1=>⟨pD 1 2,_,by kernel_rfl,g1⟩)
def AK (P:Program):Env:=⟨P,[(38,Ys (fun c=>i64 (X7 c)) fun _=>true),(40,Ys (fun c=>i64 (WS c)) fun _=>true),(41,Ys (fun c=>i64 (XB c)) fun c=>decide (1<=c.np)&&decide (c.np<=1000)),
 (46,Ys (fun c=>i64 (WT c)) fun _=>true),(47,Ys (fun c=>i64 (Xk c)) fun c=>decide (c.np<=1000000)&&decide (c.ns<=1000000)),(49,Ys (fun c=>i64 (Wv c)) VR),
 (50,Ys (fun c=>i64 (Xl c)) fun c=>decide (c.nb<=9223372036854775807)),(53,Ys (fun c=>i64 (WU c)) fun _=>true),(54,Ys (fun c=>i64 (XC c)) fun c=>decide (c.nt<=1000000)),(55,Ys (fun c=>i64 (Xj c)) fun _=>true),
 (17,UU),(16,Tm),(59,WB)]⟩
theorem BW:ZC (AK prog):=by
 refine Xf (fun f g h=>?_) (by kernel_rfl) (by kernel_rfl);simp only[AK,List.mem_cons,Prod.mk.injEq,List.not_mem_nil,or_false] at h;rcases h with⟨rfl,rfl⟩|⟨rfl,rfl⟩|⟨rfl,rfl⟩|⟨rfl,rfl⟩|⟨rfl,rfl⟩|⟨rfl,rfl⟩|⟨rfl,rfl⟩|⟨rfl,rfl⟩|⟨rfl,rfl⟩|⟨rfl,rfl⟩|⟨rfl,rfl⟩|⟨rfl,rfl⟩|⟨rfl,rfl⟩
 . exact jjqx
 . exact jjqw
 . exact jjqv
 . exact jjqu
 . exact jjqt
 . exact jjqs
 . exact jjqr
 . exact jjqq
 . exact jjqp
 . exact jjnu
 . exact Dm
 . exact jjgk
 . exact NB
def Bi (c:Cfg):Cfg:=Cfg.mk (Cfg.nodes c) (Cfg.np c) (fA (YW (ABlk.mk false false 3 1 (Cs.arr (Cfg.np c) fun k=>List.map AC.v ((fun i=>[Value.int IntKind.i64 (Cfg.fp c i)]) k))) 0 0 1)) (Cfg.ns c) (fA (YW (ABlk.mk false false 3 1 (Cs.arr (Cfg.ns c) fun k=>List.map AC.v ((fun i=>[Value.int IntKind.i64 (Cfg.fs c i)]) k))) 0 0 1)) (Cfg.long c) (Cfg.nb c) (fA (YW (ABlk.mk false false 3 1 (Cs.arr (Cfg.nb c) fun k=>List.map AC.v ((fun i=>[Value.int IntKind.i64 (Cfg.fb c i)]) k))) 0 0 1)) (Cfg.nt c) (YY (YW (ABlk.mk false false 70 3 (Cs.arr (Cfg.nt c) fun k=>List.map AC.v ((fun i=>[Value.int IntKind.i64 (Station.node (Cfg.ft c i)),Value.int IntKind.u32 (Station.safe (Cfg.ft c i)),Value.int IntKind.i64 (Station.hold (Cfg.ft c i))]) k))) 0 0 3)) (Cfg.miss c) (Cfg.good c) (Cfg.fresh c)
theorem jjod (c:Cfg):Bi c=c:=by
 unfold Bi;simp only[Pf,HZ]
def nwR (P:Program) (c:Cfg) (path:List Dec):Option VF:=ZB nwIds (ZM (AK P) (fC (AK P) 300) 5 [.agg (VU c)] 1000 nSt (XW (SQ c) path [none,none,some ⟨[7,33,34,35],nwIds,ZQ 50 [(7,.c (.ptr 70000000000000000000000000000000000001149 0 0))],nwIds.zip (TF c (2*c.np)),100000000000000000000000000000000000000000000000000,.exit 2⟩]))
set_option maxRecDepth 1000000
theorem nw (c:Cfg) (Q:VF->Prop) (H:let zN:=Int.ofNat;let zM:=ABlk.mk;let zD:=Int.toNat;let zz5:=(yT c);let zz0:=(Zj (zM false false 70 3 zz5) 0 0 3);let zz1:=(yP c);let zz2:=(yS c);let zz3:=(yB c);let zz4:=(zM true true 70 3 (Cs.arr (Cfg.nt c) fun k=>List.map AC.v ((fun i=>[Value.int IntKind.i64 (Station.node (YY zz0 i)),Value.int IntKind.u32 (Station.safe (YY zz0 i)),Value.int IntKind.i64 (Station.hold (YY zz0 i))]) k)));let zq0:List Bool:=(VH c)::(zt (y3 ([])));let zq1:List Bool:=(VH c)::(zt (y3 ((((X7 c !=zN 0)==false)::zq0))));let zq2:List Bool:=(VH c)::(decide (1<=c.np)&&decide (c.np<=1000))::(zt (true::true::(((WS c !=zN 0)==false)::zq1)));let zq3:List Bool:=(VH c)::(zt (y3 ((((XB c !=zN 0)==false)::zq2))));let zq4:List Bool:=(VH c)::(decide (c.np<=1000000)&&decide (c.ns<=1000000))::(zt (true::true::(((WT c !=zN 0)==false)::zq3)));let zq5:List Bool:=(VH c)::(VR c)::(zt (true::true::(((Xk c !=zN 0)==false)::zq4)));let zq6:List Bool:=(VH c)::(decide (c.nb<=9223372036854775807))::(zt (true::true::(((Wv c !=zN 0)==false)::zq5)));let zq7:List Bool:=(VH c)::(zt (y3 ((((Xl c !=zN 0)==false)::zq6))));let zq8:List Bool:=(VH c)::(decide (c.nt<=1000000))::(zt (true::true::(((WU c !=zN 0)==false)::zq7)));let zq9:List Bool:=(VH c)::(zt (y3 ((((XC c !=zN 0)==false)::zq8))));let ze1:AV:=.c (.ptr 70000000000000000000000000000000000001149 0 0);let ze0:AV:=.c (AC.v (Value.pointer none));(((X7 c !=zN 0)=true->Q (.tup [ze0,.c (zI (X7 c))],[none,none,none,none,none,none,none],1032,(((X7 c !=zN 0)==true)::zq0),[]))/\((X7 c !=zN 0)=false->(((WS c !=zN 0)=true->Q (.tup [ze0,.c (zI (WS c))],[none,none,none,none,none,none,none],1045,(((WS c !=zN 0)==true)::zq1),[]))/\((WS c !=zN 0)=false->(((XB c !=zN 0)=true->Q (.tup [ze0,.c (zI (XB c))],[none,none,none,none,none,none,none],1058,(((XB c !=zN 0)==true)::zq2),[]))/\((XB c !=zN 0)=false->(((WT c !=zN 0)=true->Q (.tup [ze0,.c (zI (WT c))],[none,none,none,none,none,none,none],1071,(((WT c !=zN 0)==true)::zq3),[]))/\((WT c !=zN 0)=false->(((Xk c !=zN 0)=true->Q (.tup [ze0,.c (zI (Xk c))],[none,none,none,none,none,none,none],1084,(((Xk c !=zN 0)==true)::zq4),[]))/\((Xk c !=zN 0)=false->(((Wv c !=zN 0)=true->Q (.tup [ze0,.c (zI (Wv c))],[none,none,none,none,none,none,none],1097,(((Wv c !=zN 0)==true)::zq5),[]))/\((Wv c !=zN 0)=false->(((Xl c !=zN 0)=true->Q (.tup [ze0,.c (zI (Xl c))],[none,none,none,none,none,none,none],1110,(((Xl c !=zN 0)==true)::zq6),[]))/\((Xl c !=zN 0)=false->(((WU c !=zN 0)=true->Q (.tup [ze0,.c (zI (WU c))],[none,none,none,none,none,none,none],1123,(((WU c !=zN 0)==true)::zq7),[]))/\((WU c !=zN 0)=false->(((XC c !=zN 0)=true->Q (.tup [ze0,.c (zI (XC c))],[none,none,none,none,none,none,none],1136,(((XC c !=zN 0)==true)::zq8),[]))/\((XC c !=zN 0)=false->(((Xj c !=zN 0)=true->Q (.tup [ze0,.c (zI (Xj c))],[none,none,none,none,none,none,none],1149,(((Xj c !=zN 0)==true)::zq9),[]))/\((Xj c !=zN 0)=false->Q (.tup [ze1,.c (zI (zN 0))],[yR 81 0 (Cs.lit [zI c.nodes,AC.sl 10000000000000000000000000000000000001170 0 0 c.np (some c.np),AC.sl 10000000000000000000000000000000000001197 0 0 c.ns (some c.ns),zI c.long,AC.sl 10000000000000000000000000000000000001224 0 0 c.nb (some c.nb),AC.sl 10000000000000000000000000000000000001241 0 0 c.nt (some c.nt),zI c.miss,zI c.good,zI c.fresh,AC.sl 50000000000000000000000000000000000001149 0 0 (zD c.nodes) none]),yO 3 1 (Cs.arr (2*c.np) fun k=>List.map AC.v ((fun i=>[Value.int .i64 (Zo c i)]) k)),yO 3 1 (Cs.arr (zD c.nodes) fun k=>List.map AC.v ((fun i=>[Value.int .i64 (ZT c (2*c.np) i)]) k)),yO 3 1 zz1,yO 3 1 zz2,yO 3 1 zz3,yO 70 3 zz5],100000000000000000000000000000000000000000000000003,((VH c)::(decide (c.np<=1000))::(zt ((decide (zN 1<=c.nodes))::(decide (c.nodes<=zN 1000000))::(zt (zt (true::((decide (zN 0<=zN 0/\zN 0<=Option.getD (some ↑(c.nt)) ↑(c.nt)/\Option.getD (some ↑(c.nt)) ↑(c.nt)<=YR none c.nt (some ↑(c.nt))))::true::(decide (YR none c.nt (some ↑(c.nt)) <= ↑(Option.getD none c.nt)))::true::(Zt none zz4 0 c.nt)::(decide (0+c.nt<=c.nt))::(decide (c.nt<=1000000))::(Yv c.nt fun k=>List.map AC.v ((fun i=>[Value.int .i64 (Station.node (c.ft i)),Value.int .u32 (Station.safe (c.ft i)),Value.int .i64 (Station.hold (c.ft i))]) k))::true::true::(decide (zN 0<=zN 0/\zN 0<=Option.getD (some ↑(0+c.nb)) ↑(0+c.nb)/\Option.getD (some ↑(0+c.nb)) ↑(0+c.nb)<=YR none (0+c.nb) (some ↑(0+c.nb))))::true::(decide (YR none (0+c.nb) (some ↑(0+c.nb)) <= ↑(Option.getD none (0+c.nb))))::true::(Zt none (zM true true 3 1 (Cs.arr (0+c.nb) fun i=>if i<0 then[] else YW (zM false false 3 1 zz3) 0 0 1 (i-0))) 0 (0+c.nb))::(decide (0+c.nb<=c.nb))::true::true::(decide ((0+c.nb)*8<=140737488355328))::(ABlk.inb (zM false false 3 1 zz3) 0 1)::y3 (true::(decide (zN 0<=zN 0/\zN 0<=Option.getD (some ↑(0+c.ns)) ↑(0+c.ns)/\Option.getD (some ↑(0+c.ns)) ↑(0+c.ns)<=YR none (0+c.ns) (some ↑(0+c.ns))))::true::(decide (YR none (0+c.ns) (some ↑(0+c.ns)) <= ↑(Option.getD none (0+c.ns))))::true::(Zt none (zM true true 3 1 (Cs.arr (0+c.ns) fun i=>if i<0 then[] else YW (zM false false 3 1 zz2) 0 0 1 (i-0))) 0 (0+c.ns))::(decide (0+c.ns<=c.ns))::true::true::(decide ((0+c.ns)*8<=140737488355328))::(ABlk.inb (zM false false 3 1 zz2) 0 1)::y3 (true::(decide (zN 0<=zN 0/\zN 0<=Option.getD (some ↑(0+c.np)) ↑(0+c.np)/\Option.getD (some ↑(0+c.np)) ↑(0+c.np)<=YR none (0+c.np) (some ↑(0+c.np))))::true::(decide (YR none (0+c.np) (some ↑(0+c.np)) <= ↑(Option.getD none (0+c.np))))::true::(Zt none (zM true true 3 1 (Cs.arr (0+c.np) fun i=>if i<0 then[] else YW (zM false false 3 1 zz1) 0 0 1 (i-0))) 0 (0+c.np))::(decide (0+c.np<=c.np))::true::true::(decide ((0+c.np)*8<=140737488355328))::(ABlk.inb (zM false false 3 1 zz1) 0 1)::(zt (true::(((Xj c !=zN 0)==false)::zq9)))))))))))),[LoopV prog (ZW prog 5 1) [7,33,34,35] nwIds [some (ze1),some (.c (.sl 90000000000000000000000000000000000001150 0 0 (2*c.np) none)),some (.c (.v (.int .i64 ↑(2*c.np)))),some (.c (zI (zN 0)))] [yR 81 0 (Cs.lit [zI c.nodes,AC.sl 10000000000000000000000000000000000001170 0 0 (zD (Option.getD (some ↑(0+c.np)) ↑(0+c.np)-zN 0)) (some (zD (↑(0+c.np)-zN 0))),AC.sl 10000000000000000000000000000000000001197 0 0 (zD (Option.getD (some ↑(0+c.ns)) ↑(0+c.ns)-zN 0)) (some (zD (↑(0+c.ns)-zN 0))),zI c.long,AC.sl 10000000000000000000000000000000000001224 0 0 (zD (Option.getD (some ↑(0+c.nb)) ↑(0+c.nb)-zN 0)) (some (zD (↑(0+c.nb)-zN 0))),AC.sl 10000000000000000000000000000000000001241 0 0 (zD (Option.getD (some ↑(c.nt)) ↑(c.nt)-zN 0)) (some (zD (↑(c.nt)-zN 0))),zI c.miss,zI c.good,zI c.fresh,AC.sl 50000000000000000000000000000000000001149 0 0 (zD c.nodes) none]),yO 3 1 (Cs.arr (2*c.np) fun k=>List.map AC.v ((fun i=>[Value.int .i64 (Zo (Cfg.mk c.nodes c.np (fA (Zj (zM false false 3 1 zz1) 0 0 1)) c.ns (fA (Zj (zM false false 3 1 zz2) 0 0 1)) c.long c.nb (fA (Zj (zM false false 3 1 zz3) 0 0 1)) c.nt (YY zz0) c.miss c.good c.fresh) i)]) k)),yO 3 1 (Cs.arr (zD c.nodes) fun k=>List.map AC.v ((fun i=>[Value.int .i64 (if i<zD c.nodes then fA (Zj (zM true false 3 0 (Cs.lit [zI (Int.negSucc 0)])) 0 0 1) 0 else 0)]) k)),yO 3 1 (Cs.arr (0+c.np) fun i=>if i<0 then[] else YW (zM false false 3 1 zz1) 0 0 1 (i-0)),yO 3 1 (Cs.arr (0+c.ns) fun i=>if i<0 then[] else YW (zM false false 3 1 zz2) 0 0 1 (i-0)),yO 3 1 (Cs.arr (0+c.nb) fun i=>if i<0 then[] else YW (zM false false 3 1 zz3) 0 0 1 (i-0)),some zz4] 50 90000000000000000000000000000000000001153 (ZQ 50 [(7,ze1)]) (List.zip nwIds (TF c (2*c.np))) 100000000000000000000000000000000000000000000000000 (Exit.exit 2) none])))))))))))))))))))))):
 ∃p r,nwR prog c p=some r/\Q r:=
 ZD H (fun g1=>⟨pD 2 3,_,by kernel_rfl,g1⟩) (fun g1=>ZD g1 (fun g2=>⟨pD 4 33,_,by kernel_rfl,g2⟩) (fun g2=>ZD g2 (fun g3=>⟨pD 6 303,_,by kernel_rfl,g3⟩) (fun g3=>ZD g3 (fun g4=>⟨pD 8 2733,_,by kernel_rfl,g4⟩) (fun g4=>ZD g4 (fun g5=>⟨pD 10 24603,_,by kernel_rfl,g5⟩) (fun g5=>ZD g5 (fun g6=>⟨pD 12 221433,_,by kernel_rfl,g6⟩) (fun g6=>ZD g6 (fun g7=>⟨pD 14 1992903,_,by kernel_rfl,g7⟩) (fun g7=>ZD g7 (fun g8=>⟨pD 16 17936133,_,by kernel_rfl,g8⟩) (fun g8=>ZD g8 (fun g9=>⟨pD 18 161425203,_,by kernel_rfl,g9⟩) (fun g9=>ZD g9 (fun g10=>⟨pD 20 1452826833,_,by kernel_rfl,g10⟩) (fun g10=>⟨pD 28 2615088300,_,by kernel_rfl,g10⟩))))))))))
end Go.Proofs.YtljeokninakliaaGreatDoor
end
section
namespace Go.Proofs.YtljeokninakliaaGreatDoor
open Go.RowKit Tryz
theorem PV {x lo hi:Int} (h:ZL x lo hi=0):lo<=x/\x<=hi:=by
 unfold ZL at h;split at h
 . omega
 . split at h<;>omega
theorem jjdm (c:Cfg) (k:Nat) (hnd:∀q,q<k->Zo c q≠Zo c k) (i:Nat):ZT c (k+1) i=if Zo c k=Int.ofNat i then Int.ofNat (k / 2) else ZT c k i:=by
 unfold ZT;rw[List.range_succ,List.find?_append]
 cases e:(List.range k).find? (fun q=>Zo c q==Int.ofNat i) with
 |some q=>
  have h1:Zo c q=Int.ofNat i:=by simpa using List.find?_some e
  have h2:q<k:=by simpa using List.mem_of_find?_eq_some e
  rw[if_neg (fun h=>hnd q h2 (by rw[h1,h]))];rfl
 |none=>
  by_cases h:Zo c k=Int.ofNat i
  . rw[if_pos h];simp[h]
  . rw[if_neg h]
    have:(Zo c k==Int.ofNat i)=false:=by simpa using h
    simp only[List.find?_cons,this,List.find?_nil,Option.none_or]
theorem DJ {c:Cfg} {k:Nat}:∀b∈TF c k,Zd 90000000000000000000000000000000000001153 b:=by
 intro b hb;simp only[List.mem_cons,List.not_mem_nil,or_false] at hb;rcases hb with rfl|rfl|rfl|rfl|rfl|rfl|rfl
 . exact Yg rfl
 all_goals exact Y8
theorem jjq0 (c:Cfg) (h4:4<=c.nodes) (h16:c.nodes<=16) (hp:c.np<=8) (hr:∀q,q<2*c.np->0<=Zo c q/\Zo c q<c.nodes) (hnd:∀q q',q<q'->q'<2*c.np->Zo c q≠Zo c q') {eblks:List (Option ABlk)} (heb:BL (TF c 0) eblks):
 LoopV prog (ZW prog 5 1) [7,33,34,35] nwIds ((JY c 0).map some) eblks 50 90000000000000000000000000000000000001153 (ZQ 50 [(7,.c (.ptr 70000000000000000000000000000000000001149 0 0))]) (nwIds.zip (TF c (2*c.np))) 100000000000000000000000000000000000000000000000000 (.exit 2) none:=by
 refine Pn Vk (fuel:=300) (str:=nSt) (nh:=1000000000000000000000000000000000000000000) (S:=Nat) (fun k=>k<=2*c.np) (fun k=>2*c.np-k) [7,33,34,35] [] nwIds (JY c) (TF c) (by decide) (by decide) (by unfold ZR;omega) (s0:=0) (by omega) (fun _=>⟨rfl,rfl⟩) (by kernel_rfl) heb (fun k _=>⟨rfl,DJ⟩) ?_;intro k hk;have e0:0+Int.toNat (Int.ofNat k)=k:=by simp
 refine(?_:(∃p r,FK prog c k p=some r/\_)->_) (nwl c k (XA 90000000000000000000000000000000000001153 100000000000000000000000000000000000000000000000000 50 [7,33,34,35] [] nwIds (fun k=>k<=2*c.np) (fun k=>2*c.np-k) (JY c) (TF c) (.exit 2) [(7,.c (.ptr 70000000000000000000000000000000000001149 0 0))] (nwIds.zip (TF c (2*c.np))) k) ?_)
 . rintro⟨p,r,h1,h2⟩
   exact⟨p,[],r,h1,h2⟩
 . simp only[e0]
   refine⟨fun c1=>?_,fun c1=>?_⟩
   . have hlt:k<2*c.np:=by simp at c1;omega
     obtain⟨q1,q2⟩:=hr k hlt;refine⟨?_,rfl,by dsimp only;omega,rfl,.inl ⟨rfl,k+1,by omega,by show 2*c.np-(k+1)<2*c.np-k;omega,?_,BEq.refl _,BEq.refl _,?_,BEq.refl _,BEq.refl _,BEq.refl _,BEq.refl _,trivial⟩⟩
     . simp only[ZZ,List.forall_mem_cons,e0]
       simp[YK,WI,hlt,q1,q2];omega
     . dsimp only
       rw[Wu _ (by simp;omega) (by simp;omega)];rfl
     . refine⟨rfl,rfl,rfl,rfl,.inr (.inl ⟨c.nodes.toNat,_,_,rfl,rfl,fun i hi=>?_⟩)⟩
       have hv:IntKind.wrap IntKind.i64 (Int.tdiv (Int.ofNat k) (Int.ofNat 2))=Int.ofNat (k / 2):=by
        rw[Wu _ (by simp;omega) (by simp;omega)];simp
       show _=List.map AC.v [Value.int .i64 (ZT c (k+1) i)];rw[jjdm c k (fun q hq=>hnd q k hq hlt) i,hv];by_cases h:Zo c k=Int.ofNat i
       . have hi':i=0+Int.toNat (Zo c k):=by rw[h];simp
         rw[if_pos hi',if_pos h];rfl
       . have hi':¬i=0+Int.toNat (Zo c k):=fun e=>h (by rw[e];simp;omega)
         rw[if_neg hi',if_neg h]
   . have hge:k=2*c.np:=by simp at c1;omega
     subst hge;refine⟨by simp[ZZ],rfl,by dsimp only;omega,rfl,.inr ⟨by simp,rfl,fun q hq=>?_,fun p hpp=>?_⟩⟩
     . rw[List.mem_singleton.1 hq]
       exact⟨rfl,List.mem_cons_self ..⟩
     . exact⟨List.all_eq_true.1 (KU (f:=Zc 90000000000000000000000000000000000001153 100000000000000000000000000000000000000000000000000) (ids:=nwIds) (bs:=TF c (2*c.np)) (by kernel_rfl)) p hpp,DJ _ (List.of_mem_zip hpp).2,p.2,OU hpp,BEq.refl _⟩
def Zu (c:Cfg):Int:=
 if X7 c≠0 then X7 c else if WS c≠0 then WS c else if XB c≠0 then XB c else if WT c≠0 then WT c else if Xk c≠0 then Xk c else if Wv c≠0 then Wv c else if Xl c≠0 then Xl c else if WU c≠0 then WU c else if XC c≠0 then XC c else Xj c
theorem jjgo {c:Cfg} (r1:X7 c=0) (r3:XB c=0):(4<=c.nodes/\c.nodes<=16)/\(∀q,q<2*c.np->0<=Zo c q/\Zo c q<c.nodes)/\(∀q q',q<q'->q'<2*c.np->Zo c q≠Zo c q'):=by
 have hn:=PV r1;unfold XB at r3;split at r3
 . rename_i h
   simp only[Bool.and_eq_true] at h;obtain⟨hi,_,hd⟩:=h
   have hin:∀i,i<c.np->0<=c.fp i/\c.fp i<c.nodes:=fun i h=>by
    have:=List.all_eq_true.1 hi i (by simpa using h);simpa using this
   refine⟨hn,fun q hq=>?_,fun q q' h1 h2=>?_⟩
   . obtain⟨a,b⟩:=hin (q / 2) (by omega)
     unfold Zo TM;split
     . exact⟨a,b⟩
     . rw[if_pos ⟨hn.1,hn.2,a,b⟩]
       exact⟨Int.emod_nonneg _ (by omega),Int.emod_lt_of_pos _ (by omega)⟩
   . have hd:=of_decide_eq_true hd
     rw[List.Nodup,List.pairwise_map] at hd;have:=List.pairwise_iff_getElem.1 hd q q' (by simp;omega) (by simpa using h2) h1;simpa using this
 . cases r3
def Ad (c:Cfg) (r:VF):Prop:=r.2.2.1<=ZR/\ZZ r.2.2.2.1/\(∀q∈r.2.2.2.2,q)/\
 ((Zu c=0/\r.1= .tup [.c (.ptr 70000000000000000000000000000000000001149 0 0),i64 0]/\r.2.1=(TF c (2*c.np)).map some)\/(Zu c≠0/\r.1= .tup [.c (.v (.pointer none)),i64 (Zu c)]))
theorem Ev (c:Cfg) (hb:c.nb<=9223372036854775807):∃p r,nwR prog c p=some r/\Ad c r:=by
 refine nw c _ ?_;simp only[jjod,Yb,Pf,Yi,HZ,Ya];have f2:WS c=0->2<=c.np/\c.np<=8:=fun h=>by have:=PV h;omega
 have f4:WT c=0->1<=c.ns/\c.ns<=16:=fun h=>by have:=PV h;omega
 have f8:WU c=0->c.nt<=8:=fun h=>by have:=PV h;omega
 have f1:X7 c=0->4<=c.nodes/\c.nodes<=16:=fun h=>PV h
 have f7:Xl c=0->(c.nb:Int)=c.nodes:=fun h=>by unfold Xl at h;split at h;assumption;cases h
 have f13:=fun a b=>@jjgo c a b
 have t1:∀n:Nat,((some ((0+n:Nat):Int)).getD ((0+n:Nat):Int)-Int.ofNat 0).toNat=n:=fun n=>by simp
 have t2:∀n:Nat,(((0+n:Nat):Int)-Int.ofNat 0).toNat=n:=fun n=>by simp
 have t3:∀n:Nat,((some ((n:Nat):Int)).getD ((n:Nat):Int)-Int.ofNat 0).toNat=n:=fun n=>by simp
 have t4:∀n:Nat,(((n:Nat):Int)-Int.ofNat 0).toNat=n:=fun n=>by simp
 simp only[t1,t2,t3,t4]
 repeat' (first|refine⟨fun h=>?_,fun h=>?_⟩|fail)
 all_goals (simp only[bne_iff_ne,ne_eq,bne_eq_false_iff_eq,show (Int.ofNat 0)=(0:Int) from rfl] at *)
 iterate 10 (rotate_left)
 . -- a net
   rename_i e1 e2 e3 e4 e5 e6 e7 e8 e9;have e10:=h;obtain⟨⟨n4,n16⟩,hr,hnd⟩:=f13 e1 e3;have g2:=f2 e2;have g4:=f4 e4;have g7:=f7 e7;have g8:=f8 e8;have hz:Zu c=0:=by simp[Zu,e1,e2,e3,e4,e5,e6,e7,e8,e9,e10]
   refine⟨(by first|(unfold ZR;omega)|(dsimp only;unfold ZR;omega)),?_,fun q hq=>?_,.inl ⟨hz,rfl,rfl⟩⟩
   . clear f1 f2 f4 f7 f8 f13 hr hnd
     simp[ZZ,Yb,VR,e1,e2,e3,e4,e5,e6,e7,e8,e9,e10,Yi,Ya,YK,WI,Zj,YW,Uo,ZE,YR,Zt,hb];omega
   . rw[List.mem_singleton.1 hq]
     refine jjq0 c n4 n16 g2.2 hr hnd ⟨BEq.refl _,BEq.refl _,⟨rfl,rfl,rfl,rfl,.inr (.inl ⟨_,_,_,rfl,rfl,fun i hi=>?_⟩)⟩,⟨rfl,rfl,rfl,rfl,.inr (.inl ⟨c.np,_,_,by rw[Nat.zero_add],rfl,fun i hi=>?_⟩)⟩,⟨rfl,rfl,rfl,rfl,.inr (.inl ⟨c.ns,_,_,by rw[Nat.zero_add],rfl,fun i hi=>?_⟩)⟩,⟨rfl,rfl,rfl,rfl,.inr (.inl ⟨c.nb,_,_,by rw[Nat.zero_add],rfl,fun i hi=>?_⟩)⟩,BEq.refl _,trivial⟩
     . simp[hi,ZT,fA,Zj,YW,ZP]
     . simp[YW]
     . simp[YW]
     . simp[YW]
 all_goals
  clear f13;refine⟨(by first|(unfold ZR;omega)|(dsimp only;unfold ZR;omega)),?_,(by simp),.inr ⟨?_,?_⟩⟩
  rotate_left
  . simp_all[Zu]
  . simp_all[Zu,i64]
  . simp_all[ZZ,Yb,VR,Yi,Ya,YK,WI,Zj,YW,Uo,ZE,YR,Zt]
    try omega
abbrev Jc (ib:Nat) (c:Cfg):List AC:=[.v (.int .i64 c.nodes),.sl (ib+2) 0 0 c.np (some c.np),.sl (ib+3) 0 0 c.ns (some c.ns),.v (.int .i64 c.long),.sl (ib+4) 0 0 c.nb (some c.nb),.sl (ib+5) 0 0 c.nt (some c.nt),.v (.int .i64 c.miss),.v (.int .i64 c.good),.v (.int .i64 c.fresh),.sl (ib+1) 0 0 c.nodes.toNat none]
abbrev Xv (ib:Nat) (c:Cfg):ABlk:=⟨true,false,81,0,.lit (Jc ib c)⟩
abbrev M8 (ib:Nat) (c:Cfg):List (Nat × Nat × ABlk):=[(ib,70000000000000000000000000000000000001149,Xv ib c),(ib+1,50000000000000000000000000000000000001149,ZS c.nodes.toNat (ZT c (2*c.np))),(ib+2,10000000000000000000000000000000000001170,ZS c.np c.fp),(ib+3,10000000000000000000000000000000000001197,ZS c.ns c.fs),(ib+4,10000000000000000000000000000000000001224,ZS c.nb c.fb),(ib+5,10000000000000000000000000000000000001241,Yw c.nt c.ft)]
abbrev nwM (ib:Nat) (c:Cfg):AMem:=[(ib,Xv ib c),(ib+1,ZS c.nodes.toNat (ZT c (2*c.np))),(ib+2,ZS c.np c.fp),(ib+3,ZS c.ns c.fs),(ib+4,ZS c.nb c.fb),(ib+5,Yw c.nt c.ft)]
def JD:Yk
 | [.agg l],m,ib=>
  match US l m,WG mS m with
  |some (c,b),true=>some (.tup [.c (.ptr ib 0 0),i64 0],nwM ib c,6,[b,decide (c.nb<=9223372036854775807),decide (Zu c=0)])
  |_,_=>none
 |_,_,_=>none
def MZ:Yk
 | [.agg l],m,_=>
  match US l m,WG mS m with
  |some (c,b),true=>some (.tup [.c (.v (.pointer none)),i64 (Zu c)],[],0,[b,decide (c.nb<=9223372036854775807),decide (Zu c≠0)])
  |_,_=>none
 |_,_,_=>none
theorem jjom {β β':Nm} {i i':Nat} (h:β' i'=β i) (k j:Nat):ad β' i' k j=ad β i k j:=by unfold ad;rw[h]
theorem jjlh {β β':Nm} (L:List Value) (j:Nat):∀u,γc β ((L.map AC.v).getD j ZV)=some u->γc β' ((L.map AC.v).getD j ZV)=some u:=by
 intro u hu;simp only[List.getD,List.getElem?_map] at hu ⊢
 cases e:L[j]? with
 |none=>rw[e] at hu;simp only[Option.map_none,Option.getD_none] at hu ⊢;exact hu
 |some v=>rw[e] at hu;simp only[Option.map_some,Option.getD_some] at hu ⊢;exact hu
theorem NV {β1 β':Nm} {m1:AMem} {o ty s n:Nat} {F:Nat->List Value} (h:ZY m1 o=some (WH ty s n F)):OutOk β1 β' m1 o (WH ty s n F) (WH ty s n F):=
 ⟨h,rfl,rfl,rfl,rfl,rfl,rfl,.inr ⟨_,_,rfl,rfl⟩,fun k j _ u hu=>jjlh (F k) j u hu⟩
theorem jjnv:ZA prog 5 MZ:=by
 refine⟨⟨_,_,Tryz.func5,rfl⟩,fun C β m m2 w args ib r news k' ob vs hct ho hs hr hfree hlim hv=>?_⟩;unfold MZ at hct;split at hct
 . rename_i l
   split at hct
   . rename_i c b hc hg
     simp only[Option.some.injEq,Prod.mk.injEq] at hct;obtain⟨rfl,rfl,rfl,rfl⟩:=hct;simp only[ZZ,List.forall_mem_cons,decide_eq_true_eq] at ho;obtain⟨rfl,o2,o3,_⟩:=ho;obtain⟨p,⟨v,b',n',ob,po⟩,hrun,hn,hob,hpo,hvr⟩:=Ev c o2;obtain⟨s',r1,r2,r3,r4⟩:=T7 hrun;have hn:n'<=ZR:=hn;rcases hvr with⟨h0,_⟩|⟨_,hvr⟩
     . exact absurd h0 o3
     simp only[γt,γ1] at hv;split at hv
     . rename_i v0 us hv0 hus
       split at hv0
       . rename_i cs hcs
         cases hv0;cases hus;cases hv;obtain⟨β1,q1,q2,q3⟩:=LL hs hr hc hg hcs;refine(Xa BW r1 ⟨by rw[r3];exact hob,by rw[r4];exact hpo⟩ (C:=ZG w) (β:=β1) (w:=w) (vs:=[.agg cs.toArray]) ?_ q1 (fun id h1 h2=>q3 id h1 (by omega))).mono ?_
         . simp only[γt,γ1,q2]
         . rintro e w' ⟨β',u,rfl,_,_,hu,hr'⟩
           simp only at hvr;subst hvr;exact⟨β,u,rfl,Ext.refl _,fun _ _=>rfl,hu,by rw[List.append_nil];exact hr.below (So hr')⟩
       . cases hv0
     . cases hv
   . cases hct
 . cases hct
theorem jjr1 : ZA prog 5 JD:=by
 refine⟨⟨_,_,Tryz.func5,rfl⟩,fun C β m m2 w args ib r news k' ob vs hct ho hs hr hfree hlim hv=>?_⟩;unfold JD at hct;split at hct
 . rename_i l
   split at hct
   . rename_i c b hc hg
     simp only[Option.some.injEq,Prod.mk.injEq] at hct;obtain⟨rfl,rfl,rfl,rfl⟩:=hct;simp only[ZZ,List.forall_mem_cons,decide_eq_true_eq] at ho;obtain⟨rfl,o2,o3,_⟩:=ho;obtain⟨p,⟨v,b',n',ob,po⟩,hrun,hn,hob,hpo,hvr⟩:=Ev c o2;obtain⟨s',r1,r2,r3,r4⟩:=T7 hrun;have hn:n'<=ZR:=hn;rcases hvr with⟨_,hvr,hbl⟩|⟨h0,_⟩
     rotate_left
     . exact absurd o3 h0
     simp only[γt,γ1] at hv;split at hv
     . rename_i v0 us hv0 hus
       split at hv0
       . rename_i cs hcs
         cases hv0;cases hus;cases hv;obtain⟨β1,q1,q2,q3⟩:=LL hs hr hc hg hcs;refine(Xa BW r1 ⟨by rw[r3];exact hob,by rw[r4];exact hpo⟩ (C:=ZG w) (β:=β1) (w:=w) (vs:=[.agg cs.toArray]) ?_ q1 (fun id h1 h2=>q3 id h1 (by omega))).mono ?_
         . simp only[γt,γ1,q2]
         . rintro e w' ⟨β2,u,rfl,_,_,hu,hr'⟩
           simp only at hvr hbl;subst hvr;subst hbl;simp only[List.map_cons,List.map_nil,List.cons.injEq,and_true] at r2;obtain⟨k0,_,k1,k2,k3,k4,k5⟩:=r2;have hnd:((M8 ib c).map (·.1)).Nodup:=by simp
           have hnd2:∀p∈M8 ib c,∀q∈M8 ib c,p.2.1=q.2.1->p.1=q.1:=by
            intro p hp q hq e;simp only[List.mem_cons,List.not_mem_nil,or_false] at hp hq;rcases hp with rfl|rfl|rfl|rfl|rfl|rfl<;>rcases hq with rfl|rfl|rfl|rfl|rfl|rfl<;>first|rfl|(exact absurd e (by dsimp only;omega))
           have hj:=jjjd hr (So hr') hr' hnd hnd2 (fun p hp=>?_) ?_
           . refine⟨_,u,rfl,hj.2,fun id h=>ND fun p hp=>?_,?_,hj.1⟩
             . simp only[List.mem_cons,List.not_mem_nil,or_false] at hp
               rcases hp with rfl|rfl|rfl|rfl|rfl|rfl<;>dsimp only<;>omega
             . have e0:Wy β β2 (M8 ib c) ib=β2 70000000000000000000000000000000000001149:=Rt hnd (p:=(ib,_,_)) (List.mem_cons_self ..)
               simp only[γ,γt,γ1,γc,jjom e0] at hu ⊢;exact hu
           . simp only[List.mem_cons,List.not_mem_nil,or_false] at hp
             rcases hp with rfl|rfl|rfl|rfl|rfl|rfl<;>exact⟨hfree _ (by dsimp only;omega) (by dsimp only;omega),W8 (by dsimp only;omega)⟩
           . have e1:Wy β β2 (M8 ib c) (ib+1)=β2 50000000000000000000000000000000000001149:=Rt hnd (p:=(ib+1,_,_)) (List.mem_cons_of_mem _ (List.mem_cons_self ..))
             have e2:Wy β β2 (M8 ib c) (ib+2)=β2 10000000000000000000000000000000000001170:=Rt hnd (p:=(ib+2,_,_)) (List.mem_cons_of_mem _ (List.mem_cons_of_mem _ (List.mem_cons_self ..)));have e3:Wy β β2 (M8 ib c) (ib+3)=β2 10000000000000000000000000000000000001197:=Rt hnd (p:=(ib+3,_,_)) (List.mem_cons_of_mem _ (List.mem_cons_of_mem _ (List.mem_cons_of_mem _ (List.mem_cons_self ..))));have e4:Wy β β2 (M8 ib c) (ib+4)=β2 10000000000000000000000000000000000001224:=Rt hnd (p:=(ib+4,_,_)) (List.mem_cons_of_mem _ (List.mem_cons_of_mem _ (List.mem_cons_of_mem _ (List.mem_cons_of_mem _ (List.mem_cons_self ..)))));have e5:Wy β β2 (M8 ib c) (ib+5)=β2 10000000000000000000000000000000000001241:=Rt hnd (p:=(ib+5,_,_)) (List.mem_cons_of_mem _ (List.mem_cons_of_mem _ (List.mem_cons_of_mem _ (List.mem_cons_of_mem _ (List.mem_cons_of_mem _ (List.mem_cons_self ..))))));intro p hp;simp only[List.mem_cons,List.not_mem_nil,or_false] at hp;rcases hp with rfl|rfl|rfl|rfl|rfl|rfl
             . refine⟨_,k0,rfl,rfl,rfl,rfl,rfl,rfl,.inl ⟨_,_,rfl,rfl,rfl⟩,fun k j hi u hu=>?_⟩
               match j with
               |0=>exact hu
               |1=>simp only[Cs.get,List.getD,List.getElem?_cons_succ,List.getElem?_cons_zero,Option.getD_some,γc,e2] at hu ⊢;exact hu
               |2=>simp only[Cs.get,List.getD,List.getElem?_cons_succ,List.getElem?_cons_zero,Option.getD_some,γc,e3] at hu ⊢;exact hu
               |3=>exact hu
               |4=>simp only[Cs.get,List.getD,List.getElem?_cons_succ,List.getElem?_cons_zero,Option.getD_some,γc,e4] at hu ⊢;exact hu
               |5=>simp only[Cs.get,List.getD,List.getElem?_cons_succ,List.getElem?_cons_zero,Option.getD_some,γc,e5] at hu ⊢;exact hu
               |6=>exact hu
               |7=>exact hu
               |8=>exact hu
               |9=>simp only[Cs.get,List.getD,List.getElem?_cons_succ,List.getElem?_cons_zero,Option.getD_some,γc,e1] at hu ⊢;exact hu
               |j+10=>exact hu
             . exact⟨_,NV k1⟩
             . exact⟨_,NV k2⟩
             . exact⟨_,NV k3⟩
             . exact⟨_,NV k4⟩
             . exact⟨_,NV k5⟩
       . cases hv0
     . cases hv
   . cases hct
 . cases hct
abbrev Q0 (c:Cfg) (nq:Nat):List AC:=[.v (.int .i64 c.nodes),.sl 0 0 0 c.np none,.sl 1 0 0 c.ns none,.v (.int .i64 c.long),.sl 2 0 0 c.nb none,.sl 3 0 0 c.nt none,.v (.int .i64 c.miss),.v (.int .i64 c.good),.v (.int .i64 c.fresh),.sl 4 0 0 nq none]
abbrev Xg (c:Cfg) (nq:Nat) (fq:Nat->Int):AMem:=[(0,Zb 3 c.np c.fp),(1,Zb 3 c.ns c.fs),(2,Zb 3 c.nb c.fb),(3,RL c.nt c.ft),(4,Zb 3 nq fq),(5,⟨false,false,81,0,.lit (Q0 c nq)⟩)]
abbrev RC (c:Cfg) (nq:Nat) (fq:Nat->Int):AMem:=[(Z2 0,Zr),(0,Zb 3 c.np c.fp),(1,Zb 3 c.ns c.fs),(2,Zb 3 c.nb c.fb),(3,RL c.nt c.ft),(4,Zb 3 nq fq),(5,⟨false,false,81,0,.lit (Q0 c nq)⟩)]
def TE (l:List AC) (m:AMem):Option (Cfg × Nat × (Nat->Int) × Bool):=
 match l with
 | [.v (.int .i64 nodes),p,s,.v (.int .i64 long),b,t,.v (.int .i64 miss),.v (.int .i64 good),.v (.int .i64 fresh),q]=>
  match XH 1 m p,XH 1 m s,XH 1 m b,XH 3 m t,XH 1 m q with
  |some (np,P,b1),some (ns,S,b2),some (nb,B,b3),some (nt,T,b4),some (nq,Q,b5)=>some (⟨nodes,np,fA P,ns,fA S,long,nb,fA B,nt,YY T,miss,good,fresh⟩,nq,fA Q,b1&&(b2&&(b3&&(b4&&(b5&&(ZE np P&&(ZE ns S&&(ZE nb B&&(Yv nt T&&ZE nq Q)))))))))
  |_,_,_,_,_=>none
 |_=>none
theorem jjls {G m:AMem} (hg:WG G m=true):∀id x,ZY G id=some x->x.own=false/\Xm x=false:=by
 intro id x hx;have h1:=List.all_eq_true.1 hg _ (Vn hx);simp only at h1;split at h1
 . simp only[Bool.and_eq_true,Bool.not_eq_true'] at h1
   refine⟨h1.1,?_⟩;have h3:=h1.2;unfold OP at h3;split at h3
   . rename_i l q _ hq;simp[Xm,hq]
   . cases h3
 . cases h1
theorem D7 {G:AMem} (hG:(G.all fun p=>Nat.ble ZR p.1)=true) {C:Ctx} {β:Nm} {m m2:AMem} {w:World} (hs:Sub m m2) (hr:Rel C β m2 w) {l:List AC} {id0:Nat} {x0:ABlk} (hx0:ZY m id0=some x0) (hc0:x0.cs= .lit l) {c:Cfg} {nq:Nat} {fq:Nat->Int} (h:TE l m=some (c,nq,fq,true)) (hg:WG G m=true) {v0:Value} (hv:γc β (.ptr id0 0 0)=some v0):
 ∃β',Rel (ZG w) β' (G++Xg c nq fq) w/\γc β' (.ptr 5 0 0)=some v0/\(∀id,6<=id->id<ZR->β' id=none)/\∀i x,ZY (G++Xg c nq fq) i=some x->x.own=false/\Xm x=false:=by
 obtain⟨LN,hLN,hkN⟩:=hr.blk id0 x0 (hs _ _ hx0);have hsz:=hkN.lit l hc0;unfold TE at h;split at h
 . rename_i nodes p s long b t miss good fresh q
   split at h
   . rename_i np P b1 ns S b2 nb B b3 nt T b4 nq' Q b5 hp hsl hb ht hq
     simp only[Option.some.injEq,Prod.mk.injEq,Bool.and_eq_true] at h;obtain⟨rfl,rfl,rfl,rfl,rfl,rfl,rfl,rfl,i1,i2,i3,i4,i5⟩:=h
     have cell:∀j,j<10->LN.nil=false/\∃u,γc β ((Cs.lit [.v (.int .i64 nodes),p,s,.v (.int .i64 long),b,t,.v (.int .i64 miss),.v (.int .i64 good),.v (.int .i64 fresh),q]).get 0 j)=some u/\u.oneCell'=true/\w.cell? ⟨LN.b,LN.o+j,none⟩=some u:=by
      intro j hj;obtain⟨g1,u,g2,g3,g4⟩:=hkN.cells 0 j (by simp only[ABlk.inb,hc0,hsz];simp;omega);rw[hc0] at g2;rw[Nat.zero_mul,Nat.zero_add] at g4;exact⟨g1,u,g2,g3,g4⟩
     have hnil:=(cell 0 (by omega)).1;obtain⟨v1,g1⟩:∃v,γc β p=some v:=by obtain⟨_,u,g2,_⟩:=cell 1 (by omega);exact⟨u,g2⟩
     obtain⟨v2,g2⟩:∃v,γc β s=some v:=by obtain⟨_,u,g2,_⟩:=cell 2 (by omega);exact⟨u,g2⟩
     obtain⟨v4,g4⟩:∃v,γc β b=some v:=by obtain⟨_,u,g2,_⟩:=cell 4 (by omega);exact⟨u,g2⟩
     obtain⟨v5,g5⟩:∃v,γc β t=some v:=by obtain⟨_,u,g2,_⟩:=cell 5 (by omega);exact⟨u,g2⟩
     obtain⟨v9,g9⟩:∃v,γc β q=some v:=by obtain⟨_,u,g2,_⟩:=cell 9 (by omega);exact⟨u,g2⟩
     have r0:=Nt hr hs hg hG;have n0:=jjls hg;have hlo:∀id,id<ZR->TW β id=none:=fun id h=>by unfold TW;rw[if_neg (by omega)]
     have hgi:∀(id:Nat),id<ZR->∀g,id≠Z2 g:=fun id h=>W8 h
     obtain⟨L0,k0,z0⟩:=Uy hr Nat.one_pos (UZ hs hp) g1 3 (S9 i1) (fun _=>rfl) (ZG w) (TW β) rfl;obtain⟨r1,n1⟩:=QD r0 n0 (id:=0) (hlo 0 (by unfold ZR;omega)) (hgi 0 (by unfold ZR;omega)) rfl rfl k0;obtain⟨L1,k1,z1⟩:=Uy hr Nat.one_pos (UZ hs hsl) g2 3 (S9 i2) (fun _=>rfl) (ZG w) (ZU (TW β) 0 L0) rfl;obtain⟨r2,n2⟩:=QD r1 n1 (id:=1) (by simp[ZU,hlo 1 (by unfold ZR;omega)]) (hgi 1 (by unfold ZR;omega)) rfl rfl k1;obtain⟨L2,k2,z2⟩:=Uy hr Nat.one_pos (UZ hs hb) g4 3 (S9 i3) (fun _=>rfl) (ZG w) (ZU (ZU (TW β) 0 L0) 1 L1) rfl;obtain⟨r3,n3⟩:=QD r2 n2 (id:=2) (by simp[ZU,hlo 2 (by unfold ZR;omega)]) (hgi 2 (by unfold ZR;omega)) rfl rfl k2;obtain⟨L3,k3,z3⟩:=Uy hr (by omega:0<3) (UZ hs ht) g5 70 (HY i4) (fun _=>rfl) (ZG w) (ZU (ZU (ZU (TW β) 0 L0) 1 L1) 2 L2) rfl;obtain⟨r4,n4⟩:=QD r3 n3 (id:=3) (by simp[ZU,hlo 3 (by unfold ZR;omega)]) (hgi 3 (by unfold ZR;omega)) rfl rfl k3;obtain⟨L4,k4,z4⟩:=Uy hr Nat.one_pos (UZ hs hq) g9 3 (S9 i5) (fun _=>rfl) (ZG w) (ZU (ZU (ZU (ZU (TW β) 0 L0) 1 L1) 2 L2) 3 L3) rfl;obtain⟨r5,n5⟩:=QD r4 n4 (id:=4) (by simp[ZU,hlo 4 (by unfold ZR;omega)]) (hgi 4 (by unfold ZR;omega)) rfl rfl k4;obtain⟨β5,hβ5⟩:∃β5,β5=ZU (ZU (ZU (ZU (ZU (TW β) 0 L0) 1 L1) 2 L2) 3 L3) 4 L4:=⟨_,rfl⟩
     rw[<- hβ5] at r5;have y0:=z0 β5 0 (by rw[hβ5];simp[ZU]);have y1:=z1 β5 1 (by rw[hβ5];simp[ZU]);have y2:=z2 β5 2 (by rw[hβ5];simp[ZU]);have y3:=z3 β5 3 (by rw[hβ5];simp[ZU]);have y4:=z4 β5 4 (by rw[hβ5];simp[ZU])
     have h5:∀id,5<=id->id<ZR->β5 id=none:=fun id h1 h2=>by
      rw[hβ5];simp[ZU,hlo id h2,show id≠0 by omega,show id≠1 by omega,show id≠2 by omega,show id≠3 by omega,show id≠4 by omega]
     have hkn:YV (ZG w) β5 w ⟨LN.b,LN.o,0,LN.cap,LN.nil⟩ ⟨false,false,81,0,.lit (Q0 ⟨nodes,np,fA P,ns,fA S,long,nb,fA B,nt,YY T,miss,good,fresh⟩ nq')⟩:=by
      refine⟨rfl,fun _ _=>rfl,fun k j hi=>?_,hkN.lt,fun ho=>(by cases ho),fun n f hf=>(by cases hf),fun ho=>(by cases ho)⟩;have hj:j<10:=by simp[ABlk.inb] at hi;omega
      obtain⟨_,u,e2,e3,e4⟩:=cell j hj;refine⟨hnil,u,?_,e3,by rw[Nat.mul_zero,Nat.zero_add];exact e4⟩
      match j,hj with
      |0,_=>exact e2
      |1,_=>exact y0.trans (g1.symm.trans e2)
      |2,_=>exact y1.trans (g2.symm.trans e2)
      |3,_=>exact e2
      |4,_=>exact y2.trans (g4.symm.trans e2)
      |5,_=>exact y3.trans (g5.symm.trans e2)
      |6,_=>exact e2
      |7,_=>exact e2
      |8,_=>exact e2
      |9,_=>exact y4.trans (g9.symm.trans e2)
     obtain⟨r6,n6⟩:=QD r5 n5 (id:=5) (h5 5 (by omega) (by unfold ZR;omega)) (hgi 5 (by unfold ZR;omega)) rfl rfl hkn;simp only[List.append_assoc,List.cons_append,List.nil_append] at r6 n6;refine⟨_,r6,?_,fun id h1 h2=>?_,n6⟩
     . simp only[γc,ad,hLN,hnil,Bool.false_eq_true,if_false,Nat.zero_mul,Nat.add_zero,Option.some.injEq] at hv
       simp only[γc,ad,W9,hnil,Bool.false_eq_true,if_false,Nat.zero_mul,Nat.add_zero,Option.some.injEq];exact hv
     . unfold ZU
       rw[if_neg (by omega)];exact h5 id (by omega) h2
   . cases h
 . cases h
theorem DF {G:AMem} (hG:(G.all fun p=>Nat.ble ZR p.1)=true) {C:Ctx} {β:Nm} {m m2:AMem} {w:World} (hs:Sub m m2) (hr:Rel C β m2 w) {l:List AC} {id0:Nat} {x0:ABlk} (hx0:ZY m id0=some x0) (hc0:x0.cs= .lit l) {c:Cfg} {nq:Nat} {fq:Nat->Int} (h:TE l m=some (c,nq,fq,true)) (hg:WG G m=true) {v0:Value} (hv:γc β (.ptr id0 0 0)=some v0):
 ∃β',Rel (ZG w) β' (G++Xg c nq fq) w/\γc β' (.ptr 5 0 0)=some v0/\∀id,1000<=id->id<ZR->β' id=none:=by
 obtain⟨β',h1,h2,h3,_⟩:=D7 hG hs hr hx0 hc0 h hg hv;exact⟨β',h1,h2,fun id a b=>h3 id (by omega) b⟩
theorem jjlx {C:Ctx} {β:Nm} {m m2:AMem} {w:World} (hs:Sub m m2) (hr:Rel C β m2 w) {l:List AC} {id0:Nat} {x0:ABlk} (hx0:ZY m id0=some x0) (hc0:x0.cs= .lit l) {c:Cfg} {nq:Nat} {fq:Nat->Int} (h:TE l m=some (c,nq,fq,true)) (hg:WG mS m=true) {v0:Value} (hv:γc β (.ptr id0 0 0)=some v0):
 ∃β',Rel (ZG w) β' (RC c nq fq) w/\γc β' (.ptr 5 0 0)=some v0/\∀id,1000<=id->id<ZR->β' id=none:=DF (G:=mS) (by kernel_rfl) hs hr hx0 hc0 h hg hv
def Zf (c:Cfg) (nq:Nat) (fq:Nat->Int):Bool:=decide (0+Cfg.np c<=Cfg.np c)&&(decide (0+Cfg.ns c<=Cfg.ns c)&&(decide (0+Cfg.nb c<=Cfg.nb c)&&(decide (0+Cfg.nt c<=Cfg.nt c)&&(decide (0+nq<=nq)&&((ZE (Cfg.np c) fun k=>List.map AC.v ((fun i=>[Value.int IntKind.i64 (Cfg.fp c i)]) k))&&((ZE (Cfg.ns c) fun k=>List.map AC.v ((fun i=>[Value.int IntKind.i64 (Cfg.fs c i)]) k))&&((ZE (Cfg.nb c) fun k=>List.map AC.v ((fun i=>[Value.int IntKind.i64 (Cfg.fb c i)]) k))&&((Yv (Cfg.nt c) fun k=>List.map AC.v ((fun i=>[Value.int IntKind.i64 (Station.node (Cfg.ft c i)),Value.int IntKind.u32 (Station.safe (Cfg.ft c i)),Value.int IntKind.i64 (Station.hold (Cfg.ft c i))]) k))&&ZE nq fun k=>List.map AC.v ((fun i=>[Value.int IntKind.i64 (fq i)]) k)))))))))
theorem YN (c:Cfg) (nq:Nat) (fq:Nat->Int):Zf c nq fq=true:=by simp[Zf,ZE,Uo,Yv,Rg]
def Rf:List AV->Option (List Int)
 | []=>some []
 | .c (.v (.int .i64 z))::r=>match Rf r with|some zs=>some (z::zs)|none=>none
 |_=>none
abbrev R5 (zs:List Int):List AV:=zs.map fun z=>.c (.v (.int .i64 z))
theorem jjk2:∀{l:List AV} {zs:List Int},Rf l=some zs->l=R5 zs:=by
 intro l
 induction l with
 |nil=>intro zs h;cases h;rfl
 |cons a r ih=>
  intro zs h;unfold Rf at h;split at h
  . rename_i e;cases e
  . rename_i z r' e
    cases e
    cases e2:Rf r with
    |none=>rw[e2] at h;cases h
    |some zs'=>rw[e2] at h;cases h;rw[ih e2];rfl
  . cases h
def Uj (R:Cfg->Nat->(Nat->Int)->List Int->AV) (pre:Cfg->Nat->(Nat->Int)->List Int->Bool):Yk
 | .c (.ptr id 0 0)::rest,m,_=>
  match ZY m id,Rf rest,WG mS m with
  |some ⟨_,_,_,_,.lit l⟩,some zs,true=>match TE l m with|some (c,nq,fq,b)=>some (R c nq fq zs,[],0,[b,pre c nq fq zs])|none=>none
  |_,_,_=>none
 |_,_,_=>none
theorem Id {P:Program} {f:FuncId} {R:Cfg->Nat->(Nat->Int)->List Int->AV} {pre:Cfg->Nat->(Nat->Int)->List Int->Bool} (hf:∃(fn:Func) (c:Code),P.funcs[f]? =some fn/\fn.body=some c) (hres:∀c nq fq zs (β1 β2:Nm) u,γ β1 (R c nq fq zs)=some u->γ β2 (R c nq fq zs)=some u) (many:Nat)
 (run:∀c nq fq zs,pre c nq fq zs=true->zs.length=many->∃(E:Env) (fuel str:Nat),E.P=P/\ZC E/\∃p lp r,ZB [] (ZM E (fC E fuel) f (.c (.ptr 5 0 0)::R5 zs) 1000 str (XW (RC c nq fq) p lp))=some r/\r.1=R c nq fq zs/\r.2.2.1<=ZR/\ZZ r.2.2.2.1/\∀q∈r.2.2.2.2,q):ZA P f (Uj R fun c nq fq zs=>pre c nq fq zs&&decide (zs.length=many)):=by
 refine⟨hf,fun C β m m2 w args ib r news k' ob vs hct ho hs hr hfree hlim hv=>?_⟩;unfold Uj at hct;split at hct
 . rename_i id rest
   split at hct
   . rename_i o1 r1' t1 s1 l zs hlk hzs hg
     split at hct
     . rename_i c nq fq b hc
       simp only[Option.some.injEq,Prod.mk.injEq] at hct;obtain⟨rfl,rfl,rfl,rfl⟩:=hct;simp only[ZZ,List.forall_mem_cons,Bool.and_eq_true,decide_eq_true_eq] at ho;obtain⟨rfl,⟨o2,o3⟩,_⟩:=ho;obtain⟨E,fuel,str,rfl,hE,p,lp,⟨v,b',n',ob,po⟩,hrun,hvr,hn,hob,hpo⟩:=run c nq fq zs o2 o3;obtain⟨s',r1,r2,r3,r4⟩:=T7 hrun;have hn:n'<=ZR:=hn;obtain rfl:=jjk2 hzs;simp only[γt] at hv;split at hv
       . rename_i v0 us hv0 hus
         cases hv;obtain⟨β1,q1,q2,q3⟩:=jjlx hs hr hlk rfl hc hg hv0;refine(Xa hE r1 ⟨by rw[r3];exact hob,by rw[r4];exact hpo⟩ (C:=ZG w) (β:=β1) (w:=w) (vs:=v0::us) ?_ q1 (fun id h1 h2=>q3 id h1 (by omega))).mono ?_
         . have hus':=OY (zs.map fun z=>Value.int .i64 z) (restA:=R5 zs) (by simp[R5]) β β1 us hus
           simp only[γt,γ1,q2,hus']
         . rintro e w' ⟨β',u,rfl,_,_,hu,hr'⟩
           simp only at hvr;subst hvr;exact⟨β,u,rfl,Ext.refl _,fun _ _=>rfl,hres _ _ _ _ _ _ _ hu,by rw[List.append_nil];exact hr.below (So hr')⟩
       . cases hv
     . cases hct
   . cases hct
 . cases hct
def Pr (P:Program) (f:FuncId) (c:Cfg) (nq:Nat) (fq:Nat->Int) (zs:List Int) (path:List Dec):Option VF:=ZB [] (ZM (E1 P) (fC (E1 P) 300) f (.c (.ptr 5 0 0)::R5 zs) 1000 nSt (XW (RC c nq fq) path []))
structure YF where
 c:Cfg
 nq:Nat
 fq:Nat->Int
 rest:List AV
def XG (G :AMem) (hG:(G.all fun p=>Nat.ble ZR p.1)=true):Rd YF where
 dec:=fun xs m=>
  match xs with
  | .c (.ptr id 0 0)::rest=>
   match ZY m id,TH rest,WG G m with
   |some ⟨_,_,_,_,.lit l⟩,true,true=>match TE l m with|some (c,nq,fq,b)=>some (⟨c,nq,fq,rest⟩,b)|none=>none
   |_,_,_=>none
  |_=>none
 args:=fun s=>.c (.ptr 5 0 0)::s.rest
 mem:=fun s=>G++Xg s.c s.nq s.fq
 ok :=by
  intro C β m m2 w xs s vs hs hr hd hv;split at hd
  . rename_i id rest
    split at hd
    . rename_i o1 r1' t1 s1 l hlk hpl hg
      split at hd
      . rename_i c nq fq b hc
        simp only[Option.some.injEq,Prod.mk.injEq] at hd;obtain⟨rfl,rfl⟩:=hd;simp only[γt] at hv;split at hv
        . rename_i v0 us hv0 hus
          cases hv;obtain⟨β1,q1,q2,q3⟩:=DF hG hs hr hlk rfl hc hg hv0;refine⟨β1,q1,?_,q3⟩;simp only[γt,γ1,q2,Lh hpl hus]
        . cases hv
      . cases hd
    . cases hd
  . cases hd
def netRd:Rd YF:=XG mS (by kernel_rfl)
theorem OZ (k:Nat) (h:k<=1000000):IntKind.wrap IntKind.i64 (Int.ofNat k+Int.ofNat 1)=Int.ofNat (k+1):=by rw[Wu _ (by simp;omega) (by simp;omega)];simp
theorem jjq5 (c:Cfg) (nq:Nat) (fq:Nat->Int) (z:Int) (Q:VF->Prop) (H:let zN:=Int.ofNat;(((!decide (↑nq>zN 0))=true->Q (.c (zI (Int.negSucc 0)),[],1016,[(!decide (↑nq>zN 0))==true,true],[]))/\((!decide (↑nq>zN 0))=false->(((decide (z<zN 0))=true->Q (.c (zI (Int.negSucc 0)),[],1028,[decide (z<zN 0)==true,true,(!decide (↑nq>zN 0))==false,true],[]))/\((decide (z<zN 0))=false->(((decide (z≥ ↑(c.np)))=true->Q (.c (zI (Int.negSucc 0)),[],1032,[decide (z≥ ↑(c.np))==true,decide (z<zN 0)==false,true,(!decide (↑nq>zN 0))==false,true],[]))/\((decide (z≥ ↑(c.np)))=false->Q (.c (zI (c.fp (0+Int.toNat z))),[],1036,[ABlk.inb (ABlk.mk false false 3 1 (yP c)) (0+Int.toNat z) 1,true,decide (zN 0<=z/\z < ↑(c.np)),decide (z≥ ↑(c.np))==false,decide (z<zN 0)==false,true,(!decide (↑nq>zN 0))==false,true],[])))))))):
 ∃p r,Pr prog 19 c nq fq [z] p=some r/\Q r:=
 ZD H (fun g1=>⟨pD 7 729,_,by kernel_rfl,g1⟩) (fun g1=>ZD g1 (fun g2=>⟨pD 12 3645,_,by kernel_rfl,g2⟩) (fun g2=>ZD g2 (fun g3=>⟨pD 12 182979,_,by kernel_rfl,g3⟩) (fun g3=>⟨pD 12 360126,_,by kernel_rfl,g3⟩)))
def MX (err:Cfg->Int):Yk
 | [.agg l],m,ib=>
  match US l m,WG mS m with
  |some (c,b),true=>some (.tup [.c (.ptr ib 0 0),i64 0],nwM ib c,6,[b,decide (c.nb<=9223372036854775807),decide (err c=0)])
  |_,_=>none
 |_,_,_=>none
def MY (err:Cfg->Int):Yk
 | [.agg l],m,_=>
  match US l m,WG mS m with
  |some (c,b),true=>some (.tup [.c (.v (.pointer none)),i64 (err c)],[],0,[b,decide (c.nb<=9223372036854775807),decide (err c≠0)])
  |_,_=>none
 |_,_,_=>none
theorem jjnx:ZA prog 5 (MX Zu):=jjr1
theorem jjnw:ZA prog 5 (MY Zu):=jjnv
def Ky (f:Nat->Int) (n:Nat) (z:Int):Int:=if 0<=z/\z<n then f z.toNat else -1
def Zq (c:Cfg) (nq:Nat):Int:=if nq=0 then 0 else IntKind.wrap .i64 (c.ns*c.long)
def MW (R:Cfg->Nat->(Nat->Int)->Int->Int):Yk:=Uj (fun c nq fq zs=>i64 (R c nq fq (zs.headD 0))) fun c nq fq zs=>true&&decide (zs.length=1)
def Tn:Yk:=Uj (fun c nq _ _=>i64 (Zq c nq)) fun c nq fq zs=>true&&decide (zs.length=0)
def JX (E:Env) (f:FuncId) (c:Cfg) (nq:Nat) (fq:Nat->Int) (r:List AV) (path:List Dec) (lp:List (Option Zl)):Option VF:=ZB [] (ZM E (fC E 300) f (.c (.ptr 5 0 0)::r) 1000 nSt (XW (RC c nq fq) path lp))
def ZI (c:Cfg) (nq:Nat) (_:Nat->Int) (z:Int):Int:=if nq=0 then -1 else Ky c.fp c.np z
theorem Ib:ZA prog 19 (Uj (fun c nq fq zs=>i64 (ZI c nq fq (zs.headD 0))) fun c nq fq zs=>true&&decide (zs.length=1)):=by
 refine Id ⟨_,_,Tryz.func19,rfl⟩ (fun c nq fq zs=>Ux _) 1 fun c nq fq zs _ hz=>?_
 obtain⟨z,rfl⟩:=List.length_eq_one_iff.1 hz;refine(?_:(∃p r,Pr prog 19 c nq fq [z] p=some r/\(r.1=i64 (ZI c nq fq z)/\r.2.2.1<=ZR/\ZZ r.2.2.2.1/\∀q∈r.2.2.2.2,q))->_) (jjq5 c nq fq z _ ?_)
 . rintro⟨p,r,h1,h2⟩
   exact⟨E1 prog,300,nSt,rfl,Vk,p,[],r,h1,h2⟩
 . repeat' (first|refine⟨fun h=>?_,fun h=>?_⟩|fail)
   all_goals (refine⟨?_,(by first|(unfold ZR;omega)|(dsimp only;unfold ZR;omega)),?_,by simp⟩)
   all_goals (simp only[Int.ofNat_eq_natCast] at *)
   all_goals (first
    |(show i64 _=i64 _;unfold ZI Ky;simp at *;first|(rw[if_pos (by omega)];done)|(rw[if_neg (by omega),if_neg (by omega)];done)|(rw[if_neg (by omega),if_pos (by omega)];done)|(intros;omega)|(split<;>first|rfl|omega))
    |(simp at *;simp[ZZ,YK];omega))
def PL:Yk:=Uj (fun c nq fq zs=>i64 (ZI c nq fq (zs.headD 0))) fun c nq fq zs=>true&&decide (zs.length=1)
def Q6 (P:Program):Env:=⟨P,[(19,PL)]⟩
theorem Nd:ZC (Q6 prog):=by
 refine Xf (fun f g h=>?_) (by kernel_rfl) (by kernel_rfl);simp only[Q6,List.mem_cons,Prod.mk.injEq,List.not_mem_nil,or_false] at h;obtain⟨rfl,rfl⟩:=h;exact Ib
def Z8 (c:Cfg) (nq:Nat) (fq:Nat->Int) (p:Nat):Bool:=decide (0<=ZI c nq fq (Int.ofNat p))
def Z3 (c:Cfg) (nq:Nat) (fq:Nat->Int) (v:Vw) (p:Nat):Bool:=Z8 c nq fq p&&v.inn p
abbrev WJ (v:Vw):ABlk:=⟨true,false,32,0,.lit (v.cells.map .v)⟩
abbrev JW (c:Cfg) (nq:Nat):ABlk:=⟨false,false,81,0,.lit (Q0 c nq)⟩
abbrev Yc:List Nat:=[Z2 0,0,1,2,3,4,5]
abbrev X6 (c:Cfg) (nq:Nat) (fq:Nat->Int):List ABlk:=[Zr,Zb 3 c.np c.fp,Zb 3 c.ns c.fs,Zb 3 c.nb c.fb,RL c.nt c.ft,Zb 3 nq fq,JW c nq]
theorem Si (v:Vw) (k:Nat) (h:k<8):Zz (List.getD (ZX v) (0+Int.toNat (Int.ofNat k)*1) ZV)=v.inn k:=by
 match k,h with
 |0,_=>rfl
 |1,_=>rfl
 |2,_=>rfl
 |3,_=>rfl
 |4,_=>rfl
 |5,_=>rfl
 |6,_=>rfl
 |7,_=>rfl
theorem NE (v:Vw) (k:Nat) (h:k<8):Z5 .b (List.getD (ZX v) (0+Int.toNat (Int.ofNat k)*1) ZV)=true:=by
 match k,h with
 |0,_=>rfl
 |1,_=>rfl
 |2,_=>rfl
 |3,_=>rfl
 |4,_=>rfl
 |5,_=>rfl
 |6,_=>rfl
 |7,_=>rfl
theorem Tu {n:Nat} {v:Vw}:Zd n (WJ v):=Yg (List.all_eq_true.2 fun x hx=>by
 obtain⟨y,_,rfl⟩:=List.mem_map.1 hx
 rfl)
theorem Dc {c:Cfg} {nq:Nat} {fq:Nat->Int} {n:Nat} (hn:10<=n):∀b∈X6 c nq fq,Zd n b:=by
 intro b hb;have hc:∀i,i<10->Nat.blt i n=true:=fun i h=>by rw[Nat.blt_eq];omega
 simp only[List.mem_cons,List.not_mem_nil,or_false] at hb;rcases hb with rfl|rfl|rfl|rfl|rfl|rfl|rfl
 . exact Yg rfl
 . exact Vt
 . exact Vt
 . exact Vt
 . exact Vt
 . exact Vt
 . exact Yg (by simp[YI,hc 0 (by omega),hc 1 (by omega),hc 2 (by omega),hc 3 (by omega),hc 4 (by omega),Nat.blt_eq];try omega)
theorem Qt (f:Nat->Bool) (k:Nat):Zy f (k+1)=Zy f k+(if f k then 1 else 0):=rfl
def rV (R:Cfg->Nat->(Nat->Int)->List AC->List AV->AV):YF->AV
 |⟨c,nq,fq,.agg l::r⟩=>R c nq fq l r
 |_=>i64 0
def pV (pre:List AC->List AV->Bool):YF->Bool
 |⟨_,_,_,.agg l::r⟩=>W7 l&&pre l r
 |_=>false
theorem jjpw {G:AMem} (hG:(G.all fun p=>Nat.ble ZR p.1)=true) {pre:List AC->List AV->Bool} {s:YF} (h:pV pre s=true):∃c nq fq v r,pre (ZX v) r=true/\(XG G hG).args s= .c (.ptr 5 0 0):: .agg (ZX v)::r/\(XG G hG).mem s=G++Xg c nq fq/\∀R,rV R s=R c nq fq (ZX v) r:=by
 obtain⟨c,nq,fq,rest⟩:=s
 match rest with
 | .agg l::r=>
  simp only[pV,Bool.and_eq_true] at h;have e:=Pj h.1;exact⟨c,nq,fq,Zi l,r,by rw[ZX,<- e];exact h.2,by rw[ZX,<- e];rfl,rfl,fun R=>by rw[ZX,<- e];rfl⟩
 | []=>simp[pV] at h
 | .c _::_=>simp[pV] at h
 | .tup _::_=>simp[pV] at h
 | .any::_=>simp[pV] at h
theorem I2 {R:Cfg->Nat->(Nat->Int)->List AC->List AV->AV} (h:∀c nq fq v r,XV (R c nq fq v r)=true) (s:YF):XV (rV R s)=true:=by
 unfold rV;split
 . exact h _ _ _ _ _
 . rfl
theorem DY {G:AMem} (hG:(G.all fun p=>Nat.ble ZR p.1)=true) {E:Env} (hE:ZC E) {f:FuncId} {R:Cfg->Nat->(Nat->Int)->List AC->List AV->AV} {pre:List AC->List AV->Bool} (hf:∃(fn:Func) (c:Code),E.P.funcs[f]? =some fn/\fn.body=some c) (hres:∀c nq fq v r,XV (R c nq fq v r)=true)
 (run:∀c nq fq v r,pre (ZX v) r=true->∃p lp q,ZB [] (ZM E (fC E 300) f (.c (.ptr 5 0 0):: .agg (ZX v)::r) 1000 nSt (XW (G++Xg c nq fq) p lp))=some q/\Z6 (R c nq fq (ZX v) r) q):ZA E.P f (Y9 (XG G hG) (rV R) (pV pre)):=by
 refine U3 hE (XG G hG) (fuel:=300) (str:=nSt) hf (I2 hres) fun s hs=>?_
 obtain⟨c,nq,fq,v,r,h1,h2,h3,h4⟩:=jjpw hG hs;rw[h2,h3,h4];exact run c nq fq v r h1
theorem ID {E:Env} (hE:ZC E) {f:FuncId} {R:Cfg->Nat->(Nat->Int)->List AC->List AV->AV} {pre:List AC->List AV->Bool} (hf:∃(fn:Func) (c:Code),E.P.funcs[f]? =some fn/\fn.body=some c) (hres:∀c nq fq v r,XV (R c nq fq v r)=true)
 (run:∀c nq fq v r,pre (ZX v) r=true->∃p lp q,ZB [] (ZM E (fC E 300) f (.c (.ptr 5 0 0):: .agg (ZX v)::r) 1000 nSt (XW (RC c nq fq) p lp))=some q/\Z6 (R c nq fq (ZX v) r) q):ZA E.P f (Y9 netRd (rV R) (pV pre)):=
 DY (G:=mS) (by kernel_rfl) hE hf hres run
def QZ (E:Env) (f:FuncId) (c:Cfg) (nq:Nat) (fq:Nat->Int) (v:Vw) (r:List AV) (path:List Dec) (lp:List (Option Zl)):Option VF:=ZB [] (ZM E (fC E 300) f (.c (.ptr 5 0 0):: .agg (ZX v)::r) 1000 nSt (XW (RC c nq fq) path lp))
def GJ (P:Program) (f:FuncId) (k:IntKind) (z:Int) (path:List Dec):Option VF:=ZB [] (ZM (E1 P) (fC (E1 P) 300) f [.c (.v (.int k z))] 1000 nSt (XW [] path []))
theorem Ax (z:Int) (Q:VF->Prop) (H:Q (.c (zU (IntKind.wrap .u8 ((if Int.ofNat 99<z then Int.ofNat 99 else z)+Int.ofNat 1))),[],1005,[],[])):
 ∃p r,GJ prog 98 .u8 z p=some r/\Q r:=
 ⟨pD 0 0,_,by kernel_rfl,H⟩
theorem Gn (z:Int) (Q:VF->Prop) (H:Q (.c (zH (if Int.ofNat 1000<IntKind.wrap .u16 ((if Int.ofNat 1000<z then Int.ofNat 1000 else z)+Int.ofNat 8) then Int.ofNat 1000 else IntKind.wrap .u16 ((if Int.ofNat 1000<z then Int.ofNat 1000 else z)+Int.ofNat 8))),[],1006,[],[])):
 ∃p r,GJ prog 100 .u16 z p=some r/\Q r:=
 ⟨pD 0 0,_,by kernel_rfl,H⟩
theorem Gp (z:Int) (Q:VF->Prop) (H:Q (.c (zH (IntKind.wrap .u16 ((if Int.ofNat 1>if Int.ofNat 1000<z then Int.ofNat 1000 else z then Int.ofNat 1 else if Int.ofNat 1000<z then Int.ofNat 1000 else z)-Int.ofNat 1))),[],1006,[],[])):
 ∃p r,GJ prog 99 .u16 z p=some r/\Q r:=
 ⟨pD 0 0,_,by kernel_rfl,H⟩
def emE (P:Program) (v:Vw) (k:Nat) (path:List Dec):Option VF:=ZB [] (ZM (E1 P) (fC (E1 P) 300) 20 [.agg (ZX v),i64 (Int.ofNat k)] 1000 nSt (XW [] path []))
theorem mbEm (v:Vw) (k:Nat) (Q:VF->Prop) (H:let zN:=Int.ofNat;let zD:=Int.toNat;let zz0:=(List.getD (ZX v) (0+zD (zN k)*1) ZV);let zz1:=(List.getD (ZX v) (32+zD (zN k)*1) ZV);let zz2:=(List.getD (ZX v) (8+zD (zN k)*1) ZV);let zz3:=(List.getD (ZX v) (16+zD (zN k)*1) ZV);let zq0:List Bool:=[ABlk.inb (ABlk.mk true false 32 0 (Cs.lit (ZX v))) 0 (0+zD (zN k)*1+1),Z5 Kd.b zz0,decide (zN 0<=zN k/\zN k<zN 8)];let zq1:List Bool:=(ABlk.inb (ABlk.mk true false 32 0 (Cs.lit (ZX v))) 0 (32+zD (zN k)*1+1))::(Z5 Kd.b zz1)::(decide (zN 0<=zN k/\zN k<zN 8))::((!Zz zz0)==true)::zq0;let zq2:List Bool:=(ABlk.inb (ABlk.mk true false 32 0 (Cs.lit (ZX v))) 0 (8+zD (zN k)*1+1))::(Z5 (Kd.i .u8) zz2)::(decide (zN 0<=zN k/\zN k<zN 8))::((!Zz zz1)==true)::zq1;let zq3:List Bool:=(ABlk.inb (ABlk.mk true false 32 0 (Cs.lit (ZX v))) 0 (16+zD (zN k)*1+1))::(Z5 (Kd.i .u8) zz3)::(decide (zN 0<=zN k/\zN k<zN 8))::((ZP zz2==zN 0)==true)::zq2;(((!Zz zz0)=true->(((!Zz zz1)=true->(((ZP zz2==zN 0)=true->(((ZP zz3==zN 0)=true->Q (.c (zB (ZP (List.getD (ZX v) (24+zD (zN k)*1) ZV)==zN 0)),[],1036,((ABlk.inb (ABlk.mk true false 32 0 (Cs.lit (ZX v))) 0 (24+zD (zN k)*1+1))::(Z5 (Kd.i .u16) (List.getD (ZX v) (24+zD (zN k)*1) ZV))::(decide (zN 0<=zN k/\zN k<zN 8))::((ZP zz3==zN 0)==true)::zq3),[]))/\((ZP zz3==zN 0)=false->Q (.c (zB false),[],1031,(((ZP zz3==zN 0)==false)::zq3),[]))))/\((ZP zz2==zN 0)=false->Q (.c (zB false),[],1026,(((ZP zz2==zN 0)==false)::zq2),[]))))/\((!Zz zz1)=false->Q (.c (zB false),[],1021,(((!Zz zz1)==false)::zq1),[]))))/\((!Zz zz0)=false->Q (.c (zB false),[],1016,(((!Zz zz0)==false)::zq0),[])))):
 ∃p r,emE prog v k p=some r/\Q r:=
 ZD H (fun g1=>ZD g1 (fun g2=>ZD g2 (fun g3=>ZD g3 (fun g4=>⟨pD 20 14408200,_,by kernel_rfl,g4⟩) (fun g4=>⟨pD 20 28757107,_,by kernel_rfl,g4⟩)) (fun g3=>⟨pD 20 118342,_,by kernel_rfl,g3⟩)) (fun g2=>⟨pD 20 487,_,by kernel_rfl,g2⟩)) (fun g1=>⟨pD 20 2,_,by kernel_rfl,g1⟩)
theorem mbHe (c:Cfg) (nq:Nat) (fq:Nat->Int) (v:Vw) (z:Int) (Q:VF->Prop) (H:let zN:=Int.ofNat;let zD:=Int.toNat;let zz0:=((ZE (Cfg.np c) fun k=>List.map AC.v ((fun i=>[Value.int IntKind.i64 (Cfg.fp c i)]) k))&&((ZE (Cfg.ns c) fun k=>List.map AC.v ((fun i=>[Value.int IntKind.i64 (Cfg.fs c i)]) k))&&((ZE (Cfg.nb c) fun k=>List.map AC.v ((fun i=>[Value.int IntKind.i64 (Cfg.fb c i)]) k))&&((Yv (Cfg.nt c) fun k=>List.map AC.v ((fun i=>[Value.int IntKind.i64 (Station.node (Cfg.ft c i)),Value.int IntKind.u32 (Station.safe (Cfg.ft c i)),Value.int IntKind.i64 (Station.hold (Cfg.ft c i))]) k))&&ZE nq fun k=>List.map AC.v ((fun i=>[Value.int IntKind.i64 (fq i)]) k)))));let zq0:List Bool:=[decide (0+c.np<=c.np)&&(decide (0+c.ns<=c.ns)&&(decide (0+c.nb<=c.nb)&&(decide (0+c.nt<=c.nt)&&(decide (0+nq<=nq)&&zz0)))),true];(((decide (ZI c nq fq (List.headD [z] (zN 0))≥zN 0))=true->Q (.agg (z8 (fun zk=>zB (Zz (ZN (Nat.beq zk (32+zD z*1)) (zB true) (zB (Vw.inn v zk))))) [zU (ZP (ZN (Nat.beq 8 (32+zD z*1)) (zB true) (zU (Vw.miss v 0)))),zU (ZP (ZN (Nat.beq 9 (32+zD z*1)) (zB true) (zU (Vw.miss v 1)))),zU (ZP (ZN (Nat.beq 10 (32+zD z*1)) (zB true) (zU (Vw.miss v 2)))),zU (ZP (ZN (Nat.beq 11 (32+zD z*1)) (zB true) (zU (Vw.miss v 3)))),zU (ZP (ZN (Nat.beq 12 (32+zD z*1)) (zB true) (zU (Vw.miss v 4)))),zU (ZP (ZN (Nat.beq 13 (32+zD z*1)) (zB true) (zU (Vw.miss v 5)))),zU (ZP (ZN (Nat.beq 14 (32+zD z*1)) (zB true) (zU (Vw.miss v 6)))),zU (ZP (ZN (Nat.beq 15 (32+zD z*1)) (zB true) (zU (Vw.miss v 7)))),zU (ZP (ZN (Nat.beq 16 (32+zD z*1)) (zB true) (zU (Vw.good v 0)))),zU (ZP (ZN (Nat.beq 17 (32+zD z*1)) (zB true) (zU (Vw.good v 1)))),zU (ZP (ZN (Nat.beq 18 (32+zD z*1)) (zB true) (zU (Vw.good v 2)))),zU (ZP (ZN (Nat.beq 19 (32+zD z*1)) (zB true) (zU (Vw.good v 3)))),zU (ZP (ZN (Nat.beq 20 (32+zD z*1)) (zB true) (zU (Vw.good v 4)))),zU (ZP (ZN (Nat.beq 21 (32+zD z*1)) (zB true) (zU (Vw.good v 5)))),zU (ZP (ZN (Nat.beq 22 (32+zD z*1)) (zB true) (zU (Vw.good v 6)))),zU (ZP (ZN (Nat.beq 23 (32+zD z*1)) (zB true) (zU (Vw.good v 7)))),zH (ZP (ZN (Nat.beq 24 (32+zD z*1)) (zB true) (zH (Vw.score v 0)))),zH (ZP (ZN (Nat.beq 25 (32+zD z*1)) (zB true) (zH (Vw.score v 1)))),zH (ZP (ZN (Nat.beq 26 (32+zD z*1)) (zB true) (zH (Vw.score v 2)))),zH (ZP (ZN (Nat.beq 27 (32+zD z*1)) (zB true) (zH (Vw.score v 3)))),zH (ZP (ZN (Nat.beq 28 (32+zD z*1)) (zB true) (zH (Vw.score v 4)))),zH (ZP (ZN (Nat.beq 29 (32+zD z*1)) (zB true) (zH (Vw.score v 5)))),zH (ZP (ZN (Nat.beq 30 (32+zD z*1)) (zB true) (zH (Vw.score v 6)))),zH (ZP (ZN (Nat.beq 31 (32+zD z*1)) (zB true) (zH (Vw.score v 7)))),zB (Zz (ZN (Nat.beq 32 (32+zD z*1)) (zB true) (zB (Vw.got v 0)))),zB (Zz (ZN (Nat.beq 33 (32+zD z*1)) (zB true) (zB (Vw.got v 1)))),zB (Zz (ZN (Nat.beq 34 (32+zD z*1)) (zB true) (zB (Vw.got v 2)))),zB (Zz (ZN (Nat.beq 35 (32+zD z*1)) (zB true) (zB (Vw.got v 3)))),zB (Zz (ZN (Nat.beq 36 (32+zD z*1)) (zB true) (zB (Vw.got v 4)))),zB (Zz (ZN (Nat.beq 37 (32+zD z*1)) (zB true) (zB (Vw.got v 5)))),zB (Zz (ZN (Nat.beq 38 (32+zD z*1)) (zB true) (zB (Vw.got v 6)))),zB (Zz (ZN (Nat.beq 39 (32+zD z*1)) (zB true) (zB (Vw.got v 7)))),.v (.int .i8 (ZP (ZN (Nat.beq 40 (32+zD z*1)) (zB true) (.v (.int .i8 (Vw.command v)))))),zU (ZP (ZN (Nat.beq 41 (32+zD z*1)) (zB true) (zU (Vw.mode v))))]),[],1011,(zu (zt (y3 (true::true::((Z5 Kd.b (ZN (Nat.beq 0 (32+zD z*1)) (zB true) (zB (Vw.inn v 0))))::(Z5 Kd.b (ZN (Nat.beq 1 (32+zD z*1)) (zB true) (zB (Vw.inn v 1))))::(Z5 Kd.b (ZN (Nat.beq 2 (32+zD z*1)) (zB true) (zB (Vw.inn v 2))))::(Z5 Kd.b (ZN (Nat.beq 3 (32+zD z*1)) (zB true) (zB (Vw.inn v 3))))::(Z5 Kd.b (ZN (Nat.beq 4 (32+zD z*1)) (zB true) (zB (Vw.inn v 4))))::(Z5 Kd.b (ZN (Nat.beq 5 (32+zD z*1)) (zB true) (zB (Vw.inn v 5))))::(Z5 Kd.b (ZN (Nat.beq 6 (32+zD z*1)) (zB true) (zB (Vw.inn v 6))))::(Z5 Kd.b (ZN (Nat.beq 7 (32+zD z*1)) (zB true) (zB (Vw.inn v 7))))::(Z5 (Kd.i .u8) (ZN (Nat.beq 8 (32+zD z*1)) (zB true) (zU (Vw.miss v 0))))::(Z5 (Kd.i .u8) (ZN (Nat.beq 9 (32+zD z*1)) (zB true) (zU (Vw.miss v 1))))::(Z5 (Kd.i .u8) (ZN (Nat.beq 10 (32+zD z*1)) (zB true) (zU (Vw.miss v 2))))::(Z5 (Kd.i .u8) (ZN (Nat.beq 11 (32+zD z*1)) (zB true) (zU (Vw.miss v 3))))::(Z5 (Kd.i .u8) (ZN (Nat.beq 12 (32+zD z*1)) (zB true) (zU (Vw.miss v 4))))::(Z5 (Kd.i .u8) (ZN (Nat.beq 13 (32+zD z*1)) (zB true) (zU (Vw.miss v 5))))::(Z5 (Kd.i .u8) (ZN (Nat.beq 14 (32+zD z*1)) (zB true) (zU (Vw.miss v 6))))::(Z5 (Kd.i .u8) (ZN (Nat.beq 15 (32+zD z*1)) (zB true) (zU (Vw.miss v 7))))::(Z5 (Kd.i .u8) (ZN (Nat.beq 16 (32+zD z*1)) (zB true) (zU (Vw.good v 0))))::(Z5 (Kd.i .u8) (ZN (Nat.beq 17 (32+zD z*1)) (zB true) (zU (Vw.good v 1))))::(Z5 (Kd.i .u8) (ZN (Nat.beq 18 (32+zD z*1)) (zB true) (zU (Vw.good v 2))))::(Z5 (Kd.i .u8) (ZN (Nat.beq 19 (32+zD z*1)) (zB true) (zU (Vw.good v 3))))::(Z5 (Kd.i .u8) (ZN (Nat.beq 20 (32+zD z*1)) (zB true) (zU (Vw.good v 4))))::(Z5 (Kd.i .u8) (ZN (Nat.beq 21 (32+zD z*1)) (zB true) (zU (Vw.good v 5))))::(Z5 (Kd.i .u8) (ZN (Nat.beq 22 (32+zD z*1)) (zB true) (zU (Vw.good v 6))))::(Z5 (Kd.i .u8) (ZN (Nat.beq 23 (32+zD z*1)) (zB true) (zU (Vw.good v 7))))::(Z5 (Kd.i .u16) (ZN (Nat.beq 24 (32+zD z*1)) (zB true) (zH (Vw.score v 0))))::(Z5 (Kd.i .u16) (ZN (Nat.beq 25 (32+zD z*1)) (zB true) (zH (Vw.score v 1))))::(Z5 (Kd.i .u16) (ZN (Nat.beq 26 (32+zD z*1)) (zB true) (zH (Vw.score v 2))))::(Z5 (Kd.i .u16) (ZN (Nat.beq 27 (32+zD z*1)) (zB true) (zH (Vw.score v 3))))::(Z5 (Kd.i .u16) (ZN (Nat.beq 28 (32+zD z*1)) (zB true) (zH (Vw.score v 4))))::(Z5 (Kd.i .u16) (ZN (Nat.beq 29 (32+zD z*1)) (zB true) (zH (Vw.score v 5))))::(Z5 (Kd.i .u16) (ZN (Nat.beq 30 (32+zD z*1)) (zB true) (zH (Vw.score v 6))))::(Z5 (Kd.i .u16) (ZN (Nat.beq 31 (32+zD z*1)) (zB true) (zH (Vw.score v 7))))::(Z5 Kd.b (ZN (Nat.beq 32 (32+zD z*1)) (zB true) (zB (Vw.got v 0))))::(Z5 Kd.b (ZN (Nat.beq 33 (32+zD z*1)) (zB true) (zB (Vw.got v 1))))::(Z5 Kd.b (ZN (Nat.beq 34 (32+zD z*1)) (zB true) (zB (Vw.got v 2))))::(Z5 Kd.b (ZN (Nat.beq 35 (32+zD z*1)) (zB true) (zB (Vw.got v 3))))::(Z5 Kd.b (ZN (Nat.beq 36 (32+zD z*1)) (zB true) (zB (Vw.got v 4))))::(Z5 Kd.b (ZN (Nat.beq 37 (32+zD z*1)) (zB true) (zB (Vw.got v 5))))::(Z5 Kd.b (ZN (Nat.beq 38 (32+zD z*1)) (zB true) (zB (Vw.got v 6))))::(Z5 Kd.b (ZN (Nat.beq 39 (32+zD z*1)) (zB true) (zB (Vw.got v 7))))::(Z5 (Kd.i .i8) (ZN (Nat.beq 40 (32+zD z*1)) (zB true) (.v (.int .i8 (Vw.command v)))))::(Z5 (Kd.i .u8) (ZN (Nat.beq 41 (32+zD z*1)) (zB true) (zU (Vw.mode v))))::(ABlk.inb (ABlk.mk true false 32 0 (Cs.lit (ZX v))) 0 (32+zD z*1+1))::(decide (zN 0<=z/\z<zN 8))::(decide (ZI c nq fq (List.headD [z] (zN 0))≥zN 0)==true)::zq0))))),[]))/\((decide (ZI c nq fq (List.headD [z] (zN 0))≥zN 0))=false->Q (AV.agg (ZX v),[],1007,(zu (zu (zt (zt (y3 (y3 (true::((decide (ZI c nq fq (List.headD [z] (zN 0))≥zN 0)==false)::zq0)))))))),[])))):
 ∃p r,QZ (Q6 prog) 34 c nq fq v [i64 z] p []=some r/\Q r:=
 ZD H (fun g1=>⟨pD 1 1,_,by kernel_rfl,g1⟩) (fun g1=>⟨pD 1 2,_,by kernel_rfl,g1⟩)
theorem jjli {z:Int} (h0:0<=z) (h1:z<=255):IntKind.wrap .u8 z=z:=by
 simp only[IntKind.wrap,IntKind.bits,IntKind.signed]
 first|omega|(simp;omega)
theorem Dv {z:Int} (h0:0<=z) (h1:z<=65535):IntKind.wrap .u16 z=z:=by
 simp only[IntKind.wrap,IntKind.bits,IntKind.signed]
 first|omega|(simp;omega)
def Gq (k:IntKind) (g:Int->Int):List AV->AV
 | [.c (.v (.int _ z))]=>.c (.v (.int k (g z)))
 |_=>i64 0
def Ta (k:IntKind):List AV->Bool
 | [.c (.v (.int q z))]=>decide (q=k)&&decide (0<=z)
 |_=>false
def Qg (k:IntKind) (g:Int->Int):Yk:=Y9 (X2 [] rfl) (Gq k g) (Ta k)
theorem J0 {f:FuncId} {k:IntKind} {g:Int->Int} (hf:∃(fn:Func) (c:Code),Tryz.prog.funcs[f]? =some fn/\fn.body=some c) (run:∀z:Int,0<=z->∃p q,GJ prog f k z p=some q/\Z6 (.c (.v (.int k (g z)))) q):ZA prog f (Qg k g):=by
 refine U3 (E:=E1 prog) Vk (X2 [] rfl) (fuel:=300) (str:=nSt) hf (fun s=>by unfold Gq;split<;>rfl) fun s hs=>?_
 unfold Ta at hs;split at hs
 . rename_i q z
   simp only[Bool.and_eq_true,decide_eq_true_eq] at hs;obtain⟨rfl,h0⟩:=hs;obtain⟨p,r,h1,h2⟩:=run z h0;exact⟨p,[],r,h1,h2⟩
 . cases hs
theorem BH:ZA prog 98 (Qg .u8 Yx):=by
 refine J0 ⟨_,_,Tryz.func98,rfl⟩ fun z h0=>Ax z _ ?_
 refine⟨?_,(by first|(unfold ZR;omega)|(dsimp only;unfold ZR;omega)),by simp[ZZ],by simp⟩;have e:(if Int.ofNat 99<z then Int.ofNat 99 else z)=min z 99:=by simp only[Int.ofNat_eq_natCast];split<;>omega
 simp only[e];rw[show min z 99+Int.ofNat 1=Yx z from rfl,jjli (by unfold Yx;omega) (by unfold Yx;omega)]
theorem jjr0:ZA prog 100 (Qg .u16 Yq):=by
 refine J0 ⟨_,_,Tryz.func100,rfl⟩ fun z h0=>Gn z _ ?_
 refine⟨?_,(by first|(unfold ZR;omega)|(dsimp only;unfold ZR;omega)),by simp[ZZ],by simp⟩;have e:(if Int.ofNat 1000<z then Int.ofNat 1000 else z)=min z 1000:=by simp only[Int.ofNat_eq_natCast];split<;>omega
 simp only[e];rw[Dv (z:=min z 1000+Int.ofNat 8) (by simp;omega) (by simp;omega)];have e2:(if Int.ofNat 1000<min z 1000+Int.ofNat 8 then Int.ofNat 1000 else min z 1000+Int.ofNat 8)=Yq z:=by unfold Yq;simp only[Int.ofNat_eq_natCast];split<;>omega
 rw[e2]
theorem jjqz:ZA prog 99 (Qg .u16 Yy):=by
 refine J0 ⟨_,_,Tryz.func99,rfl⟩ fun z h0=>Gp z _ ?_
 refine⟨?_,(by first|(unfold ZR;omega)|(dsimp only;unfold ZR;omega)),by simp[ZZ],by simp⟩;have e:(if Int.ofNat 1000<z then Int.ofNat 1000 else z)=min z 1000:=by simp only[Int.ofNat_eq_natCast];split<;>omega
 simp only[e];have e2:(if Int.ofNat 1>min z 1000 then Int.ofNat 1 else min z 1000)-Int.ofNat 1=Yy z:=by unfold Yy;simp only[Int.ofNat_eq_natCast];split<;>omega
 rw[e2,Dv (by unfold Yy;omega) (by unfold Yy;omega)]
theorem LH {p:Vw->Nat->Prop} (h0:∀v,p v 0) (h1:∀v,p v 1) (h2:∀v,p v 2) (h3:∀v,p v 3) (h4:∀v,p v 4) (h5:∀v,p v 5) (h6:∀v,p v 6) (h7:∀v,p v 7) (v:Vw) (k:Nat) (h:k<8):p v k:=by
 match k,h with
 |0,_=>exact h0 v
 |1,_=>exact h1 v
 |2,_=>exact h2 v
 |3,_=>exact h3 v
 |4,_=>exact h4 v
 |5,_=>exact h5 v
 |6,_=>exact h6 v
 |7,_=>exact h7 v
theorem IM (v:Vw) (k:Nat) (h:k<8):Zz (List.getD (ZX v) (32+Int.toNat (Int.ofNat k)*1) ZV)=v.got k/\Z5 .b (List.getD (ZX v) (32+Int.toNat (Int.ofNat k)*1) ZV)=true:=
 LH (p:=fun v k=>Zz (List.getD (ZX v) (32+Int.toNat (Int.ofNat k)*1) ZV)=v.got k/\Z5 .b (List.getD (ZX v) (32+Int.toNat (Int.ofNat k)*1) ZV)=true) (fun _=>⟨rfl,rfl⟩) (fun _=>⟨rfl,rfl⟩) (fun _=>⟨rfl,rfl⟩) (fun _=>⟨rfl,rfl⟩) (fun _=>⟨rfl,rfl⟩) (fun _=>⟨rfl,rfl⟩) (fun _=>⟨rfl,rfl⟩) (fun _=>⟨rfl,rfl⟩) v k h
theorem Ru (v:Vw) (k:Nat) (h:k<8):ZP (List.getD (ZX v) (8+Int.toNat (Int.ofNat k)*1) ZV)=v.miss k/\Z5 (.i .u8) (List.getD (ZX v) (8+Int.toNat (Int.ofNat k)*1) ZV)=true:=
 LH (p:=fun v k=>ZP (List.getD (ZX v) (8+Int.toNat (Int.ofNat k)*1) ZV)=v.miss k/\Z5 (.i .u8) (List.getD (ZX v) (8+Int.toNat (Int.ofNat k)*1) ZV)=true) (fun _=>⟨rfl,rfl⟩) (fun _=>⟨rfl,rfl⟩) (fun _=>⟨rfl,rfl⟩) (fun _=>⟨rfl,rfl⟩) (fun _=>⟨rfl,rfl⟩) (fun _=>⟨rfl,rfl⟩) (fun _=>⟨rfl,rfl⟩) (fun _=>⟨rfl,rfl⟩) v k h
theorem Rv (v:Vw) (k:Nat) (h:k<8):ZP (List.getD (ZX v) (16+Int.toNat (Int.ofNat k)*1) ZV)=v.good k/\Z5 (.i .u8) (List.getD (ZX v) (16+Int.toNat (Int.ofNat k)*1) ZV)=true:=
 LH (p:=fun v k=>ZP (List.getD (ZX v) (16+Int.toNat (Int.ofNat k)*1) ZV)=v.good k/\Z5 (.i .u8) (List.getD (ZX v) (16+Int.toNat (Int.ofNat k)*1) ZV)=true) (fun _=>⟨rfl,rfl⟩) (fun _=>⟨rfl,rfl⟩) (fun _=>⟨rfl,rfl⟩) (fun _=>⟨rfl,rfl⟩) (fun _=>⟨rfl,rfl⟩) (fun _=>⟨rfl,rfl⟩) (fun _=>⟨rfl,rfl⟩) (fun _=>⟨rfl,rfl⟩) v k h
theorem U2 (v:Vw) (k:Nat) (h:k<8):ZP (List.getD (ZX v) (24+Int.toNat (Int.ofNat k)*1) ZV)=v.score k/\Z5 (.i .u16) (List.getD (ZX v) (24+Int.toNat (Int.ofNat k)*1) ZV)=true:=
 LH (p:=fun v k=>ZP (List.getD (ZX v) (24+Int.toNat (Int.ofNat k)*1) ZV)=v.score k/\Z5 (.i .u16) (List.getD (ZX v) (24+Int.toNat (Int.ofNat k)*1) ZV)=true) (fun _=>⟨rfl,rfl⟩) (fun _=>⟨rfl,rfl⟩) (fun _=>⟨rfl,rfl⟩) (fun _=>⟨rfl,rfl⟩) (fun _=>⟨rfl,rfl⟩) (fun _=>⟨rfl,rfl⟩) (fun _=>⟨rfl,rfl⟩) (fun _=>⟨rfl,rfl⟩) v k h
def WD (v:Vw) (k:Nat):Bool:=!v.inn k&&(!v.got k&&(decide (v.miss k=0)&&(decide (v.good k=0)&&decide (v.score k=0))))
def Mr (R:List AC->List AV->AV):List AV->AV
 | .agg l::r=>R l r
 |_=>i64 0
def Sx (pre:List AC->List AV->Bool):List AV->Bool
 | .agg l::r=>W7 l&&pre l r
 |_=>false
def H7 (l:List AC) (z:Int):Bool:=!Zz (l.getD z.toNat ZV)&&(!Zz (l.getD (32+z.toNat) ZV)&&(decide (ZP (l.getD (8+z.toNat) ZV)=0)&&(decide (ZP (l.getD (16+z.toNat) ZV)=0)&&decide (ZP (l.getD (24+z.toNat) ZV)=0))))
def AT (l:List AC):List AV->AV
 | [.c (.v (.int .i64 z))]=>bo (H7 l z)
 |_=>i64 0
theorem IV {v:Vw} {k:Nat} (hk:k<8):H7 (ZX v) (Int.ofNat k)=WD v k:=by
 have a0:=Si v k hk;have a1:=(IM v k hk).1;have a2:=(Ru v k hk).1;have a3:=(Rv v k hk).1;have a4:=(U2 v k hk).1;simp only[Nat.zero_add,Nat.mul_one,Int.ofNat_eq_natCast,Int.toNat_natCast] at a0 a1 a2 a3 a4;simp only[H7,Int.ofNat_eq_natCast,Int.toNat_natCast,a0,a1,a2,a3,a4,WD]
def RY (_:List AC):List AV->Bool
 | [.c (.v (.int .i64 z))]=>decide (0<=z)&&decide (z<8)
 |_=>false
def PK:Yk:=Y9 (X2 [] rfl) (Mr AT) (Sx RY)
theorem jjkl:ZA prog 20 PK:=by
 refine U3 (E:=E1 prog) Vk (X2 [] rfl) (fuel:=300) (str:=nSt) ⟨_,_,Tryz.func20,rfl⟩ (fun s=>by unfold Mr AT;(repeat' split)<;>rfl) fun s hs=>?_
 unfold Sx at hs;split at hs
 . rename_i l r
   rw[Bool.and_eq_true] at hs;obtain⟨hl,hs⟩:=hs;have e:=Pj hl;generalize Zi l=v at e;subst e;unfold RY at hs;split at hs
   . rename_i z
     simp only[Bool.and_eq_true,decide_eq_true_eq] at hs;obtain⟨h0,h1⟩:=hs;obtain⟨k,rfl⟩:=Int.eq_ofNat_of_zero_le h0;have hk:k<8:=by omega
     refine(?_:(∃p q,emE prog v k p=some q/\Z6 (Mr AT [.agg (ZX v),i64 (Int.ofNat k)]) q)->_) (mbEm v k _ ?_)
     . rintro⟨p,q,h1,h2⟩
       exact⟨p,[],q,h1,h2⟩
     . have hR:Mr AT [.agg (ZX v),i64 (Int.ofNat k)]=bo (WD v k):=by
        show bo _=bo _;rw[<- IV hk]
       rw[hR];simp only[Si v k hk,(IM v k hk).1,(Ru v k hk).1,(Rv v k hk).1,(U2 v k hk).1,NE v k hk,(IM v k hk).2,(Ru v k hk).2,(Rv v k hk).2,(U2 v k hk).2]
       (repeat' (first|refine⟨fun h=>?_,fun h=>?_⟩|fail))
       all_goals (refine⟨?_,(by first|(unfold ZR;omega)|(dsimp only;unfold ZR;omega)),?_,by simp⟩)
       all_goals first
        |(simp_all[WD,bo];done)
        |(simp_all[WD,bo,Bool.beq_eq_decide_eq];done)
        |(simp_all[WD,bo,decide_eq_decide,beq_eq_decide];done)
        |(simp_all[ZZ,WI,Vw.len];done)
        |(simp_all[ZZ,WI,Vw.len];omega)
   . cases hs
 . cases hs
def C5 (c:Cfg) (nq:Nat) (fq:Nat->Int) (l:List AC):List AV->AV
 | [.c (.v (.int .i64 z))]=>.agg (KN (decide (0<=ZI c nq fq z)) z l)
 |_=>i64 0
def W5 (c:Cfg) (_:List AC):List AV->Bool
 | [.c (.v (.int .i64 _))]=>decide (c.np<=8)
 |_=>false
def pW (pre:Cfg->List AC->List AV->Bool):YF->Bool
 |⟨c,_,_,.agg l::r⟩=>W7 l&&pre c l r
 |_=>false
theorem Ic {G:AMem} (hG:(G.all fun p=>Nat.ble ZR p.1)=true) {E:Env} (hE:ZC E) {f:FuncId} {R:Cfg->Nat->(Nat->Int)->List AC->List AV->AV} {pre:Cfg->List AC->List AV->Bool} (hf:∃(fn:Func) (c:Code),E.P.funcs[f]? =some fn/\fn.body=some c) (hres:∀c nq fq v r,XV (R c nq fq v r)=true)
 (run:∀c nq fq v r,pre c (ZX v) r=true->∃p lp q,ZB [] (ZM E (fC E 300) f (.c (.ptr 5 0 0):: .agg (ZX v)::r) 1000 nSt (XW (G++Xg c nq fq) p lp))=some q/\Z6 (R c nq fq (ZX v) r) q):ZA E.P f (Y9 (XG G hG) (rV R) (pW pre)):=by
 refine U3 hE (XG G hG) (fuel:=300) (str:=nSt) hf (I2 hres) fun s hs=>?_
 unfold pW at hs;split at hs
 . rename_i c nq fq l r
   rw[Bool.and_eq_true] at hs;have e:=Pj hs.1;rw[e];rw[e] at hs;exact run c nq fq (Zi l) r hs.2
 . cases hs
theorem jjqk (z:Int) (v:Vw):Qk false z v=v:=by
 cases v;simp[Qk,Ou]
def JA:Yk:=Y9 netRd (rV C5) (pW W5)
theorem Nx {c:Cfg} {nq:Nat} {fq:Nat->Int} {z:Int} (h:0<=ZI c nq fq z):0<=z/\z<c.np:=by
 unfold ZI Ky at h;split at h
 . omega
 . split at h
   . assumption
   . omega
theorem jjr5:ZA prog 34 JA:=by
 refine Ic (G:=mS) (by kernel_rfl) (E:=Q6 prog) Nd ⟨_,_,Tryz.func34,rfl⟩ (fun c nq fq v r=>by unfold C5;split<;>rfl) fun c nq fq v r hr=>?_
 unfold W5 at hr;split at hr
 . rename_i z
   have h8:c.np<=8:=of_decide_eq_true hr;refine(?_:(∃p q,QZ (Q6 prog) 34 c nq fq v [i64 z] p []=some q/\Z6 (.agg (KN (decide (0<=ZI c nq fq z)) z (ZX v))) q)->_) (mbHe c nq fq v z _ ?_)
   . rintro⟨p,q,h1,h2⟩
     exact⟨p,[],q,h1,h2⟩
   . refine⟨fun h=>?_,fun h=>?_⟩
     . have hd:0<=ZI c nq fq z:=by simpa using h
       obtain⟨z0,z1⟩:=Nx hd;have e:decide (0<=ZI c nq fq z)=true:=decide_eq_true hd;rw[e];have hz:z=0\/z=1\/z=2\/z=3\/z=4\/z=5\/z=6\/z=7:=by omega
       rcases hz with rfl|rfl|rfl|rfl|rfl|rfl|rfl|rfl
       all_goals (refine⟨rfl,(by first|(unfold ZR;omega)|(dsimp only;unfold ZR;omega)),?_,by simp⟩)
       all_goals (simp_all[ZZ,Yb,YN,Yi,Ya,XZ,Y0,ZN,Z5,WI,Vw.len])
     . have hd:decide (0<=ZI c nq fq z)=false:=by simpa using h
       rw[hd];refine⟨?_,(by first|(unfold ZR;omega)|(dsimp only;unfold ZR;omega)),?_,by simp⟩
       . show AV.agg (ZX v)=AV.agg (KN false z (ZX v))
         rw[jjn6,jjqk]
       . simp_all[ZZ,Yb,YN,Yi,Ya,XZ,Y0]
 . cases hr
def N8:List (FuncId × Yk):=[(59,WB),(98,Qg .u8 Yx),(100,Qg .u16 Yq),(99,Qg .u16 Yy)]
theorem jjkd:∀f g,(f,g)∈N8->ZA prog f g:=by
 intro f g h;simp only[N8,List.mem_cons,Prod.mk.injEq,List.not_mem_nil,or_false] at h;rcases h with⟨rfl,rfl⟩|⟨rfl,rfl⟩|⟨rfl,rfl⟩|⟨rfl,rfl⟩
 . exact NB
 . exact BH
 . exact jjr0
 . exact jjqz
def MH (P:Program):Env:=⟨P,N8⟩
theorem JP:ZC (MH prog):=Xf jjkd (by kernel_rfl) (by kernel_rfl)
def AI:Vw:=⟨fun _=>false,fun _=>0,fun _=>0,fun _=>0,fun _=>false,0,0⟩
abbrev QY:List Nat:=[3,4,5,11,12]
abbrev rdS (u:Vw):Zl:=⟨QY,[1000,1001,1128],ZQ 99 [(3,.c (.ptr 1000 0 0)),(4,.c (.ptr 1001 0 0))],[(1000,WJ u),(1001,WJ AI)],100000000000000000000000000000000000000000000000000,.exit 0⟩
theorem FF (c:Cfg) (nq:Nat) (fq:Nat->Int) (v u:Vw) (Q:VF->Prop) (H:let zN:=Int.ofNat;let zM:=ABlk.mk;let zD:=Int.toNat;Q (.agg (z8 (fun zk=>zB (Vw.inn u zk)) (z8 (fun zk=>zU (Vw.miss u zk)) (z8 (fun zk=>zU (Vw.good u zk)) (z8 (fun zk=>zH (Vw.score u zk)) (z8 (fun zk=>zB (Vw.got u zk)) [.v (.int .i8 (Vw.command u)),zU (Vw.mode u)]))))),[],100000000000000000000000000000000000000000000000002,(zu (zu (zu (zt (y3 (y3 (((decide (zN 0<=zN 0/\zN 0<=Option.getD (some ↑(c.nt)) ↑(c.nt)/\Option.getD (some ↑(c.nt)) ↑(c.nt)<=YR none c.nt (some ↑(c.nt))))::true::(decide (YR none c.nt (some ↑(c.nt)) <= ↑(Option.getD none c.nt)))::true::(Zt none (zM true true 70 3 (Cs.arr c.nt fun k=>List.map AC.v ((fun i=>[Value.int .i64 (Station.node (YY (Zj (zM false false 70 3 (yT c)) 0 0 3) i)),Value.int .u32 (Station.safe (YY (Zj (zM false false 70 3 (yT c)) 0 0 3) i)),Value.int .i64 (Station.hold (YY (Zj (zM false false 70 3 (yT c)) 0 0 3) i))]) k))) 0 c.nt)::(decide (0+c.nt<=c.nt))::(decide (c.nt<=1000000))::(Yv c.nt fun k=>List.map AC.v ((fun i=>[Value.int .i64 (Station.node (c.ft i)),Value.int .u32 (Station.safe (c.ft i)),Value.int .i64 (Station.hold (c.ft i))]) k))::true::true::(decide (zN 0<=zN 0/\zN 0<=Option.getD (some ↑(0+c.nb)) ↑(0+c.nb)/\Option.getD (some ↑(0+c.nb)) ↑(0+c.nb)<=YR none (0+c.nb) (some ↑(0+c.nb))))::true::(decide (YR none (0+c.nb) (some ↑(0+c.nb)) <= ↑(Option.getD none (0+c.nb))))::true::(Zt none (zM true true 3 1 (Cs.arr (0+c.nb) fun i=>if i<0 then[] else YW (zM false false 3 1 (yB c)) 0 0 1 (i-0))) 0 (0+c.nb))::(decide (0+c.nb<=c.nb))::true::true::(decide ((0+c.nb)*8<=140737488355328))::(ABlk.inb (zM false false 3 1 (yB c)) 0 1)::y3 (true::(decide (zN 0<=zN 0/\zN 0<=Option.getD (some ↑(0+c.ns)) ↑(0+c.ns)/\Option.getD (some ↑(0+c.ns)) ↑(0+c.ns)<=YR none (0+c.ns) (some ↑(0+c.ns))))::true::(decide (YR none (0+c.ns) (some ↑(0+c.ns)) <= ↑(Option.getD none (0+c.ns))))::true::(Zt none (zM true true 3 1 (Cs.arr (0+c.ns) fun i=>if i<0 then[] else YW (zM false false 3 1 (yS c)) 0 0 1 (i-0))) 0 (0+c.ns))::(decide (0+c.ns<=c.ns))::true::true::(decide ((0+c.ns)*8<=140737488355328))::(ABlk.inb (zM false false 3 1 (yS c)) 0 1)::y3 (true::(decide (zN 0<=zN 0/\zN 0<=Option.getD (some ↑(0+c.np)) ↑(0+c.np)/\Option.getD (some ↑(0+c.np)) ↑(0+c.np)<=YR none (0+c.np) (some ↑(0+c.np))))::true::(decide (YR none (0+c.np) (some ↑(0+c.np)) <= ↑(Option.getD none (0+c.np))))::true::(Zt none (zM true true 3 1 (Cs.arr (0+c.np) fun i=>if i<0 then[] else YW (zM false false 3 1 (yP c)) 0 0 1 (i-0))) 0 (0+c.np))::(decide (0+c.np<=c.np))::true::true::(decide ((0+c.np)*8<=140737488355328))::(ABlk.inb (zM false false 3 1 (yP c)) 0 1)::(zt (true::(((!decide (↑nq>zN 0))==false)::true::[]))))))))))))),[LoopV prog (ZW prog 68 0) QY [1000,1001,1128] [some (.c (.ptr 1000 0 0)),some (.c (.ptr 1001 0 0)),some (.c (.ptr 1128 0 0)),some (.c (.v (.int .i64 ↑(zD (Option.getD (some ↑(0+c.np)) ↑(0+c.np)-zN 0))))),some (.c (zI (zN 0)))] [yR 32 0 (Cs.lit (ZX v)),yR 32 0 (Cs.lit (z8 (fun zk=>zB false) (z8 (fun zk=>zU (zN 0)) (z8 (fun zk=>zU (zN 0)) (z8 (fun zk=>zH (zN 0)) (z8 (fun zk=>zB false) [.v (.int .i8 (zN 0)),zU (zN 0)])))))),yR 25 0 (Cs.lit [zI c.nodes,AC.sl 1043 0 0 (zD (Option.getD (some ↑(0+c.np)) ↑(0+c.np)-zN 0)) (some (zD (↑(0+c.np)-zN 0))),AC.sl 1070 0 0 (zD (Option.getD (some ↑(0+c.ns)) ↑(0+c.ns)-zN 0)) (some (zD (↑(0+c.ns)-zN 0))),zI c.long,AC.sl 1097 0 0 (zD (Option.getD (some ↑(0+c.nb)) ↑(0+c.nb)-zN 0)) (some (zD (↑(0+c.nb)-zN 0))),AC.sl 1114 0 0 (zD (Option.getD (some ↑(c.nt)) ↑(c.nt)-zN 0)) (some (zD (↑(c.nt)-zN 0))),zI c.miss,zI c.good,zI c.fresh])] 99 1134 (ZQ 99 [(3,.c (.ptr 1000 0 0)),(4,.c (.ptr 1001 0 0))]) [(1000,WJ u),(1001,WJ AI)] 100000000000000000000000000000000000000000000000000 (Exit.exit 0) none])):
 ∃p r,QZ (MH prog) 68 c nq fq v [] p [none,some (rdS u)]=some r/\Q r:=
 ⟨pD 14 1458,_,by kernel_rfl,H⟩
abbrev Md (c:Cfg):ABlk:=⟨true,false,25,0,.lit [.v (.int .i64 c.nodes),.sl 1043 0 0 c.np (some c.np),.sl 1070 0 0 c.ns (some c.ns),.v (.int .i64 c.long),.sl 1097 0 0 c.nb (some c.nb),.sl 1114 0 0 c.nt (some c.nt),.v (.int .i64 c.miss),.v (.int .i64 c.good),.v (.int .i64 c.fresh)]⟩
abbrev Gf:List Nat:=[1000,1001,1128]
abbrev PZ (c:Cfg) (k:Nat):List AV:=[.c (.ptr 1000 0 0),.c (.ptr 1001 0 0),.c (.ptr 1128 0 0),i64 (Int.ofNat c.np),i64 (Int.ofNat k)]
def Ov (P:Program) (c:Cfg) (u v:Vw) (k:Nat) (path:List Dec):Option VC:=
 view (QY++[]) Gf (fC (MH P) 100 (ZW P 68 0) 1000000000000000000000000000000000000000000 nSt (Wi 99 QY Gf (PZ c k) [WJ u,WJ v,Md c] path []))
theorem RB (k0Z k1Z:Nat) (hkZ:k0Z<8/\k1Z=k0Z+1) (c:Cfg) (u v:Vw) (Q:VC->Prop) (H:let zN:=Int.ofNat;let zM:=ABlk.mk;let zz0:=(Md c);let zz1:=[some (ZO (List.zip QY (PZ c k0Z)) 3),some (ZO (List.zip QY (PZ c k0Z)) 4),some (ZO (List.zip QY (PZ c k0Z)) 5),some (ZO (List.zip QY (PZ c k0Z)) 11),some (AV.c (zI (zN k1Z)))];let zz2:=[AV.c (zH (Vw.score u k0Z))];let zz3:=[yR 32 0 (Cs.lit (ZX (RG k0Z (Vw.inn u k0Z) (zN 0) (Yx (Vw.good u k0Z)) (Yy (Vw.score u k0Z)) false u))),yR 32 0 (Cs.lit (ZX v)),some zz0];let zz4:=[yR 32 0 (Cs.lit (ZX (RG k0Z (Vw.inn u k0Z) (Yx (Vw.miss u k0Z)) (zN 0) (Yq (Vw.score u k0Z)) false u))),yR 32 0 (Cs.lit (ZX v)),some zz0];let zz5:=(IntKind.wrap IntKind.i64 (Yx (Vw.good u k0Z))≥Cfg.good c);let zz6:=(IntKind.wrap IntKind.i64 (Yx (Vw.miss u k0Z))≥Cfg.miss c);let zz7:=[AV.c (zU (Vw.good u k0Z))];let zz8:=[AV.c (zU (Vw.miss u k0Z))];let zz9:=[yR 32 0 (Cs.lit (ZX (RG k0Z true (zN 0) (Yx (Vw.good u k0Z)) (Yy (Vw.score u k0Z)) false u))),yR 32 0 (Cs.lit (ZX v)),some zz0];let zz10:=[yR 32 0 (Cs.lit (ZX (RG k0Z true (Yx (Vw.miss u k0Z)) (zN 0) (Yq (Vw.score u k0Z)) false u))),yR 32 0 (Cs.lit (ZX v)),some zz0];let zq0:List Bool:=[true,true,true,decide (zN k0Z<zN c.np)==true];let zq1:List Bool:=zt (true::true::((Ta .u16 zz2)::y3 (true::(Ta .u8 zz7)::y3 ((Vw.got u k0Z==true)::zq0))));let zq2:List Bool:=y3 (true::true::(Vw.inn u k0Z==true)::zq1);let zq3:List Bool:=y3 ((decide (zN 0≥c.miss)==false)::zq2);let zq4:List Bool:=y3 (true::true::((!Vw.inn u k0Z)==true)::zq3);let zq5:List Bool:=y3 ((Vw.inn u k0Z==false)::zq1);let zq6:List Bool:=y3 (true::true::((!Vw.inn u k0Z)==true)::zq5);let zq7:List Bool:=zt (true::true::((Ta .u16 zz2)::y3 (true::(Ta .u8 zz8)::y3 ((Vw.got u k0Z==false)::zq0))));let zq8:List Bool:=y3 (true::true::(Vw.inn u k0Z==true)::zq7);let zq9:List Bool:=y3 ((decide zz6==false)::zq8);let zq10:List Bool:=y3 (true::true::((!Vw.inn u k0Z)==true)::zq9);let zq11:List Bool:=y3 ((Vw.inn u k0Z==false)::zq7);let zq12:List Bool:=y3 (true::true::((!Vw.inn u k0Z)==true)::zq11);(((Vw.got u k0Z)=true->(((Vw.inn u k0Z)=true->(((decide (zN 0≥c.miss))=true->Q (Exit.normal,zz1,[yR 32 0 (Cs.lit (ZX (RG k0Z false (zN 0) (Yx (Vw.good u k0Z)) (Yy (Vw.score u k0Z)) false u))),yR 32 0 (Cs.lit (ZX v)),some zz0],99,1370000000000000000000000000000000000000017,(y3 (true::(decide (zN 0≥c.miss)==true)::zq2)),[]))/\((decide (zN 0≥c.miss))=false->(((!Vw.inn u k0Z)=true->(((decide zz5)=true->Q (Exit.normal,zz1,zz9,99,1530000000000000000000000000000000000000017,(y3 (true::(decide zz5==true)::zq4)),[]))/\((decide zz5)=false->Q (Exit.normal,zz1,zz3,99,1530000000000000000000000000000000000000013,(true::true::(decide zz5==false)::zq4),[]))))/\((!Vw.inn u k0Z)=false->Q (Exit.normal,zz1,zz3,99,1530000000000000000000000000000000000000013,(true::true::((!Vw.inn u k0Z)==false)::zq3),[]))))))/\((Vw.inn u k0Z)=false->(((!Vw.inn u k0Z)=true->(((decide zz5)=true->Q (Exit.normal,zz1,zz9,99,1530000000000000000000000000000000000000017,(y3 (true::(decide zz5==true)::zq6)),[]))/\((decide zz5)=false->Q (Exit.normal,zz1,zz3,99,1530000000000000000000000000000000000000013,(true::true::(decide zz5==false)::zq6),[]))))/\((!Vw.inn u k0Z)=false->Q (Exit.normal,zz1,zz3,99,1530000000000000000000000000000000000000013,(true::true::((!Vw.inn u k0Z)==false)::zq5),[]))))))/\((Vw.got u k0Z)=false->(((Vw.inn u k0Z)=true->(((decide zz6)=true->Q (Exit.normal,zz1,[yR 32 0 (Cs.lit (ZX (RG k0Z false (Yx (Vw.miss u k0Z)) (zN 0) (Yq (Vw.score u k0Z)) false u))),yR 32 0 (Cs.lit (ZX v)),some zz0],99,1370000000000000000000000000000000000000017,(y3 (true::(decide zz6==true)::zq8)),[]))/\((decide zz6)=false->(((!Vw.inn u k0Z)=true->(((decide (zN 0≥c.good))=true->Q (Exit.normal,zz1,zz10,99,1530000000000000000000000000000000000000017,(y3 (true::(decide (zN 0≥c.good)==true)::zq10)),[]))/\((decide (zN 0≥c.good))=false->Q (Exit.normal,zz1,zz4,99,1530000000000000000000000000000000000000013,(true::true::(decide (zN 0≥c.good)==false)::zq10),[]))))/\((!Vw.inn u k0Z)=false->Q (Exit.normal,zz1,zz4,99,1530000000000000000000000000000000000000013,(true::true::((!Vw.inn u k0Z)==false)::zq9),[]))))))/\((Vw.inn u k0Z)=false->(((!Vw.inn u k0Z)=true->(((decide (zN 0≥c.good))=true->Q (Exit.normal,zz1,zz10,99,1530000000000000000000000000000000000000017,(y3 (true::(decide (zN 0≥c.good)==true)::zq12)),[]))/\((decide (zN 0≥c.good))=false->Q (Exit.normal,zz1,zz4,99,1530000000000000000000000000000000000000013,(true::true::(decide (zN 0≥c.good)==false)::zq12),[]))))/\((!Vw.inn u k0Z)=false->Q (Exit.normal,zz1,zz4,99,1530000000000000000000000000000000000000013,(true::true::((!Vw.inn u k0Z)==false)::zq11),[])))))))):
 ∃p r,Ov prog c u v k0Z p=some r/\Q r:=by
 have hZ:(k0Z=0/\k1Z=1)\/(k0Z=1/\k1Z=2)\/(k0Z=2/\k1Z=3)\/(k0Z=3/\k1Z=4)\/(k0Z=4/\k1Z=5)\/(k0Z=5/\k1Z=6)\/(k0Z=6/\k1Z=7)\/(k0Z=7/\k1Z=8):=by omega
 clear hkZ;rcases hZ with⟨rfl,rfl⟩|⟨rfl,rfl⟩|⟨rfl,rfl⟩|⟨rfl,rfl⟩|⟨rfl,rfl⟩|⟨rfl,rfl⟩|⟨rfl,rfl⟩|⟨rfl,rfl⟩
 all_goals
  exact ZD H (fun g1=>ZD g1 (fun g2=>ZD g2 (fun g3=>⟨pD 11 59062,_,by kernel_rfl,g3⟩) (fun g3=>ZD g3 (fun g4=>ZD g4 (fun g5=>⟨pD 20 1162556725,_,by kernel_rfl,g5⟩) (fun g5=>⟨pD 20 2324818192,_,by kernel_rfl,g5⟩)) (fun g4=>⟨pD 20 472405,_,by kernel_rfl,g4⟩))) (fun g2=>ZD g2 (fun g3=>ZD g3 (fun g4=>⟨pD 20 1162438636,_,by kernel_rfl,g4⟩) (fun g4=>⟨pD 20 2324700103,_,by kernel_rfl,g4⟩)) (fun g3=>⟨pD 20 354316,_,by kernel_rfl,g3⟩))) (fun g1=>ZD g1 (fun g2=>ZD g2 (fun g3=>⟨pD 11 59065,_,by kernel_rfl,g3⟩) (fun g3=>ZD g3 (fun g4=>ZD g4 (fun g5=>⟨pD 20 1162556728,_,by kernel_rfl,g5⟩) (fun g5=>⟨pD 20 2324818195,_,by kernel_rfl,g5⟩)) (fun g4=>⟨pD 20 472408,_,by kernel_rfl,g4⟩))) (fun g2=>ZD g2 (fun g3=>ZD g3 (fun g4=>⟨pD 20 1162438639,_,by kernel_rfl,g4⟩) (fun g4=>⟨pD 20 2324700106,_,by kernel_rfl,g4⟩)) (fun g3=>⟨pD 20 354319,_,by kernel_rfl,g3⟩)))

theorem rdE (c:Cfg) (u v:Vw) (k:Nat) (Q:VC->Prop) (H:Q (Exit.exit 0,[some (ZO (List.zip QY (PZ c k)) 3),some (ZO (List.zip QY (PZ c k)) 4),some (ZO (List.zip QY (PZ c k)) 5),some (ZO (List.zip QY (PZ c k)) 11),some (ZO (List.zip QY (PZ c k)) 12)],[yR 32 0 (Cs.lit (ZX u)),yR 32 0 (Cs.lit (ZX v)),yR 25 0 (Cs.lit [zI c.nodes,AC.sl 1043 0 0 c.np (some c.np),AC.sl 1070 0 0 c.ns (some c.ns),zI c.long,AC.sl 1097 0 0 c.nb (some c.nb),AC.sl 1114 0 0 c.nt (some c.nt),zI c.miss,zI c.good,zI c.fresh])],99,1000000000000000000000000000000000000000001,[decide (Int.ofNat k<Int.ofNat c.np)==false],[])):
 ∃p r,Ov prog c u v k p=some r/\Q r:=
 ⟨pD 1 2,_,by kernel_rfl,H⟩
def Tb (v:Vw):Prop:=∀i,i<8->0<=v.miss i/\0<=v.good i/\0<=v.score i
def QL (l:List AC):Bool:=(List.range 8).all fun i=>decide (0<=ZP (l.getD (8+i) ZV))&&(decide (0<=ZP (l.getD (16+i) ZV))&&decide (0<=ZP (l.getD (24+i) ZV)))
theorem DH (v:Vw):QL (ZX v)=true↔Tb v:=by
 have e:∀i,i<8->ZP ((ZX v).getD (8+i) ZV)=v.miss i/\ZP ((ZX v).getD (16+i) ZV)=v.good i/\ZP ((ZX v).getD (24+i) ZV)=v.score i:=fun i hi=>by
  have a2:=(Ru v i hi).1;have a3:=(Rv v i hi).1;have a4:=(U2 v i hi).1;simp only[Nat.mul_one,Int.ofNat_eq_natCast,Int.toNat_natCast] at a2 a3 a4;exact⟨a2,a3,a4⟩
 unfold QL;rw[List.all_eq_true];constructor
 . intro h i hi
   have h:=h i (List.mem_range.2 hi);obtain⟨e1,e2,e3⟩:=e i hi;rw[e1,e2,e3] at h;simp only[Bool.and_eq_true,decide_eq_true_eq] at h;exact h
 . intro h i hi
   have hi:=List.mem_range.1 hi;obtain⟨e1,e2,e3⟩:=e i hi;rw[e1,e2,e3];simp only[Bool.and_eq_true,decide_eq_true_eq];exact h i hi
def WN (c:Cfg) (nq:Nat):Bool:=decide (0<nq)&&(decide (1<=c.np/\1<=c.ns/\1<=c.nb)&&(decide (c.np<=1000)&&(decide (c.ns<=1000)&&(decide (c.nb<=1000)&&decide (c.nt<=1000)))))
theorem Xn {k:Nat} {ms go:Int} {v u:Vw} (hu:Zh ⟨k,ms,go⟩ v=u) {a:Bool} {m x s:Int} (h1:Ub ⟨k+1,ms,go⟩ k (v.inn k) (v.got k) (v.miss k) (v.good k)=a:=by first|(simp_all[Ub,Vc,Vb,V8,Zh];done)|(simp_all[Ub,Vc,Vb,V8,Zh];omega)|fail) (h2:Vc ⟨k+1,ms,go⟩ k (v.got k) (v.miss k)=m:=by first|(simp_all[Ub,Vc,Vb,V8,Zh];done)|(simp_all[Ub,Vc,Vb,V8,Zh];omega)|fail) (h3:Vb ⟨k+1,ms,go⟩ k (v.got k) (v.good k)=x:=by first|(simp_all[Ub,Vc,Vb,V8,Zh];done)|(simp_all[Ub,Vc,Vb,V8,Zh];omega)|fail) (h4:V8 ⟨k+1,ms,go⟩ k (v.got k) (v.score k)=s:=by first|(simp_all[Ub,Vc,Vb,V8,Zh];done)|(simp_all[Ub,Vc,Vb,V8,Zh];omega)|fail):
 Zh ⟨k+1,ms,go⟩ v=RG k a m x s false u:=by
 subst hu h1 h2 h3 h4;unfold Zh RG;have e:∀i,i≠k->(i<k+1↔i<k):=fun i h=>by omega
 simp only[Vw.mk.injEq,and_true];refine⟨?_,?_,?_,?_,?_⟩<;>(funext i;by_cases hi:i=k)
 all_goals (first|(subst hi;simp;done)|(subst hi;simp[QX];done)|(have e2:=e i hi;by_cases hk:i<k<;>simp[hi,Ub,Vc,Vb,V8,QX,hk,e2]))
theorem VI {z:Int} (h:0<=z):IntKind.wrap .i64 (Yx z)=Yx z:=Wu _ (by unfold Yx;omega) (by unfold Yx;omega)
def RM (c:Cfg) (v w:Vw) (k:Nat) (r:VC):Prop:=
 ZZ r.2.2.2.2.2.1/\r.2.2.2.2.2.2=[]/\r.2.2.2.2.1<=100000000000000000000000000000000000000000000000000/\r.2.2.2.1=99/\r.1= .normal/\r.2.1=(PZ c (k+1)).map some/\r.2.2.1=[some (WJ (Zh ⟨k+1,c.miss,c.good⟩ v)),some (WJ w),some (Md c)]
theorem jjph (c:Cfg) (v w:Vw) (hk:0<c.np) (hp:Tb v):∃p r,Ov prog c (Zh ⟨0,c.miss,c.good⟩ v) w 0 p=some r/\RM c v w 0 r:=by
 obtain⟨p1,p2,p3⟩:=hp 0 (by omega);obtain⟨u,hu⟩:∃u,Zh ⟨0,c.miss,c.good⟩ v=u:=⟨_,rfl⟩
 have e1:u.inn 0=v.inn 0:=by rw[<- hu];rfl
 have e2:u.got 0=v.got 0:=by rw[<- hu];rfl
 have e3:u.miss 0=v.miss 0:=by rw[<- hu];rfl
 have e4:u.good 0=v.good 0:=by rw[<- hu];rfl
 have e5:u.score 0=v.score 0:=by rw[<- hu];rfl
 have w1:=VI p1;have w2:=VI p2;rw[hu];refine(RB 0 1 ⟨by decide,rfl⟩) c u w _ ?_;simp only[e1,e2,e3,e4,e5,w1,w2]
 (repeat' (first|refine⟨fun h=>?_,fun h=>?_⟩|fail))
 all_goals (first|(exfalso;simp_all;done)|skip)
 all_goals (refine⟨?_,rfl,by dsimp only;omega,rfl,rfl,rfl,?_⟩)
 all_goals first
  |(rw[Xn (k:=0) (ms:=c.miss) (go:=c.good) (v:=v) (u:=u) hu (a:=true) (m:=0) (x:=Yx (v.good 0)) (s:=Yy (v.score 0))];rfl)
  |(rw[Xn (k:=0) (ms:=c.miss) (go:=c.good) (v:=v) (u:=u) hu (a:=true) (m:=Yx (v.miss 0)) (x:=0) (s:=Yq (v.score 0))];rfl)
  |(rw[Xn (k:=0) (ms:=c.miss) (go:=c.good) (v:=v) (u:=u) hu (a:=false) (m:=0) (x:=Yx (v.good 0)) (s:=Yy (v.score 0))];rfl)
  |(rw[Xn (k:=0) (ms:=c.miss) (go:=c.good) (v:=v) (u:=u) hu (a:=false) (m:=Yx (v.miss 0)) (x:=0) (s:=Yq (v.score 0))];rfl)
  |(rw[Xn (k:=0) (ms:=c.miss) (go:=c.good) (v:=v) (u:=u) hu (a:=v.inn 0) (m:=0) (x:=Yx (v.good 0)) (s:=Yy (v.score 0))];rfl)
  |(rw[Xn (k:=0) (ms:=c.miss) (go:=c.good) (v:=v) (u:=u) hu (a:=v.inn 0) (m:=Yx (v.miss 0)) (x:=0) (s:=Yq (v.score 0))];rfl)
  |(simp_all[ZZ,Ta];done)
  |(simp_all[ZZ,Ta];omega)
theorem jjpg (c:Cfg) (v w:Vw) (hk:1<c.np) (hp:Tb v):∃p r,Ov prog c (Zh ⟨1,c.miss,c.good⟩ v) w 1 p=some r/\RM c v w 1 r:=by
 obtain⟨p1,p2,p3⟩:=hp 1 (by omega);obtain⟨u,hu⟩:∃u,Zh ⟨1,c.miss,c.good⟩ v=u:=⟨_,rfl⟩
 have e1:u.inn 1=v.inn 1:=by rw[<- hu];rfl
 have e2:u.got 1=v.got 1:=by rw[<- hu];rfl
 have e3:u.miss 1=v.miss 1:=by rw[<- hu];rfl
 have e4:u.good 1=v.good 1:=by rw[<- hu];rfl
 have e5:u.score 1=v.score 1:=by rw[<- hu];rfl
 have w1:=VI p1;have w2:=VI p2;rw[hu];refine(RB 1 2 ⟨by decide,rfl⟩) c u w _ ?_;simp only[e1,e2,e3,e4,e5,w1,w2]
 (repeat' (first|refine⟨fun h=>?_,fun h=>?_⟩|fail))
 all_goals (first|(exfalso;simp_all;done)|skip)
 all_goals (refine⟨?_,rfl,by dsimp only;omega,rfl,rfl,rfl,?_⟩)
 all_goals first
  |(rw[Xn (k:=1) (ms:=c.miss) (go:=c.good) (v:=v) (u:=u) hu (a:=true) (m:=0) (x:=Yx (v.good 1)) (s:=Yy (v.score 1))];rfl)
  |(rw[Xn (k:=1) (ms:=c.miss) (go:=c.good) (v:=v) (u:=u) hu (a:=true) (m:=Yx (v.miss 1)) (x:=0) (s:=Yq (v.score 1))];rfl)
  |(rw[Xn (k:=1) (ms:=c.miss) (go:=c.good) (v:=v) (u:=u) hu (a:=false) (m:=0) (x:=Yx (v.good 1)) (s:=Yy (v.score 1))];rfl)
  |(rw[Xn (k:=1) (ms:=c.miss) (go:=c.good) (v:=v) (u:=u) hu (a:=false) (m:=Yx (v.miss 1)) (x:=0) (s:=Yq (v.score 1))];rfl)
  |(rw[Xn (k:=1) (ms:=c.miss) (go:=c.good) (v:=v) (u:=u) hu (a:=v.inn 1) (m:=0) (x:=Yx (v.good 1)) (s:=Yy (v.score 1))];rfl)
  |(rw[Xn (k:=1) (ms:=c.miss) (go:=c.good) (v:=v) (u:=u) hu (a:=v.inn 1) (m:=Yx (v.miss 1)) (x:=0) (s:=Yq (v.score 1))];rfl)
  |(simp_all[ZZ,Ta];done)
  |(simp_all[ZZ,Ta];omega)
theorem jjpf (c:Cfg) (v w:Vw) (hk:2<c.np) (hp:Tb v):∃p r,Ov prog c (Zh ⟨2,c.miss,c.good⟩ v) w 2 p=some r/\RM c v w 2 r:=by
 obtain⟨p1,p2,p3⟩:=hp 2 (by omega);obtain⟨u,hu⟩:∃u,Zh ⟨2,c.miss,c.good⟩ v=u:=⟨_,rfl⟩
 have e1:u.inn 2=v.inn 2:=by rw[<- hu];rfl
 have e2:u.got 2=v.got 2:=by rw[<- hu];rfl
 have e3:u.miss 2=v.miss 2:=by rw[<- hu];rfl
 have e4:u.good 2=v.good 2:=by rw[<- hu];rfl
 have e5:u.score 2=v.score 2:=by rw[<- hu];rfl
 have w1:=VI p1;have w2:=VI p2;rw[hu];refine(RB 2 3 ⟨by decide,rfl⟩) c u w _ ?_;simp only[e1,e2,e3,e4,e5,w1,w2]
 (repeat' (first|refine⟨fun h=>?_,fun h=>?_⟩|fail))
 all_goals (first|(exfalso;simp_all;done)|skip)
 all_goals (refine⟨?_,rfl,by dsimp only;omega,rfl,rfl,rfl,?_⟩)
 all_goals first
  |(rw[Xn (k:=2) (ms:=c.miss) (go:=c.good) (v:=v) (u:=u) hu (a:=true) (m:=0) (x:=Yx (v.good 2)) (s:=Yy (v.score 2))];rfl)
  |(rw[Xn (k:=2) (ms:=c.miss) (go:=c.good) (v:=v) (u:=u) hu (a:=true) (m:=Yx (v.miss 2)) (x:=0) (s:=Yq (v.score 2))];rfl)
  |(rw[Xn (k:=2) (ms:=c.miss) (go:=c.good) (v:=v) (u:=u) hu (a:=false) (m:=0) (x:=Yx (v.good 2)) (s:=Yy (v.score 2))];rfl)
  |(rw[Xn (k:=2) (ms:=c.miss) (go:=c.good) (v:=v) (u:=u) hu (a:=false) (m:=Yx (v.miss 2)) (x:=0) (s:=Yq (v.score 2))];rfl)
  |(rw[Xn (k:=2) (ms:=c.miss) (go:=c.good) (v:=v) (u:=u) hu (a:=v.inn 2) (m:=0) (x:=Yx (v.good 2)) (s:=Yy (v.score 2))];rfl)
  |(rw[Xn (k:=2) (ms:=c.miss) (go:=c.good) (v:=v) (u:=u) hu (a:=v.inn 2) (m:=Yx (v.miss 2)) (x:=0) (s:=Yq (v.score 2))];rfl)
  |(simp_all[ZZ,Ta];done)
  |(simp_all[ZZ,Ta];omega)
theorem jjpe (c:Cfg) (v w:Vw) (hk:3<c.np) (hp:Tb v):∃p r,Ov prog c (Zh ⟨3,c.miss,c.good⟩ v) w 3 p=some r/\RM c v w 3 r:=by
 obtain⟨p1,p2,p3⟩:=hp 3 (by omega);obtain⟨u,hu⟩:∃u,Zh ⟨3,c.miss,c.good⟩ v=u:=⟨_,rfl⟩
 have e1:u.inn 3=v.inn 3:=by rw[<- hu];rfl
 have e2:u.got 3=v.got 3:=by rw[<- hu];rfl
 have e3:u.miss 3=v.miss 3:=by rw[<- hu];rfl
 have e4:u.good 3=v.good 3:=by rw[<- hu];rfl
 have e5:u.score 3=v.score 3:=by rw[<- hu];rfl
 have w1:=VI p1;have w2:=VI p2;rw[hu];refine(RB 3 4 ⟨by decide,rfl⟩) c u w _ ?_;simp only[e1,e2,e3,e4,e5,w1,w2]
 (repeat' (first|refine⟨fun h=>?_,fun h=>?_⟩|fail))
 all_goals (first|(exfalso;simp_all;done)|skip)
 all_goals (refine⟨?_,rfl,by dsimp only;omega,rfl,rfl,rfl,?_⟩)
 all_goals first
  |(rw[Xn (k:=3) (ms:=c.miss) (go:=c.good) (v:=v) (u:=u) hu (a:=true) (m:=0) (x:=Yx (v.good 3)) (s:=Yy (v.score 3))];rfl)
  |(rw[Xn (k:=3) (ms:=c.miss) (go:=c.good) (v:=v) (u:=u) hu (a:=true) (m:=Yx (v.miss 3)) (x:=0) (s:=Yq (v.score 3))];rfl)
  |(rw[Xn (k:=3) (ms:=c.miss) (go:=c.good) (v:=v) (u:=u) hu (a:=false) (m:=0) (x:=Yx (v.good 3)) (s:=Yy (v.score 3))];rfl)
  |(rw[Xn (k:=3) (ms:=c.miss) (go:=c.good) (v:=v) (u:=u) hu (a:=false) (m:=Yx (v.miss 3)) (x:=0) (s:=Yq (v.score 3))];rfl)
  |(rw[Xn (k:=3) (ms:=c.miss) (go:=c.good) (v:=v) (u:=u) hu (a:=v.inn 3) (m:=0) (x:=Yx (v.good 3)) (s:=Yy (v.score 3))];rfl)
  |(rw[Xn (k:=3) (ms:=c.miss) (go:=c.good) (v:=v) (u:=u) hu (a:=v.inn 3) (m:=Yx (v.miss 3)) (x:=0) (s:=Yq (v.score 3))];rfl)
  |(simp_all[ZZ,Ta];done)
  |(simp_all[ZZ,Ta];omega)
theorem jjpd (c:Cfg) (v w:Vw) (hk:4<c.np) (hp:Tb v):∃p r,Ov prog c (Zh ⟨4,c.miss,c.good⟩ v) w 4 p=some r/\RM c v w 4 r:=by
 obtain⟨p1,p2,p3⟩:=hp 4 (by omega);obtain⟨u,hu⟩:∃u,Zh ⟨4,c.miss,c.good⟩ v=u:=⟨_,rfl⟩
 have e1:u.inn 4=v.inn 4:=by rw[<- hu];rfl
 have e2:u.got 4=v.got 4:=by rw[<- hu];rfl
 have e3:u.miss 4=v.miss 4:=by rw[<- hu];rfl
 have e4:u.good 4=v.good 4:=by rw[<- hu];rfl
 have e5:u.score 4=v.score 4:=by rw[<- hu];rfl
 have w1:=VI p1;have w2:=VI p2;rw[hu];refine(RB 4 5 ⟨by decide,rfl⟩) c u w _ ?_;simp only[e1,e2,e3,e4,e5,w1,w2]
 (repeat' (first|refine⟨fun h=>?_,fun h=>?_⟩|fail))
 all_goals (first|(exfalso;simp_all;done)|skip)
 all_goals (refine⟨?_,rfl,by dsimp only;omega,rfl,rfl,rfl,?_⟩)
 all_goals first
  |(rw[Xn (k:=4) (ms:=c.miss) (go:=c.good) (v:=v) (u:=u) hu (a:=true) (m:=0) (x:=Yx (v.good 4)) (s:=Yy (v.score 4))];rfl)
  |(rw[Xn (k:=4) (ms:=c.miss) (go:=c.good) (v:=v) (u:=u) hu (a:=true) (m:=Yx (v.miss 4)) (x:=0) (s:=Yq (v.score 4))];rfl)
  |(rw[Xn (k:=4) (ms:=c.miss) (go:=c.good) (v:=v) (u:=u) hu (a:=false) (m:=0) (x:=Yx (v.good 4)) (s:=Yy (v.score 4))];rfl)
  |(rw[Xn (k:=4) (ms:=c.miss) (go:=c.good) (v:=v) (u:=u) hu (a:=false) (m:=Yx (v.miss 4)) (x:=0) (s:=Yq (v.score 4))];rfl)
  |(rw[Xn (k:=4) (ms:=c.miss) (go:=c.good) (v:=v) (u:=u) hu (a:=v.inn 4) (m:=0) (x:=Yx (v.good 4)) (s:=Yy (v.score 4))];rfl)
  |(rw[Xn (k:=4) (ms:=c.miss) (go:=c.good) (v:=v) (u:=u) hu (a:=v.inn 4) (m:=Yx (v.miss 4)) (x:=0) (s:=Yq (v.score 4))];rfl)
  |(simp_all[ZZ,Ta];done)
  |(simp_all[ZZ,Ta];omega)
theorem jjpc (c:Cfg) (v w:Vw) (hk:5<c.np) (hp:Tb v):∃p r,Ov prog c (Zh ⟨5,c.miss,c.good⟩ v) w 5 p=some r/\RM c v w 5 r:=by
 obtain⟨p1,p2,p3⟩:=hp 5 (by omega);obtain⟨u,hu⟩:∃u,Zh ⟨5,c.miss,c.good⟩ v=u:=⟨_,rfl⟩
 have e1:u.inn 5=v.inn 5:=by rw[<- hu];rfl
 have e2:u.got 5=v.got 5:=by rw[<- hu];rfl
 have e3:u.miss 5=v.miss 5:=by rw[<- hu];rfl
 have e4:u.good 5=v.good 5:=by rw[<- hu];rfl
 have e5:u.score 5=v.score 5:=by rw[<- hu];rfl
 have w1:=VI p1;have w2:=VI p2;rw[hu];refine(RB 5 6 ⟨by decide,rfl⟩) c u w _ ?_;simp only[e1,e2,e3,e4,e5,w1,w2]
 (repeat' (first|refine⟨fun h=>?_,fun h=>?_⟩|fail))
 all_goals (first|(exfalso;simp_all;done)|skip)
 all_goals (refine⟨?_,rfl,by dsimp only;omega,rfl,rfl,rfl,?_⟩)
 all_goals first
  |(rw[Xn (k:=5) (ms:=c.miss) (go:=c.good) (v:=v) (u:=u) hu (a:=true) (m:=0) (x:=Yx (v.good 5)) (s:=Yy (v.score 5))];rfl)
  |(rw[Xn (k:=5) (ms:=c.miss) (go:=c.good) (v:=v) (u:=u) hu (a:=true) (m:=Yx (v.miss 5)) (x:=0) (s:=Yq (v.score 5))];rfl)
  |(rw[Xn (k:=5) (ms:=c.miss) (go:=c.good) (v:=v) (u:=u) hu (a:=false) (m:=0) (x:=Yx (v.good 5)) (s:=Yy (v.score 5))];rfl)
  |(rw[Xn (k:=5) (ms:=c.miss) (go:=c.good) (v:=v) (u:=u) hu (a:=false) (m:=Yx (v.miss 5)) (x:=0) (s:=Yq (v.score 5))];rfl)
  |(rw[Xn (k:=5) (ms:=c.miss) (go:=c.good) (v:=v) (u:=u) hu (a:=v.inn 5) (m:=0) (x:=Yx (v.good 5)) (s:=Yy (v.score 5))];rfl)
  |(rw[Xn (k:=5) (ms:=c.miss) (go:=c.good) (v:=v) (u:=u) hu (a:=v.inn 5) (m:=Yx (v.miss 5)) (x:=0) (s:=Yq (v.score 5))];rfl)
  |(simp_all[ZZ,Ta];done)
  |(simp_all[ZZ,Ta];omega)
theorem jjpb (c:Cfg) (v w:Vw) (hk:6<c.np) (hp:Tb v):∃p r,Ov prog c (Zh ⟨6,c.miss,c.good⟩ v) w 6 p=some r/\RM c v w 6 r:=by
 obtain⟨p1,p2,p3⟩:=hp 6 (by omega);obtain⟨u,hu⟩:∃u,Zh ⟨6,c.miss,c.good⟩ v=u:=⟨_,rfl⟩
 have e1:u.inn 6=v.inn 6:=by rw[<- hu];rfl
 have e2:u.got 6=v.got 6:=by rw[<- hu];rfl
 have e3:u.miss 6=v.miss 6:=by rw[<- hu];rfl
 have e4:u.good 6=v.good 6:=by rw[<- hu];rfl
 have e5:u.score 6=v.score 6:=by rw[<- hu];rfl
 have w1:=VI p1;have w2:=VI p2;rw[hu];refine(RB 6 7 ⟨by decide,rfl⟩) c u w _ ?_;simp only[e1,e2,e3,e4,e5,w1,w2]
 (repeat' (first|refine⟨fun h=>?_,fun h=>?_⟩|fail))
 all_goals (first|(exfalso;simp_all;done)|skip)
 all_goals (refine⟨?_,rfl,by dsimp only;omega,rfl,rfl,rfl,?_⟩)
 all_goals first
  |(rw[Xn (k:=6) (ms:=c.miss) (go:=c.good) (v:=v) (u:=u) hu (a:=true) (m:=0) (x:=Yx (v.good 6)) (s:=Yy (v.score 6))];rfl)
  |(rw[Xn (k:=6) (ms:=c.miss) (go:=c.good) (v:=v) (u:=u) hu (a:=true) (m:=Yx (v.miss 6)) (x:=0) (s:=Yq (v.score 6))];rfl)
  |(rw[Xn (k:=6) (ms:=c.miss) (go:=c.good) (v:=v) (u:=u) hu (a:=false) (m:=0) (x:=Yx (v.good 6)) (s:=Yy (v.score 6))];rfl)
  |(rw[Xn (k:=6) (ms:=c.miss) (go:=c.good) (v:=v) (u:=u) hu (a:=false) (m:=Yx (v.miss 6)) (x:=0) (s:=Yq (v.score 6))];rfl)
  |(rw[Xn (k:=6) (ms:=c.miss) (go:=c.good) (v:=v) (u:=u) hu (a:=v.inn 6) (m:=0) (x:=Yx (v.good 6)) (s:=Yy (v.score 6))];rfl)
  |(rw[Xn (k:=6) (ms:=c.miss) (go:=c.good) (v:=v) (u:=u) hu (a:=v.inn 6) (m:=Yx (v.miss 6)) (x:=0) (s:=Yq (v.score 6))];rfl)
  |(simp_all[ZZ,Ta];done)
  |(simp_all[ZZ,Ta];omega)
theorem jjpa (c:Cfg) (v w:Vw) (hk:7<c.np) (hp:Tb v):∃p r,Ov prog c (Zh ⟨7,c.miss,c.good⟩ v) w 7 p=some r/\RM c v w 7 r:=by
 obtain⟨p1,p2,p3⟩:=hp 7 (by omega);obtain⟨u,hu⟩:∃u,Zh ⟨7,c.miss,c.good⟩ v=u:=⟨_,rfl⟩
 have e1:u.inn 7=v.inn 7:=by rw[<- hu];rfl
 have e2:u.got 7=v.got 7:=by rw[<- hu];rfl
 have e3:u.miss 7=v.miss 7:=by rw[<- hu];rfl
 have e4:u.good 7=v.good 7:=by rw[<- hu];rfl
 have e5:u.score 7=v.score 7:=by rw[<- hu];rfl
 have w1:=VI p1;have w2:=VI p2;rw[hu];refine(RB 7 8 ⟨by decide,rfl⟩) c u w _ ?_;simp only[e1,e2,e3,e4,e5,w1,w2]
 (repeat' (first|refine⟨fun h=>?_,fun h=>?_⟩|fail))
 all_goals (first|(exfalso;simp_all;done)|skip)
 all_goals (refine⟨?_,rfl,by dsimp only;omega,rfl,rfl,rfl,?_⟩)
 all_goals first
  |(rw[Xn (k:=7) (ms:=c.miss) (go:=c.good) (v:=v) (u:=u) hu (a:=true) (m:=0) (x:=Yx (v.good 7)) (s:=Yy (v.score 7))];rfl)
  |(rw[Xn (k:=7) (ms:=c.miss) (go:=c.good) (v:=v) (u:=u) hu (a:=true) (m:=Yx (v.miss 7)) (x:=0) (s:=Yq (v.score 7))];rfl)
  |(rw[Xn (k:=7) (ms:=c.miss) (go:=c.good) (v:=v) (u:=u) hu (a:=false) (m:=0) (x:=Yx (v.good 7)) (s:=Yy (v.score 7))];rfl)
  |(rw[Xn (k:=7) (ms:=c.miss) (go:=c.good) (v:=v) (u:=u) hu (a:=false) (m:=Yx (v.miss 7)) (x:=0) (s:=Yq (v.score 7))];rfl)
  |(rw[Xn (k:=7) (ms:=c.miss) (go:=c.good) (v:=v) (u:=u) hu (a:=v.inn 7) (m:=0) (x:=Yx (v.good 7)) (s:=Yy (v.score 7))];rfl)
  |(rw[Xn (k:=7) (ms:=c.miss) (go:=c.good) (v:=v) (u:=u) hu (a:=v.inn 7) (m:=Yx (v.miss 7)) (x:=0) (s:=Yq (v.score 7))];rfl)
  |(simp_all[ZZ,Ta];done)
  |(simp_all[ZZ,Ta];omega)
theorem jjm5 {c:Cfg} {n:Nat} (hn:1120<=n):Zd n (Md c):=by
 have hc:∀i,i<1120->Nat.blt i n=true:=fun i h=>by rw[Nat.blt_eq];omega
 exact Yg (by simp[YI,hc])
theorem jjm3 (c:Cfg) (v w:Vw) (h8:c.np<=8) (hp:Tb v) (k:Nat) (hk:k<c.np):∃p r,Ov prog c (Zh ⟨k,c.miss,c.good⟩ v) w k p=some r/\RM c v w k r:=by
 have:k<8:=by omega
 match k,this with
 |0,_=>exact jjph c v w hk hp
 |1,_=>exact jjpg c v w hk hp
 |2,_=>exact jjpf c v w hk hp
 |3,_=>exact jjpe c v w hk hp
 |4,_=>exact jjpd c v w hk hp
 |5,_=>exact jjpc c v w hk hp
 |6,_=>exact jjpb c v w hk hp
 |7,_=>exact jjpa c v w hk hp
theorem jjjb (ms go:Int) (v:Vw):Zh ⟨0,ms,go⟩ v=v:=by
 cases v;simp[Zh,Ub,Vc,Vb,V8,QX]
theorem jjq7 (c:Cfg) (v w:Vw) (h8:c.np<=8) (hp:Tb v):
 LoopV prog (ZW prog 68 0) QY Gf ((PZ c 0).map some) [some (WJ v),some (WJ w),some (Md c)] 99 1134 (ZQ 99 [(3,.c (.ptr 1000 0 0)),(4,.c (.ptr 1001 0 0))]) [(1000,WJ (Zh ⟨c.np,c.miss,c.good⟩ v)),(1001,WJ w)] 100000000000000000000000000000000000000000000000000 (.exit 0) none:=by
 have hz:=jjjb c.miss c.good v;refine Pn JP (fuel:=100) (str:=nSt) (nh:=1000000000000000000000000000000000000000000) (S:=Nat) (fun k=>k<=c.np) (fun k=>c.np-k) QY [] Gf (PZ c) (fun k=>[WJ (Zh ⟨k,c.miss,c.good⟩ v),WJ w,Md c]) (by decide) (by decide) (by unfold ZR;omega) (s0:=0) (Nat.zero_le _) (fun _=>⟨rfl,rfl⟩) (by kernel_rfl) (by rw[hz];exact BL.refl [WJ v,WJ w,Md c]) (fun k _=>⟨rfl,?_⟩) ?_
 . intro b hb
   simp only[List.mem_cons,List.not_mem_nil,or_false] at hb;rcases hb with rfl|rfl|rfl
   . exact Tu
   . exact Tu
   . exact jjm5 (by omega)
 intro k hk;rcases Nat.lt_or_ge k c.np with hlt|hge
 . obtain⟨p,r,h1,a1,a2,a3,a4,a5,a6,a7⟩:=jjm3 c v w h8 hp k hlt
   exact⟨p,[],r,h1,a1,a2,a3,a4,.inl ⟨a5,k+1,hlt,by show c.np-(k+1)<c.np-k;omega,by rw[a6];rfl,by rw[a7];exact BL.refl [WJ (Zh ⟨k+1,c.miss,c.good⟩ v),WJ w,Md c]⟩⟩
 . obtain rfl:k=c.np:=by omega
   refine(?_:(∃p r,Ov prog c (Zh ⟨c.np,c.miss,c.good⟩ v) w c.np p=some r/\_)->_) (rdE c (Zh ⟨c.np,c.miss,c.good⟩ v) w c.np (XA 1134 100000000000000000000000000000000000000000000000000 99 QY [] Gf (fun k=>k<=c.np) (fun k=>c.np-k) (PZ c) (fun k=>[WJ (Zh ⟨k,c.miss,c.good⟩ v),WJ w,Md c]) (.exit 0) [(3,.c (.ptr 1000 0 0)),(4,.c (.ptr 1001 0 0))] [(1000,WJ (Zh ⟨c.np,c.miss,c.good⟩ v)),(1001,WJ w)] c.np) ?_)
   . rintro⟨p,r,h1,h2⟩
     exact⟨p,[],r,h1,h2⟩
   . refine⟨by simp[ZZ],rfl,by dsimp only;omega,rfl,.inr ⟨by simp,rfl,fun q hq=>?_,fun p hpp=>?_⟩⟩
     . simp only[List.mem_cons,List.not_mem_nil,or_false] at hq
       rcases hq with rfl|rfl
       . exact⟨rfl,by simp[ZO]⟩
       . exact⟨rfl,by simp[ZO]⟩
     . simp only[List.mem_cons,List.not_mem_nil,or_false] at hpp
       rcases hpp with rfl|rfl
       . exact⟨by kernel_rfl,Tu,_,List.mem_cons_self ..,BEq.refl _⟩
       . exact⟨by kernel_rfl,Tu,_,List.mem_cons_of_mem _ (List.mem_cons_self ..),BEq.refl _⟩
def JU (c:Cfg) (_:Nat) (_:Nat->Int) (l:List AC):List AV->AV
 | []=>.agg (Ji ⟨c.np,c.miss,c.good⟩ l)
 |_=>i64 0
def Mh (c:Cfg) (nq:Nat) (l:List AC):List AV->Bool
 | []=>decide (c.np<=8)&&(WN c nq&&QL l)
 |_=>false
def pX (pre:Cfg->Nat->List AC->List AV->Bool):YF->Bool
 |⟨c,nq,_,.agg l::r⟩=>W7 l&&pre c nq l r
 |_=>false
theorem DX {G:AMem} (hG:(G.all fun p=>Nat.ble ZR p.1)=true) {E:Env} (hE:ZC E) {f:FuncId} {R:Cfg->Nat->(Nat->Int)->List AC->List AV->AV} {pre:Cfg->Nat->List AC->List AV->Bool} (hf:∃(fn:Func) (c:Code),E.P.funcs[f]? =some fn/\fn.body=some c) (hres:∀c nq fq v r,XV (R c nq fq v r)=true)
 (run:∀c nq fq v r,pre c nq (ZX v) r=true->∃p lp q,ZB [] (ZM E (fC E 300) f (.c (.ptr 5 0 0):: .agg (ZX v)::r) 1000 nSt (XW (G++Xg c nq fq) p lp))=some q/\Z6 (R c nq fq (ZX v) r) q):ZA E.P f (Y9 (XG G hG) (rV R) (pX pre)):=by
 refine U3 hE (XG G hG) (fuel:=300) (str:=nSt) hf (I2 hres) fun s hs=>?_
 unfold pX at hs;split at hs
 . rename_i c nq fq l r
   rw[Bool.and_eq_true] at hs;have e:=Pj hs.1;rw[e];rw[e] at hs;exact run c nq fq (Zi l) r hs.2
 . cases hs
def JE:Yk:=Y9 netRd (rV JU) (pX Mh)
theorem jjqy:ZA prog 68 JE:=by
 refine DX (G:=mS) (by kernel_rfl) (E:=MH prog) JP ⟨_,_,Tryz.func68,rfl⟩ (fun c nq fq v r=>by unfold JU;split<;>rfl) fun c nq fq v r hr=>?_
 unfold Mh at hr;split at hr
 . simp only[WN,Bool.and_eq_true,decide_eq_true_eq] at hr
   obtain⟨h8,⟨hq,g1,g2,g3,g4,g5⟩,hp⟩:=hr;have hp:=(DH v).1 hp;refine(?_:(∃p q,QZ (MH prog) 68 c nq fq v [] p [none,some (rdS (Zh ⟨c.np,c.miss,c.good⟩ v))]=some q/\Z6 (.agg (Ji ⟨c.np,c.miss,c.good⟩ (ZX v))) q)->_) (FF c nq fq v (Zh ⟨c.np,c.miss,c.good⟩ v) _ ?_)
   . rintro⟨p,q,h1,h2⟩
     exact⟨p,_,q,h1,h2⟩
   . have hs:=jjq7 c v AI h8 hp
     refine⟨by rw[jjlw];rfl,(by first|(unfold ZR;omega)|(dsimp only;unfold ZR;omega)),?_,fun q hq=>?_⟩
     . simp[ZZ,Yb,YN,Yi,Ya,XZ,Y0,Vr,YR,Zt,YK,WI,Vw.len,hq]
       omega
     . rw[List.mem_singleton.1 hq]
       simp only[Nat.zero_add,Option.getD_some,Int.ofNat_eq_natCast,Int.sub_zero,Int.toNat_natCast] at hs ⊢;exact hs
 . cases hr
theorem At (z:Int) (Q:VF->Prop) (H:let zN:=Int.ofNat;(((decide (z<zN 16))=true->Q (.c (zU (zN 0)),[],1005,[decide (z<zN 16)==true],[]))/\((decide (z<zN 16))=false->(((decide (z<zN 64))=true->Q (.c (zU (zN 1)),[],1008,[decide (z<zN 64)==true,decide (z<zN 16)==false],[]))/\((decide (z<zN 64))=false->Q (.c (zU (zN 2)),[],1008,[decide (z<zN 64)==false,decide (z<zN 16)==false],[])))))):
 ∃p r,GJ prog 103 .u16 z p=some r/\Q r:=
 ZD H (fun g1=>⟨pD 1 1,_,by kernel_rfl,g1⟩) (fun g1=>ZD g1 (fun g2=>⟨pD 2 5,_,by kernel_rfl,g2⟩) (fun g2=>⟨pD 2 8,_,by kernel_rfl,g2⟩))
theorem Au (c:Cfg) (nq:Nat) (fq:Nat->Int) (v:Vw) (z:Int) (Q:VF->Prop) (H:let zN:=Int.ofNat;let zD:=Int.toNat;let zq0:List Bool:=[Zf c nq fq,true];let zq1:List Bool:=(ABlk.inb (ABlk.mk true false 32 0 (Cs.lit (ZX v))) 0 (0+zD z*1+1))::(Z5 Kd.b (List.getD (ZX v) (0+zD z*1) ZV))::(decide (zN 0<=z/\z<zN 8))::(decide (ZI c nq fq z<zN 0)==false)::zq0;let zq2:List Bool:=(ABlk.inb (ABlk.mk true false 32 0 (Cs.lit (ZX v))) 0 (24+zD z*1+1))::(Z5 (Kd.i .u16) (List.getD (ZX v) (24+zD z*1) ZV))::(decide (zN 0<=z/\z<zN 8))::((!Zz (List.getD (ZX v) (0+zD z*1) ZV))==false)::zq1;let zq3:List Bool:=(decide (ZP (List.getD (ZX v) (24+zD z*1) ZV)<zN 16)==false)::zq2;(((decide (ZI c nq fq z<zN 0))=true->Q (.c (zU (zN 0)),[],1007,((decide (ZI c nq fq z<zN 0)==true)::zq0),[]))/\((decide (ZI c nq fq z<zN 0))=false->(((!Zz (List.getD (ZX v) (0+zD z*1) ZV))=true->Q (.c (zU (zN 3)),[],1013,(((!Zz (List.getD (ZX v) (0+zD z*1) ZV))==true)::zq1),[]))/\((!Zz (List.getD (ZX v) (0+zD z*1) ZV))=false->(((decide (ZP (List.getD (ZX v) (24+zD z*1) ZV)<zN 16))=true->Q (.c (zU (zN 1)),[],1024,((decide (ZP (List.getD (ZX v) (24+zD z*1) ZV)<zN 16)==true)::zq2),[]))/\((decide (ZP (List.getD (ZX v) (24+zD z*1) ZV)<zN 16))=false->(((decide (ZP (List.getD (ZX v) (24+zD z*1) ZV)<zN 64))=true->Q (.c (zU (zN 2)),[],1027,((decide (ZP (List.getD (ZX v) (24+zD z*1) ZV)<zN 64)==true)::zq3),[]))/\((decide (ZP (List.getD (ZX v) (24+zD z*1) ZV)<zN 64))=false->Q (.c (zU (zN 2)),[],1027,((decide (ZP (List.getD (ZX v) (24+zD z*1) ZV)<zN 64)==false)::zq3),[])))))))))):
 ∃p r,QZ (Q6 prog) 102 c nq fq v [i64 z] p []=some r/\Q r:=
 ZD H (fun g1=>⟨pD 1 1,_,by kernel_rfl,g1⟩) (fun g1=>ZD g1 (fun g2=>⟨pD 2 5,_,by kernel_rfl,g2⟩) (fun g2=>ZD g2 (fun g3=>⟨pD 4 17,_,by kernel_rfl,g3⟩) (fun g3=>ZD g3 (fun g4=>⟨pD 5 53,_,by kernel_rfl,g4⟩) (fun g4=>⟨pD 5 80,_,by kernel_rfl,g4⟩))))
def toE (P:Program) (s p s' p':Int) (path:List Dec):Option VF:=ZB [] (ZM (E1 P) (fC (E1 P) 300) 117 [.agg [.v (.int .u16 s),.v (.int .i64 p)],.agg [.v (.int .u16 s'),.v (.int .i64 p')]] 1000 nSt (XW [] path []))
theorem Av (s t s' t':Int) (Q:VF->Prop) (H:let zq0:List Bool:=[(s' !=s')==false,(s !=s)==false,true,true,true,true];let zq1:List Bool:=((t' !=t')==false)::((t !=t)==false)::y3 (true::(decide (s<s')==true)::zq0);let zq2:List Bool:=(decide (t<t')==false)::zq1;let zq3:List Bool:=(decide (s<s')==false)::zq0;let zq4:List Bool:=((t' !=t')==false)::((t !=t)==false)::y3 (true::(decide (s>s')==true)::zq3);let zq5:List Bool:=(decide (t<t')==false)::zq4;let zq6:List Bool:=((t' !=t')==false)::((t !=t)==false)::y3 (true::(decide (s>s')==false)::zq3);let zq7:List Bool:=(decide (t<t')==false)::zq6;let ze1:AV:=.c (zI (Int.ofNat 1));let ze0:AV:=.c (zI (Int.negSucc 0));(((decide (s<s'))=true->(((decide (t<t'))=true->Q (ze0,[],130000000000000000000000000000000000001003,(y3 ((decide (t<t')==true)::zq1)),[]))/\((decide (t<t'))=false->(((decide (t>t'))=true->Q (ze0,[],130000000000000000000000000000000000001003,(y3 ((decide (t>t')==true)::zq2)),[]))/\((decide (t>t'))=false->Q (ze0,[],130000000000000000000000000000000000001003,(y3 ((decide (t>t')==false)::zq2)),[]))))))/\((decide (s<s'))=false->(((decide (s>s'))=true->(((decide (t<t'))=true->Q (ze1,[],130000000000000000000000000000000000001003,(y3 ((decide (t<t')==true)::zq4)),[]))/\((decide (t<t'))=false->(((decide (t>t'))=true->Q (ze1,[],130000000000000000000000000000000000001003,(y3 ((decide (t>t')==true)::zq5)),[]))/\((decide (t>t'))=false->Q (ze1,[],130000000000000000000000000000000000001003,(y3 ((decide (t>t')==false)::zq5)),[]))))))/\((decide (s>s'))=false->(((decide (t<t'))=true->Q (ze0,[],130000000000000000000000000000000000001003,(y3 (y3 ((decide (t<t')==true)::zq6))),[]))/\((decide (t<t'))=false->(((decide (t>t'))=true->Q (ze1,[],130000000000000000000000000000000000001003,(y3 (y3 ((decide (t>t')==true)::zq7))),[]))/\((decide (t>t'))=false->Q (.c (zI (Int.ofNat 0)),[],130000000000000000000000000000000000001003,(y3 (y3 ((decide (t>t')==false)::zq7))),[])))))))))):
 ∃p r,toE prog s t s' t' p=some r/\Q r:=
 ZD H (fun g1=>ZD g1 (fun g2=>⟨pD 8 476,_,by kernel_rfl,g2⟩) (fun g2=>ZD g2 (fun g3=>⟨pD 9 1448,_,by kernel_rfl,g3⟩) (fun g3=>⟨pD 9 2177,_,by kernel_rfl,g3⟩))) (fun g1=>ZD g1 (fun g2=>ZD g2 (fun g3=>⟨pD 9 1430,_,by kernel_rfl,g3⟩) (fun g3=>ZD g3 (fun g4=>⟨pD 10 4346,_,by kernel_rfl,g4⟩) (fun g4=>⟨pD 10 6533,_,by kernel_rfl,g4⟩))) (fun g2=>ZD g2 (fun g3=>⟨pD 11 1457,_,by kernel_rfl,g3⟩) (fun g3=>ZD g3 (fun g4=>⟨pD 12 4373,_,by kernel_rfl,g4⟩) (fun g4=>⟨pD 13 6560,_,by kernel_rfl,g4⟩))))
def VL (z:Int):Int:=if z<16 then 0 else if z<64 then 1 else 2
def FB:List AV->AV
 | [.c (.v (.int .u16 z))]=>.c (.v (.int .u8 (VL z)))
 |_=>i64 0
def FA:List AV->Bool
 | [.c (.v (.int .u16 _))]=>true
 |_=>false
def JB:Yk:=Y9 (X2 [] rfl) FB FA
theorem jjr3:ZA prog 103 JB:=by
 refine U3 (E:=E1 prog) Vk (X2 [] rfl) (fuel:=300) (str:=nSt) ⟨_,_,Tryz.func103,rfl⟩ (fun s=>by unfold FB;split<;>rfl) fun s hs=>?_
 unfold FA at hs;split at hs
 . rename_i z
   refine(?_:(∃p q,GJ prog 103 .u16 z p=some q/\Z6 (.c (.v (.int .u8 (VL z)))) q)->_) (At z _ ?_)
   . rintro⟨p,q,h1,h2⟩
     exact⟨p,[],q,h1,h2⟩
   . (repeat' (first|refine⟨fun h=>?_,fun h=>?_⟩|fail))
     all_goals (refine⟨?_,(by first|(unfold ZR;omega)|(dsimp only;unfold ZR;omega)),by simp_all[ZZ],by simp⟩)
     all_goals (simp only[decide_eq_true_eq,decide_eq_false_iff_not,Int.ofNat_eq_natCast,Int.cast_ofNat_Int] at *)
     all_goals (refine congrArg (fun z=>AV.c (.v (.int .u8 z))) ?_;unfold VL)
     all_goals ((repeat' split)<;>first|rfl|(exfalso;omega))
 . cases hs
def W0 (hd:Int) (inn:Bool) (score:Int):Int:=if hd<0 then 0 else if inn=false then 3 else if score<16 then 1 else 2
def hlR (c:Cfg) (nq:Nat) (fq:Nat->Int) (l:List AC):List AV->AV
 | [.c (.v (.int .i64 z))]=>.c (.v (.int .u8 (W0 (ZI c nq fq z) (Zz (l.getD z.toNat ZV)) (ZP (l.getD (24+z.toNat) ZV)))))
 |_=>i64 0
def GV:Yk:=Y9 netRd (rV hlR) (pW W5)
theorem JF:ZA prog 102 GV:=by
 refine Ic (G:=mS) (by kernel_rfl) (E:=Q6 prog) Nd ⟨_,_,Tryz.func102,rfl⟩ (fun c nq fq v r=>by unfold hlR;split<;>rfl) fun c nq fq v r hr=>?_
 unfold W5 at hr;split at hr
 . rename_i z
   have h8:c.np<=8:=of_decide_eq_true hr;refine(?_:(∃p q,QZ (Q6 prog) 102 c nq fq v [i64 z] p []=some q/\Z6 (.c (.v (.int .u8 (W0 (ZI c nq fq z) (Zz ((ZX v).getD z.toNat ZV)) (ZP ((ZX v).getD (24+z.toNat) ZV)))))) q)->_) (Au c nq fq v z _ ?_)
   . rintro⟨p,q,h1,h2⟩
     exact⟨p,[],q,h1,h2⟩
   . by_cases hd:0<=ZI c nq fq z
     . obtain⟨z0,z1⟩:=Nx hd
       obtain⟨k,rfl⟩:=Int.eq_ofNat_of_zero_le z0;have hk:k<8:=by omega
       have a0:=Si v k hk;have b0:=NE v k hk;obtain⟨a4,b4⟩:=U2 v k hk;simp only[Nat.zero_add,Nat.mul_one,Int.ofNat_eq_natCast,Int.toNat_natCast] at a0 a4 b0 b4;simp only[Int.ofNat_eq_natCast,Int.toNat_natCast,Nat.zero_add,Nat.mul_one,a0,a4,b0,b4];obtain⟨h,hh⟩:∃h,ZI c nq fq (k:Int)=h:=⟨_,rfl⟩
       rw[hh] at hd ⊢;clear hh;have hn:¬h<0:=by omega
       obtain⟨b,hb⟩:∃b,v.inn k=b:=⟨_,rfl⟩
       obtain⟨sc,hsc⟩:∃b,v.score k=b:=⟨_,rfl⟩
       simp only[hb,hsc];cases b
       all_goals (repeat' (first|refine⟨fun h=>?_,fun h=>?_⟩|fail))
       all_goals (first|(exfalso;simp at *;done)|(exfalso;simp at *;omega)|skip)
       all_goals (refine⟨?_,(by first|(unfold ZR;omega)|(dsimp only;unfold ZR;omega)),?_,by simp⟩)
       all_goals (simp only[decide_eq_true_eq,decide_eq_false_iff_not,Int.ofNat_eq_natCast,Int.cast_ofNat_Int] at *)
       all_goals first
        |(refine congrArg (fun z=>AV.c (.v (.int .u8 z))) ?_;unfold W0;(repeat' split)<;>first|rfl|(exfalso;omega)|contradiction)
        |(simp[ZZ,Yb,YN,Yi,Ya,XZ,Y0,WI,Vw.len];omega)
     . have e:decide (ZI c nq fq z<0)=true:=decide_eq_true (by omega)
       refine⟨fun h=>?_,fun h=>?_⟩
       . refine⟨?_,(by first|(unfold ZR;omega)|(dsimp only;unfold ZR;omega)),?_,by simp⟩
         . simp[W0,show ZI c nq fq z<0 by omega]
         . simp_all[ZZ,Yb,YN,Yi,Ya,XZ,Y0]
       . exfalso
         simp at h;omega
 . cases hr
def Mn (s p s' p':Int):Int:=if s<s' then -1 else if s'<s then 1 else if p<p' then -1 else if p'<p then 1 else 0
def toR:List AV->AV
 | [.agg [.v (.int .u16 s),.v (.int .i64 p)],.agg [.v (.int .u16 s'),.v (.int .i64 p')]]=>i64 (Mn s p s' p')
 |_=>i64 0
def toP:List AV->Bool
 | [.agg [.v (.int .u16 _),.v (.int .i64 _)],.agg [.v (.int .u16 _),.v (.int .i64 _)]]=>true
 |_=>false
def BF:Yk:=Y9 (X2 [] rfl) toR toP
theorem BG:ZA prog 117 BF:=by
 refine U3 (E:=E1 prog) Vk (X2 [] rfl) (fuel:=300) (str:=nSt) ⟨_,_,Tryz.func117,rfl⟩ (fun s=>by unfold toR;split<;>rfl) fun s hs=>?_
 unfold toP at hs;split at hs
 . rename_i s t s' t'
   refine(?_:(∃p q,toE prog s t s' t' p=some q/\Z6 (i64 (Mn s t s' t')) q)->_) (Av s t s' t' _ ?_)
   . rintro⟨p,q,h1,h2⟩
     exact⟨p,[],q,h1,h2⟩
   . (repeat' (first|refine⟨fun h=>?_,fun h=>?_⟩|fail))
     all_goals (refine⟨?_,(by first|(unfold ZR;omega)|(dsimp only;unfold ZR;omega)),by simp_all[ZZ],by simp⟩)
     all_goals (simp only[decide_eq_true_eq,decide_eq_false_iff_not,gt_iff_lt] at *)
     all_goals (refine congrArg i64 ?_;unfold Mn)
     all_goals ((repeat' split)<;>first|rfl|(exfalso;omega))
 . cases hs
def MU:Yk
 | [.c (.v (.int .u64 x))],_,_=>some (i64 (Lib.bitLen x.toNat),[],0,[decide (0<=x),decide (x<=18446744073709551615)])
 |_,_,_=>none
theorem jjr4:ZA prog 120 MU:=by
 refine⟨⟨_,_,Tryz.func120,rfl⟩,fun C β m m2 w args ib r news k' ob vs hct ho hs hr hfree hlim hv=>?_⟩;unfold MU at hct;split at hct
 . rename_i x
   simp only[Option.some.injEq,Prod.mk.injEq] at hct;obtain⟨rfl,rfl,rfl,rfl⟩:=hct;simp only[ZZ,List.forall_mem_cons,decide_eq_true_eq] at ho;obtain⟨o1,o2,_⟩:=ho;cases hv;refine(Tryz.bits_Len x w o1 o2).mono ?_;rintro e w' ⟨rfl,rfl⟩;exact⟨β,_,rfl,Ext.refl _,fun _ _=>rfl,rfl,by rw[List.append_nil];exact hr⟩
 . cases hct
def N6:List (FuncId × Yk):=[(102,GV),(117,BF),(120,MU)]
theorem jjkf:∀f g,(f,g)∈N6->ZA prog f g:=by
 intro f g h;simp only[N6,List.mem_cons,Prod.mk.injEq,List.not_mem_nil,or_false] at h;rcases h with⟨rfl,rfl⟩|⟨rfl,rfl⟩|⟨rfl,rfl⟩
 . exact JF
 . exact BG
 . exact jjr4
def Q7 (P:Program):Env:=⟨P,N6⟩
theorem NW:ZC (Q7 prog):=Xf jjkf (by kernel_rfl) (by kernel_rfl)
abbrev UM (m:Nat) (s:Nat->Int) (f:Nat->Nat):ABlk:=WH 191 2 m fun i=>[.int .u16 (s (f i)),.int .i64 (Int.ofNat (f i))]
abbrev TG (m:Nat) (f:Nat->Nat):ABlk:=WH 3 1 m fun i=>[.int .i64 (Int.ofNat (f i))]
abbrev r1H:List Nat:=[0,3,4,5,11]
abbrev r1S (vid:Nat) (m:Nat) (s:Nat->Int) (f:Nat->Nat):Zl:=⟨r1H,Yc++[vid],ZQ 53 [(5,.c (.sl 2000 0 0 m none))],[(2000,UM m s f)],100000000000000000000000000000000000000000000000000,.exit 0⟩
abbrev r2H:List Nat:=[0,1,2,3,8]
abbrev r2S (m:Nat) (s:Nat->Int) (g:Nat->Nat):Zl:=⟨r2H,[2000],ZQ 53 [],[(2000,UM m s g)],1000000000000000000000000000000000000000000000000000000,.exit 0⟩
abbrev Oi:List Nat:=[8,39,40,41]
abbrev r3S (oid m:Nat) (g:Nat->Nat):Zl:=⟨Oi,[2000,oid],ZQ 53 [(8,.c (.sl oid 0 0 m none))],[(oid,TG m g)],100000000000000000000000000000000000000000000000000000000,.exit 2⟩
abbrev S1:Nat:=1000000000000000000000000000000000000000000000000000002
def ftE (P:Program) (c:Cfg) (nq:Nat) (fq:Nat->Int) (v:Vw) (path:List Dec) (lp:List (Option Zl)):Option VF:=ZB [S1] (ZM (Q7 P) (fC (Q7 P) 300) 105 [.c (.ptr 5 0 0),.agg (ZX v)] 1000 nSt (XW (RC c nq fq) path lp))
theorem As (c:Cfg) (nq:Nat) (fq:Nat->Int) (v:Vw) (m:Nat) (f g:Nat->Nat) (Q:VF->Prop) (H:let zN:=Int.ofNat;let zM:=ABlk.mk;Q (.c (.sl 1000000000000000000000000000000000000000000000000000002 0 0 m none),[yO 3 1 (Cs.arr m fun k=>List.map AC.v ((fun i=>[Value.int .i64 (zN (g i))]) k))],100000000000000000000000000000000000000000000000000000002,[decide (zN 0 <= ↑m/\(zN m=zN m)/\ ↑m*zN 8<=zN 140737488355328),decide (IntKind.wrap .i64 (↑m-zN 0)<=zN 12)==true,true,decide (IntKind.wrap .u64 ↑m<=zN 18446744073709551615)],[LoopV prog (ZW prog 105 1) Oi [2000,S1] [some (.c (.sl 1000000000000000000000000000000000000000000000000000002 0 0 (Int.toNat ↑m) none)),some (.c (.sl 2000 0 0 m none)),some (.c (zI ↑m)),some (.c (zI (zN 0)))] [yO 191 2 (Cs.arr m fun k=>List.map AC.v ((fun i=>[Value.int .u16 (Vw.score v (g i)),Value.int .i64 (zN (g i))]) k)),yO 3 1 (Cs.arr (Int.toNat ↑m) fun x=>List.map AC.v (Array.toList (Value.cells (Value.int .i64 0))))] 53 1000000000000000000000000000000000000000000000000000007 (ZQ 53 [(8,.c (.sl S1 0 0 m none))]) [(S1,TG m g)] 100000000000000000000000000000000000000000000000000000000 (Exit.exit 2) none,LoopV prog (ZW prog 135 0) r2H [2000] [some (.c (.sl 2000 0 0 m none)),some (.c (zI (zN 0))),some (.c (zI ↑m)),some (.c (AC.v (Value.func (Fn.func 117) (Array.mk []) (Array.mk [])))),some (.c (zI (zN 1)))] [yO 191 2 (Cs.arr m fun k=>List.map AC.v ((fun i=>[Value.int .u16 (Vw.score v (f i)),Value.int .i64 (zN (f i))]) k))] 53 100000000000000000000000000000000000000000000000024 (ZQ 53 []) [(2000,UM m (Vw.score v) g)] 1000000000000000000000000000000000000000000000000000000 (Exit.exit 0) none,LoopV prog (ZW prog 105 0) r1H (Yc++[1000]) [some (.c (.ptr 5 0 0)),some (.c (.ptr 1000 0 0)),some (.c (AC.v (Value.slice none 0 0))),some (.c (AC.v (Value.slice none 0 0))),some (.c (zI (zN 0)))] [yF 172 0 (Cs.lit [zI (zN 1),zI (Int.negSucc 0)]),yF 3 1 (yP c),yF 3 1 (yS c),yF 3 1 (yB c),yF 70 3 (yT c),yF 3 1 (Cs.arr nq fun k=>List.map AC.v ((fun i=>[Value.int .i64 (fq i)]) k)),yF 81 0 (Cs.lit [zI c.nodes,AC.sl 0 0 0 c.np none,AC.sl 1 0 0 c.ns none,zI c.long,AC.sl 2 0 0 c.nb none,AC.sl 3 0 0 c.nt none,zI c.miss,zI c.good,zI c.fresh,AC.sl 4 0 0 nq none]),yR 32 0 (Cs.lit (ZX v))] 53 1004 (ZQ 53 [(5,.c (.sl 2000 0 0 m none))]) [(2000,UM m (Vw.score v) f)] 100000000000000000000000000000000000000000000000000 (Exit.exit 0) none])):
 ∃p r,ftE prog c nq fq v p [some (r1S 1000 m v.score f),none,some (r2S m v.score g),some (r3S S1 m g)]=some r/\Q r:=
 ⟨pD 1 1,_,by kernel_rfl,H⟩
abbrev r1I:List Nat:=Yc++[1000,2000]
abbrev Kb (m k:Nat):List AV:=[.c (.ptr 5 0 0),.c (.ptr 1000 0 0),.c (.v (.slice none 0 0)),.c (.sl 2000 0 0 m none),i64 (Int.ofNat k)]
def r1R (P:Program) (c:Cfg) (nq:Nat) (fq:Nat->Int) (v:Vw) (m:Nat) (f:Nat->Nat) (k:Nat) (path:List Dec):Option VC:=
 view r1H (2000::1000000000000000000000000000000000000000019::1000000000000000000000000000000000000000021::(Yc++[1000])) (fC (Q7 P) 100 (ZW P 105 0) 1000000000000000000000000000000000000000000 nSt (Wi 53 r1H r1I (Kb m k) (X6 c nq fq++[WJ v,UM m v.score f]) path []))
theorem rk1 (c:Cfg) (nq:Nat) (fq:Nat->Int) (v:Vw) (m:Nat) (f:Nat->Nat) (k:Nat) (Q:VC->Prop) (H:let zN:=Int.ofNat;let zM:=ABlk.mk;let zD:=Int.toNat;let zq0:List Bool:=(Zf c nq fq)::(pW W5 (YF.mk c nq fq [AV.agg (ZX v),.c (zI (zN k))]))::(zu (zt (y3 (((decide (zN k<zN 8)==true)::[])))));let zq1:List Bool:=((W0 (ZI c nq fq (zN k)) (Zz (List.getD (ZX v) (zD (zN k)) ZV)) (ZP (List.getD (ZX v) (24+zD (zN k)) ZV))==zN 1)==false)::zq0;let ze0:Option AV:=some (.c (zI (IntKind.wrap .i64 (zN k+zN 1))));let zs0:=fun (l:List (Option ABlk))=>yF 172 0 (Cs.lit [zI (zN 1),zI (Int.negSucc 0)])::yF 3 1 (yP c)::yF 3 1 (yS c)::yF 3 1 (yB c)::yF 70 3 (yT c)::yF 3 1 (Cs.arr nq fun k=>List.map AC.v ((fun i=>[Value.int .i64 (fq i)]) k))::yF 81 0 (Cs.lit [zI c.nodes,AC.sl 0 0 0 c.np none,AC.sl 1 0 0 c.ns none,zI c.long,AC.sl 2 0 0 c.nb none,AC.sl 3 0 0 c.nt none,zI c.miss,zI c.good,zI c.fresh,AC.sl 4 0 0 nq none])::yR 32 0 (Cs.lit (ZX v))::l;let zs1:=fun (l:List (Option AV))=>some (ZO (List.zip r1H (Kb m k)) 0)::some (ZO (List.zip r1H (Kb m k)) (0+1+1+1))::some (ZO (List.zip r1H (Kb m k)) (0+1+1+1+1))::l;(((decide (zN k<zN 8))=true->(((W0 (ZI c nq fq (zN k)) (Zz (List.getD (ZX v) (zD (zN k)) ZV)) (ZP (List.getD (ZX v) (24+zD (zN k)) ZV))==zN 1)=true->Q (Exit.normal,(zs1 [some (.c (.sl 1000000000000000000000000000000000000000019 0 0 (m+1) none)),ze0]),(none::yO 191 2 (Cs.arr (m+1) fun i=>if i<m then List.map AC.v ((fun i=>[Value.int .u16 (Vw.score v (f i)),Value.int .i64 (zN (f i))]) i) else YW (zM true false 191 0 (Cs.lit [zH (ZP (List.getD (ZX v) (24+zD (zN k)*1) ZV)),zI (zN k)])) 0 0 2 (i-m))::none::zs0 []),53,1000000000000000000000000000000000000000023,(true::true::(decide (m<=m))::(decide ((m+1)*16<=140737488355328))::(ABlk.inb (zM true false 32 0 (Cs.lit (ZX v))) 0 (24+zD (zN k)*1+1))::(Z5 (Kd.i .u16) (List.getD (ZX v) (24+zD (zN k)*1) ZV))::(decide (zN 0<=zN k/\zN k<zN 8))::((W0 (ZI c nq fq (zN k)) (Zz (List.getD (ZX v) (zD (zN k)) ZV)) (ZP (List.getD (ZX v) (24+zD (zN k)) ZV))==zN 1)==true)::zq0),[]))/\((W0 (ZI c nq fq (zN k)) (Zz (List.getD (ZX v) (zD (zN k)) ZV)) (ZP (List.getD (ZX v) (24+zD (zN k)) ZV))==zN 1)=false->(((W0 (ZI c nq fq (zN k)) (Zz (List.getD (ZX v) (zD (zN k)) ZV)) (ZP (List.getD (ZX v) (24+zD (zN k)) ZV))==zN 2)=true->Q (Exit.normal,(zs1 [some (.c (.sl 1000000000000000000000000000000000000000021 0 0 (m+1) none)),ze0]),(none::none::yO 191 2 (Cs.arr (m+1) fun i=>if i<m then List.map AC.v ((fun i=>[Value.int .u16 (Vw.score v (f i)),Value.int .i64 (zN (f i))]) i) else YW (zM true false 191 0 (Cs.lit [zH (ZP (List.getD (ZX v) (24+zD (zN k)*1) ZV)),zI (zN k)])) 0 0 2 (i-m))::zs0 []),53,1000000000000000000000000000000000000000025,(true::true::(decide (m<=m))::(decide ((m+1)*16<=140737488355328))::(ABlk.inb (zM true false 32 0 (Cs.lit (ZX v))) 0 (24+zD (zN k)*1+1))::(Z5 (Kd.i .u16) (List.getD (ZX v) (24+zD (zN k)*1) ZV))::(decide (zN 0<=zN k/\zN k<zN 8))::((W0 (ZI c nq fq (zN k)) (Zz (List.getD (ZX v) (zD (zN k)) ZV)) (ZP (List.getD (ZX v) (24+zD (zN k)) ZV))==zN 2)==true)::zq1),[]))/\((W0 (ZI c nq fq (zN k)) (Zz (List.getD (ZX v) (zD (zN k)) ZV)) (ZP (List.getD (ZX v) (24+zD (zN k)) ZV))==zN 2)=false->Q (Exit.normal,(zs1 [some (ZO (List.zip r1H (Kb m k)) (0+1+1+1+1+1)),ze0]),(yO 191 2 (Cs.arr m fun k=>List.map AC.v ((fun i=>[Value.int .u16 (Vw.score v (f i)),Value.int .i64 (zN (f i))]) k))::none::none::zs0 []),53,1000000000000000000000000000000000000000015,(((W0 (ZI c nq fq (zN k)) (Zz (List.getD (ZX v) (zD (zN k)) ZV)) (ZP (List.getD (ZX v) (24+zD (zN k)) ZV))==zN 2)==false)::zq1),[]))))))/\((decide (zN k<zN 8))=false->Q (Exit.exit 0,(zs1 [some (ZO (List.zip r1H (Kb m k)) (0+1+1+1+1+1)),some (ZO (List.zip r1H (Kb m k)) (0+1+1+1+1+1+1+1+1+1+1+1))]),(yO 191 2 (Cs.arr m fun k=>List.map AC.v ((fun i=>[Value.int .u16 (Vw.score v (f i)),Value.int .i64 (zN (f i))]) k))::none::none::zs0 []),53,1000000000000000000000000000000000000000001,[decide (zN k<zN 8)==false],[])))):
 ∃p r,r1R prog c nq fq v m f k p=some r/\Q r:=
 ZD H (fun g1=>ZD g1 (fun g2=>⟨pD 4 4,_,by kernel_rfl,g2⟩) (fun g2=>ZD g2 (fun g3=>⟨pD 4 34,_,by kernel_rfl,g3⟩) (fun g3=>⟨pD 4 61,_,by kernel_rfl,g3⟩))) (fun g1=>⟨pD 1 2,_,by kernel_rfl,g1⟩)
abbrev QN (m i:Nat):List AV:=[.c (.sl 2000 0 0 m none),i64 0,i64 (Int.ofNat m),.c (.v (.func (.func 117) #[] #[])),i64 (Int.ofNat i)]
abbrev QO:List Nat:=[0,1,2,3,8,9]
abbrev Ox (m i j:Nat):List AV:=QN m i++[i64 (Int.ofNat j)]
def r4R (P:Program) (m:Nat) (s:Nat->Int) (f:Nat->Nat) (i j:Nat) (path:List Dec):Option VC:=
 view (QO++[]) [2000] (fC (Q7 P) 100 (ZW P 135 1) 10000000000000000000000000000000000000000000000000000 nSt (Wi 53 QO [2000] (Ox m i j) [UM m s f] path []))
theorem rk4 (m:Nat) (s:Nat->Int) (f:Nat->Nat) (i j:Nat) (Q:VC->Prop) (H:let zN:=Int.ofNat;let zD:=Int.toNat;let zq0:List Bool:=[true,true,ABlk.inb (ABlk.mk true true 191 2 (Cs.arr m fun k=>List.map AC.v ((fun i=>[Value.int .u16 (s (f i)),Value.int .i64 (zN (f i))]) k))) (0+zD (IntKind.wrap .i64 (zN j-zN 1))) 2,true,true,decide (zN 0<=IntKind.wrap .i64 (zN j-zN 1)/\IntKind.wrap .i64 (zN j-zN 1) < ↑m),ABlk.inb (ABlk.mk true true 191 2 (Cs.arr m fun k=>List.map AC.v ((fun i=>[Value.int .u16 (s (f i)),Value.int .i64 (zN (f i))]) k))) (0+zD (zN j)) 2,true,true,decide (zN 0<=zN j/\zN j < ↑m),decide (zN j>zN 0)==true];let zs0:=fun (l:List (Option AV))=>some (ZO (List.zip QO (Ox m i j)) 0)::some (ZO (List.zip QO (Ox m i j)) (0+1))::some (ZO (List.zip QO (Ox m i j)) (0+1+1))::some (ZO (List.zip QO (Ox m i j)) (0+1+1+1))::some (ZO (List.zip QO (Ox m i j)) (0+1+1+1+1+1+1+1+1))::l;let zs1:=fun (l:List AC)=>zH (s (f (0+zD (IntKind.wrap .i64 (zN j-zN 1)))))::zI (zN (f (0+zD (IntKind.wrap .i64 (zN j-zN 1)))))::l;(((decide (zN j>zN 0))=true->(((decide (Mn (s (f (0+zD (zN j)))) (zN (f (0+zD (zN j)))) (s (f (0+zD (IntKind.wrap .i64 (zN j-zN 1))))) (zN (f (0+zD (IntKind.wrap .i64 (zN j-zN 1)))))<zN 0))=true->Q (Exit.normal,(zs0 [some (.c (zI (IntKind.wrap .i64 (zN j-zN 1))))]),[yO 191 2 (Cs.arr m fun i=>if i=0+zD (IntKind.wrap .i64 (zN j-zN 1)) then YD ((fun i=>if i=0+zD (zN j) then YD ((fun k=>List.map AC.v ((fun i=>[Value.int .u16 (s (f i)),Value.int .i64 (zN (f i))]) k)) i) 0 (zs1 []) else List.map AC.v ((fun i=>[Value.int .u16 (s (f i)),Value.int .i64 (zN (f i))]) i)) i) 0 [zH (s (f (0+zD (zN j)))),zI (zN (f (0+zD (zN j))))] else if i=0+zD (zN j) then YD ((fun k=>List.map AC.v ((fun i=>[Value.int .u16 (s (f i)),Value.int .i64 (zN (f i))]) k)) i) 0 (zs1 []) else List.map AC.v ((fun i=>[Value.int .u16 (s (f i)),Value.int .i64 (zN (f i))]) i))],53,10000000000350000000000000000000000000000000000000003,((ABlk.inb (ABlk.mk true true 191 2 (Cs.arr m fun i=>if i=0+zD (zN j) then YD ((fun k=>List.map AC.v ((fun i=>[Value.int .u16 (s (f i)),Value.int .i64 (zN (f i))]) k)) i) 0 (zs1 []) else List.map AC.v ((fun i=>[Value.int .u16 (s (f i)),Value.int .i64 (zN (f i))]) i))) (0+zD (IntKind.wrap .i64 (zN j-zN 1))) 2)::(decide (zN 0<=IntKind.wrap .i64 (zN j-zN 1)/\IntKind.wrap .i64 (zN j-zN 1) < ↑m))::(ABlk.inb (ABlk.mk true true 191 2 (Cs.arr m fun k=>List.map AC.v ((fun i=>[Value.int .u16 (s (f i)),Value.int .i64 (zN (f i))]) k))) (0+zD (zN j)) 2)::(decide (zN 0<=zN j/\zN j < ↑m))::(ABlk.inb (ABlk.mk true true 191 2 (Cs.arr m fun k=>List.map AC.v ((fun i=>[Value.int .u16 (s (f i)),Value.int .i64 (zN (f i))]) k))) (0+zD (zN j)) 2)::true::true::(decide (zN 0<=zN j/\zN j < ↑m))::(ABlk.inb (ABlk.mk true true 191 2 (Cs.arr m fun k=>List.map AC.v ((fun i=>[Value.int .u16 (s (f i)),Value.int .i64 (zN (f i))]) k))) (0+zD (IntKind.wrap .i64 (zN j-zN 1))) 2)::true::true::(decide (zN 0<=IntKind.wrap .i64 (zN j-zN 1)/\IntKind.wrap .i64 (zN j-zN 1) < ↑m))::(decide (Mn (s (f (0+zD (zN j)))) (zN (f (0+zD (zN j)))) (s (f (0+zD (IntKind.wrap .i64 (zN j-zN 1))))) (zN (f (0+zD (IntKind.wrap .i64 (zN j-zN 1)))))<zN 0)==true)::zq0),[]))/\((decide (Mn (s (f (0+zD (zN j)))) (zN (f (0+zD (zN j)))) (s (f (0+zD (IntKind.wrap .i64 (zN j-zN 1))))) (zN (f (0+zD (IntKind.wrap .i64 (zN j-zN 1)))))<zN 0))=false->Q (Exit.exit 2,(zs0 [some (ZO (List.zip QO (Ox m i j)) (0+1+1+1+1+1+1+1+1+1))]),[yO 191 2 (Cs.arr m fun k=>List.map AC.v ((fun i=>[Value.int .u16 (s (f i)),Value.int .i64 (zN (f i))]) k))],53,10000000000170000000000000000000000000000000000000000,((decide (Mn (s (f (0+zD (zN j)))) (zN (f (0+zD (zN j)))) (s (f (0+zD (IntKind.wrap .i64 (zN j-zN 1))))) (zN (f (0+zD (IntKind.wrap .i64 (zN j-zN 1)))))<zN 0)==false)::zq0),[]))))/\((decide (zN j>zN 0))=false->Q (Exit.exit 2,(zs0 [some (ZO (List.zip QO (Ox m i j)) (0+1+1+1+1+1+1+1+1+1))]),[yO 191 2 (Cs.arr m fun k=>List.map AC.v ((fun i=>[Value.int .u16 (s (f i)),Value.int .i64 (zN (f i))]) k))],53,10000000000170000000000000000000000000000000000000000,[decide (zN j>zN 0)==false],[])))):
 ∃p r,r4R prog m s f i j p=some r/\Q r:=
 ZD H (fun g1=>ZD g1 (fun g2=>⟨pD 13 531442,_,by kernel_rfl,g2⟩) (fun g2=>⟨pD 13 1062883,_,by kernel_rfl,g2⟩)) (fun g1=>⟨pD 13 2,_,by kernel_rfl,g1⟩)
abbrev r4S (m i:Nat) (s:Nat->Int) (g:Nat->Nat):Zl:=⟨QO,[2000],ZQ 53 (r2H.zip (QN m i)),[(2000,UM m s g)],100000000000000000000000000000000000000000000000000000,.exit 2⟩
def r2R (P:Program) (m:Nat) (s:Nat->Int) (f:Nat->Nat) (i:Nat) (path:List Dec) (lp:List (Option Zl)):Option VC:=
 view (r2H++[]) [2000] (fC (Q7 P) 100 (ZW P 135 0) 1000000000000000000000000000000000000000000000000000 nSt (Wi 53 r2H [2000] (QN m i) [UM m s f] path lp))
theorem rk2 (m:Nat) (s:Nat->Int) (f g:Nat->Nat) (i:Nat) (Q:VC->Prop) (H:let zN:=Int.ofNat;let zs0:=fun (l:List (Option AV))=>some (ZO (List.zip r2H (QN m i)) 0)::some (ZO (List.zip r2H (QN m i)) (0+1))::some (ZO (List.zip r2H (QN m i)) (0+1+1))::some (ZO (List.zip r2H (QN m i)) (0+1+1+1))::l;(((decide (zN i<zN m))=true->Q (Exit.normal,(zs0 [some (.c (zI (IntKind.wrap .i64 (zN i+zN 1))))]),[yO 191 2 (Cs.arr m fun k=>List.map AC.v ((fun i=>[Value.int .u16 (s (g i)),Value.int .i64 (zN (g i))]) k))],53,100000000000000000000000000000000000000000000000000003,[decide (zN i<zN m)==true],[LoopV prog (ZW prog 135 1) QO [2000] [some (.c (.sl 2000 0 0 m none)),some (.c (zI (zN 0))),some (.c (zI (zN m))),some (.c (AC.v (Value.func (Fn.func 117) (Array.mk []) (Array.mk [])))),some (.c (zI (zN i))),some (.c (zI (zN i)))] [yO 191 2 (Cs.arr m fun k=>List.map AC.v ((fun i=>[Value.int .u16 (s (f i)),Value.int .i64 (zN (f i))]) k))] 53 1000000000000000000000000000000000000000000000000005 (ZQ 53 (List.zip r2H (QN m i))) [(2000,UM m s g)] 100000000000000000000000000000000000000000000000000000 (Exit.exit 2) none]))/\((decide (zN i<zN m))=false->Q (Exit.exit 0,(zs0 [some (ZO (List.zip r2H (QN m i)) (0+1+1+1+1+1+1+1+1))]),[yO 191 2 (Cs.arr m fun k=>List.map AC.v ((fun i=>[Value.int .u16 (s (f i)),Value.int .i64 (zN (f i))]) k))],53,1000000000000000000000000000000000000000000000000003,[decide (zN i<zN m)==false],[])))):
 ∃p r,r2R prog m s f i p [some (r4S m i s g)]=some r/\Q r:=
 ZD H (fun g1=>⟨pD 1 1,_,by kernel_rfl,g1⟩) (fun g1=>⟨pD 1 2,_,by kernel_rfl,g1⟩)
abbrev Kc (m k:Nat):List AV:=[.c (.sl S1 0 0 m none),.c (.sl 2000 0 0 m none),i64 (Int.ofNat m),i64 (Int.ofNat k)]
def r3R (P:Program) (m:Nat) (s:Nat->Int) (g h:Nat->Nat) (k:Nat) (path:List Dec):Option VC:=
 view (Oi++[]) [2000,S1] (fC (Q7 P) 100 (ZW P 105 1) 10000000000000000000000000000000000000000000000000000000 nSt (Wi 53 Oi [2000,S1] (Kc m k) [UM m s g,TG m h] path []))
theorem rk3 (m:Nat) (s:Nat->Int) (g h:Nat->Nat) (k:Nat) (Q:VC->Prop) (H:let zN:=Int.ofNat;let zs0:=fun (l:List (Option AV))=>some (ZO (List.zip Oi (Kc m k)) (0+1+1+1+1+1+1+1+1))::some (ZO (List.zip Oi (Kc m k)) (0+1+1+1+1+1+1+1+1+1+1+1+1+1+1+1+1+1+1+1+1+1+1+1+1+1+1+1+1+1+1+1+1+1+1+1+1+1+1+1))::some (ZO (List.zip Oi (Kc m k)) (0+1+1+1+1+1+1+1+1+1+1+1+1+1+1+1+1+1+1+1+1+1+1+1+1+1+1+1+1+1+1+1+1+1+1+1+1+1+1+1+1))::l;(((decide (zN k<zN m))=true->Q (Exit.normal,(zs0 [some (.c (zI (IntKind.wrap .i64 (zN k+zN 1))))]),[yO 191 2 (Cs.arr m fun k=>List.map AC.v ((fun i=>[Value.int .u16 (s (g i)),Value.int .i64 (zN (g i))]) k)),yO 3 1 (Cs.arr m fun i=>if i=0+Int.toNat (zN k) then YD ((fun k=>List.map AC.v ((fun i=>[Value.int .i64 (zN (h i))]) k)) i) 0 [zI (zN (g (0+Int.toNat (zN k))))] else List.map AC.v ((fun i=>[Value.int .i64 (zN (h i))]) i))],53,10000000000000000000000000000000000000000000000000000015,[ABlk.inb (ABlk.mk true true 3 1 (Cs.arr m fun k=>List.map AC.v ((fun i=>[Value.int .i64 (zN (h i))]) k))) (0+Int.toNat (zN k)) 1,decide (zN 0<=zN k/\zN k < ↑m),true,true,true,ABlk.inb (ABlk.mk true true 191 2 (Cs.arr m fun k=>List.map AC.v ((fun i=>[Value.int .u16 (s (g i)),Value.int .i64 (zN (g i))]) k))) (0+Int.toNat (zN k)) 2,true,true,decide (zN 0<=zN k/\zN k < ↑m),decide (zN k<zN m)==true],[]))/\((decide (zN k<zN m))=false->Q (Exit.exit 2,(zs0 [some (ZO (List.zip Oi (Kc m k)) (0+1+1+1+1+1+1+1+1+1+1+1+1+1+1+1+1+1+1+1+1+1+1+1+1+1+1+1+1+1+1+1+1+1+1+1+1+1+1+1+1+1))]),[yO 191 2 (Cs.arr m fun k=>List.map AC.v ((fun i=>[Value.int .u16 (s (g i)),Value.int .i64 (zN (g i))]) k)),yO 3 1 (Cs.arr m fun k=>List.map AC.v ((fun i=>[Value.int .i64 (zN (h i))]) k))],53,10000000000000000000000000000000000000000000000000000001,[decide (zN k<zN m)==false],[])))):
 ∃p r,r3R prog m s g h k p=some r/\Q r:=
 ZD H (fun g1=>⟨pD 1 1,_,by kernel_rfl,g1⟩) (fun g1=>⟨pD 1 2,_,by kernel_rfl,g1⟩)
theorem M5 {h sc:Int} {b:Bool} (e:W0 h b sc=1\/W0 h b sc=2):0<=h/\b=true:=by
 unfold W0 at e;by_cases h0:h<0
 . rw[if_pos h0] at e;omega
 . rw[if_neg h0] at e
   cases b
   . rw[if_pos rfl] at e;omega
   . exact⟨by omega,rfl⟩
theorem Fk {h sc:Int} {b:Bool} (e1:W0 h b sc≠1) (e2:W0 h b sc≠2):¬(0<=h/\b=true):=by
 rintro⟨h0,rfl⟩;unfold W0 at e1 e2;rw[if_neg (by omega),if_neg (by simp)] at e1 e2;by_cases h1:sc<16
 . rw[if_pos h1] at e1;omega
 . rw[if_neg h1] at e2;omega
theorem EF {t:Nat->Bool} {k i:Nat} (h:i<Zy t k):Wt t (k+1) i=Wt t k i:=by
 unfold Wt;have h':i<(WX t k).length:=by rw[Sc];exact h
 rw[show WX t (k+1)=WX t k++if t k=true then[k] else[] from rfl];simp only[List.getD_eq_getElem?_getD,List.getElem?_append_left h']
theorem EG {t:Nat->Bool} {k:Nat} (h:t k=true):Wt t (k+1) (Zy t k)=k:=by
 unfold Wt;rw[show WX t (k+1)=WX t k++if t k=true then[k] else[] from rfl,if_pos h];have h':(WX t k).length<=Zy t k:=by rw[Sc];exact Nat.le_refl _
 simp only[List.getD_eq_getElem?_getD,List.getElem?_append_right h',Sc];simp
theorem jjk3 {t:Nat->Bool} {k:Nat} (h:t k=false):Wt t (k+1)=Wt t k:=by
 funext i;unfold Wt;rw[show WX t (k+1)=WX t k++if t k=true then[k] else[] from rfl,h];simp
abbrev r1F (m k:Nat):List (Nat × AV):=r1H.zip (Kb m k)
abbrev Gd (c:Cfg) (nq:Nat) (fq:Nat->Int) (v:Vw) (k:Nat):AMem:=r1I.zip (X6 c nq fq++[WJ v,UM (Zy (Z3 c nq fq v) k) v.score (Wt (Z3 c nq fq v) k)])
theorem Lj {c:Cfg} {nq n:Nat} (hn:10<=n):Zd n (JW c nq):=by
 have hc:∀i,i<10->Nat.blt i n=true:=fun i h=>by rw[Nat.blt_eq];omega
 exact Yg (by simp[YI,hc 0 (by omega),hc 1 (by omega),hc 2 (by omega),hc 3 (by omega),hc 4 (by omega),Nat.blt_eq];try omega)
def R1Q (c:Cfg) (nq:Nat) (fq:Nat->Int) (v:Vw) (k:Nat) (r:VC):Prop:=
 ZZ r.2.2.2.2.2.1/\r.2.2.2.2.2.2=[]/\r.2.2.2.2.1<=100000000000000000000000000000000000000000000000000/\
  ∀ st':St,r1H.map (fun t=>st'.tm[t]?)=r.2.1->(2000::1000000000000000000000000000000000000000019::1000000000000000000000000000000000000000021::(Yc++[1000])).map (ZY st'.m)=r.2.2.1->st'.tm.length=r.2.2.2.1->
   ((r.1= .normal/\∃s',s'<=8/\8-s'<8-k/\Wk 1004 1000000000000000000000000000000000000000000 100000000000000000000000000000000000000000000000000 st'.tm st'.m (ZQ 53 (r1F (Zy (Z3 c nq fq v) s') s')) (Gd c nq fq v s'))\/
    (r.1≠ .normal/\r.1= .exit 0/\Wk 1004 100000000000000000000000000000000000000000000000000 100000000000000000000000000000000000000000000000000 st'.tm st'.m (ZQ 53 [(5,.c (.sl 2000 0 0 (Zy (Z3 c nq fq v) 8) none))]) [(2000,UM (Zy (Z3 c nq fq v) 8) v.score (Wt (Z3 c nq fq v) 8))]))
theorem jjpl (c:Cfg) (nq:Nat) (fq:Nat->Int) (v:Vw) (h8:c.np<=8):
 LoopV prog (ZW prog 105 0) r1H (Yc++[1000]) [some (.c (.ptr 5 0 0)),some (.c (.ptr 1000 0 0)),some (.c (.v (.slice none 0 0))),some (.c (.v (.slice none 0 0))),some (i64 (Int.ofNat 0))] ((X6 c nq fq++[WJ v]).map some) 53 1004
  (ZQ 53 [(5,.c (.sl 2000 0 0 (Zy (Z3 c nq fq v) 8) none))]) [(2000,UM (Zy (Z3 c nq fq v) 8) v.score (Wt (Z3 c nq fq v) 8))] 100000000000000000000000000000000000000000000000000 (.exit 0) none:=by
 refine Pd NW (fuel:=100) (S:=Nat) (inv:=fun k=>k<=8) (μ:=fun k=>8-k) (tmI:=fun k=>ZQ 53 (r1F (Zy (Z3 c nq fq v) k) k)) (mI:=fun k=>Gd c nq fq v k) (nh:=1000000000000000000000000000000000000000000) (str:=nSt) (by omega) (by omega) (fun _ h=>by cases h) (s0:=0) (by omega) ?_ ?_
 . intro tm m g1 g2 g3
   simp only[List.map_cons,List.map_nil,List.cons_append,List.nil_append,List.cons.injEq,and_true] at g1 g2;obtain⟨s0,s3,s4,s5,s11⟩:=g1;obtain⟨bg,b0,b1,b2,b3,b4,b5,bv⟩:=g2;refine UA (ρ:=fun _=>.inr 2) (by omega) (by omega) (by unfold ZR;omega) g3 ?_ ?_ ?_
   . kernel_rfl
   . exact⟨.inl ⟨.inr (by unfold Z2;omega),bg,Yg rfl⟩,.inl ⟨.inl (by omega),b0,Vt⟩,.inl ⟨.inl (by omega),b1,Vt⟩,.inl ⟨.inl (by omega),b2,Vt⟩,.inl ⟨.inl (by omega),b3,Vt⟩,.inl ⟨.inl (by omega),b4,Vt⟩,.inl ⟨.inl (by omega),b5,Lj (by omega)⟩,.inl ⟨.inl (by omega),bv,Tu⟩,.inr (.inr (.inl ⟨by omega,by omega,rfl,(show (0:Nat)<2 by omega),_,rfl⟩)),trivial⟩
   . exact⟨⟨_,s0,by simp,Yp rfl⟩,⟨_,s3,by simp,Yp rfl⟩,⟨_,s4,by simp,Yp rfl⟩,⟨_,s5,by simp,M3 (by omega) (by omega) (by omega) rfl⟩,⟨_,s11,by simp[i64],WP rfl⟩,trivial⟩
 . intro k hk
   refine(?_:(∃p r,r1R prog c nq fq v (Zy (Z3 c nq fq v) k) (Wt (Z3 c nq fq v) k) k p=some r/\_)->_) (rk1 c nq fq v (Zy (Z3 c nq fq v) k) (Wt (Z3 c nq fq v) k) k (R1Q c nq fq v k) ?_)
   . rintro⟨p,⟨e,l,b,len,n1,ob,po⟩,hv,hob,hpo,hn1,hw⟩
     obtain⟨st,v1,v2,v3,v4,v6,v7,v8⟩:=P3 hv;exact⟨p,[],e,n1,st,v1,hn1,⟨by rw[v6];exact hob,by rw[v7];have hpo:po=[]:=hpo;rw[hpo];simp⟩,v8,hw st v2 v3 v4⟩
   . rcases Nat.lt_or_ge k 8 with hlt|hge
     . have hw:IntKind.wrap IntKind.i64 (Int.ofNat k+Int.ofNat 1)=Int.ofNat (k+1):=by rw[Wu _ (by simp;omega) (by simp;omega)];simp
       have a0:=Si v k hlt;have b0:=NE v k hlt;obtain⟨a4,b4⟩:=U2 v k hlt;have e0:0+Int.toNat (Int.ofNat k)*1=Int.toNat (Int.ofNat k):=by simp
       have e1:24+Int.toNat (Int.ofNat k)*1=24+Int.toNat (Int.ofNat k):=by simp
       rw[e0] at a0 b0;rw[e1] at a4 b4;have hin:Z3 c nq fq v k=(decide (0<=ZI c nq fq (Int.ofNat k))&&v.inn k):=rfl;have hpw:pW W5 ⟨c,nq,fq,[.agg (ZX v),.c (.v (.int .i64 (Int.ofNat k)))]⟩=true:=by simp[pW,W5,Vr,h8]
       have hc:=NK (Z3 c nq fq v) k;have hcs:=Qt (Z3 c nq fq v) k;simp only[e0,e1,a0,b0,a4,b4,hw,hpw];refine⟨fun c1=>⟨fun c2=>?_,fun c2=>⟨fun c3=>?_,fun c3=>?_⟩⟩,fun c1=>?_⟩
       . have hy:Z3 c nq fq v k=true:=by
          obtain⟨q1,q2⟩:=M5 (.inl (by simpa using c2));rw[hin,q2,Bool.and_true];exact decide_eq_true q1
         rw[hy] at hcs;refine⟨?_,rfl,by dsimp only;omega,fun st' v2 v3 v4=>.inl ⟨rfl,k+1,by omega,by omega,?_⟩⟩
         . simp[ZZ,hlt,WI,Vw.len,Yb,YN,Yi,Ya,XZ,Y0] at c2 ⊢
           omega
         . simp only[List.map_cons,List.map_nil,List.cons_append,List.nil_append,List.cons.injEq,and_true] at v2 v3
           obtain⟨s0,s3,s4,s5,s11⟩:=v2;obtain⟨_,b22,_,bg,b0,b1,b2,b3,b4,b5,bv⟩:=v3;simp only[if_true] at hcs;unfold Gd;rw[hcs];refine UA (ρ:=fun _=>.inl 1000000000000000000000000000000000000000019) (by omega) (by omega) (by unfold ZR;omega) v4 ?_ ?_ ?_
           . kernel_rfl
           . exact⟨.inl ⟨.inr (by unfold Z2;omega),bg,Yg rfl⟩,.inl ⟨.inl (by omega),b0,Vt⟩,.inl ⟨.inl (by omega),b1,Vt⟩,.inl ⟨.inl (by omega),b2,Vt⟩,.inl ⟨.inl (by omega),b3,Vt⟩,.inl ⟨.inl (by omega),b4,Vt⟩,.inl ⟨.inl (by omega),b5,Lj (by omega)⟩,.inl ⟨.inl (by omega),bv,Tu⟩,.inr (.inl ⟨by omega,by omega,_,_,rfl,b22,Ii (f:=fun i=>[.int .u16 (v.score (Wt (Z3 c nq fq v) k i)),.int .i64 (Int.ofNat (Wt (Z3 c nq fq v) k i))]) (l:=[.int .u16 (v.score k),.int .i64 (Int.ofNat k)]) (g:=fun i=>[.int .u16 (v.score (Wt (Z3 c nq fq v) (k+1) i)),.int .i64 (Int.ofNat (Wt (Z3 c nq fq v) (k+1) i))]) rfl (fun i hi=>by simp only[EF hi]) (by simp only[EG hy]),Y8⟩),trivial⟩
           . exact⟨⟨_,s0,by simp[ZO],Yp rfl⟩,⟨_,s3,by simp[ZO],Yp rfl⟩,⟨_,s4,by simp[ZO],Yp rfl⟩,⟨_,s5,by simp,Vs (by omega) (by omega) (by omega) rfl⟩,⟨_,s11,by simp,WP rfl⟩,trivial⟩
       . have hy:Z3 c nq fq v k=true:=by
          obtain⟨q1,q2⟩:=M5 (.inr (by simpa using c3));rw[hin,q2,Bool.and_true];exact decide_eq_true q1
         rw[hy] at hcs;refine⟨?_,rfl,by dsimp only;omega,fun st' v2 v3 v4=>.inl ⟨rfl,k+1,by omega,by omega,?_⟩⟩
         . simp[ZZ,hlt,WI,Vw.len,Yb,YN,Yi,Ya,XZ,Y0] at c2 c3 ⊢
           omega
         . simp only[List.map_cons,List.map_nil,List.cons_append,List.nil_append,List.cons.injEq,and_true] at v2 v3
           obtain⟨s0,s3,s4,s5,s11⟩:=v2;obtain⟨_,_,b22,bg,b0,b1,b2,b3,b4,b5,bv⟩:=v3;simp only[if_true] at hcs;unfold Gd;rw[hcs];refine UA (ρ:=fun _=>.inl 1000000000000000000000000000000000000000021) (by omega) (by omega) (by unfold ZR;omega) v4 ?_ ?_ ?_
           . kernel_rfl
           . exact⟨.inl ⟨.inr (by unfold Z2;omega),bg,Yg rfl⟩,.inl ⟨.inl (by omega),b0,Vt⟩,.inl ⟨.inl (by omega),b1,Vt⟩,.inl ⟨.inl (by omega),b2,Vt⟩,.inl ⟨.inl (by omega),b3,Vt⟩,.inl ⟨.inl (by omega),b4,Vt⟩,.inl ⟨.inl (by omega),b5,Lj (by omega)⟩,.inl ⟨.inl (by omega),bv,Tu⟩,.inr (.inl ⟨by omega,by omega,_,_,rfl,b22,Ii (f:=fun i=>[.int .u16 (v.score (Wt (Z3 c nq fq v) k i)),.int .i64 (Int.ofNat (Wt (Z3 c nq fq v) k i))]) (l:=[.int .u16 (v.score k),.int .i64 (Int.ofNat k)]) (g:=fun i=>[.int .u16 (v.score (Wt (Z3 c nq fq v) (k+1) i)),.int .i64 (Int.ofNat (Wt (Z3 c nq fq v) (k+1) i))]) rfl (fun i hi=>by simp only[EF hi]) (by simp only[EG hy]),Y8⟩),trivial⟩
           . exact⟨⟨_,s0,by simp[ZO],Yp rfl⟩,⟨_,s3,by simp[ZO],Yp rfl⟩,⟨_,s4,by simp[ZO],Yp rfl⟩,⟨_,s5,by simp,Vs (by omega) (by omega) (by omega) rfl⟩,⟨_,s11,by simp,WP rfl⟩,trivial⟩
       . have hy:Z3 c nq fq v k=false:=by
          have q:=Fk (by simpa using c2) (by simpa using c3);rw[hin]
          cases hx:(decide (0<=ZI c nq fq (Int.ofNat k))&&v.inn k) with
          |false=>rfl
          |true=>simp only[Bool.and_eq_true,decide_eq_true_eq] at hx;exact absurd hx q
         rw[hy] at hcs;refine⟨?_,rfl,by dsimp only;omega,fun st' v2 v3 v4=>.inl ⟨rfl,k+1,by omega,by omega,?_⟩⟩
         . simp[ZZ,hlt,WI,Vw.len,Yb,YN,Yi,Ya,XZ,Y0] at c2 c3 ⊢
           omega
         . simp only[List.map_cons,List.map_nil,List.cons_append,List.nil_append,List.cons.injEq,and_true] at v2 v3
           obtain⟨s0,s3,s4,s5,s11⟩:=v2;obtain⟨b22,_,_,bg,b0,b1,b2,b3,b4,b5,bv⟩:=v3;have hcs:Zy (Z3 c nq fq v) (k+1)=Zy (Z3 c nq fq v) k:=by simpa using hcs
           unfold Gd;rw[hcs,jjk3 hy];refine UA (ρ:=fun _=>.inl 2000) (by omega) (by omega) (by unfold ZR;omega) v4 ?_ ?_ ?_
           . kernel_rfl
           . exact⟨.inl ⟨.inr (by unfold Z2;omega),bg,Yg rfl⟩,.inl ⟨.inl (by omega),b0,Vt⟩,.inl ⟨.inl (by omega),b1,Vt⟩,.inl ⟨.inl (by omega),b2,Vt⟩,.inl ⟨.inl (by omega),b3,Vt⟩,.inl ⟨.inl (by omega),b4,Vt⟩,.inl ⟨.inl (by omega),b5,Lj (by omega)⟩,.inl ⟨.inl (by omega),bv,Tu⟩,.inr (.inl ⟨by omega,by omega,_,_,rfl,b22,BEq.refl _,Y8⟩),trivial⟩
           . exact⟨⟨_,s0,by simp[ZO],Yp rfl⟩,⟨_,s3,by simp[ZO],Yp rfl⟩,⟨_,s4,by simp[ZO],Yp rfl⟩,⟨_,s5,by simp[ZO],Vs (by omega) (by omega) (by omega) rfl⟩,⟨_,s11,by simp,WP rfl⟩,trivial⟩
       . exfalso;simp at c1;omega
     . obtain rfl:k=8:=by omega
       refine⟨fun c1=>?_,fun c1=>?_⟩
       . exfalso;simp at c1
       . refine⟨by simp[ZZ],rfl,by dsimp only;omega,fun st' v2 v3 v4=>.inr ⟨by simp,rfl,?_⟩⟩
         simp only[List.map_cons,List.map_nil,List.cons_append,List.nil_append,List.cons.injEq,and_true] at v2 v3;obtain⟨s0,s3,s4,s5,s11⟩:=v2;obtain⟨b22,_⟩:=v3;refine UA (ρ:=fun _=>.inl 2000) (by omega) (by omega) (by unfold ZR;omega) v4 rfl ?_ ?_
         . exact⟨.inr (.inl ⟨by omega,by omega,2000,_,rfl,b22,BEq.refl _,Y8⟩),trivial⟩
         . exact⟨⟨_,s5,by simp[ZO],Vs (by omega) (by omega) (by omega) rfl⟩,trivial⟩
theorem jjqg (v:Vw) (a b:Nat):Mn (v.score a) (Int.ofNat a) (v.score b) (Int.ofNat b)<0↔WQ v a b=true:=by
 unfold Mn WQ;simp only[Int.ofNat_eq_natCast,decide_eq_true_eq]
 (repeat' split)<;>constructor<;>intro h<;>omega
theorem EC (f:Nat->Nat) (i j:Nat):X9 f i j j=f i:=if_pos rfl
theorem jjn3 (f:Nat->Nat) {i j t:Nat} (h:t<j):X9 f i j t=f t:=by unfold X9;rw[if_neg (by omega),if_neg (by omega)]
abbrev Ao:Nat:=1000000000000000000000000000000000000000000000000005
theorem jjrf {x y:ABlk} (h:BEq y x):BL [x] [some y]:=⟨h,trivial⟩
theorem Fy {x y x' y':ABlk} (h:BEq y x) (h':BEq y' x'):BL [x,x'] [some y,some y']:=⟨h,h',trivial⟩
theorem jjpi (v:Vw) (m:Nat) (f:Nat->Nat) (i:Nat) (him:i<m) (hm:m<=8):
 LoopV prog (ZW prog 135 1) QO [2000] ((Ox m i i).map some) [some (UM m v.score f)] 53 Ao (ZQ 53 (r2H.zip (QN m i))) [(2000,UM m v.score (X9 f i (Xh (WQ v) f (f i) i)))] 100000000000000000000000000000000000000000000000000000 (.exit 2) none:=by
 refine Pn NW (fuel:=100) (str:=nSt) (nh:=10000000000000000000000000000000000000000000000000000) (S:=Nat) (fun j=>j<=i/\Xh (WQ v) f (f i) j=Xh (WQ v) f (f i) i) (fun j=>j) QO [] [2000] (fun j=>Ox m i j) (fun j=>[UM m v.score (X9 f i j)]) (by decide) (by decide) (by unfold ZR;omega) (s0:=i) ⟨Nat.le_refl _,rfl⟩ (fun _=>⟨rfl,rfl⟩) (by kernel_rfl) (by rw[Dg];exact BL.refl [UM m v.score f]) (fun j _=>⟨rfl,fun b hb=>by rw[List.mem_singleton.1 hb];exact Y8⟩) ?_;rintro j ⟨hj,hP⟩;refine(?_:(∃p r,r4R prog m v.score (X9 f i j) i j p=some r/\_)->_) (rk4 m v.score (X9 f i j) i j (XA Ao 100000000000000000000000000000000000000000000000000000 53 QO [] [2000] (fun j=>j<=i/\Xh (WQ v) f (f i) j=Xh (WQ v) f (f i) i) (fun j=>j) (fun j=>Ox m i j) (fun j=>[UM m v.score (X9 f i j)]) (.exit 2) (r2H.zip (QN m i)) [(2000,UM m v.score (X9 f i (Xh (WQ v) f (f i) i)))] j) ?_)
 . rintro⟨p,r,h1,h2⟩
   exact⟨p,[],r,h1,h2⟩
 . have hout :∀j,∀q∈r2H.zip (QN m i),Wb Ao q.2=true/\(q.1,some q.2)∈(QO++[]).zip ((Ox m i j).map some):=by
    intro j q hq;simp only[List.zip_cons_cons,List.zip_nil_right,List.mem_cons,List.not_mem_nil,or_false] at hq;rcases hq with rfl|rfl|rfl|rfl|rfl<;>exact⟨rfl,by simp⟩
   match j,hj,hP with
   |0,hj,hP=>
    have e:Xh (WQ v) f (f i) i=0:=by rw[<- hP];rfl
    refine⟨fun h1=>?_,fun h1=>?_⟩
    . exfalso;simp at h1
    . refine⟨by simp[ZZ],rfl,by dsimp only;omega,rfl,.inr ⟨by simp,rfl,hout _,fun p hpp=>?_⟩⟩
      rw[List.mem_singleton.1 hpp,e];exact⟨by kernel_rfl,Y8,_,List.mem_cons_self ..,BEq.refl _⟩
   | j + 1, hj,hP=>
    have w1:IntKind.wrap .i64 (Int.ofNat (j+1)-Int.ofNat 1)=Int.ofNat j:=by rw[Wu _ (by simp only[Int.ofNat_eq_natCast];omega) (by simp only[Int.ofNat_eq_natCast];omega)];simp only[Int.ofNat_eq_natCast];omega
    have e0:0+Int.toNat (Int.ofNat (j+1))=j+1:=by simp
    have e1:0+Int.toNat (Int.ofNat j)=j:=by simp
    have ea:=EC f i (j+1);have eb:=jjn3 f (i:=i) (show j<j+1 by omega);have hk:=jjqg v (f i) (f j);have hpos:Xh (WQ v) f (f i) (j+1)=if WQ v (f i) (f j)=true then Xh (WQ v) f (f i) j else j+1:=rfl
    rw[hpos] at hP;simp only[w1,e0,e1,ea,eb];refine⟨fun h1=>⟨fun h2=>?_,fun h2=>?_⟩,fun h1=>?_⟩
    . have hy:WQ v (f i) (f j)=true:=hk.1 (by simpa using h2)
      rw[if_pos hy] at hP;refine⟨?_,rfl,by dsimp only;omega,rfl,.inl ⟨rfl,j,⟨by omega,hP⟩,by show j<j+1;omega,rfl,?_⟩⟩
      . simp at h2
        simp[ZZ,YK,h2];omega
      . refine jjrf ⟨rfl,rfl,rfl,rfl,.inr (.inl ⟨m,_,_,rfl,rfl,fun t ht=>?_⟩)⟩
        by_cases t1:t=j
        . subst t1
          simp[YD,UI,ZN,EC]
        . by_cases t2:t=j+1
          . subst t2
            have:X9 f i j (j+1)=f j:=by unfold X9;rw[if_neg (by omega),if_pos ⟨by omega,by omega⟩];rfl
            simp[YD,UI,ZN,this]
          . have:X9 f i j t=X9 f i (j+1) t:=by
             unfold X9;rw[if_neg t1,if_neg t2];by_cases t3:j+1<t/\t<=i
             . rw[if_pos (by omega),if_pos t3]
             . rw[if_neg (by omega),if_neg t3]
            simp[t1,t2,this]
    . have hn:¬WQ v (f i) (f j)=true:=fun e=>of_decide_eq_false h2 (hk.2 e)
      rw[if_neg hn] at hP;refine⟨?_,rfl,by dsimp only;omega,rfl,.inr ⟨by simp,rfl,hout _,fun p hpp=>?_⟩⟩
      . simp at h2
        simp[ZZ,YK,h2];omega
      . rw[List.mem_singleton.1 hpp,<- hP]
        exact⟨by kernel_rfl,Y8,_,List.mem_cons_self ..,BEq.refl _⟩
    . exfalso;simp at h1<;>omega
abbrev r2N:Nat:=100000000000000000000000000000000000000000000000024
theorem jjpk (v:Vw) (m:Nat) (f:Nat->Nat) (hm:m<=8):
 LoopV prog (ZW prog 135 0) r2H [2000] ((QN m 1).map some) [some (UM m v.score f)] 53 r2N (ZQ 53 []) [(2000,UM m v.score (XY (WQ v) f m))] 1000000000000000000000000000000000000000000000000000000 (.exit 0) none:=by
 refine CJ NW (fuel:=100) (str:=nSt) (nh:=1000000000000000000000000000000000000000000000000000) (S:=Nat) (fun i=>1<=i/\(i<=m\/i=1)) (fun i=>m-i) r2H [] [2000] (fun i=>QN m i) (fun i=>[UM m v.score (XY (WQ v) f i)]) (by decide) (by decide) (by unfold ZR;omega) (s0:=1) ⟨Nat.le_refl _,.inr rfl⟩ (fun _=>⟨rfl,rfl⟩) (by kernel_rfl) (by rw[Dz];exact BL.refl [UM m v.score f]) (fun j _=>⟨rfl,fun b hb=>by rw[List.mem_singleton.1 hb];exact Y8⟩) ?_;rintro i ⟨hi,hi2⟩;refine(?_:(∃p r,r2R prog m v.score (XY (WQ v) f i) i p [some (r4S m i v.score (XY (WQ v) f (i+1)))]=some r/\_)->_) (rk2 m v.score (XY (WQ v) f i) (XY (WQ v) f (i+1)) i (R1 r2N 1000000000000000000000000000000000000000000000000000000 53 r2H [] [2000] (fun i=>1<=i/\(i<=m\/i=1)) (fun i=>m-i) (fun i=>QN m i) (fun i=>[UM m v.score (XY (WQ v) f i)]) (.exit 0) [] [(2000,UM m v.score (XY (WQ v) f m))] i) ?_)
 . rintro⟨p,r,h1,h2⟩
   exact⟨p,_,r,h1,h2⟩
 . refine⟨fun h1=>?_,fun h1=>?_⟩
   . have hlt:i<m:=by simp at h1;omega
     have w1:IntKind.wrap .i64 (Int.ofNat i+Int.ofNat 1)=Int.ofNat (i+1):=by rw[Wu _ (by simp;omega) (by simp;omega)];simp
     have hs:=jjpi v m (XY (WQ v) f i) i hlt hm;rw[w1];refine⟨by simp[ZZ];omega,fun q hq=>?_,by dsimp only;omega,rfl,.inl ⟨rfl,i+1,⟨by omega,by omega⟩,by show m-(i+1)<m-i;omega,rfl,BL.refl _⟩⟩;rw[List.mem_singleton.1 hq];exact hs
   . have hge:m<=i:=by simp at h1;omega
     have e:XY (WQ v) f m=XY (WQ v) f i:=by
      by_cases hm1:m=i
      . rw[hm1]
      . obtain rfl:m=0:=by omega
        obtain rfl:i=1:=by omega
        rw[Dz];rfl
     refine⟨by simp[ZZ];omega,(fun q hq=>by cases hq),by dsimp only;omega,rfl,.inr ⟨by simp,rfl,(fun q hq=>by cases hq),fun p hpp=>?_⟩⟩;rw[List.mem_singleton.1 hpp,e];exact⟨by kernel_rfl,Y8,_,List.mem_cons_self ..,BEq.refl _⟩
abbrev r3N:Nat:=1000000000000000000000000000000000000000000000000000007
abbrev Jg (g:Nat->Nat) (k t:Nat):Nat:=if t<k then g t else 0
theorem jjpj (v:Vw) (m:Nat) (g:Nat->Nat) (hm:m<=8) {eb:ABlk} (heb:BEq eb (TG m fun _=>0)):
 LoopV prog (ZW prog 105 1) Oi [2000,S1] ((Kc m 0).map some) [some (UM m v.score g),some eb] 53 r3N (ZQ 53 [(8,.c (.sl S1 0 0 m none))]) [(S1,TG m g)] 100000000000000000000000000000000000000000000000000000000 (.exit 2) none:=by
 refine Pn NW (fuel:=100) (str:=nSt) (nh:=10000000000000000000000000000000000000000000000000000000) (S:=Nat) (fun k=>k<=m) (fun k=>m-k) Oi [] [2000,S1] (fun k=>Kc m k) (fun k=>[UM m v.score g,TG m (Jg g k)]) (by decide) (by decide) (by unfold ZR;omega) (s0:=0) (Nat.zero_le _) (fun _=>⟨rfl,rfl⟩) (by kernel_rfl) (Fy (BEq.refl _) heb) (fun j _=>⟨rfl,fun b hb=>by simp only[List.mem_cons,List.not_mem_nil,or_false] at hb;rcases hb with rfl|rfl<;>exact Y8⟩) ?_;intro k hk;refine(?_:(∃p r,r3R prog m v.score g (Jg g k) k p=some r/\_)->_) (rk3 m v.score g (Jg g k) k (XA r3N 100000000000000000000000000000000000000000000000000000000 53 Oi [] [2000,S1] (fun k=>k<=m) (fun k=>m-k) (fun k=>Kc m k) (fun k=>[UM m v.score g,TG m (Jg g k)]) (.exit 2) [(8,.c (.sl S1 0 0 m none))] [(S1,TG m g)] k) ?_)
 . rintro⟨p,r,h1,h2⟩
   exact⟨p,[],r,h1,h2⟩
 . have e0:0+Int.toNat (Int.ofNat k)=k:=by simp
   refine⟨fun h1=>?_,fun h1=>?_⟩
   . have hlt:k<m:=by simp at h1;omega
     have w1:IntKind.wrap .i64 (Int.ofNat k+Int.ofNat 1)=Int.ofNat (k+1):=by rw[Wu _ (by simp;omega) (by simp;omega)];simp
     rw[w1,e0];refine⟨?_,rfl,by dsimp only;omega,rfl,.inl ⟨rfl,k+1,hlt,by show m-(k+1)<m-k;omega,rfl,Fy (BEq.refl _) ⟨rfl,rfl,rfl,rfl,.inr (.inl ⟨m,_,_,rfl,rfl,fun t ht=>?_⟩)⟩⟩⟩
     . simp[ZZ,YK]
       omega
     . by_cases t1:t=k
       . subst t1
         simp[YD,UI,ZN,Jg]
       . have:(t<k+1)=(t<k):=by apply propext;omega
         simp[t1,Jg,this]
   . have hge:k=m:=by simp at h1;omega
     subst hge;refine⟨by simp[ZZ],rfl,by dsimp only;omega,rfl,.inr ⟨by simp,rfl,fun q hq=>?_,fun p hpp=>?_⟩⟩
     . rw[List.mem_singleton.1 hq];exact⟨rfl,by simp[ZO]⟩
     . rw[List.mem_singleton.1 hpp]
       refine⟨by kernel_rfl,Y8,_,List.mem_cons_of_mem _ (List.mem_cons_self ..),⟨rfl,rfl,rfl,rfl,.inr (.inl ⟨k,_,_,rfl,rfl,fun t ht=>?_⟩)⟩⟩;simp[Jg,ht]
def mA (c:Cfg) (nq:Nat) (fq:Nat->Int) (l:List AC):Nat:=Zy (Z3 c nq fq (Zi l)) 8
def Ye (c:Cfg) (nq:Nat) (fq:Nat->Int) (l:List AC):Nat->Nat:=Vj (Zi l) (Z3 c nq fq (Zi l))
theorem Fj {c:Cfg} {nq:Nat} {fq:Nat->Int} {v:Vw} {p:Nat} (h:p<8):Z3 c nq fq (Zi (ZX v)) p=Z3 c nq fq v p:=by
 unfold Z3;rw[(L5 v).inn p h]
theorem JS (c:Cfg) (nq:Nat) (fq:Nat->Int) (v:Vw):mA c nq fq (ZX v)=Zy (Z3 c nq fq v) 8:=Lc fun p hp=>Fj hp
theorem EE {t u:Nat->Bool}:∀{n:Nat},(∀p,p<n->t p=u p)->WX t n=WX u n
 |0,_=>rfl
 |n+1,h=>by
  unfold WX;rw[EE fun p hp=>h p (by omega),h n (by omega)]
theorem ED {t:Nat->Bool} {n i:Nat} (h:i<Zy t n):Wt t n i<n:=by
 have:Wt t n i∈WX t n:=by
  unfold Wt;rw[LQ (by rw[Sc];exact h)];exact List.getElem_mem _
 exact((Nu t _ n).1 this).1
theorem CG {lt lt':Nat->Nat->Bool} {f g:Nat->Nat} {x:Nat}:∀{j:Nat},(∀t,t<j->f t=g t/\lt x (f t)=lt' x (f t))->Xh lt f x j=Xh lt' g x j
 |0,_=>rfl
 |j+1,h=>by
  unfold Xh;rw[CG fun t ht=>h t (by omega),(h j (by omega)).2,(h j (by omega)).1]
theorem CC {lt lt':Nat->Nat->Bool} {f g:Nat->Nat} {n:Nat} (hf:∀t,t<n->f t=g t) (hl:∀s t,s<n->t<n->lt (f s) (f t)=lt' (f s) (f t)) (hA:∀a b,lt a b=true->lt b a=false) (hN:∀a b c,lt a b=false->lt b c=false->lt a c=false):∀i,i<=n->∀t,t<n->XY lt f i t=XY lt' g i t
 |0,_,t,ht=>hf t ht
 | i + 1,hi,t,ht=>by
  have ih:=CC hf hl hA hN i (by omega);obtain⟨_,h2,h3,_⟩:=LJ hA hN f i
  have him:∀s,s<n->∃q,q<n/\XY lt f i s=f q:=fun s hs=>by
   by_cases e:s<i
   . obtain⟨q,hq,he⟩:=h3 s e
     exact⟨q,by omega,he⟩
   . exact⟨s,hs,h2 s (by omega)⟩
  have hp:Xh lt (XY lt f i) (XY lt f i i) i=Xh lt' (XY lt' g i) (XY lt' g i i) i:=by
   rw[<- ih i (by omega)];refine CG fun s hs=>⟨ih s (by omega),?_⟩
   obtain⟨q1,e1,e2⟩:=him i (by omega);obtain⟨q2,e3,e4⟩:=him s (by omega);rw[e2,e4];exact hl q1 q2 e1 e3
  show X9 (XY lt f i) i _ t=X9 (XY lt' g i) i _ t;rw[hp];unfold X9;rw[ih i (by omega),ih t ht];split
  . rfl
  . split
    . rw[ih (t-1) (by omega)]
    . rfl
theorem EM {c:Cfg} {nq:Nat} {fq:Nat->Int} {v:Vw} {i:Nat} (h:i<Zy (Z3 c nq fq v) 8):Ye c nq fq (ZX v) i=Vj v (Z3 c nq fq v) i:=by
 have e1:∀p,p<8->Z3 c nq fq (Zi (ZX v)) p=Z3 c nq fq v p:=fun p hp=>Fj hp
 have e2:Wt (Z3 c nq fq (Zi (ZX v))) 8=Wt (Z3 c nq fq v) 8:=by funext j;unfold Wt;rw[EE e1]
 unfold Ye Vj;rw[e2,Lc e1];have hs:=L5 v;refine CC (lt:=WQ (Zi (ZX v))) (lt':=WQ v) (n:=Zy (Z3 c nq fq v) 8) (fun _ _=>rfl) (fun s t hs' ht'=>?_) (fun _ _=>I9) (fun _ _ _=>HA) _ (Nat.le_refl _) i h;have a1:=hs.score _ (ED hs');have a2:=hs.score _ (ED ht');unfold WQ;rw[a1,a2]
def MT:Yk:=fun xs m ib=>
 match xs with
 | [x,.agg l]=>
  match netRd.dec [x,.agg l] m with
  |some (⟨c,nq,fq,_⟩,b)=>some (.c (.sl ib 0 0 (mA c nq fq l) none),[(ib,TG (mA c nq fq l) (Ye c nq fq l))],1,[b,W7 l,decide (c.np<=8)])
  |none=>none
 |_=>none
theorem jjnf (c:Cfg) (nq:Nat) (fq:Nat->Int) (v:Vw) (h8:c.np<=8):∃p lp r,ftE prog c nq fq v p lp=some r/\r.1= .c (.sl S1 0 0 (Zy (Z3 c nq fq v) 8) none)/\r.2.1=[some (TG (Zy (Z3 c nq fq v) 8) (Vj v (Z3 c nq fq v)))]/\r.2.2.1<=ZR/\ZZ r.2.2.2.1/\∀q∈r.2.2.2.2,q:=by
 have h8m:=cnt8 (Z3 c nq fq v);refine(?_:(∃p r,ftE prog c nq fq v p [some (r1S 1000 (Zy (Z3 c nq fq v) 8) v.score (Wt (Z3 c nq fq v) 8)),none,some (r2S (Zy (Z3 c nq fq v) 8) v.score (Vj v (Z3 c nq fq v))),some (r3S S1 (Zy (Z3 c nq fq v) 8) (Vj v (Z3 c nq fq v)))]=some r/\_)->_) (As c nq fq v (Zy (Z3 c nq fq v) 8) (Wt (Z3 c nq fq v) 8) (Vj v (Z3 c nq fq v)) (fun r=>r.1= .c (.sl S1 0 0 (Zy (Z3 c nq fq v) 8) none)/\r.2.1=[some (TG (Zy (Z3 c nq fq v) 8) (Vj v (Z3 c nq fq v)))]/\r.2.2.1<=ZR/\ZZ r.2.2.2.1/\∀q∈r.2.2.2.2,q) ?_)
 . rintro⟨p,r,h1,h2⟩
   exact⟨p,_,r,h1,h2⟩
 . refine⟨rfl,rfl,(by first|(unfold ZR;omega)|(dsimp only;unfold ZR;omega)),?_,fun q hq=>?_⟩
   . have w1:IntKind.wrap .i64 ((Zy (Z3 c nq fq v) 8:Int)-Int.ofNat 0)=(Zy (Z3 c nq fq v) 8:Int):=by rw[Wu _ (by simp only[Int.ofNat_eq_natCast];omega) (by simp only[Int.ofNat_eq_natCast];omega)];simp
     have w2:IntKind.wrap .u64 (Zy (Z3 c nq fq v) 8:Int)=(Zy (Z3 c nq fq v) 8:Int):=by
      simp only[IntKind.wrap,IntKind.bits,IntKind.signed]
      first|omega|(simp;omega)
     simp only[w1,w2];simp[ZZ];omega
   . simp only[List.mem_cons,List.not_mem_nil,or_false] at hq
     rcases hq with rfl|rfl|rfl
     . exact jjpj v _ _ h8m (BEq.refl _)
     . exact jjpk v _ _ h8m
     . exact jjpl c nq fq v h8
theorem jjds {x:AV} {r:List AV} {m:AMem} {s:YF} {b:Bool} (h:netRd.dec (x::r) m=some (s,b)):s.rest=r:=by
 unfold netRd XG at h;simp only at h;split at h
 . rename_i e
   cases e;split at h
   . split at h
     . cases h;rfl
     . cases h
   . cases h
 . cases h
theorem jjr6:ZA prog 105 MT:=by
 refine⟨⟨_,_,Tryz.func105,rfl⟩,fun C β m m2 w args ib r news k' ob vs hct ho hs hr hfree hlim hv=>?_⟩;unfold MT at hct;split at hct
 . rename_i x l
   split at hct
   . rename_i c nq fq rest b hd
     simp only[Option.some.injEq,Prod.mk.injEq] at hct;obtain⟨rfl,rfl,rfl,rfl⟩:=hct;simp only[ZZ,List.forall_mem_cons,decide_eq_true_eq] at ho;obtain⟨rfl,ol,o8,_⟩:=ho;have hrest:rest=[.agg l]:=jjds hd;subst hrest;obtain⟨β1,q1,q2,q3⟩:=netRd.ok hs hr hd hv;have el:=Pj ol;have q2:γt β1 [.c (.ptr 5 0 0),.agg (ZX (Zi l))]=some vs:=by rw[ZX,<- el];exact q2
     have q1:Rel (ZG w) β1 (RC c nq fq) w:=q1;obtain⟨p,lp,⟨vv,bb,n',ob,po⟩,hrun,hv1,hbb,hn,hob,hpo⟩:=jjnf c nq fq (Zi l) o8;obtain⟨s',r1,r2,r3,r4⟩:=T7 hrun;have hn:n'<=ZR:=hn;have hbb:bb=_:=hbb;subst hbb;have hv1:vv=_:=hv1;subst hv1;refine(Xa NW r1 ⟨by rw[r3];exact hob,by rw[r4];exact hpo⟩ (C:=ZG w) (β:=β1) (w:=w) (vs:=vs) q2 q1 (fun id h1 h2=>q3 id h1 (by omega))).mono ?_;rintro e w' ⟨β',u,rfl,_,_,hu,hr'⟩;simp only[List.map_cons,List.map_nil,List.cons.injEq,and_true] at r2;obtain⟨L,hL,hb⟩:=hr'.blk S1 _ r2;have hid:β ib=none:=hfree ib (Nat.le_refl _) (by omega);refine⟨ZU β ib L,u,rfl,Wq hid,fun id h=>?_,?_,?_⟩
     . unfold ZU
       rw[if_neg (by omega)]
     . simp only[γ,γ1,γc,hL] at hu
       simp only[γ,γ1,γc,W9];exact hu
     . refine S8 hr ⟨hr'.os,hr'.tape,hr'.output,hr'.size,fun b hb=>hr'.out b hb fun h=>h⟩ hid (W8 (by omega)) hr' r2 rfl rfl (fun k j _=>?_) hL
       match j with
       |0=>exact⟨_,rfl⟩
       |j+1=>exact⟨_,rfl⟩
   . cases hct
 . cases hct
def N5:List (FuncId × Yk):=[(102,GV),(103,JB),(105,MT)]
theorem jjkh:∀f g,(f,g)∈N5->ZA prog f g:=by
 intro f g h;simp only[N5,List.mem_cons,Prod.mk.injEq,List.not_mem_nil,or_false] at h;rcases h with⟨rfl,rfl⟩|⟨rfl,rfl⟩|⟨rfl,rfl⟩
 . exact JF
 . exact jjr3
 . exact jjr6
def Kq (P:Program):Env:=⟨P,N5⟩
theorem BS:ZC (Kq prog):=Xf jjkh (by kernel_rfl) (by kernel_rfl)
theorem Ar (c:Cfg) (nq:Nat) (fq:Nat->Int) (v:Vw) (Q:VF->Prop) (H:let zN:=Int.ofNat;let zM:=ABlk.mk;let zD:=Int.toNat;let zq0:List Bool:=(Zf c nq fq)::(pW W5 (YF.mk c nq fq [AV.agg (ZX v),.c (zI (IntKind.wrap .i64 (Vw.command v)))]))::(zu (zt (zt [])));let zq1:List Bool:=((W0 (ZI c nq fq (IntKind.wrap .i64 (Vw.command v))) (Zz (List.getD (ZX v) (zD (IntKind.wrap .i64 (Vw.command v))) ZV)) (ZP (List.getD (ZX v) (24+zD (IntKind.wrap .i64 (Vw.command v))) ZV)) !=zN 1)==true)::zq0;let zq2:List Bool:=(Zf c nq fq)::true::(decide (c.np<=8))::(zu (zt (y3 (y3 ((((W0 (ZI c nq fq (IntKind.wrap .i64 (Vw.command v))) (Zz (List.getD (ZX v) (zD (IntKind.wrap .i64 (Vw.command v))) ZV)) (ZP (List.getD (ZX v) (24+zD (IntKind.wrap .i64 (Vw.command v))) ZV)) !=zN 2)==true)::zq1))))));let zq3:List Bool:=(ABlk.inb (zM true true 3 1 (Cs.arr (mA c nq fq (ZX v)) fun k=>List.map AC.v ((fun i=>[Value.int .i64 (zN (Ye (Cfg.mk c.nodes c.np (fA (Zj (zM false false 3 1 (yP c)) 0 0 1)) c.ns (fA (Zj (zM false false 3 1 (yS c)) 0 0 1)) c.long c.nb (fA (Zj (zM false false 3 1 (yB c)) 0 0 1)) c.nt (YY (Zj (zM false false 70 3 (yT c)) 0 0 3)) c.miss c.good c.fresh) nq (fA (Zj (zM false false 3 1 (Cs.arr nq fun k=>List.map AC.v ((fun i=>[Value.int .i64 (fq i)]) k))) 0 0 1)) (ZX v) i))]) k))) 0 1)::true::(decide (zN 0<=zN 0/\zN 0 < ↑(mA c nq fq (ZX v))))::(decide (↑(mA c nq fq (ZX v))>zN 0)==true)::zq2;let zq4:List Bool:=true::true::(ABlk.inb (zM true false 32 0 (Cs.lit (ZX v))) 0 (24+zD (IntKind.wrap .i64 (Vw.command v))*1+1))::(Z5 (Kd.i .u16) (List.getD (ZX v) (24+zD (IntKind.wrap .i64 (Vw.command v))*1) ZV))::(decide (zN 0<=IntKind.wrap .i64 (Vw.command v)/\IntKind.wrap .i64 (Vw.command v)<zN 8))::((W0 (ZI c nq fq (IntKind.wrap .i64 (Vw.command v))) (Zz (List.getD (ZX v) (zD (IntKind.wrap .i64 (Vw.command v))) ZV)) (ZP (List.getD (ZX v) (24+zD (IntKind.wrap .i64 (Vw.command v))) ZV)) !=zN 2)==false)::zq1;let zq5:List Bool:=(Zf c nq fq)::true::(decide (c.np<=8))::(zu (zt (y3 (y3 ((((VL (ZP (List.getD (ZX v) (24+zD (IntKind.wrap .i64 (Vw.command v))*1) ZV))==zN 2)==true)::zq4))))));let zq6:List Bool:=(ABlk.inb (zM true true 3 1 (Cs.arr (mA c nq fq (ZX v)) fun k=>List.map AC.v ((fun i=>[Value.int .i64 (zN (Ye (Cfg.mk c.nodes c.np (fA (Zj (zM false false 3 1 (yP c)) 0 0 1)) c.ns (fA (Zj (zM false false 3 1 (yS c)) 0 0 1)) c.long c.nb (fA (Zj (zM false false 3 1 (yB c)) 0 0 1)) c.nt (YY (Zj (zM false false 70 3 (yT c)) 0 0 3)) c.miss c.good c.fresh) nq (fA (Zj (zM false false 3 1 (Cs.arr nq fun k=>List.map AC.v ((fun i=>[Value.int .i64 (fq i)]) k))) 0 0 1)) (ZX v) i))]) k))) 0 1)::true::(decide (zN 0<=zN 0/\zN 0 < ↑(mA c nq fq (ZX v))))::(decide (↑(mA c nq fq (ZX v))>zN 0)==true)::zq5;let zq7:List Bool:=true::true::((VL (ZP (List.getD (ZX v) (24+zD (IntKind.wrap .i64 (Vw.command v))*1) ZV))==zN 2)==false)::zq4;let zq8:List Bool:=(Zf c nq fq)::true::(decide (c.np<=8))::(zu (zt (y3 (y3 ((((Vw.command v !=Int.negSucc 0)==false)::zq7))))));let zq9:List Bool:=(ABlk.inb (zM true true 3 1 (Cs.arr (mA c nq fq (ZX v)) fun k=>List.map AC.v ((fun i=>[Value.int .i64 (zN (Ye (Cfg.mk c.nodes c.np (fA (Zj (zM false false 3 1 (yP c)) 0 0 1)) c.ns (fA (Zj (zM false false 3 1 (yS c)) 0 0 1)) c.long c.nb (fA (Zj (zM false false 3 1 (yB c)) 0 0 1)) c.nt (YY (Zj (zM false false 70 3 (yT c)) 0 0 3)) c.miss c.good c.fresh) nq (fA (Zj (zM false false 3 1 (Cs.arr nq fun k=>List.map AC.v ((fun i=>[Value.int .i64 (fq i)]) k))) 0 0 1)) (ZX v) i))]) k))) 0 1)::true::(decide (zN 0<=zN 0/\zN 0 < ↑(mA c nq fq (ZX v))))::(decide (↑(mA c nq fq (ZX v))>zN 0)==true)::zq8;let zq10:List Bool:=true::true::(ABlk.inb (zM true false 32 0 (Cs.lit (ZX v))) 0 (24+zD (IntKind.wrap .i64 (Vw.command v))*1+1))::(Z5 (Kd.i .u16) (List.getD (ZX v) (24+zD (IntKind.wrap .i64 (Vw.command v))*1) ZV))::(decide (zN 0<=IntKind.wrap .i64 (Vw.command v)/\IntKind.wrap .i64 (Vw.command v)<zN 8))::((W0 (ZI c nq fq (IntKind.wrap .i64 (Vw.command v))) (Zz (List.getD (ZX v) (zD (IntKind.wrap .i64 (Vw.command v))) ZV)) (ZP (List.getD (ZX v) (24+zD (IntKind.wrap .i64 (Vw.command v))) ZV)) !=zN 1)==false)::zq0;let zq11:List Bool:=(Zf c nq fq)::true::(decide (c.np<=8))::(zu (zt (y3 (y3 ((((VL (ZP (List.getD (ZX v) (24+zD (IntKind.wrap .i64 (Vw.command v))*1) ZV))==zN 2)==true)::zq10))))));let zq12:List Bool:=(ABlk.inb (zM true true 3 1 (Cs.arr (mA c nq fq (ZX v)) fun k=>List.map AC.v ((fun i=>[Value.int .i64 (zN (Ye (Cfg.mk c.nodes c.np (fA (Zj (zM false false 3 1 (yP c)) 0 0 1)) c.ns (fA (Zj (zM false false 3 1 (yS c)) 0 0 1)) c.long c.nb (fA (Zj (zM false false 3 1 (yB c)) 0 0 1)) c.nt (YY (Zj (zM false false 70 3 (yT c)) 0 0 3)) c.miss c.good c.fresh) nq (fA (Zj (zM false false 3 1 (Cs.arr nq fun k=>List.map AC.v ((fun i=>[Value.int .i64 (fq i)]) k))) 0 0 1)) (ZX v) i))]) k))) 0 1)::true::(decide (zN 0<=zN 0/\zN 0 < ↑(mA c nq fq (ZX v))))::(decide (↑(mA c nq fq (ZX v))>zN 0)==true)::zq11;let zq13:List Bool:=true::true::((VL (ZP (List.getD (ZX v) (24+zD (IntKind.wrap .i64 (Vw.command v))*1) ZV))==zN 2)==false)::zq10;let zq14:List Bool:=(Zf c nq fq)::true::(decide (c.np<=8))::(zu (zt (y3 (y3 ((((Vw.command v !=Int.negSucc 0)==false)::zq13))))));let zq15:List Bool:=(ABlk.inb (zM true true 3 1 (Cs.arr (mA c nq fq (ZX v)) fun k=>List.map AC.v ((fun i=>[Value.int .i64 (zN (Ye (Cfg.mk c.nodes c.np (fA (Zj (zM false false 3 1 (yP c)) 0 0 1)) c.ns (fA (Zj (zM false false 3 1 (yS c)) 0 0 1)) c.long c.nb (fA (Zj (zM false false 3 1 (yB c)) 0 0 1)) c.nt (YY (Zj (zM false false 70 3 (yT c)) 0 0 3)) c.miss c.good c.fresh) nq (fA (Zj (zM false false 3 1 (Cs.arr nq fun k=>List.map AC.v ((fun i=>[Value.int .i64 (fq i)]) k))) 0 0 1)) (ZX v) i))]) k))) 0 1)::true::(decide (zN 0<=zN 0/\zN 0 < ↑(mA c nq fq (ZX v))))::(decide (↑(mA c nq fq (ZX v))>zN 0)==true)::zq14;let ze1:AV:=.c (.v (.int .i8 (IntKind.wrap .i8 (zN (Ye c nq fq (ZX v) 0)))));let ze0:AV:=.c (.v (.int .i8 (Int.negSucc 0)));(((W0 (ZI c nq fq (IntKind.wrap .i64 (Vw.command v))) (Zz (List.getD (ZX v) (zD (IntKind.wrap .i64 (Vw.command v))) ZV)) (ZP (List.getD (ZX v) (24+zD (IntKind.wrap .i64 (Vw.command v))) ZV)) !=zN 1)=true->(((W0 (ZI c nq fq (IntKind.wrap .i64 (Vw.command v))) (Zz (List.getD (ZX v) (zD (IntKind.wrap .i64 (Vw.command v))) ZV)) (ZP (List.getD (ZX v) (24+zD (IntKind.wrap .i64 (Vw.command v))) ZV)) !=zN 2)=true->(((decide (↑(mA c nq fq (ZX v))>zN 0))=true->(((IntKind.wrap .i8 (zN (Ye c nq fq (ZX v) 0)) !=Int.negSucc 0)=true->Q (ze1,[],1063,(((IntKind.wrap .i8 (zN (Ye c nq fq (ZX v) 0)) !=Int.negSucc 0)==true)::zq3),[]))/\((IntKind.wrap .i8 (zN (Ye c nq fq (ZX v) 0)) !=Int.negSucc 0)=false->Q (ze0,[],1065,(((IntKind.wrap .i8 (zN (Ye c nq fq (ZX v) 0)) !=Int.negSucc 0)==false)::zq3),[]))))/\((decide (↑(mA c nq fq (ZX v))>zN 0))=false->Q (ze0,[],1061,((decide (↑(mA c nq fq (ZX v))>zN 0)==false)::zq2),[]))))/\((W0 (ZI c nq fq (IntKind.wrap .i64 (Vw.command v))) (Zz (List.getD (ZX v) (zD (IntKind.wrap .i64 (Vw.command v))) ZV)) (ZP (List.getD (ZX v) (24+zD (IntKind.wrap .i64 (Vw.command v))) ZV)) !=zN 2)=false->(((VL (ZP (List.getD (ZX v) (24+zD (IntKind.wrap .i64 (Vw.command v))*1) ZV))==zN 2)=true->(((decide (↑(mA c nq fq (ZX v))>zN 0))=true->(((IntKind.wrap .i8 (zN (Ye c nq fq (ZX v) 0)) !=Int.negSucc 0)=true->Q (ze1,[],1068,(((IntKind.wrap .i8 (zN (Ye c nq fq (ZX v) 0)) !=Int.negSucc 0)==true)::zq6),[]))/\((IntKind.wrap .i8 (zN (Ye c nq fq (ZX v) 0)) !=Int.negSucc 0)=false->Q (ze0,[],1070,(((IntKind.wrap .i8 (zN (Ye c nq fq (ZX v) 0)) !=Int.negSucc 0)==false)::zq6),[]))))/\((decide (↑(mA c nq fq (ZX v))>zN 0))=false->Q (ze0,[],1066,((decide (↑(mA c nq fq (ZX v))>zN 0)==false)::zq5),[]))))/\((VL (ZP (List.getD (ZX v) (24+zD (IntKind.wrap .i64 (Vw.command v))*1) ZV))==zN 2)=false->(((Vw.command v !=Int.negSucc 0)=true->Q (.c (.v (.int .i8 (Vw.command v))),[],1047,(((Vw.command v !=Int.negSucc 0)==true)::zq7),[]))/\((Vw.command v !=Int.negSucc 0)=false->(((decide (↑(mA c nq fq (ZX v))>zN 0))=true->(((IntKind.wrap .i8 (zN (Ye c nq fq (ZX v) 0)) !=Int.negSucc 0)=true->Q (ze1,[],1070,(((IntKind.wrap .i8 (zN (Ye c nq fq (ZX v) 0)) !=Int.negSucc 0)==true)::zq9),[]))/\((IntKind.wrap .i8 (zN (Ye c nq fq (ZX v) 0)) !=Int.negSucc 0)=false->Q (ze0,[],1072,(((IntKind.wrap .i8 (zN (Ye c nq fq (ZX v) 0)) !=Int.negSucc 0)==false)::zq9),[]))))/\((decide (↑(mA c nq fq (ZX v))>zN 0))=false->Q (ze0,[],1068,((decide (↑(mA c nq fq (ZX v))>zN 0)==false)::zq8),[]))))))))))/\((W0 (ZI c nq fq (IntKind.wrap .i64 (Vw.command v))) (Zz (List.getD (ZX v) (zD (IntKind.wrap .i64 (Vw.command v))) ZV)) (ZP (List.getD (ZX v) (24+zD (IntKind.wrap .i64 (Vw.command v))) ZV)) !=zN 1)=false->(((VL (ZP (List.getD (ZX v) (24+zD (IntKind.wrap .i64 (Vw.command v))*1) ZV))==zN 2)=true->(((decide (↑(mA c nq fq (ZX v))>zN 0))=true->(((IntKind.wrap .i8 (zN (Ye c nq fq (ZX v) 0)) !=Int.negSucc 0)=true->Q (ze1,[],1066,(((IntKind.wrap .i8 (zN (Ye c nq fq (ZX v) 0)) !=Int.negSucc 0)==true)::zq12),[]))/\((IntKind.wrap .i8 (zN (Ye c nq fq (ZX v) 0)) !=Int.negSucc 0)=false->Q (ze0,[],1068,(((IntKind.wrap .i8 (zN (Ye c nq fq (ZX v) 0)) !=Int.negSucc 0)==false)::zq12),[]))))/\((decide (↑(mA c nq fq (ZX v))>zN 0))=false->Q (ze0,[],1064,((decide (↑(mA c nq fq (ZX v))>zN 0)==false)::zq11),[]))))/\((VL (ZP (List.getD (ZX v) (24+zD (IntKind.wrap .i64 (Vw.command v))*1) ZV))==zN 2)=false->(((Vw.command v !=Int.negSucc 0)=true->Q (.c (.v (.int .i8 (Vw.command v))),[],1045,(((Vw.command v !=Int.negSucc 0)==true)::zq13),[]))/\((Vw.command v !=Int.negSucc 0)=false->(((decide (↑(mA c nq fq (ZX v))>zN 0))=true->(((IntKind.wrap .i8 (zN (Ye c nq fq (ZX v) 0)) !=Int.negSucc 0)=true->Q (ze1,[],1068,(((IntKind.wrap .i8 (zN (Ye c nq fq (ZX v) 0)) !=Int.negSucc 0)==true)::zq15),[]))/\((IntKind.wrap .i8 (zN (Ye c nq fq (ZX v) 0)) !=Int.negSucc 0)=false->Q (ze0,[],1070,(((IntKind.wrap .i8 (zN (Ye c nq fq (ZX v) 0)) !=Int.negSucc 0)==false)::zq15),[]))))/\((decide (↑(mA c nq fq (ZX v))>zN 0))=false->Q (ze0,[],1066,((decide (↑(mA c nq fq (ZX v))>zN 0)==false)::zq14),[])))))))))):
 ∃p r,QZ (Kq prog) 69 c nq fq v [] p []=some r/\Q r:=
 ZD H (fun g1=>ZD g1 (fun g2=>ZD g2 (fun g3=>ZD g3 (fun g4=>⟨pD 14 2125794,_,by kernel_rfl,g4⟩) (fun g4=>⟨pD 15 3720117,_,by kernel_rfl,g4⟩)) (fun g3=>⟨pD 15 1062912,_,by kernel_rfl,g3⟩)) (fun g2=>ZD g2 (fun g3=>ZD g3 (fun g4=>ZD g4 (fun g5=>⟨pD 14 2145504,_,by kernel_rfl,g5⟩) (fun g5=>⟨pD 15 3739827,_,by kernel_rfl,g5⟩)) (fun g4=>⟨pD 15 1082622,_,by kernel_rfl,g4⟩)) (fun g3=>ZD g3 (fun g4=>⟨pD 11 98472,_,by kernel_rfl,g4⟩) (fun g4=>ZD g4 (fun g5=>ZD g5 (fun g6=>⟨pD 14 2283285,_,by kernel_rfl,g6⟩) (fun g6=>⟨pD 15 3877608,_,by kernel_rfl,g6⟩)) (fun g5=>⟨pD 15 1220403,_,by kernel_rfl,g5⟩))))) (fun g1=>ZD g1 (fun g2=>ZD g2 (fun g3=>ZD g3 (fun g4=>⟨pD 14 2145453,_,by kernel_rfl,g4⟩) (fun g4=>⟨pD 15 3739776,_,by kernel_rfl,g4⟩)) (fun g3=>⟨pD 15 1082571,_,by kernel_rfl,g3⟩)) (fun g2=>ZD g2 (fun g3=>⟨pD 11 98421,_,by kernel_rfl,g3⟩) (fun g3=>ZD g3 (fun g4=>ZD g4 (fun g5=>⟨pD 14 2283234,_,by kernel_rfl,g5⟩) (fun g5=>⟨pD 15 3877557,_,by kernel_rfl,g5⟩)) (fun g4=>⟨pD 15 1220352,_,by kernel_rfl,g4⟩))))
end Go.Proofs.YtljeokninakliaaGreatDoor
end
