/- Parts, one behind the other. Parts of a proof. -/
import Derived.Test.YtodpbgbpifiniaaGreatDoorJModelsPlay10
import Derived.Test.YtodpbgbpifiniaaGreatDoorJModelsPlay13
import Derived.Test.YtodpbgbpifiniaaGreatDoorJModelsPlay9
set_option linter.unusedSimpArgs false
set_option linter.unusedVariables false
set_option maxRecDepth 1000000
section
namespace Go.Proofs.YtodpbgbpifiniaaGreatDoor
open Go.RowKit Tryz
def WD (f:Nat->Int) (n:Nat):Bool:=decide ((List.range n).map f).Nodup
def Tx:Yq
 | [.c a],m,_=>match XB 1 m a with|some (n,F,b)=>some (bo (WD (fA F) n),[],0,[b,decide (1<=n),decide (n<=1000000),Zy n F])|none=>none
 |_,_,_=>none
theorem jjdy:ZC prog 47 Tx:=by
 refine⟨⟨_,_,Tryz.func47,rfl⟩,fun C β m m2 w args ib r news k' ob vs hct ho hs hr hfree hlim hv=>?_⟩;unfold Tx at hct;split at hct
 . rename_i a
   split at hct
   . rename_i n F b hsl
     simp only[Option.some.injEq,Prod.mk.injEq] at hct;obtain⟨rfl,rfl,rfl,rfl⟩:=hct;simp only[ZZ,List.forall_mem_cons,decide_eq_true_eq] at ho;obtain⟨rfl,o1,o2,o3,_⟩:=ho;simp only[γt] at hv;split at hv
     . rename_i v0 us hv0 hus
       cases hus;cases hv;obtain⟨L,hk,hL2⟩:=UD hr Nat.one_pos (V4 hs hsl) hv0 3 (Si o3) (fun _=>rfl) (Zx w) (fun _=>none) rfl;have hL3:=hL2 (ZR (fun _=>none) 0 L) 0 Wd
       have hcell:∀k,k<n->L.nil=false/\w.cell? ⟨L.b,L.o+k,none⟩=some (.int .i64 (fA F k)):=by
        intro k hk';obtain⟨g1,u,g2,_,g4⟩:=hk.cells k 0 (by simp[Z6,XH,hk']);have hs1:L.s=1:=hk.sz;simp only[XH,Cs.get,γc,List.map_cons,List.map_nil,List.getD_cons_zero,Option.some.injEq] at g2;subst g2;rw[hs1,Nat.mul_one,Nat.add_zero] at g4;exact⟨g1,g4⟩
       obtain⟨hnil,_⟩:=hcell 0 (by omega);simp only[γc,Wd,hnil,Bool.false_eq_true,if_false,Nat.zero_mul,Nat.zero_add,Nat.add_zero,Option.some.injEq] at hL3;subst hL3;have hz:((List.range n).map (fA F)).length=n:=by simp
       have hcs:=jjge L.b L.o ((none:Option Nat).getD (L.cap-0)) ((List.range n).map (fA F)) (by rw[hz];exact o2) w (hk.lt hnil) (fun j hj=>by rw[hz] at hj;rw[(hcell j hj).2];simp[hj]) (by intro e;rw[e] at hz;simp at hz;omega);rw[hz] at hcs;refine hcs.mono ?_;rintro e w' ⟨rfl,hb⟩;have hsv:=jjax ((List.range n).map (fA F));rw[hz] at hsv;rw[hsv];exact⟨β,_,rfl,Ext.refl _,fun _ _=>rfl,rfl,by rw[List.append_nil];exact hr.below hb⟩
     . cases hv
   . cases hct
 . cases hct
def C0 (P:Program):Env:=⟨P,[(45,W7),(46,W8),(47,Tx),(19,UY)]⟩
theorem hENr:Zz (C0 prog):=by
 refine Xp (fun f g h=>?_) (by kernel_rfl) (by kernel_rfl);simp only[C0,List.mem_cons,Prod.mk.injEq,List.not_mem_nil,or_false] at h;rcases h with⟨rfl,rfl⟩|⟨rfl,rfl⟩|⟨rfl,rfl⟩|⟨rfl,rfl⟩
 . exact Ia
 . exact I9
 . exact jjdy
 . exact DD
def GX (P:Program) (c:Cfg) (path:List Dec):Option VF:=ZB [] (ZJ (C0 P) (fC (C0 P) 300) 43 [.agg (Yi c)] 1000 nSt (Y7 (Xl c) path []))
theorem ru3 (c:Cfg) (Q:VF->Prop) (H:let zq0:List Bool:=[decide (0+c.np<=c.np),decide (c.np<=1000000),Zy c.np fun k=>List.map AC.v ((fun i=>[Value.int .i64 (c.fp i)]) k),true,true,true];let zq1:List Bool:=(decide (0+c.np<=c.np))::(decide (1<=c.np))::(decide (c.np<=1000000))::(Zy c.np fun k=>List.map AC.v ((fun i=>[Value.int .i64 (c.fp i)]) k))::true::(Za c.fp c.np c.nodes==true)::zq0;let zq2:List Bool:=(decide (0+2*c.np<=2*c.np))::(decide (1<=2*c.np))::(decide (2*c.np<=1000000))::(Zy (2*c.np) fun k=>List.map AC.v ((fun i=>[Value.int .i64 (Zs (Cfg.mk c.nodes c.np (fA (Zt (ABlk.mk false false 3 1 (yP c)) 0 0 1)) c.ns (fA (Zt (ABlk.mk false false 3 1 (yS c)) 0 0 1)) c.long c.nb (fA (Zt (ABlk.mk false false 3 1 (yB c)) 0 0 1)) c.nt (Z4 (Zt (ABlk.mk false false 85 3 (yT c)) 0 0 3)) c.miss c.good c.fresh) i)]) k))::(decide (0+c.np<=c.np)&&(decide (0+c.ns<=c.ns)&&(decide (0+c.nb<=c.nb)&&(decide (0+c.nt<=c.nt)&&((Zy c.np fun k=>List.map AC.v ((fun i=>[Value.int .i64 (c.fp i)]) k))&&((Zy c.ns fun k=>List.map AC.v ((fun i=>[Value.int .i64 (c.fs i)]) k))&&((Zy c.nb fun k=>List.map AC.v ((fun i=>[Value.int .i64 (c.fb i)]) k))&&Yc c.nt fun k=>List.map AC.v ((fun i=>[Value.int .i64 (Station.node (c.ft i)),Value.int .u32 (Station.safe (c.ft i)),Value.int .i64 (Station.hold (c.ft i))]) k))))))))::(decide (c.np<=1000))::y3 (y3 ((Yt c.fp c.np==true)::zq1));(((Za c.fp c.np c.nodes)=true->(((Yt c.fp c.np)=true->(((!WD (Zs c) (2*c.np))=true->Q (.c (zI (Int.ofNat 1)),[],1019,(((!WD (Zs c) (2*c.np))==true)::zq2),[]))/\((!WD (Zs c) (2*c.np))=false->Q (.c (zI (Int.ofNat 0)),[],1019,(((!WD (Zs c) (2*c.np))==false)::zq2),[]))))/\((Yt c.fp c.np)=false->Q (.c (zI (Int.ofNat 1)),[],1017,((Yt c.fp c.np==false)::zq1),[]))))/\((Za c.fp c.np c.nodes)=false->Q (.c (zI (Int.ofNat 1)),[],1015,((Za c.fp c.np c.nodes==false)::zq0),[])))):
 ∃p r,GX prog c p=some r/\Q r:=
 ZL H (fun g1=>ZL g1 (fun g2=>ZL g2 (fun g3=>⟨pD 7 757,_,by kernel_rfl,g3⟩) (fun g3=>⟨pD 7 1486,_,by kernel_rfl,g3⟩)) (fun g2=>⟨pD 7 55,_,by kernel_rfl,g2⟩)) (fun g1=>⟨pD 7 2,_,by kernel_rfl,g1⟩)
theorem Ig {ty n:Nat} {f:Nat->Station} {o r:Bool}:Z4 (Z8 ⟨o,r,ty,3,.arr n fun k=>List.map AC.v ((fun i=>[Value.int .i64 (f i).node,.int .u32 (f i).safe,.int .i64 (f i).hold]) k)⟩ 0 0 3)=f:=by
 funext i;simp[Z4,Z8,ZP]
theorem YO {n:Nat} {f:Nat->Station}:Yc n (fun k=>List.map AC.v ((fun i=>[Value.int .i64 (f i).node,.int .u32 (f i).safe,.int .i64 (f i).hold]) k))=true:=by
 unfold Yc;exact List.all_eq_true.2 fun i _=>by simp[OQ]
theorem YE {n:Nat} {f:Nat->Int}:Zy n (fun k=>[AC.v (Value.int .i64 (f k))])=true:=YT
theorem YF {n:Nat} {f:Nat->Station}:Yc n (fun k=>[AC.v (Value.int .i64 (f k).node),AC.v (Value.int .u32 (f k).safe),AC.v (Value.int .i64 (f k).hold)])=true:=YO
theorem jjli (c:Cfg):Cfg.mk c.nodes c.np c.fp c.ns c.fs c.long c.nb c.fb c.nt c.ft c.miss c.good c.fresh=c:=rfl
def Yz (c:Cfg):Int:=if (Za c.fp c.np c.nodes&&(Yt c.fp c.np&&WD (Zs c) (2*c.np)))=true then 0 else 1
theorem A6:ZC prog 43 (YP (fun c=>i64 (Yz c)) fun c=>decide (1<=c.np)&&decide (c.np<=1000)):=by
 refine Qp (E:=C0 prog) (fuel:=300) (str:=nSt) hENr ⟨_,_,Tryz.func43,rfl⟩ (fun c=>PW _) fun c hp=>?_
 simp only[Bool.and_eq_true,decide_eq_true_eq] at hp;refine(?_:(∃p r,GX prog c p=some r/\(r.1=i64 (Yz c)/\r.2.2.1<=ZQ/\ZZ r.2.2.2.1/\∀q∈r.2.2.2.2,q))->_) (ru3 c _ ?_)
 . rintro⟨p,r,h1,h2⟩
   exact⟨p,[],r,h1,h2⟩
 . simp only[Pe,YT,Ig,YO,jjli]
   have h1:c.np<=1000000:=by omega
   have h2:1<=2*c.np:=by omega
   have h3:2*c.np<=1000000:=by omega
   repeat' (first|refine⟨fun h=>?_,fun h=>?_⟩|fail)
   all_goals (refine⟨?_,(by first|(unfold ZQ;omega)|(dsimp only;unfold ZQ;omega)),?_,by simp⟩)
   all_goals (simp_all[ZZ,Yz,i64])
   all_goals (try omega)
def MV:Yq
 | [.c (.v (.int .u64 x)),.c (.v (.int .u64 y))],_,_=>some (.tup [.c (.v (.int .u64 (x*y / 18446744073709551616))),.c (.v (.int .u64 (x*y % 18446744073709551616)))],[],0,[decide (0<=x/\x<18446744073709551616),decide (0<=y/\y<18446744073709551616)])
 |_,_,_=>none
theorem Af:ZC prog 62 MV:=by
 refine⟨⟨_,_,Tryz.func62,rfl⟩,fun C β m m2 w args ib r news k' ob vs hct ho hs hr hfree hlim hv=>?_⟩;unfold MV at hct;split at hct
 . rename_i x y
   simp only[Option.some.injEq,Prod.mk.injEq] at hct;obtain⟨rfl,rfl,rfl,rfl⟩:=hct;simp only[ZZ,List.forall_mem_cons,decide_eq_true_eq] at ho;obtain⟨⟨x0,x1⟩,⟨y0,y1⟩,_⟩:=ho;cases hv;obtain⟨a,rfl⟩:=Int.eq_ofNat_of_zero_le x0;obtain⟨b,rfl⟩:=Int.eq_ofNat_of_zero_le y0;refine(Tryz.bits_Mul a b (by omega) (by omega) w).mono ?_;rintro e w' ⟨rfl,rfl⟩;exact⟨β,_,rfl,Ext.refl _,fun _ _=>rfl,by simp[γ,γt,γ1,γc],by rw[List.append_nil];exact hr⟩
 . cases hct
def BZ (P:Program):Env:=⟨P,[(62,MV)]⟩
theorem CA:Zz (BZ prog):=by
 refine Xp (fun f g h=>?_) (by kernel_rfl) (by kernel_rfl);simp only[BZ,List.mem_cons,Prod.mk.injEq,List.not_mem_nil,or_false] at h;obtain⟨rfl,rfl⟩:=h;exact Af
abbrev Tb (x:Int) (n j:Nat):ABlk:=XD 3 1 n fun i=>[.int .i64 (if i<j then x else 0)]
abbrev Pz (n j:Nat):List AV:=[.c (.sl 1021 0 0 n none),i64 (Int.ofNat j)]
def GR (P:Program) (x:Int) (n j:Nat) (path:List Dec):Option VC:=
 view ([7,8]++[]) [1021] (fC (BZ P) 100 (ZY P 18 0) 1000000000000000000000000000000000000000000 nSt (WR 48 [7,8] [1021] (Pz n j) [Tb x n j] path []))
theorem rep (x:Int) (n j:Nat) (Q:VC->Prop) (H:let zN:=Int.ofNat;let zD:=Int.toNat;(((decide (zN j < ↑n))=true->Q (Exit.normal,[some (ZN (List.zip [7,8] (Pz n j)) (0+1+1+1+1+1+1+1)),some (.c (zI (IntKind.wrap .i64 (zN j + ↑(min (zD (Option.getD none ↑n-Option.getD (some (zN j)) (zN 0))) (zD (Option.getD (some (zN j)) ↑n-zN 0)))))))],[yO 3 1 (Cs.arr n fun p=>if 0+zD (Option.getD (some (zN j)) (zN 0))<=p/\p<0+zD (Option.getD (some (zN j)) (zN 0))+min (zD (Option.getD none ↑n-Option.getD (some (zN j)) (zN 0))) (zD (Option.getD (some (zN j)) ↑n-zN 0)) then Z8 (ABlk.mk true true 3 1 (Cs.arr n fun k=>List.map AC.v ((fun i=>[Value.int .i64 (if i<j then x else 0)]) k))) 0 0 1 (p-(0+zD (Option.getD (some (zN j)) (zN 0)))) else List.map AC.v ((fun i=>[Value.int .i64 (if i<j then x else 0)]) p))],48,1100000000000000000000000000000000000000004,[decide (0+min (zD (Option.getD none ↑n-Option.getD (some (zN j)) (zN 0))) (zD (Option.getD (some (zN j)) ↑n-zN 0))<=n),decide (0+zD (Option.getD (some (zN j)) (zN 0))+min (zD (Option.getD none ↑n-Option.getD (some (zN j)) (zN 0))) (zD (Option.getD (some (zN j)) ↑n-zN 0))<=n),true,decide (zN 0<=zN 0/\zN 0<=Option.getD (some (zN j)) ↑n/\Option.getD (some (zN j)) ↑n <= ↑(n-0)),true,decide (n=0\/0<n),decide (zN 0<=Option.getD (some (zN j)) (zN 0)/\Option.getD (some (zN j)) (zN 0)<=Option.getD none ↑n/\Option.getD none ↑n<=YW none n none),decide (Option.getD (some (zN j)) (zN 0)=zN 0\/Option.getD (some (zN j)) (zN 0)<YW none n none),decide (YW none n none <= ↑(Option.getD none n)),true,Zu none (ABlk.mk true true 3 1 (Cs.arr n fun k=>List.map AC.v ((fun i=>[Value.int .i64 (if i<j then x else 0)]) k))) 0 n,decide (zN j < ↑n)==true],[]))/\((decide (zN j < ↑n))=false->Q (Exit.exit 0,[some (ZN (List.zip [7,8] (Pz n j)) (0+1+1+1+1+1+1+1)),some (ZN (List.zip [7,8] (Pz n j)) (0+1+1+1+1+1+1+1+1))],[yO 3 1 (Cs.arr n fun k=>List.map AC.v ((fun i=>[Value.int .i64 (if i<j then x else 0)]) k))],48,1000000000000000000000000000000000000000004,[decide (zN j < ↑n)==false],[])))):
 ∃p r,GR prog x n j p=some r/\Q r:=
 ZL H (fun g1=>⟨pD 1 1,_,by kernel_rfl,g1⟩) (fun g1=>⟨pD 1 2,_,by kernel_rfl,g1⟩)
def GQ (P:Program) (f:Nat->Int) (n:Int) (path:List Dec):Option VF:=ZB [1021] (ZJ (BZ P) (fC (BZ P) 300) 18 [.c (.sl 0 0 0 1 none),i64 n] 1000 nSt (Y7 [(0,ZG 3 1 f)] path [some ⟨[7,8],[1021],ZT 48 [(7,.c (.sl 1021 0 0 n.toNat none))],[(1021,Tb (f 0) n.toNat n.toNat)],100000000000000000000000000000000000000000000000000,.exit 0⟩]))
theorem Bc (f:Nat->Int) (n:Int) (Q:VF->Prop) (H:let zN:=Int.ofNat;let zD:=Int.toNat;(((decide (n<zN 0))=true->False)/\((decide (n<zN 0))=false->(((decide (zN 1*IntKind.wrap .u64 n / zN 18446744073709551616>zN 0))=true->False)/\((decide (zN 1*IntKind.wrap .u64 n / zN 18446744073709551616>zN 0))=false->(((decide (zN 1*IntKind.wrap .u64 n % zN 18446744073709551616>zN 9223372036854775807))=true->False)/\((decide (zN 1*IntKind.wrap .u64 n % zN 18446744073709551616>zN 9223372036854775807))=false->Q (.c (.sl 1021 0 0 (zD n) none),[yO 3 1 (Cs.arr (zD n) fun k=>List.map AC.v ((fun i=>[Value.int .i64 (if i<zD n then f 0 else 0)]) k))],100000000000000000000000000000000000000000000000002,[decide (0+min (zD (IntKind.wrap .i64 (zN 1*IntKind.wrap .u64 n % zN 18446744073709551616))) 1<=1),decide (0+min (zD (IntKind.wrap .i64 (zN 1*IntKind.wrap .u64 n % zN 18446744073709551616))) 1<=zD (IntKind.wrap .i64 (zN 1*IntKind.wrap .u64 n % zN 18446744073709551616))),decide (zN 0<=IntKind.wrap .i64 (zN 1*IntKind.wrap .u64 n % zN 18446744073709551616)/\IntKind.wrap .i64 (zN 1*IntKind.wrap .u64 n % zN 18446744073709551616)=IntKind.wrap .i64 (zN 1*IntKind.wrap .u64 n % zN 18446744073709551616)/\IntKind.wrap .i64 (zN 1*IntKind.wrap .u64 n % zN 18446744073709551616)*zN 8<=zN 140737488355328),decide (zN 1*IntKind.wrap .u64 n % zN 18446744073709551616>zN 9223372036854775807)==false,decide (zN 1*IntKind.wrap .u64 n / zN 18446744073709551616>zN 0)==false,true,decide (zN 0<=IntKind.wrap .u64 n/\IntKind.wrap .u64 n<zN 18446744073709551616),decide (n<zN 0)==false],[LoopV prog (ZY prog 18 0) [7,8] [1021] [some (.c (.sl 1021 0 0 (zD (IntKind.wrap .i64 (zN 1*IntKind.wrap .u64 n % zN 18446744073709551616))) none)),some (.c (.v (.int .i64 ↑(min (zD (IntKind.wrap .i64 (zN 1*IntKind.wrap .u64 n % zN 18446744073709551616))) 1))))] [yO 3 1 (Cs.arr (zD (IntKind.wrap .i64 (zN 1*IntKind.wrap .u64 n % zN 18446744073709551616))) fun p=>if 0<=p/\p<0+min (zD (IntKind.wrap .i64 (zN 1*IntKind.wrap .u64 n % zN 18446744073709551616))) 1 then Z8 (ABlk.mk false false 3 1 (Cs.arr 1 fun k=>List.map AC.v ((fun i=>[Value.int .i64 (f i)]) k))) 0 0 1 (p-0) else List.map AC.v (Array.toList (Value.cells (Value.int .i64 0))))] 48 1027 (ZT 48 [(7,.c (.sl 1021 0 0 (zD n) none))]) [(1021,Tb (f 0) (zD n) (zD n))] 100000000000000000000000000000000000000000000000000 (Exit.exit 0) none])))))))):
 ∃p r,GQ prog f n p=some r/\Q r:=
 ZL H (fun g1=>g1.elim) (fun g1=>ZL g1 (fun g2=>g2.elim) (fun g2=>ZL g2 (fun g3=>g3.elim) (fun g3=>⟨pD 4 62,_,by kernel_rfl,g3⟩)))
theorem jjmj (x:Int) (n:Nat) (h1:1<=n) (hn:n<=1000000) {z:Nat} (hz:z=n) {y:Int} (hy:y=Int.ofNat 1) {eb:Option ABlk} (heb:BL [Tb x n 1] [eb]):
 LoopV prog (ZY prog 18 0) [7,8] [1021] [some (.c (.sl 1021 0 0 z none)),some (i64 y)] [eb] 48 1027 (ZT 48 [(7,.c (.sl 1021 0 0 n none))]) [(1021,Tb x n n)] 100000000000000000000000000000000000000000000000000 (.exit 0) none:=by
 subst hz;subst hy;refine Rx CA (fuel:=100) (str:=nSt) (nh:=1000000000000000000000000000000000000000000) (S:=Nat) (fun j=>1<=j/\j<=z) (fun j=>z-j) [7,8] [] [1021] (Pz z) (fun j=>[Tb x z j]) (by decide) (by decide) (by unfold ZQ;omega) (s0:=1) (by omega) (fun _=>⟨rfl,rfl⟩) rfl heb ?_ ?_
 . intro j _
   refine⟨rfl,fun b hb=>?_⟩;rw[List.mem_singleton.1 hb];exact XT
 . intro j ⟨j1,j2⟩
   have e1:min (Int.toNat (Option.getD none ((z:Nat):Int)-Option.getD (some (Int.ofNat j)) (Int.ofNat 0))) (Int.toNat (Option.getD (some (Int.ofNat j)) ((z:Nat):Int)-Int.ofNat 0))=min (z-j) j:=by
    first|(simp;done)|(simp;omega)
   have e2:0+Int.toNat (Option.getD (some (Int.ofNat j)) (Int.ofNat 0))=j:=by simp
   refine(?_:(∃p r,GR prog x z j p=some r/\_)->_) (rep x z j (XS 1027 100000000000000000000000000000000000000000000000000 48 [7,8] [] [1021] (fun j=>1<=j/\j<=z) (fun j=>z-j) (Pz z) (fun j=>[Tb x z j]) (.exit 0) [(7,.c (.sl 1021 0 0 z none))] [(1021,Tb x z z)] j) ?_)
   . rintro⟨p,r,h1,h2⟩
     exact⟨p,[],r,h1,h2⟩
   . simp only[e1,e2]
     refine⟨fun c1=>?_,fun c1=>?_⟩
     . have hlt:j<z:=by simpa using c1
       refine⟨?_,rfl,by dsimp only;omega,rfl,.inl ⟨rfl,j+min (z-j) j,by omega,by show z-(j+min (z-j) j)<z-j;omega,?_,?_⟩⟩
       . simp only[ZZ,List.forall_mem_cons]
         simp[YW,Zu,hlt];omega
       . dsimp only
         rw[XG _ (by simp;omega) (by simp;omega)];simp[ZN,i64]
       . refine⟨⟨rfl,rfl,rfl,rfl,.inr (.inl ⟨z,_,_,rfl,rfl,fun i hi=>?_⟩)⟩,trivial⟩
         by_cases h:j<=i/\i<j+min (z-j) j
         . rw[if_pos h]
           simp[Z8,show i-j<j by omega,show i<j+min (z-j) j by omega]
         . rw[if_neg h]
           by_cases h2:i<j
           . simp[h2,show i<j+min (z-j) j by omega]
           . simp[h2,show ¬i<j+min (z-j) j by omega]
     . have hge:j=z:=by simp at c1;omega
       subst hge;refine⟨by simp[ZZ],rfl,by dsimp only;omega,rfl,.inr ⟨by simp,rfl,fun q hq=>?_,fun p hp=>?_⟩⟩
       . rw[List.mem_singleton.1 hq]
         exact⟨rfl,by simp[ZN]⟩
       . rw[List.mem_singleton.1 hp]
         exact⟨rfl,XT,_,List.mem_cons_self ..,BEq.refl _⟩
def Tt:Yq
 | [.c a,.c (.v (.int .i64 n))],m,ib=>match XB 1 m a with|some (k,F,b)=>some (.c (.sl ib 0 0 n.toNat none),[(ib,Tb (fA F 0) n.toNat n.toNat)],1,[b,decide (k=1),decide (1<=n),decide (n<=1000000),Zy k F])|none=>none
 |_,_,_=>none
theorem jjdz:ZC prog 18 Tt:=by
 refine⟨⟨_,_,Tryz.func18,rfl⟩,fun C β m m2 w args ib r news k' ob vs hct ho hs hr hfree hlim hv=>?_⟩;unfold Tt at hct;split at hct
 . rename_i a n
   split at hct
   . rename_i k F b hsl
     simp only[Option.some.injEq,Prod.mk.injEq] at hct;obtain⟨rfl,rfl,rfl,rfl⟩:=hct;simp only[ZZ,List.forall_mem_cons,decide_eq_true_eq] at ho;obtain⟨rfl,rfl,o1,o2,o3,_⟩:=ho;simp only[γt] at hv;split at hv
     . rename_i v0 us hv0 hus
       cases hus;cases hv;obtain⟨L0,hL1,hL2⟩:=Ep hr (V4 hs hsl) o3 (v0:=v0) hv0 3;obtain⟨q,hq⟩:∃q:Nat,n=q:=Int.eq_ofNat_of_zero_le (by omega)
       have hu:IntKind.wrap IntKind.u64 n=n:=by subst hq;simp[IntKind.wrap,IntKind.bits,IntKind.signed];omega
       have hm:Int.ofNat 1*n % Int.ofNat 18446744073709551616=n:=by simp;omega
       have hd:Int.ofNat 1*n / Int.ofNat 18446744073709551616=0:=by simp;omega
       obtain⟨p,r,hrun,hvr,hbl,hn,hob,hpo⟩:∃p r,GQ prog (fA F) n p=some r/\(r.1= .c (.sl 1021 0 0 n.toNat none)/\r.2.1=[some (Tb (fA F 0) n.toNat n.toNat)]/\r.2.2.1<=ZQ/\ZZ r.2.2.2.1/\∀q∈r.2.2.2.2,q):=by
        refine Bc (fA F) n _ ?_;simp only[hu,hm,hd,XG n (by omega) (by omega)];refine⟨fun h=>by simp at h;omega,fun _=>⟨fun h=>by simp at h,fun _=>⟨fun h=>by simp at h;omega,fun _=>?_⟩⟩⟩;refine⟨by first|trivial|rfl,by first|trivial|rfl,(by first|(unfold ZQ;omega)|(dsimp only;unfold ZQ;omega)),?_,fun q hq=>?_⟩
        . simp[ZZ];omega
        . rw[List.mem_singleton.1 hq]
          refine jjmj (fA F 0) n.toNat (by omega) (by omega) rfl (by simp;omega) ⟨⟨rfl,rfl,rfl,rfl,.inr (.inl ⟨n.toNat,_,_,rfl,rfl,fun i hi=>?_⟩)⟩,trivial⟩;by_cases h0:i=0
          . subst h0
            simp[Z8];omega
          . have h1:¬i<1:=by omega
            have hc:¬i<min n.toNat 1:=by omega
            have hc2:¬(0<=i/\i<0+min n.toNat 1):=by omega
            rw[if_neg (by simpa using hc)];simp[h1];rfl
       obtain⟨v,b',n',ob,po⟩:=r;obtain⟨s',r1,r2,r3,r4⟩:=Td hrun;have hn:n'<=ZQ:=hn;simp only at hvr hbl;subst hvr;subst hbl;refine(X8 CA r1 ⟨by rw[r3];exact hob,by rw[r4];exact hpo⟩ (C:=Zx w) (β:=ZR (fun _=>none) 0 L0) (w:=w) (vs:=[v0,.int .i64 n]) ?_ hL1 (fun id h1 _=>by unfold ZR;rw[if_neg (by omega)])).mono ?_
       . simp only[γt,i64,γ1,hL2]
         rfl
       . rintro e w' ⟨β',u,rfl,_,_,hu,hr'⟩
         simp only[List.map_cons,List.map_nil,List.cons.injEq,and_true] at r2;obtain⟨L,hL,hb⟩:=hr'.blk 1021 _ r2;have hid:β ib=none:=hfree ib (Nat.le_refl _) (by omega);refine⟨ZR β ib L,u,rfl,Wq hid,fun id h=>?_,?_,?_⟩
         . unfold ZR
           rw[if_neg (by omega)]
         . simp only[γ,γ1,γc,hL] at hu
           simp only[γ,γ1,γc,Wd];exact hu
         . refine Sh hr (Sr hr') hid (Wb (by omega)) hr' r2 rfl rfl (fun k j _=>?_) hL
           match j with
           |0=>exact⟨_,rfl⟩
           |j+1=>exact⟨_,rfl⟩
     . cases hv
   . cases hct
 . cases hct
def OJ (P:Program) (a:AV) (m:AMem) (path:List Dec):Option VF:=ZB [1003,1005] (ZJ (E1 P) (fC (E1 P) 300) 61 [a] 1000 nSt (Y7 m path []))
theorem clnA (f:Nat->Station) (n:Nat) (Q:VF->Prop) (H:Q (.c (.sl 1005 0 0 (0+n) none),[none,yO 85 3 (Cs.arr (0+n) fun i=>if i<0 then[] else Z8 (ABlk.mk false false 85 3 (Cs.arr n fun k=>List.map AC.v ((fun i=>[Value.int .i64 (Station.node (f i)),Value.int .u32 (Station.safe (f i)),Value.int .i64 (Station.hold (f i))]) k))) 0 0 3 (i-0))],1007,[decide (0+n<=n),true,true,decide ((0+n)*24<=140737488355328),ABlk.inb (ABlk.mk false false 85 3 (Cs.arr n fun k=>List.map AC.v ((fun i=>[Value.int .i64 (Station.node (f i)),Value.int .u32 (Station.safe (f i)),Value.int .i64 (Station.hold (f i))]) k))) 0 1],[])):
 ∃p r,OJ prog (.c (.sl 0 0 0 n none)) [(0,Xj n f)] p=some r/\Q r:=
 ⟨pD 1 0,_,by kernel_rfl,H⟩
theorem clnB (Q:VF->Prop) (H:Q (.c (AC.v (Value.slice none 0 0)),[none,none],1004,[],[])):
 ∃p r,OJ prog (.c (.v (.slice none 0 0))) [] p=some r/\Q r:=
 ⟨pD 1 0,_,by kernel_rfl,H⟩
theorem clnC (b o cc:Nat) (Q:VF->Prop) (H:Q (.c (.sl 1003 0 0 0 none),[yO 85 3 (Cs.arr 0 fun x=>[]),none],1007,[true,true,true],[])):
 ∃p r,OJ prog (.c (.v (.slice (some ⟨b,o,none⟩) 0 cc))) [] p=some r/\Q r:=
 ⟨pD 1 0,_,by kernel_rfl,H⟩
abbrev YC (n:Nat) (f:Nat->Station):ABlk:=XD 85 3 n fun i=>[.int .i64 (f i).node,.int .u32 (f i).safe,.int .i64 (f i).hold]
def VZ:Yq
 | [.c a],m,ib=>match XB 3 m a with|some (n,F,b)=>some (.c (.sl ib 0 0 n none),[(ib,YC n (Z4 F))],1,[b,decide (n<=1000000),Yc n F])|none=>none
 |_,_,_=>none
theorem Ll : ZC prog 61 VZ:=by
 refine⟨⟨_,_,Tryz.func61,rfl⟩,fun C β m m2 w args ib r news k' ob vs hct ho hs hr hfree hlim hv=>?_⟩;unfold VZ at hct;split at hct
 . rename_i a
   split at hct
   . rename_i n F b hsl
     simp only[Option.some.injEq,Prod.mk.injEq] at hct;obtain⟨rfl,rfl,rfl,rfl⟩:=hct;simp only[ZZ,List.forall_mem_cons,decide_eq_true_eq] at ho;obtain⟨rfl,o2,o3,_⟩:=ho;simp only[γt] at hv;split at hv
     . rename_i v0 us hv0 hus
       cases hus;cases hv;have hid:β ib=none:=hfree ib (Nat.le_refl _) (by omega)
       have hmid:ZX m2 ib=none:=by
        cases e:ZX m2 ib with
        |none=>rfl
        |some x=>obtain⟨L,hL,_⟩:=hr.blk ib x e;rw[hid] at hL;cases hL
       obtain⟨L,hk,hL2⟩:=UD hr (by omega:0<3) (V4 hs hsl) hv0 85 (If o3) (fun _=>rfl) (Zx w) (fun _=>none) rfl;have hL3:=hL2 (ZR (fun _=>none) 0 L) 0 Wd;have hrel:=(PV (Sn w) (fun _ _ h=>by cases h) (id:=0) rfl (fun g=>by unfold YR;omega) rfl rfl hk).1;rcases Nat.eq_zero_or_pos n with rfl|hpos
       . cases hnil:L.nil with
         |true=>
          simp only[γc,Wd,hnil,if_true] at hL3;have hv1:v0= .slice none 0 0:=by simpa using hL3.symm
          subst hv1;obtain⟨p,⟨v,b',n',ob,po⟩,hrun,hvr,hn,hob,hpo⟩:∃p r,OJ prog (.c (.v (.slice none 0 0))) [] p=some r/\(r.1= .c (.v (.slice none 0 0))/\r.2.2.1<=ZQ/\ZZ r.2.2.2.1/\∀q∈r.2.2.2.2,q):=clnB _ ⟨rfl,by dsimp only;unfold ZQ;omega,by simp[ZZ],by simp⟩
          obtain⟨s',r1,r2,r3,r4⟩:=Td hrun;refine(X8 Xk r1 ⟨by rw[r3];exact hob,by rw[r4];exact hpo⟩ (C:=Zx w) (β:=fun _=>none) (w:=w) (vs:=[.slice none 0 0]) rfl (Sn w) (fun _ _ _=>rfl)).mono ?_;rintro e w' ⟨β',u,rfl,_,_,hu,hr'⟩;simp only at hvr;subst hvr;cases hu;refine⟨ZR β ib ⟨0,0,3,0,true⟩,_,rfl,Wq hid,fun id h=>by unfold ZR;rw[if_neg (by omega)],?_,D6 (y:=YC 0 (Z4 F)) (hr.below (Sr hr')) hid (Wb (by omega)) rfl⟩;simp[γ,γ1,γc,Wd]
         |false=>
          simp only[γc,Wd,hnil,Bool.false_eq_true,if_false,Option.some.injEq] at hL3;subst hL3;obtain⟨p,⟨v,b',n',ob,po⟩,hrun,hvr,hbl,hn,hob,hpo⟩:∃p r,OJ prog (.c (.v (.slice (some ⟨L.b,L.o+(0*L.s+0),none⟩) 0 ((none:Option Nat).getD (L.cap-0))))) [] p=some r/\(r.1= .c (.sl 1003 0 0 0 none)/\r.2.1=[some ⟨true,true,85,3,.arr 0 fun _=>[]⟩,none]/\r.2.2.1<=ZQ/\ZZ r.2.2.2.1/\∀q∈r.2.2.2.2,q):=clnC _ _ _ _ ⟨rfl,rfl,by dsimp only;unfold ZQ;omega,by simp[ZZ],by simp⟩
          obtain⟨s',r1,r2,r3,r4⟩:=Td hrun;have hn:n'<=ZQ:=hn;simp only at hvr hbl;subst hvr;subst hbl;refine(X8 Xk r1 ⟨by rw[r3];exact hob,by rw[r4];exact hpo⟩ (C:=Zx w) (β:=fun _=>none) (w:=w) (vs:=[_]) rfl (Sn w) (fun _ _ _=>rfl)).mono ?_;rintro e w' ⟨β',u,rfl,_,_,hu,hr'⟩;simp only[List.map_cons,List.map_nil,List.cons.injEq,and_true] at r2;obtain⟨r2,_⟩:=r2;obtain⟨L',hL',hb'⟩:=hr'.blk 1003 _ r2;refine⟨ZR β ib L',u,rfl,Wq hid,fun id h=>by unfold ZR;rw[if_neg (by omega)],?_,?_⟩
          . simp only[γ,γ1,γc,hL'] at hu
            simp only[γ,γ1,γc,Wd];exact hu
          . exact Dq (Sh hr (Sr hr') hid (Wb (by omega)) hr' r2 rfl rfl (fun k j hi=>by simp[ABlk.inb] at hi) hL') hmid rfl rfl
       . have hnil:L.nil=false:=(hk.cells 0 0 (by simp[XH,ABlk.inb,hpos])).1
         obtain⟨p,⟨v,b',n',ob,po⟩,hrun,hvr,hbl,hn,hob,hpo⟩:∃p r,OJ prog (.c (.sl 0 0 0 n none)) [(0,Xj n (Z4 F))] p=some r/\(r.1= .c (.sl 1005 0 0 n none)/\r.2.1=[none,some (YC n (Z4 F))]/\r.2.2.1<=ZQ/\ZZ r.2.2.2.1/\∀q∈r.2.2.2.2,q):=by
          refine clnA _ _ _ ?_;simp only[Nat.zero_add];refine⟨?_,?_,(by first|(unfold ZQ;omega)|(dsimp only;unfold ZQ;omega)),?_,by simp⟩
          . first|trivial|rfl
          . simp[Z8,XD]
          . simp[ZZ,Z6,hpos];omega
         obtain⟨s',r1,r2,r3,r4⟩:=Td hrun;have hn:n'<=ZQ:=hn;simp only at hvr hbl;subst hvr;subst hbl;refine(X8 Xk r1 ⟨by rw[r3];exact hob,by rw[r4];exact hpo⟩ (C:=Zx w) (β:=ZR (fun _=>none) 0 L) (w:=w) (vs:=[v0]) ?_ hrel (fun id h1 _=>by unfold ZR;rw[if_neg (by omega)])).mono ?_
         . simp only[γt,γ1,hL3]
         . rintro e w' ⟨β',u,rfl,_,_,hu,hr'⟩
           simp only[List.map_cons,List.map_nil,List.cons.injEq,and_true] at r2;obtain⟨_,r2⟩:=r2;obtain⟨L',hL',hb'⟩:=hr'.blk 1005 _ r2;refine⟨ZR β ib L',u,rfl,Wq hid,fun id h=>by unfold ZR;rw[if_neg (by omega)],?_,?_⟩
           . simp only[γ,γ1,γc,hL'] at hu
             simp only[γ,γ1,γc,Wd];exact hu
           . refine Sh hr (Sr hr') hid (Wb (by omega)) hr' r2 rfl rfl (fun k j _=>?_) hL'
             match j with
             |0=>exact⟨_,rfl⟩
             |1=>exact⟨_,rfl⟩
             |2=>exact⟨_,rfl⟩
             |j+3=>exact⟨_,rfl⟩
     . cases hv
   . cases hct
 . cases hct
def ZI (c:Cfg) (k:Nat) (i:Nat):Int:=match (List.range k).find? (fun q=>Zs c q==Int.ofNat i) with|some q=>Int.ofNat (q / 2)|none=> -1
abbrev nwIds:List Nat:=[70000000000000000000000000000000000001149,90000000000000000000000000000000000001150,50000000000000000000000000000000000001149,10000000000000000000000000000000000001170,10000000000000000000000000000000000001197,10000000000000000000000000000000000001224,10000000000000000000000000000000000001241]
abbrev AA (c:Cfg):ABlk:=⟨true,false,81,0,.lit [.v (.int .i64 c.nodes),.sl 10000000000000000000000000000000000001170 0 0 c.np (some c.np),.sl 10000000000000000000000000000000000001197 0 0 c.ns (some c.ns),.v (.int .i64 c.long),.sl 10000000000000000000000000000000000001224 0 0 c.nb (some c.nb),.sl 10000000000000000000000000000000000001241 0 0 c.nt (some c.nt),.v (.int .i64 c.miss),.v (.int .i64 c.good),.v (.int .i64 c.fresh),.sl 50000000000000000000000000000000000001149 0 0 c.nodes.toNat none]⟩
abbrev ZM (n:Nat) (f:Nat->Int):ABlk:=XD 3 1 n fun i=>[.int .i64 (f i)]
abbrev TP (c:Cfg) (k:Nat):List ABlk:=[AA c,ZM (2*c.np) (Zs c),ZM c.nodes.toNat (ZI c k),ZM c.np c.fp,ZM c.ns c.fs,ZM c.nb c.fb,YC c.nt c.ft]
abbrev JV (c:Cfg) (k:Nat):List AV:=[.c (.ptr 70000000000000000000000000000000000001149 0 0),.c (.sl 90000000000000000000000000000000000001150 0 0 (2*c.np) none),i64 (Int.ofNat (2*c.np)),i64 (Int.ofNat k)]
def FM (P:Program) (c:Cfg) (k:Nat) (path:List Dec):Option VC:=
 view ([7,33,34,35]++[]) nwIds (fC (E1 P) 300 (ZY P 6 1) 1000000000000000000000000000000000000000000 nSt (WR 50 [7,33,34,35] nwIds (JV c k) (TP c k) path []))
theorem nwl (c:Cfg) (k:Nat) (Q:VC->Prop) (H:let zN:=Int.ofNat;let zM:=ABlk.mk;let zD:=Int.toNat;let zs0:=fun (l:List (Option ABlk))=>yR 81 0 (Cs.lit [zI c.nodes,AC.sl 10000000000000000000000000000000000001170 0 0 c.np (some c.np),AC.sl 10000000000000000000000000000000000001197 0 0 c.ns (some c.ns),zI c.long,AC.sl 10000000000000000000000000000000000001224 0 0 c.nb (some c.nb),AC.sl 10000000000000000000000000000000000001241 0 0 c.nt (some c.nt),zI c.miss,zI c.good,zI c.fresh,AC.sl 50000000000000000000000000000000000001149 0 0 (zD c.nodes) none])::yO 3 1 (Cs.arr (2*c.np) fun k=>List.map AC.v ((fun i=>[Value.int .i64 (Zs c i)]) k))::l;let zs1:=fun (l:List (Option AV))=>some (ZN (List.zip [7,33,34,35] (JV c k)) (0+1+1+1+1+1+1+1))::some (ZN (List.zip [7,33,34,35] (JV c k)) (0+1+1+1+1+1+1+1+1+1+1+1+1+1+1+1+1+1+1+1+1+1+1+1+1+1+1+1+1+1+1+1+1+1))::some (ZN (List.zip [7,33,34,35] (JV c k)) (0+1+1+1+1+1+1+1+1+1+1+1+1+1+1+1+1+1+1+1+1+1+1+1+1+1+1+1+1+1+1+1+1+1+1))::l;(((decide (zN k<zN (2*c.np)))=true->Q (Exit.normal,(zs1 [some (.c (zI (IntKind.wrap .i64 (zN k+zN 1))))]),(zs0 [yO 3 1 (Cs.arr (zD c.nodes) fun i=>if i=0+zD (Zs c (0+zD (zN k))) then YB ((fun k_1=>List.map AC.v ((fun i=>[Value.int .i64 (ZI c k i)]) k_1)) i) 0 [zI (IntKind.wrap .i64 (Int.tdiv (zN k) (zN 2)))] else List.map AC.v ((fun i=>[Value.int .i64 (ZI c k i)]) i)),yO 3 1 (yP c),yO 3 1 (yS c),yO 3 1 (yB c),yO 85 3 (yT c)]),50,1000000000000000000000000000000000000000017,[ABlk.inb (zM true true 3 1 (Cs.arr (zD c.nodes) fun k_1=>List.map AC.v ((fun i=>[Value.int .i64 (ZI c k i)]) k_1))) (0+zD (Zs c (0+zD (zN k)))) 1,decide (zN 0<=Zs c (0+zD (zN k))/\Zs c (0+zD (zN k)) < ↑(zD c.nodes)),true,true,ABlk.inb (zM true true 3 1 (Cs.arr (2*c.np) fun k=>List.map AC.v ((fun i=>[Value.int .i64 (Zs c i)]) k))) (0+zD (zN k)) 1,true,decide (zN 0<=zN k/\zN k < ↑(2*c.np)),decide (zN k<zN (2*c.np))==true],[]))/\((decide (zN k<zN (2*c.np)))=false->Q (Exit.exit 2,(zs1 [some (ZN (List.zip [7,33,34,35] (JV c k)) (0+1+1+1+1+1+1+1+1+1+1+1+1+1+1+1+1+1+1+1+1+1+1+1+1+1+1+1+1+1+1+1+1+1+1+1))]),(zs0 [yO 3 1 (Cs.arr (zD c.nodes) fun k_1=>List.map AC.v ((fun i=>[Value.int .i64 (ZI c k i)]) k_1)),yO 3 1 (yP c),yO 3 1 (yS c),yO 3 1 (yB c),yO 85 3 (yT c)]),50,1000000000000000000000000000000000000000001,[decide (zN k<zN (2*c.np))==false],[])))):
 ∃p r,FM prog c k p=some r/\Q r:=
 ZL H (fun g1=>⟨pD 1 1,_,by kernel_rfl,g1⟩) (fun g1=>⟨pD 1 2,_,by kernel_rfl,g1⟩)
def BF (P:Program):Env:=⟨P,[(40,YP (fun c=>i64 (Ya c)) fun _=>true),(42,YP (fun c=>i64 (XJ c)) fun _=>true),(43,YP (fun c=>i64 (Yz c)) fun c=>decide (1<=c.np)&&decide (c.np<=1000)),
 (48,YP (fun c=>i64 (XK c)) fun _=>true),(49,YP (fun c=>i64 (Yb c)) fun c=>decide (c.np<=1000000)&&decide (c.ns<=1000000)),(51,YP (fun c=>i64 (Xi c)) W1),
 (52,YP (fun c=>i64 (YA c)) fun c=>decide (c.nb<=9223372036854775807)),(55,YP (fun c=>i64 (XL c)) fun _=>true),(56,YP (fun c=>i64 (Ys c)) fun c=>decide (c.nt<=1000000)),(57,YP (fun c=>i64 (Y0 c)) fun _=>true),
 (19,UY),(18,Tt),(61,VZ)]⟩
theorem Cy:Zz (BF prog):=by
 refine Xp (fun f g h=>?_) (by kernel_rfl) (by kernel_rfl);simp only[BF,List.mem_cons,Prod.mk.injEq,List.not_mem_nil,or_false] at h;rcases h with⟨rfl,rfl⟩|⟨rfl,rfl⟩|⟨rfl,rfl⟩|⟨rfl,rfl⟩|⟨rfl,rfl⟩|⟨rfl,rfl⟩|⟨rfl,rfl⟩|⟨rfl,rfl⟩|⟨rfl,rfl⟩|⟨rfl,rfl⟩|⟨rfl,rfl⟩|⟨rfl,rfl⟩|⟨rfl,rfl⟩
 . exact A8
 . exact A7
 . exact A6
 . exact A5
 . exact A4
 . exact A3
 . exact A1
 . exact A0
 . exact jjo0
 . exact jjl0
 . exact DD
 . exact jjdz
 . exact Ll
def C9 (c:Cfg):Cfg:=Cfg.mk (Cfg.nodes c) (Cfg.np c) (fA (Z8 (ABlk.mk false false 3 1 (Cs.arr (Cfg.np c) fun k=>List.map AC.v ((fun i=>[Value.int IntKind.i64 (Cfg.fp c i)]) k))) 0 0 1)) (Cfg.ns c) (fA (Z8 (ABlk.mk false false 3 1 (Cs.arr (Cfg.ns c) fun k=>List.map AC.v ((fun i=>[Value.int IntKind.i64 (Cfg.fs c i)]) k))) 0 0 1)) (Cfg.long c) (Cfg.nb c) (fA (Z8 (ABlk.mk false false 3 1 (Cs.arr (Cfg.nb c) fun k=>List.map AC.v ((fun i=>[Value.int IntKind.i64 (Cfg.fb c i)]) k))) 0 0 1)) (Cfg.nt c) (Z4 (Z8 (ABlk.mk false false 85 3 (Cs.arr (Cfg.nt c) fun k=>List.map AC.v ((fun i=>[Value.int IntKind.i64 (Station.node (Cfg.ft c i)),Value.int IntKind.u32 (Station.safe (Cfg.ft c i)),Value.int IntKind.i64 (Station.hold (Cfg.ft c i))]) k))) 0 0 3)) (Cfg.miss c) (Cfg.good c) (Cfg.fresh c)
theorem Ly (c:Cfg):C9 c=c:=by
 unfold C9;simp only[Pe,Ig]
def nwR (P:Program) (c:Cfg) (path:List Dec):Option VF:=ZB nwIds (ZJ (BF P) (fC (BF P) 300) 6 [.agg (Yi c)] 1000 nSt (Y7 (Xl c) path [none,none,some ⟨[7,33,34,35],nwIds,ZT 50 [(7,.c (.ptr 70000000000000000000000000000000000001149 0 0))],nwIds.zip (TP c (2*c.np)),100000000000000000000000000000000000000000000000000,.exit 2⟩]))
set_option maxRecDepth 1000000
theorem nw (c:Cfg) (Q:VF->Prop) (H:let zN:=Int.ofNat;let zM:=ABlk.mk;let zD:=Int.toNat;let zz5:=(yT c);let zz0:=(Zt (zM false false 85 3 zz5) 0 0 3);let zz1:=(yP c);let zz2:=(yS c);let zz3:=(yB c);let zz4:=(zM true true 85 3 (Cs.arr (Cfg.nt c) fun k=>List.map AC.v ((fun i=>[Value.int IntKind.i64 (Station.node (Z4 zz0 i)),Value.int IntKind.u32 (Station.safe (Z4 zz0 i)),Value.int IntKind.i64 (Station.hold (Z4 zz0 i))]) k)));let zq0:List Bool:=(Z2 c)::(zt (y3 ([])));let zq1:List Bool:=(Z2 c)::(zt (y3 ((((Ya c !=zN 0)==false)::zq0))));let zq2:List Bool:=(Z2 c)::(decide (1<=c.np)&&decide (c.np<=1000))::(zt (true::true::(((XJ c !=zN 0)==false)::zq1)));let zq3:List Bool:=(Z2 c)::(zt (y3 ((((Yz c !=zN 0)==false)::zq2))));let zq4:List Bool:=(Z2 c)::(decide (c.np<=1000000)&&decide (c.ns<=1000000))::(zt (true::true::(((XK c !=zN 0)==false)::zq3)));let zq5:List Bool:=(Z2 c)::(W1 c)::(zt (true::true::(((Yb c !=zN 0)==false)::zq4)));let zq6:List Bool:=(Z2 c)::(decide (c.nb<=9223372036854775807))::(zt (true::true::(((Xi c !=zN 0)==false)::zq5)));let zq7:List Bool:=(Z2 c)::(zt (y3 ((((YA c !=zN 0)==false)::zq6))));let zq8:List Bool:=(Z2 c)::(decide (c.nt<=1000000))::(zt (true::true::(((XL c !=zN 0)==false)::zq7)));let zq9:List Bool:=(Z2 c)::(zt (y3 ((((Ys c !=zN 0)==false)::zq8))));let ze1:AV:=.c (.ptr 70000000000000000000000000000000000001149 0 0);let ze0:AV:=.c (AC.v (Value.pointer none));(((Ya c !=zN 0)=true->Q (.tup [ze0,.c (zI (Ya c))],[none,none,none,none,none,none,none],1032,(((Ya c !=zN 0)==true)::zq0),[]))/\((Ya c !=zN 0)=false->(((XJ c !=zN 0)=true->Q (.tup [ze0,.c (zI (XJ c))],[none,none,none,none,none,none,none],1045,(((XJ c !=zN 0)==true)::zq1),[]))/\((XJ c !=zN 0)=false->(((Yz c !=zN 0)=true->Q (.tup [ze0,.c (zI (Yz c))],[none,none,none,none,none,none,none],1058,(((Yz c !=zN 0)==true)::zq2),[]))/\((Yz c !=zN 0)=false->(((XK c !=zN 0)=true->Q (.tup [ze0,.c (zI (XK c))],[none,none,none,none,none,none,none],1071,(((XK c !=zN 0)==true)::zq3),[]))/\((XK c !=zN 0)=false->(((Yb c !=zN 0)=true->Q (.tup [ze0,.c (zI (Yb c))],[none,none,none,none,none,none,none],1084,(((Yb c !=zN 0)==true)::zq4),[]))/\((Yb c !=zN 0)=false->(((Xi c !=zN 0)=true->Q (.tup [ze0,.c (zI (Xi c))],[none,none,none,none,none,none,none],1097,(((Xi c !=zN 0)==true)::zq5),[]))/\((Xi c !=zN 0)=false->(((YA c !=zN 0)=true->Q (.tup [ze0,.c (zI (YA c))],[none,none,none,none,none,none,none],1110,(((YA c !=zN 0)==true)::zq6),[]))/\((YA c !=zN 0)=false->(((XL c !=zN 0)=true->Q (.tup [ze0,.c (zI (XL c))],[none,none,none,none,none,none,none],1123,(((XL c !=zN 0)==true)::zq7),[]))/\((XL c !=zN 0)=false->(((Ys c !=zN 0)=true->Q (.tup [ze0,.c (zI (Ys c))],[none,none,none,none,none,none,none],1136,(((Ys c !=zN 0)==true)::zq8),[]))/\((Ys c !=zN 0)=false->(((Y0 c !=zN 0)=true->Q (.tup [ze0,.c (zI (Y0 c))],[none,none,none,none,none,none,none],1149,(((Y0 c !=zN 0)==true)::zq9),[]))/\((Y0 c !=zN 0)=false->Q (.tup [ze1,.c (zI (zN 0))],[yR 81 0 (Cs.lit [zI c.nodes,AC.sl 10000000000000000000000000000000000001170 0 0 c.np (some c.np),AC.sl 10000000000000000000000000000000000001197 0 0 c.ns (some c.ns),zI c.long,AC.sl 10000000000000000000000000000000000001224 0 0 c.nb (some c.nb),AC.sl 10000000000000000000000000000000000001241 0 0 c.nt (some c.nt),zI c.miss,zI c.good,zI c.fresh,AC.sl 50000000000000000000000000000000000001149 0 0 (zD c.nodes) none]),yO 3 1 (Cs.arr (2*c.np) fun k=>List.map AC.v ((fun i=>[Value.int .i64 (Zs c i)]) k)),yO 3 1 (Cs.arr (zD c.nodes) fun k=>List.map AC.v ((fun i=>[Value.int .i64 (ZI c (2*c.np) i)]) k)),yO 3 1 zz1,yO 3 1 zz2,yO 3 1 zz3,yO 85 3 zz5],100000000000000000000000000000000000000000000000003,((Z2 c)::(decide (c.np<=1000))::(zt ((decide (zN 1<=c.nodes))::(decide (c.nodes<=zN 1000000))::(zt (zt (true::((decide (zN 0<=zN 0/\zN 0<=Option.getD (some ↑(c.nt)) ↑(c.nt)/\Option.getD (some ↑(c.nt)) ↑(c.nt)<=YW none c.nt (some ↑(c.nt))))::true::(decide (YW none c.nt (some ↑(c.nt)) <= ↑(Option.getD none c.nt)))::true::(Zu none zz4 0 c.nt)::(decide (0+c.nt<=c.nt))::(decide (c.nt<=1000000))::(Yc c.nt fun k=>List.map AC.v ((fun i=>[Value.int .i64 (Station.node (c.ft i)),Value.int .u32 (Station.safe (c.ft i)),Value.int .i64 (Station.hold (c.ft i))]) k))::true::true::(decide (zN 0<=zN 0/\zN 0<=Option.getD (some ↑(0+c.nb)) ↑(0+c.nb)/\Option.getD (some ↑(0+c.nb)) ↑(0+c.nb)<=YW none (0+c.nb) (some ↑(0+c.nb))))::true::(decide (YW none (0+c.nb) (some ↑(0+c.nb)) <= ↑(Option.getD none (0+c.nb))))::true::(Zu none (zM true true 3 1 (Cs.arr (0+c.nb) fun i=>if i<0 then[] else Z8 (zM false false 3 1 zz3) 0 0 1 (i-0))) 0 (0+c.nb))::(decide (0+c.nb<=c.nb))::true::true::(decide ((0+c.nb)*8<=140737488355328))::(ABlk.inb (zM false false 3 1 zz3) 0 1)::y3 (true::(decide (zN 0<=zN 0/\zN 0<=Option.getD (some ↑(0+c.ns)) ↑(0+c.ns)/\Option.getD (some ↑(0+c.ns)) ↑(0+c.ns)<=YW none (0+c.ns) (some ↑(0+c.ns))))::true::(decide (YW none (0+c.ns) (some ↑(0+c.ns)) <= ↑(Option.getD none (0+c.ns))))::true::(Zu none (zM true true 3 1 (Cs.arr (0+c.ns) fun i=>if i<0 then[] else Z8 (zM false false 3 1 zz2) 0 0 1 (i-0))) 0 (0+c.ns))::(decide (0+c.ns<=c.ns))::true::true::(decide ((0+c.ns)*8<=140737488355328))::(ABlk.inb (zM false false 3 1 zz2) 0 1)::y3 (true::(decide (zN 0<=zN 0/\zN 0<=Option.getD (some ↑(0+c.np)) ↑(0+c.np)/\Option.getD (some ↑(0+c.np)) ↑(0+c.np)<=YW none (0+c.np) (some ↑(0+c.np))))::true::(decide (YW none (0+c.np) (some ↑(0+c.np)) <= ↑(Option.getD none (0+c.np))))::true::(Zu none (zM true true 3 1 (Cs.arr (0+c.np) fun i=>if i<0 then[] else Z8 (zM false false 3 1 zz1) 0 0 1 (i-0))) 0 (0+c.np))::(decide (0+c.np<=c.np))::true::true::(decide ((0+c.np)*8<=140737488355328))::(ABlk.inb (zM false false 3 1 zz1) 0 1)::(zt (true::(((Y0 c !=zN 0)==false)::zq9)))))))))))),[LoopV prog (ZY prog 6 1) [7,33,34,35] nwIds [some (ze1),some (.c (.sl 90000000000000000000000000000000000001150 0 0 (2*c.np) none)),some (.c (.v (.int .i64 ↑(2*c.np)))),some (.c (zI (zN 0)))] [yR 81 0 (Cs.lit [zI c.nodes,AC.sl 10000000000000000000000000000000000001170 0 0 (zD (Option.getD (some ↑(0+c.np)) ↑(0+c.np)-zN 0)) (some (zD (↑(0+c.np)-zN 0))),AC.sl 10000000000000000000000000000000000001197 0 0 (zD (Option.getD (some ↑(0+c.ns)) ↑(0+c.ns)-zN 0)) (some (zD (↑(0+c.ns)-zN 0))),zI c.long,AC.sl 10000000000000000000000000000000000001224 0 0 (zD (Option.getD (some ↑(0+c.nb)) ↑(0+c.nb)-zN 0)) (some (zD (↑(0+c.nb)-zN 0))),AC.sl 10000000000000000000000000000000000001241 0 0 (zD (Option.getD (some ↑(c.nt)) ↑(c.nt)-zN 0)) (some (zD (↑(c.nt)-zN 0))),zI c.miss,zI c.good,zI c.fresh,AC.sl 50000000000000000000000000000000000001149 0 0 (zD c.nodes) none]),yO 3 1 (Cs.arr (2*c.np) fun k=>List.map AC.v ((fun i=>[Value.int .i64 (Zs (Cfg.mk c.nodes c.np (fA (Zt (zM false false 3 1 zz1) 0 0 1)) c.ns (fA (Zt (zM false false 3 1 zz2) 0 0 1)) c.long c.nb (fA (Zt (zM false false 3 1 zz3) 0 0 1)) c.nt (Z4 zz0) c.miss c.good c.fresh) i)]) k)),yO 3 1 (Cs.arr (zD c.nodes) fun k=>List.map AC.v ((fun i=>[Value.int .i64 (if i<zD c.nodes then fA (Zt (zM true false 3 0 (Cs.lit [zI (Int.negSucc 0)])) 0 0 1) 0 else 0)]) k)),yO 3 1 (Cs.arr (0+c.np) fun i=>if i<0 then[] else Z8 (zM false false 3 1 zz1) 0 0 1 (i-0)),yO 3 1 (Cs.arr (0+c.ns) fun i=>if i<0 then[] else Z8 (zM false false 3 1 zz2) 0 0 1 (i-0)),yO 3 1 (Cs.arr (0+c.nb) fun i=>if i<0 then[] else Z8 (zM false false 3 1 zz3) 0 0 1 (i-0)),some zz4] 50 90000000000000000000000000000000000001153 (ZT 50 [(7,ze1)]) (List.zip nwIds (TP c (2*c.np))) 100000000000000000000000000000000000000000000000000 (Exit.exit 2) none])))))))))))))))))))))):
 ∃p r,nwR prog c p=some r/\Q r:=
 ZL H (fun g1=>⟨pD 2 3,_,by kernel_rfl,g1⟩) (fun g1=>ZL g1 (fun g2=>⟨pD 4 33,_,by kernel_rfl,g2⟩) (fun g2=>ZL g2 (fun g3=>⟨pD 6 303,_,by kernel_rfl,g3⟩) (fun g3=>ZL g3 (fun g4=>⟨pD 8 2733,_,by kernel_rfl,g4⟩) (fun g4=>ZL g4 (fun g5=>⟨pD 10 24603,_,by kernel_rfl,g5⟩) (fun g5=>ZL g5 (fun g6=>⟨pD 12 221433,_,by kernel_rfl,g6⟩) (fun g6=>ZL g6 (fun g7=>⟨pD 14 1992903,_,by kernel_rfl,g7⟩) (fun g7=>ZL g7 (fun g8=>⟨pD 16 17936133,_,by kernel_rfl,g8⟩) (fun g8=>ZL g8 (fun g9=>⟨pD 18 161425203,_,by kernel_rfl,g9⟩) (fun g9=>ZL g9 (fun g10=>⟨pD 20 1452826833,_,by kernel_rfl,g10⟩) (fun g10=>⟨pD 28 2615088300,_,by kernel_rfl,g10⟩))))))))))
end Go.Proofs.YtodpbgbpifiniaaGreatDoor
end
section
namespace Go.Proofs.YtodpbgbpifiniaaGreatDoor
open Go.RowKit Tryz
theorem T5 {x lo hi:Int} (h:ZV x lo hi=0):lo<=x/\x<=hi:=by
 unfold ZV at h;split at h
 . omega
 . split at h<;>omega
theorem jjbe (c:Cfg) (k:Nat) (hnd:∀q,q<k->Zs c q≠Zs c k) (i:Nat):ZI c (k+1) i=if Zs c k=Int.ofNat i then Int.ofNat (k / 2) else ZI c k i:=by
 unfold ZI;rw[List.range_succ,List.find?_append]
 cases e:(List.range k).find? (fun q=>Zs c q==Int.ofNat i) with
 |some q=>
  have h1:Zs c q=Int.ofNat i:=by simpa using List.find?_some e
  have h2:q<k:=by simpa using List.mem_of_find?_eq_some e
  rw[if_neg (fun h=>hnd q h2 (by rw[h1,h]))];rfl
 |none=>
  by_cases h:Zs c k=Int.ofNat i
  . rw[if_pos h];simp[h]
  . rw[if_neg h]
    have:(Zs c k==Int.ofNat i)=false:=by simpa using h
    simp only[List.find?_cons,this,List.find?_nil,Option.none_or]
theorem DV {c:Cfg} {k:Nat}:∀b∈TP c k,Zc 90000000000000000000000000000000000001153 b:=by
 intro b hb;simp only[List.mem_cons,List.not_mem_nil,or_false] at hb;rcases hb with rfl|rfl|rfl|rfl|rfl|rfl|rfl
 . exact XW rfl
 all_goals exact XT
theorem jjni (c:Cfg) (h4:4<=c.nodes) (h16:c.nodes<=16) (hp:c.np<=8) (hr:∀q,q<2*c.np->0<=Zs c q/\Zs c q<c.nodes) (hnd:∀q q',q<q'->q'<2*c.np->Zs c q≠Zs c q') {eblks:List (Option ABlk)} (heb:BL (TP c 0) eblks):
 LoopV prog (ZY prog 6 1) [7,33,34,35] nwIds ((JV c 0).map some) eblks 50 90000000000000000000000000000000000001153 (ZT 50 [(7,.c (.ptr 70000000000000000000000000000000000001149 0 0))]) (nwIds.zip (TP c (2*c.np))) 100000000000000000000000000000000000000000000000000 (.exit 2) none:=by
 refine Rx Xk (fuel:=300) (str:=nSt) (nh:=1000000000000000000000000000000000000000000) (S:=Nat) (fun k=>k<=2*c.np) (fun k=>2*c.np-k) [7,33,34,35] [] nwIds (JV c) (TP c) (by decide) (by decide) (by unfold ZQ;omega) (s0:=0) (by omega) (fun _=>⟨rfl,rfl⟩) (by kernel_rfl) heb (fun k _=>⟨rfl,DV⟩) ?_;intro k hk;have e0:0+Int.toNat (Int.ofNat k)=k:=by simp
 refine(?_:(∃p r,FM prog c k p=some r/\_)->_) (nwl c k (XS 90000000000000000000000000000000000001153 100000000000000000000000000000000000000000000000000 50 [7,33,34,35] [] nwIds (fun k=>k<=2*c.np) (fun k=>2*c.np-k) (JV c) (TP c) (.exit 2) [(7,.c (.ptr 70000000000000000000000000000000000001149 0 0))] (nwIds.zip (TP c (2*c.np))) k) ?_)
 . rintro⟨p,r,h1,h2⟩
   exact⟨p,[],r,h1,h2⟩
 . simp only[e0]
   refine⟨fun c1=>?_,fun c1=>?_⟩
   . have hlt:k<2*c.np:=by simp at c1;omega
     obtain⟨q1,q2⟩:=hr k hlt;refine⟨?_,rfl,by dsimp only;omega,rfl,.inl ⟨rfl,k+1,by omega,by show 2*c.np-(k+1)<2*c.np-k;omega,?_,BEq.refl _,BEq.refl _,?_,BEq.refl _,BEq.refl _,BEq.refl _,BEq.refl _,trivial⟩⟩
     . simp only[ZZ,List.forall_mem_cons,e0]
       simp[Z6,Yk,hlt,q1,q2];omega
     . dsimp only
       rw[XG _ (by simp;omega) (by simp;omega)];rfl
     . refine⟨rfl,rfl,rfl,rfl,.inr (.inl ⟨c.nodes.toNat,_,_,rfl,rfl,fun i hi=>?_⟩)⟩
       have hv:IntKind.wrap IntKind.i64 (Int.tdiv (Int.ofNat k) (Int.ofNat 2))=Int.ofNat (k / 2):=by
        rw[XG _ (by simp;omega) (by simp;omega)];simp
       show _=List.map AC.v [Value.int .i64 (ZI c (k+1) i)];rw[jjbe c k (fun q hq=>hnd q k hq hlt) i,hv];by_cases h:Zs c k=Int.ofNat i
       . have hi':i=0+Int.toNat (Zs c k):=by rw[h];simp
         rw[if_pos hi',if_pos h];rfl
       . have hi':¬i=0+Int.toNat (Zs c k):=fun e=>h (by rw[e];simp;omega)
         rw[if_neg hi',if_neg h]
   . have hge:k=2*c.np:=by simp at c1;omega
     subst hge;refine⟨by simp[ZZ],rfl,by dsimp only;omega,rfl,.inr ⟨by simp,rfl,fun q hq=>?_,fun p hpp=>?_⟩⟩
     . rw[List.mem_singleton.1 hq]
       exact⟨rfl,List.mem_cons_self ..⟩
     . exact⟨List.all_eq_true.1 (KO (f:=Zb 90000000000000000000000000000000000001153 100000000000000000000000000000000000000000000000000) (ids:=nwIds) (bs:=TP c (2*c.np)) (by kernel_rfl)) p hpp,DV _ (List.of_mem_zip hpp).2,p.2,OS hpp,BEq.refl _⟩
def ZH (c:Cfg):Int:=
 if Ya c≠0 then Ya c else if XJ c≠0 then XJ c else if Yz c≠0 then Yz c else if XK c≠0 then XK c else if Yb c≠0 then Yb c else if Xi c≠0 then Xi c else if YA c≠0 then YA c else if XL c≠0 then XL c else if Ys c≠0 then Ys c else Y0 c
theorem jje5 {c:Cfg} (r1:Ya c=0) (r3:Yz c=0):(4<=c.nodes/\c.nodes<=16)/\(∀q,q<2*c.np->0<=Zs c q/\Zs c q<c.nodes)/\(∀q q',q<q'->q'<2*c.np->Zs c q≠Zs c q'):=by
 have hn:=T5 r1;unfold Yz at r3;split at r3
 . rename_i h
   simp only[Bool.and_eq_true] at h;obtain⟨hi,_,hd⟩:=h
   have hin:∀i,i<c.np->0<=c.fp i/\c.fp i<c.nodes:=fun i h=>by
    have:=List.all_eq_true.1 hi i (by simpa using h);simpa using this
   refine⟨hn,fun q hq=>?_,fun q q' h1 h2=>?_⟩
   . obtain⟨a,b⟩:=hin (q / 2) (by omega)
     unfold Zs Uv;split
     . exact⟨a,b⟩
     . rw[if_pos ⟨hn.1,hn.2,a,b⟩]
       exact⟨Int.emod_nonneg _ (by omega),Int.emod_lt_of_pos _ (by omega)⟩
   . have hd:=of_decide_eq_true hd
     rw[List.Nodup,List.pairwise_map] at hd;have:=List.pairwise_iff_getElem.1 hd q q' (by simp;omega) (by simpa using h2) h1;simpa using this
 . cases r3
def AB (c:Cfg) (r:VF):Prop:=r.2.2.1<=ZQ/\ZZ r.2.2.2.1/\(∀q∈r.2.2.2.2,q)/\
 ((ZH c=0/\r.1= .tup [.c (.ptr 70000000000000000000000000000000000001149 0 0),i64 0]/\r.2.1=(TP c (2*c.np)).map some)\/(ZH c≠0/\r.1= .tup [.c (.v (.pointer none)),i64 (ZH c)]))
theorem EC (c:Cfg) (hb:c.nb<=9223372036854775807):∃p r,nwR prog c p=some r/\AB c r:=by
 refine nw c _ ?_;simp only[Ly,YZ,Pe,YT,Ig,YO];have f2:XJ c=0->2<=c.np/\c.np<=8:=fun h=>by have:=T5 h;omega
 have f4:XK c=0->1<=c.ns/\c.ns<=16:=fun h=>by have:=T5 h;omega
 have f8:XL c=0->c.nt<=8:=fun h=>by have:=T5 h;omega
 have f1:Ya c=0->4<=c.nodes/\c.nodes<=16:=fun h=>T5 h
 have f7:YA c=0->(c.nb:Int)=c.nodes:=fun h=>by unfold YA at h;split at h;assumption;cases h
 have f13:=fun a b=>@jje5 c a b
 have t1:∀n:Nat,((some ((0+n:Nat):Int)).getD ((0+n:Nat):Int)-Int.ofNat 0).toNat=n:=fun n=>by simp
 have t2:∀n:Nat,(((0+n:Nat):Int)-Int.ofNat 0).toNat=n:=fun n=>by simp
 have t3:∀n:Nat,((some ((n:Nat):Int)).getD ((n:Nat):Int)-Int.ofNat 0).toNat=n:=fun n=>by simp
 have t4:∀n:Nat,(((n:Nat):Int)-Int.ofNat 0).toNat=n:=fun n=>by simp
 simp only[t1,t2,t3,t4]
 repeat' (first|refine⟨fun h=>?_,fun h=>?_⟩|fail)
 all_goals (simp only[bne_iff_ne,ne_eq,bne_eq_false_iff_eq,show (Int.ofNat 0)=(0:Int) from rfl] at *)
 iterate 10 (rotate_left)
 . -- a net
   rename_i e1 e2 e3 e4 e5 e6 e7 e8 e9;have e10:=h;obtain⟨⟨n4,n16⟩,hr,hnd⟩:=f13 e1 e3;have g2:=f2 e2;have g4:=f4 e4;have g7:=f7 e7;have g8:=f8 e8;have hz:ZH c=0:=by simp[ZH,e1,e2,e3,e4,e5,e6,e7,e8,e9,e10]
   refine⟨(by first|(unfold ZQ;omega)|(dsimp only;unfold ZQ;omega)),?_,fun q hq=>?_,.inl ⟨hz,rfl,rfl⟩⟩
   . clear f1 f2 f4 f7 f8 f13 hr hnd
     simp[ZZ,YZ,W1,e1,e2,e3,e4,e5,e6,e7,e8,e9,e10,YT,YO,Z6,Yk,Zt,Z8,Ut,Zy,YW,Zu,hb];omega
   . rw[List.mem_singleton.1 hq]
     refine jjni c n4 n16 g2.2 hr hnd ⟨BEq.refl _,BEq.refl _,⟨rfl,rfl,rfl,rfl,.inr (.inl ⟨_,_,_,rfl,rfl,fun i hi=>?_⟩)⟩,⟨rfl,rfl,rfl,rfl,.inr (.inl ⟨c.np,_,_,by rw[Nat.zero_add],rfl,fun i hi=>?_⟩)⟩,⟨rfl,rfl,rfl,rfl,.inr (.inl ⟨c.ns,_,_,by rw[Nat.zero_add],rfl,fun i hi=>?_⟩)⟩,⟨rfl,rfl,rfl,rfl,.inr (.inl ⟨c.nb,_,_,by rw[Nat.zero_add],rfl,fun i hi=>?_⟩)⟩,BEq.refl _,trivial⟩
     . simp[hi,ZI,fA,Zt,Z8,ZP]
     . simp[Z8]
     . simp[Z8]
     . simp[Z8]
 all_goals
  clear f13;refine⟨(by first|(unfold ZQ;omega)|(dsimp only;unfold ZQ;omega)),?_,(by simp),.inr ⟨?_,?_⟩⟩
  rotate_left
  . simp_all[ZH]
  . simp_all[ZH,i64]
  . simp_all[ZZ,YZ,W1,YT,YO,Z6,Yk,Zt,Z8,Ut,Zy,YW,Zu]
    try omega
abbrev Jc (ib:Nat) (c:Cfg):List AC:=[.v (.int .i64 c.nodes),.sl (ib+2) 0 0 c.np (some c.np),.sl (ib+3) 0 0 c.ns (some c.ns),.v (.int .i64 c.long),.sl (ib+4) 0 0 c.nb (some c.nb),.sl (ib+5) 0 0 c.nt (some c.nt),.v (.int .i64 c.miss),.v (.int .i64 c.good),.v (.int .i64 c.fresh),.sl (ib+1) 0 0 c.nodes.toNat none]
abbrev WC (ib:Nat) (c:Cfg):ABlk:=⟨true,false,81,0,.lit (Jc ib c)⟩
abbrev LS (ib:Nat) (c:Cfg):List (Nat × Nat × ABlk):=[(ib,70000000000000000000000000000000000001149,WC ib c),(ib+1,50000000000000000000000000000000000001149,ZM c.nodes.toNat (ZI c (2*c.np))),(ib+2,10000000000000000000000000000000000001170,ZM c.np c.fp),(ib+3,10000000000000000000000000000000000001197,ZM c.ns c.fs),(ib+4,10000000000000000000000000000000000001224,ZM c.nb c.fb),(ib+5,10000000000000000000000000000000000001241,YC c.nt c.ft)]
abbrev nwM (ib:Nat) (c:Cfg):AMem:=[(ib,WC ib c),(ib+1,ZM c.nodes.toNat (ZI c (2*c.np))),(ib+2,ZM c.np c.fp),(ib+3,ZM c.ns c.fs),(ib+4,ZM c.nb c.fb),(ib+5,YC c.nt c.ft)]
def JA:Yq
 | [.agg l],m,ib=>
  match VD l m,WG mS m with
  |some (c,b),true=>some (.tup [.c (.ptr ib 0 0),i64 0],nwM ib c,6,[b,decide (c.nb<=9223372036854775807),decide (ZH c=0)])
  |_,_=>none
 |_,_,_=>none
def MY:Yq
 | [.agg l],m,_=>
  match VD l m,WG mS m with
  |some (c,b),true=>some (.tup [.c (.v (.pointer none)),i64 (ZH c)],[],0,[b,decide (c.nb<=9223372036854775807),decide (ZH c≠0)])
  |_,_=>none
 |_,_,_=>none
theorem jjln {β β':Nm} {i i':Nat} (h:β' i'=β i) (k j:Nat):ad β' i' k j=ad β i k j:=by unfold ad;rw[h]
theorem jjim {β β':Nm} (L:List Value) (j:Nat):∀u,γc β ((L.map AC.v).getD j ZS)=some u->γc β' ((L.map AC.v).getD j ZS)=some u:=by
 intro u hu;simp only[List.getD,List.getElem?_map] at hu ⊢
 cases e:L[j]? with
 |none=>rw[e] at hu;simp only[Option.map_none,Option.getD_none] at hu ⊢;exact hu
 |some v=>rw[e] at hu;simp only[Option.map_some,Option.getD_some] at hu ⊢;exact hu
theorem NO {β1 β':Nm} {m1:AMem} {o ty s n:Nat} {F:Nat->List Value} (h:ZX m1 o=some (XD ty s n F)):OutOk β1 β' m1 o (XD ty s n F) (XD ty s n F):=
 ⟨h,rfl,rfl,rfl,rfl,rfl,rfl,.inr ⟨_,_,rfl,rfl⟩,fun k j _ u hu=>jjim (F k) j u hu⟩
theorem jjl6:ZC prog 6 MY:=by
 refine⟨⟨_,_,Tryz.func6,rfl⟩,fun C β m m2 w args ib r news k' ob vs hct ho hs hr hfree hlim hv=>?_⟩;unfold MY at hct;split at hct
 . rename_i l
   split at hct
   . rename_i c b hc hg
     simp only[Option.some.injEq,Prod.mk.injEq] at hct;obtain⟨rfl,rfl,rfl,rfl⟩:=hct;simp only[ZZ,List.forall_mem_cons,decide_eq_true_eq] at ho;obtain⟨rfl,o2,o3,_⟩:=ho;obtain⟨p,⟨v,b',n',ob,po⟩,hrun,hn,hob,hpo,hvr⟩:=EC c o2;obtain⟨s',r1,r2,r3,r4⟩:=Td hrun;have hn:n'<=ZQ:=hn;rcases hvr with⟨h0,_⟩|⟨_,hvr⟩
     . exact absurd h0 o3
     simp only[γt,γ1] at hv;split at hv
     . rename_i v0 us hv0 hus
       split at hv0
       . rename_i cs hcs
         cases hv0;cases hus;cases hv;obtain⟨β1,q1,q2,q3⟩:=NE hs hr hc hg hcs;refine(X8 Cy r1 ⟨by rw[r3];exact hob,by rw[r4];exact hpo⟩ (C:=Zx w) (β:=β1) (w:=w) (vs:=[.agg cs.toArray]) ?_ q1 (fun id h1 h2=>q3 id h1 (by omega))).mono ?_
         . simp only[γt,γ1,q2]
         . rintro e w' ⟨β',u,rfl,_,_,hu,hr'⟩
           simp only at hvr;subst hvr;exact⟨β,u,rfl,Ext.refl _,fun _ _=>rfl,hu,by rw[List.append_nil];exact hr.below (Sr hr')⟩
       . cases hv0
     . cases hv
   . cases hct
 . cases hct
theorem Ae : ZC prog 6 JA:=by
 refine⟨⟨_,_,Tryz.func6,rfl⟩,fun C β m m2 w args ib r news k' ob vs hct ho hs hr hfree hlim hv=>?_⟩;unfold JA at hct;split at hct
 . rename_i l
   split at hct
   . rename_i c b hc hg
     simp only[Option.some.injEq,Prod.mk.injEq] at hct;obtain⟨rfl,rfl,rfl,rfl⟩:=hct;simp only[ZZ,List.forall_mem_cons,decide_eq_true_eq] at ho;obtain⟨rfl,o2,o3,_⟩:=ho;obtain⟨p,⟨v,b',n',ob,po⟩,hrun,hn,hob,hpo,hvr⟩:=EC c o2;obtain⟨s',r1,r2,r3,r4⟩:=Td hrun;have hn:n'<=ZQ:=hn;rcases hvr with⟨_,hvr,hbl⟩|⟨h0,_⟩
     rotate_left
     . exact absurd o3 h0
     simp only[γt,γ1] at hv;split at hv
     . rename_i v0 us hv0 hus
       split at hv0
       . rename_i cs hcs
         cases hv0;cases hus;cases hv;obtain⟨β1,q1,q2,q3⟩:=NE hs hr hc hg hcs;refine(X8 Cy r1 ⟨by rw[r3];exact hob,by rw[r4];exact hpo⟩ (C:=Zx w) (β:=β1) (w:=w) (vs:=[.agg cs.toArray]) ?_ q1 (fun id h1 h2=>q3 id h1 (by omega))).mono ?_
         . simp only[γt,γ1,q2]
         . rintro e w' ⟨β2,u,rfl,_,_,hu,hr'⟩
           simp only at hvr hbl;subst hvr;subst hbl;simp only[List.map_cons,List.map_nil,List.cons.injEq,and_true] at r2;obtain⟨k0,_,k1,k2,k3,k4,k5⟩:=r2;have hnd:((LS ib c).map (·.1)).Nodup:=by simp
           have hnd2:∀p∈LS ib c,∀q∈LS ib c,p.2.1=q.2.1->p.1=q.1:=by
            intro p hp q hq e;simp only[List.mem_cons,List.not_mem_nil,or_false] at hp hq;rcases hp with rfl|rfl|rfl|rfl|rfl|rfl<;>rcases hq with rfl|rfl|rfl|rfl|rfl|rfl<;>first|rfl|(exact absurd e (by dsimp only;omega))
           have hj:=jjgl hr (Sr hr') hr' hnd hnd2 (fun p hp=>?_) ?_
           . refine⟨_,u,rfl,hj.2,fun id h=>NC fun p hp=>?_,?_,hj.1⟩
             . simp only[List.mem_cons,List.not_mem_nil,or_false] at hp
               rcases hp with rfl|rfl|rfl|rfl|rfl|rfl<;>dsimp only<;>omega
             . have e0:Wu β β2 (LS ib c) ib=β2 70000000000000000000000000000000000001149:=Rp hnd (p:=(ib,_,_)) (List.mem_cons_self ..)
               simp only[γ,γt,γ1,γc,jjln e0] at hu ⊢;exact hu
           . simp only[List.mem_cons,List.not_mem_nil,or_false] at hp
             rcases hp with rfl|rfl|rfl|rfl|rfl|rfl<;>exact⟨hfree _ (by dsimp only;omega) (by dsimp only;omega),Wb (by dsimp only;omega)⟩
           . have e1:Wu β β2 (LS ib c) (ib+1)=β2 50000000000000000000000000000000000001149:=Rp hnd (p:=(ib+1,_,_)) (List.mem_cons_of_mem _ (List.mem_cons_self ..))
             have e2:Wu β β2 (LS ib c) (ib+2)=β2 10000000000000000000000000000000000001170:=Rp hnd (p:=(ib+2,_,_)) (List.mem_cons_of_mem _ (List.mem_cons_of_mem _ (List.mem_cons_self ..)));have e3:Wu β β2 (LS ib c) (ib+3)=β2 10000000000000000000000000000000000001197:=Rp hnd (p:=(ib+3,_,_)) (List.mem_cons_of_mem _ (List.mem_cons_of_mem _ (List.mem_cons_of_mem _ (List.mem_cons_self ..))));have e4:Wu β β2 (LS ib c) (ib+4)=β2 10000000000000000000000000000000000001224:=Rp hnd (p:=(ib+4,_,_)) (List.mem_cons_of_mem _ (List.mem_cons_of_mem _ (List.mem_cons_of_mem _ (List.mem_cons_of_mem _ (List.mem_cons_self ..)))));have e5:Wu β β2 (LS ib c) (ib+5)=β2 10000000000000000000000000000000000001241:=Rp hnd (p:=(ib+5,_,_)) (List.mem_cons_of_mem _ (List.mem_cons_of_mem _ (List.mem_cons_of_mem _ (List.mem_cons_of_mem _ (List.mem_cons_of_mem _ (List.mem_cons_self ..))))));intro p hp;simp only[List.mem_cons,List.not_mem_nil,or_false] at hp;rcases hp with rfl|rfl|rfl|rfl|rfl|rfl
             . refine⟨_,k0,rfl,rfl,rfl,rfl,rfl,rfl,.inl ⟨_,_,rfl,rfl,rfl⟩,fun k j hi u hu=>?_⟩
               match j with
               |0=>exact hu
               |1=>simp only[Cs.get,List.getD,List.getElem?_cons_succ,List.getElem?_cons_zero,Option.getD_some,γc,e2] at hu ⊢;exact hu
               |2=>simp only[Cs.get,List.getD,List.getElem?_cons_succ,List.getElem?_cons_zero,Option.getD_some,γc,e3] at hu ⊢;exact hu
               |3=>exact hu
               |4=>simp only[Cs.get,List.getD,List.getElem?_cons_succ,List.getElem?_cons_zero,Option.getD_some,γc,e4] at hu ⊢;exact hu
               |5=>simp only[Cs.get,List.getD,List.getElem?_cons_succ,List.getElem?_cons_zero,Option.getD_some,γc,e5] at hu ⊢;exact hu
               |6=>exact hu
               |7=>exact hu
               |8=>exact hu
               |9=>simp only[Cs.get,List.getD,List.getElem?_cons_succ,List.getElem?_cons_zero,Option.getD_some,γc,e1] at hu ⊢;exact hu
               |j+10=>exact hu
             . exact⟨_,NO k1⟩
             . exact⟨_,NO k2⟩
             . exact⟨_,NO k3⟩
             . exact⟨_,NO k4⟩
             . exact⟨_,NO k5⟩
       . cases hv0
     . cases hv
   . cases hct
 . cases hct
abbrev Q1 (c:Cfg) (nq:Nat):List AC:=[.v (.int .i64 c.nodes),.sl 0 0 0 c.np none,.sl 1 0 0 c.ns none,.v (.int .i64 c.long),.sl 2 0 0 c.nb none,.sl 3 0 0 c.nt none,.v (.int .i64 c.miss),.v (.int .i64 c.good),.v (.int .i64 c.fresh),.sl 4 0 0 nq none]
abbrev Sv (c:Cfg) (nq:Nat) (fq:Nat->Int):AMem:=[(0,ZG 3 c.np c.fp),(1,ZG 3 c.ns c.fs),(2,ZG 3 c.nb c.fb),(3,Xj c.nt c.ft),(4,ZG 3 nq fq),(5,⟨false,false,81,0,.lit (Q1 c nq)⟩)]
abbrev RB (c:Cfg) (nq:Nat) (fq:Nat->Int):AMem:=[(YR 0,ZA),(0,ZG 3 c.np c.fp),(1,ZG 3 c.ns c.fs),(2,ZG 3 c.nb c.fb),(3,Xj c.nt c.ft),(4,ZG 3 nq fq),(5,⟨false,false,81,0,.lit (Q1 c nq)⟩)]
def SL (l:List AC) (m:AMem):Option (Cfg × Nat × (Nat->Int) × Bool):=
 match l with
 | [.v (.int .i64 nodes),p,s,.v (.int .i64 long),b,t,.v (.int .i64 miss),.v (.int .i64 good),.v (.int .i64 fresh),q]=>
  match XB 1 m p,XB 1 m s,XB 1 m b,XB 3 m t,XB 1 m q with
  |some (np,P,b1),some (ns,S,b2),some (nb,B,b3),some (nt,T,b4),some (nq,Q,b5)=>some (⟨nodes,np,fA P,ns,fA S,long,nb,fA B,nt,Z4 T,miss,good,fresh⟩,nq,fA Q,b1&&(b2&&(b3&&(b4&&(b5&&(Zy np P&&(Zy ns S&&(Zy nb B&&(Yc nt T&&Zy nq Q)))))))))
  |_,_,_,_,_=>none
 |_=>none
theorem jjis {G m:AMem} (hg:WG G m=true):∀id x,ZX G id=some x->x.own=false/\Xe x=false:=by
 intro id x hx;have h1:=List.all_eq_true.1 hg _ (Vo hx);simp only at h1;split at h1
 . simp only[Bool.and_eq_true,Bool.not_eq_true'] at h1
   refine⟨h1.1,?_⟩;have h3:=h1.2;unfold ON at h3;split at h3
   . rename_i l q _ hq;simp[Xe,hq]
   . cases h3
 . cases h1
theorem jjda {G:AMem} (hG:(G.all fun p=>Nat.ble ZQ p.1)=true) {C:Ctx} {β:Nm} {m m2:AMem} {w:World} (hs:Sub m m2) (hr:Rel C β m2 w) {l:List AC} {id0:Nat} {x0:ABlk} (hx0:ZX m id0=some x0) (hc0:x0.cs= .lit l) {c:Cfg} {nq:Nat} {fq:Nat->Int} (h:SL l m=some (c,nq,fq,true)) (hg:WG G m=true) {v0:Value} (hv:γc β (.ptr id0 0 0)=some v0):
 ∃β',Rel (Zx w) β' (G++Sv c nq fq) w/\γc β' (.ptr 5 0 0)=some v0/\(∀id,6<=id->id<ZQ->β' id=none)/\∀i x,ZX (G++Sv c nq fq) i=some x->x.own=false/\Xe x=false:=by
 obtain⟨LN,hLN,hkN⟩:=hr.blk id0 x0 (hs _ _ hx0);have hsz:=hkN.lit l hc0;unfold SL at h;split at h
 . rename_i nodes p s long b t miss good fresh q
   split at h
   . rename_i np P b1 ns S b2 nb B b3 nt T b4 nq' Q b5 hp hsl hb ht hq
     simp only[Option.some.injEq,Prod.mk.injEq,Bool.and_eq_true] at h;obtain⟨rfl,rfl,rfl,rfl,rfl,rfl,rfl,rfl,i1,i2,i3,i4,i5⟩:=h
     have cell:∀j,j<10->LN.nil=false/\∃u,γc β ((Cs.lit [.v (.int .i64 nodes),p,s,.v (.int .i64 long),b,t,.v (.int .i64 miss),.v (.int .i64 good),.v (.int .i64 fresh),q]).get 0 j)=some u/\u.oneCell'=true/\w.cell? ⟨LN.b,LN.o+j,none⟩=some u:=by
      intro j hj;obtain⟨g1,u,g2,g3,g4⟩:=hkN.cells 0 j (by simp only[ABlk.inb,hc0,hsz];simp;omega);rw[hc0] at g2;rw[Nat.zero_mul,Nat.zero_add] at g4;exact⟨g1,u,g2,g3,g4⟩
     have hnil:=(cell 0 (by omega)).1;obtain⟨v1,g1⟩:∃v,γc β p=some v:=by obtain⟨_,u,g2,_⟩:=cell 1 (by omega);exact⟨u,g2⟩
     obtain⟨v2,g2⟩:∃v,γc β s=some v:=by obtain⟨_,u,g2,_⟩:=cell 2 (by omega);exact⟨u,g2⟩
     obtain⟨v4,g4⟩:∃v,γc β b=some v:=by obtain⟨_,u,g2,_⟩:=cell 4 (by omega);exact⟨u,g2⟩
     obtain⟨v5,g5⟩:∃v,γc β t=some v:=by obtain⟨_,u,g2,_⟩:=cell 5 (by omega);exact⟨u,g2⟩
     obtain⟨v9,g9⟩:∃v,γc β q=some v:=by obtain⟨_,u,g2,_⟩:=cell 9 (by omega);exact⟨u,g2⟩
     have r0:=Nw hr hs hg hG;have n0:=jjis hg;have hlo:∀id,id<ZQ->U9 β id=none:=fun id h=>by unfold U9;rw[if_neg (by omega)]
     have hgi:∀(id:Nat),id<ZQ->∀g,id≠YR g:=fun id h=>Wb h
     obtain⟨L0,k0,z0⟩:=UD hr Nat.one_pos (V4 hs hp) g1 3 (Si i1) (fun _=>rfl) (Zx w) (U9 β) rfl;obtain⟨r1,n1⟩:=PV r0 n0 (id:=0) (hlo 0 (by unfold ZQ;omega)) (hgi 0 (by unfold ZQ;omega)) rfl rfl k0;obtain⟨L1,k1,z1⟩:=UD hr Nat.one_pos (V4 hs hsl) g2 3 (Si i2) (fun _=>rfl) (Zx w) (ZR (U9 β) 0 L0) rfl;obtain⟨r2,n2⟩:=PV r1 n1 (id:=1) (by simp[ZR,hlo 1 (by unfold ZQ;omega)]) (hgi 1 (by unfold ZQ;omega)) rfl rfl k1;obtain⟨L2,k2,z2⟩:=UD hr Nat.one_pos (V4 hs hb) g4 3 (Si i3) (fun _=>rfl) (Zx w) (ZR (ZR (U9 β) 0 L0) 1 L1) rfl;obtain⟨r3,n3⟩:=PV r2 n2 (id:=2) (by simp[ZR,hlo 2 (by unfold ZQ;omega)]) (hgi 2 (by unfold ZQ;omega)) rfl rfl k2;obtain⟨L3,k3,z3⟩:=UD hr (by omega:0<3) (V4 hs ht) g5 85 (If i4) (fun _=>rfl) (Zx w) (ZR (ZR (ZR (U9 β) 0 L0) 1 L1) 2 L2) rfl;obtain⟨r4,n4⟩:=PV r3 n3 (id:=3) (by simp[ZR,hlo 3 (by unfold ZQ;omega)]) (hgi 3 (by unfold ZQ;omega)) rfl rfl k3;obtain⟨L4,k4,z4⟩:=UD hr Nat.one_pos (V4 hs hq) g9 3 (Si i5) (fun _=>rfl) (Zx w) (ZR (ZR (ZR (ZR (U9 β) 0 L0) 1 L1) 2 L2) 3 L3) rfl;obtain⟨r5,n5⟩:=PV r4 n4 (id:=4) (by simp[ZR,hlo 4 (by unfold ZQ;omega)]) (hgi 4 (by unfold ZQ;omega)) rfl rfl k4;obtain⟨β5,hβ5⟩:∃β5,β5=ZR (ZR (ZR (ZR (ZR (U9 β) 0 L0) 1 L1) 2 L2) 3 L3) 4 L4:=⟨_,rfl⟩
     rw[<- hβ5] at r5;have y0:=z0 β5 0 (by rw[hβ5];simp[ZR]);have y1:=z1 β5 1 (by rw[hβ5];simp[ZR]);have y2:=z2 β5 2 (by rw[hβ5];simp[ZR]);have y3:=z3 β5 3 (by rw[hβ5];simp[ZR]);have y4:=z4 β5 4 (by rw[hβ5];simp[ZR])
     have h5:∀id,5<=id->id<ZQ->β5 id=none:=fun id h1 h2=>by
      rw[hβ5];simp[ZR,hlo id h2,show id≠0 by omega,show id≠1 by omega,show id≠2 by omega,show id≠3 by omega,show id≠4 by omega]
     have hkn:YD (Zx w) β5 w ⟨LN.b,LN.o,0,LN.cap,LN.nil⟩ ⟨false,false,81,0,.lit (Q1 ⟨nodes,np,fA P,ns,fA S,long,nb,fA B,nt,Z4 T,miss,good,fresh⟩ nq')⟩:=by
      refine⟨rfl,fun _ _=>rfl,fun k j hi=>?_,hkN.lt,fun ho=>(by cases ho),fun n f hf=>(by cases hf),fun ho=>(by cases ho)⟩;have hj:j<10:=by simp[ABlk.inb] at hi;omega
      obtain⟨_,u,e2,e3,e4⟩:=cell j hj;refine⟨hnil,u,?_,e3,by rw[Nat.mul_zero,Nat.zero_add];exact e4⟩
      match j,hj with
      |0,_=>exact e2
      |1,_=>exact y0.trans (g1.symm.trans e2)
      |2,_=>exact y1.trans (g2.symm.trans e2)
      |3,_=>exact e2
      |4,_=>exact y2.trans (g4.symm.trans e2)
      |5,_=>exact y3.trans (g5.symm.trans e2)
      |6,_=>exact e2
      |7,_=>exact e2
      |8,_=>exact e2
      |9,_=>exact y4.trans (g9.symm.trans e2)
     obtain⟨r6,n6⟩:=PV r5 n5 (id:=5) (h5 5 (by omega) (by unfold ZQ;omega)) (hgi 5 (by unfold ZQ;omega)) rfl rfl hkn;simp only[List.append_assoc,List.cons_append,List.nil_append] at r6 n6;refine⟨_,r6,?_,fun id h1 h2=>?_,n6⟩
     . simp only[γc,ad,hLN,hnil,Bool.false_eq_true,if_false,Nat.zero_mul,Nat.add_zero,Option.some.injEq] at hv
       simp only[γc,ad,Wd,hnil,Bool.false_eq_true,if_false,Nat.zero_mul,Nat.add_zero,Option.some.injEq];exact hv
     . unfold ZR
       rw[if_neg (by omega)];exact h5 id (by omega) h2
   . cases h
 . cases h
theorem DS {G:AMem} (hG:(G.all fun p=>Nat.ble ZQ p.1)=true) {C:Ctx} {β:Nm} {m m2:AMem} {w:World} (hs:Sub m m2) (hr:Rel C β m2 w) {l:List AC} {id0:Nat} {x0:ABlk} (hx0:ZX m id0=some x0) (hc0:x0.cs= .lit l) {c:Cfg} {nq:Nat} {fq:Nat->Int} (h:SL l m=some (c,nq,fq,true)) (hg:WG G m=true) {v0:Value} (hv:γc β (.ptr id0 0 0)=some v0):
 ∃β',Rel (Zx w) β' (G++Sv c nq fq) w/\γc β' (.ptr 5 0 0)=some v0/\∀id,1000<=id->id<ZQ->β' id=none:=by
 obtain⟨β',h1,h2,h3,_⟩:=jjda hG hs hr hx0 hc0 h hg hv;exact⟨β',h1,h2,fun id a b=>h3 id (by omega) b⟩
theorem jjj0 {C:Ctx} {β:Nm} {m m2:AMem} {w:World} (hs:Sub m m2) (hr:Rel C β m2 w) {l:List AC} {id0:Nat} {x0:ABlk} (hx0:ZX m id0=some x0) (hc0:x0.cs= .lit l) {c:Cfg} {nq:Nat} {fq:Nat->Int} (h:SL l m=some (c,nq,fq,true)) (hg:WG mS m=true) {v0:Value} (hv:γc β (.ptr id0 0 0)=some v0):
 ∃β',Rel (Zx w) β' (RB c nq fq) w/\γc β' (.ptr 5 0 0)=some v0/\∀id,1000<=id->id<ZQ->β' id=none:=DS (G:=mS) (by kernel_rfl) hs hr hx0 hc0 h hg hv
def YM (c:Cfg) (nq:Nat) (fq:Nat->Int):Bool:=decide (0+Cfg.np c<=Cfg.np c)&&(decide (0+Cfg.ns c<=Cfg.ns c)&&(decide (0+Cfg.nb c<=Cfg.nb c)&&(decide (0+Cfg.nt c<=Cfg.nt c)&&(decide (0+nq<=nq)&&((Zy (Cfg.np c) fun k=>List.map AC.v ((fun i=>[Value.int IntKind.i64 (Cfg.fp c i)]) k))&&((Zy (Cfg.ns c) fun k=>List.map AC.v ((fun i=>[Value.int IntKind.i64 (Cfg.fs c i)]) k))&&((Zy (Cfg.nb c) fun k=>List.map AC.v ((fun i=>[Value.int IntKind.i64 (Cfg.fb c i)]) k))&&((Yc (Cfg.nt c) fun k=>List.map AC.v ((fun i=>[Value.int IntKind.i64 (Station.node (Cfg.ft c i)),Value.int IntKind.u32 (Station.safe (Cfg.ft c i)),Value.int IntKind.i64 (Station.hold (Cfg.ft c i))]) k))&&Zy nq fun k=>List.map AC.v ((fun i=>[Value.int IntKind.i64 (fq i)]) k)))))))))
theorem YU (c:Cfg) (nq:Nat) (fq:Nat->Int):YM c nq fq=true:=by simp[YM,Zy,Ut,Yc,OQ]
def Rf:List AV->Option (List Int)
 | []=>some []
 | .c (.v (.int .i64 z))::r=>match Rf r with|some zs=>some (z::zs)|none=>none
 |_=>none
abbrev R5 (zs:List Int):List AV:=zs.map fun z=>.c (.v (.int .i64 z))
theorem jjhd:∀{l:List AV} {zs:List Int},Rf l=some zs->l=R5 zs:=by
 intro l
 induction l with
 |nil=>intro zs h;cases h;rfl
 |cons a r ih=>
  intro zs h;unfold Rf at h;split at h
  . rename_i e;cases e
  . rename_i z r' e
    cases e
    cases e2:Rf r with
    |none=>rw[e2] at h;cases h
    |some zs'=>rw[e2] at h;cases h;rw[ih e2];rfl
  . cases h
def Uq (R:Cfg->Nat->(Nat->Int)->List Int->AV) (pre:Cfg->Nat->(Nat->Int)->List Int->Bool):Yq
 | .c (.ptr id 0 0)::rest,m,_=>
  match ZX m id,Rf rest,WG mS m with
  |some ⟨_,_,_,_,.lit l⟩,some zs,true=>match SL l m with|some (c,nq,fq,b)=>some (R c nq fq zs,[],0,[b,pre c nq fq zs])|none=>none
  |_,_,_=>none
 |_,_,_=>none
theorem Iq {P:Program} {f:FuncId} {R:Cfg->Nat->(Nat->Int)->List Int->AV} {pre:Cfg->Nat->(Nat->Int)->List Int->Bool} (hf:∃(fn:Func) (c:Code),P.funcs[f]? =some fn/\fn.body=some c) (hres:∀c nq fq zs (β1 β2:Nm) u,γ β1 (R c nq fq zs)=some u->γ β2 (R c nq fq zs)=some u) (many:Nat)
 (run:∀c nq fq zs,pre c nq fq zs=true->zs.length=many->∃(E:Env) (fuel str:Nat),E.P=P/\Zz E/\∃p lp r,ZB [] (ZJ E (fC E fuel) f (.c (.ptr 5 0 0)::R5 zs) 1000 str (Y7 (RB c nq fq) p lp))=some r/\r.1=R c nq fq zs/\r.2.2.1<=ZQ/\ZZ r.2.2.2.1/\∀q∈r.2.2.2.2,q):ZC P f (Uq R fun c nq fq zs=>pre c nq fq zs&&decide (zs.length=many)):=by
 refine⟨hf,fun C β m m2 w args ib r news k' ob vs hct ho hs hr hfree hlim hv=>?_⟩;unfold Uq at hct;split at hct
 . rename_i id rest
   split at hct
   . rename_i o1 r1' t1 s1 l zs hlk hzs hg
     split at hct
     . rename_i c nq fq b hc
       simp only[Option.some.injEq,Prod.mk.injEq] at hct;obtain⟨rfl,rfl,rfl,rfl⟩:=hct;simp only[ZZ,List.forall_mem_cons,Bool.and_eq_true,decide_eq_true_eq] at ho;obtain⟨rfl,⟨o2,o3⟩,_⟩:=ho;obtain⟨E,fuel,str,rfl,hE,p,lp,⟨v,b',n',ob,po⟩,hrun,hvr,hn,hob,hpo⟩:=run c nq fq zs o2 o3;obtain⟨s',r1,r2,r3,r4⟩:=Td hrun;have hn:n'<=ZQ:=hn;obtain rfl:=jjhd hzs;simp only[γt] at hv;split at hv
       . rename_i v0 us hv0 hus
         cases hv;obtain⟨β1,q1,q2,q3⟩:=jjj0 hs hr hlk rfl hc hg hv0;refine(X8 hE r1 ⟨by rw[r3];exact hob,by rw[r4];exact hpo⟩ (C:=Zx w) (β:=β1) (w:=w) (vs:=v0::us) ?_ q1 (fun id h1 h2=>q3 id h1 (by omega))).mono ?_
         . have hus':=OX (zs.map fun z=>Value.int .i64 z) (restA:=R5 zs) (by simp[R5]) β β1 us hus
           simp only[γt,γ1,q2,hus']
         . rintro e w' ⟨β',u,rfl,_,_,hu,hr'⟩
           simp only at hvr;subst hvr;exact⟨β,u,rfl,Ext.refl _,fun _ _=>rfl,hres _ _ _ _ _ _ _ hu,by rw[List.append_nil];exact hr.below (Sr hr')⟩
       . cases hv
     . cases hct
   . cases hct
 . cases hct
def Po (P:Program) (f:FuncId) (c:Cfg) (nq:Nat) (fq:Nat->Int) (zs:List Int) (path:List Dec):Option VF:=ZB [] (ZJ (E1 P) (fC (E1 P) 300) f (.c (.ptr 5 0 0)::R5 zs) 1000 nSt (Y7 (RB c nq fq) path []))
structure Y3 where
 c:Cfg
 nq:Nat
 fq:Nat->Int
 rest:List AV
def Xz (G :AMem) (hG:(G.all fun p=>Nat.ble ZQ p.1)=true):Rd Y3 where
 dec:=fun xs m=>
  match xs with
  | .c (.ptr id 0 0)::rest=>
   match ZX m id,UM rest,WG G m with
   |some ⟨_,_,_,_,.lit l⟩,true,true=>match SL l m with|some (c,nq,fq,b)=>some (⟨c,nq,fq,rest⟩,b)|none=>none
   |_,_,_=>none
  |_=>none
 args:=fun s=>.c (.ptr 5 0 0)::s.rest
 mem:=fun s=>G++Sv s.c s.nq s.fq
 ok :=by
  intro C β m m2 w xs s vs hs hr hd hv;split at hd
  . rename_i id rest
    split at hd
    . rename_i o1 r1' t1 s1 l hlk hpl hg
      split at hd
      . rename_i c nq fq b hc
        simp only[Option.some.injEq,Prod.mk.injEq] at hd;obtain⟨rfl,rfl⟩:=hd;simp only[γt] at hv;split at hv
        . rename_i v0 us hv0 hus
          cases hv;obtain⟨β1,q1,q2,q3⟩:=DS hG hs hr hlk rfl hc hg hv0;refine⟨β1,q1,?_,q3⟩;simp only[γt,γ1,q2,Ns hpl hus]
        . cases hv
      . cases hd
    . cases hd
  . cases hd
def netRd:Rd Y3:=Xz mS (by kernel_rfl)
structure Zf where
 c:Cfg
 rest:List AV
def Z7:Rd Zf where
 dec:=fun xs m=>
  match xs with
  | .agg l::rest=>
   match VD l m,UM rest,WG mS m with
   |some (c,b),true,true=>some (⟨c,rest⟩,b)
   |_,_,_=>none
  |_=>none
 args:=fun s=>.agg (Yi s.c)::s.rest
 mem:=fun s=>Xl s.c
 ok :=by
  intro C β m m2 w xs s vs hs hr hd hv;split at hd
  . rename_i l rest
    split at hd
    . rename_i c b hc hpl hg
      simp only[Option.some.injEq,Prod.mk.injEq] at hd;obtain⟨rfl,rfl⟩:=hd;simp only[γt,γ1] at hv;split at hv
      . rename_i v0 us hv0 hus
        split at hv0
        . rename_i cs hcs
          cases hv0;cases hv;obtain⟨β1,q1,q2,q3⟩:=NE hs hr hc hg hcs;refine⟨β1,q1,?_,q3⟩;simp only[γt,γ1,q2,Ns hpl hus]
        . cases hv0
      . cases hv
    . cases hd
  . cases hd
theorem Sg (k:Nat) (h:k<=1000000):IntKind.wrap IntKind.i64 (Int.ofNat k+Int.ofNat 1)=Int.ofNat (k+1):=by rw[XG _ (by simp;omega) (by simp;omega)];simp
theorem jjnm (c:Cfg) (nq:Nat) (fq:Nat->Int) (z:Int) (Q:VF->Prop) (H:let zN:=Int.ofNat;(((!decide (↑nq>zN 0))=true->Q (.c (zI (Int.negSucc 0)),[],1016,[(!decide (↑nq>zN 0))==true,true],[]))/\((!decide (↑nq>zN 0))=false->(((decide (z<zN 0))=true->Q (.c (zI (Int.negSucc 0)),[],1028,[decide (z<zN 0)==true,true,(!decide (↑nq>zN 0))==false,true],[]))/\((decide (z<zN 0))=false->(((decide (z≥ ↑(c.np)))=true->Q (.c (zI (Int.negSucc 0)),[],1032,[decide (z≥ ↑(c.np))==true,decide (z<zN 0)==false,true,(!decide (↑nq>zN 0))==false,true],[]))/\((decide (z≥ ↑(c.np)))=false->Q (.c (zI (c.fp (0+Int.toNat z))),[],1036,[ABlk.inb (ABlk.mk false false 3 1 (yP c)) (0+Int.toNat z) 1,true,decide (zN 0<=z/\z < ↑(c.np)),decide (z≥ ↑(c.np))==false,decide (z<zN 0)==false,true,(!decide (↑nq>zN 0))==false,true],[])))))))):
 ∃p r,Po prog 65 c nq fq [z] p=some r/\Q r:=
 ZL H (fun g1=>⟨pD 7 729,_,by kernel_rfl,g1⟩) (fun g1=>ZL g1 (fun g2=>⟨pD 12 3645,_,by kernel_rfl,g2⟩) (fun g2=>ZL g2 (fun g3=>⟨pD 12 182979,_,by kernel_rfl,g3⟩) (fun g3=>⟨pD 12 360126,_,by kernel_rfl,g3⟩)))
def MW (err:Cfg->Int):Yq
 | [.agg l],m,ib=>
  match VD l m,WG mS m with
  |some (c,b),true=>some (.tup [.c (.ptr ib 0 0),i64 0],nwM ib c,6,[b,decide (c.nb<=9223372036854775807),decide (err c=0)])
  |_,_=>none
 |_,_,_=>none
def MX (err:Cfg->Int):Yq
 | [.agg l],m,_=>
  match VD l m,WG mS m with
  |some (c,b),true=>some (.tup [.c (.v (.pointer none)),i64 (err c)],[],0,[b,decide (c.nb<=9223372036854775807),decide (err c≠0)])
  |_,_=>none
 |_,_,_=>none
theorem jjl8:ZC prog 6 (MW ZH):=Ae
theorem jjl7:ZC prog 6 (MX ZH):=jjl6
def U7 (f:Nat->Int) (n:Nat) (z:Int):Int:=if 0<=z/\z<n then f z.toNat else -1
def Zg (c:Cfg) (nq:Nat):Int:=if nq=0 then 0 else IntKind.wrap .i64 (c.ns*c.long)
def Hx (R:Cfg->Nat->(Nat->Int)->Int->Int):Yq:=Uq (fun c nq fq zs=>i64 (R c nq fq (zs.headD 0))) fun c nq fq zs=>true&&decide (zs.length=1)
def Tu:Yq:=Uq (fun c nq _ _=>i64 (Zg c nq)) fun c nq fq zs=>true&&decide (zs.length=0)
def Hf (E:Env) (f:FuncId) (c:Cfg) (nq:Nat) (fq:Nat->Int) (r:List AV) (path:List Dec) (lp:List (Option Zh)):Option VF:=ZB [] (ZJ E (fC E 300) f (.c (.ptr 5 0 0)::r) 1000 nSt (Y7 (RB c nq fq) path lp))
def BI (E:Env) (f:FuncId) (c:Cfg) (r:List AV) (path:List Dec) (lp:List (Option Zh)):Option VF:=ZB [] (ZJ E (fC E 300) f (.agg (Yi c)::r) 1000 nSt (Y7 (Xl c) path lp))
def PK (c:Cfg) (nq:Nat):Bool:=decide (0<nq)&&(decide (1<=c.ns)&&(decide (c.ns<=16)&&(decide (1<=c.long)&&decide (c.long<=4096))))
theorem CU {a b x y:Int} (h0:0<=a) (h1:a<=x) (h2:0<=b) (h3:b<=y):a*b<=x*y:=Int.mul_le_mul h1 h3 h2 (by omega)
theorem jji7 {c:Cfg} {nq:Nat} (h:PK c nq=true):Zg c nq=c.ns*c.long/\1<=(c.ns:Int)*c.long/\(c.ns:Int)*c.long<=65536/\0<nq/\1<=c.ns/\c.ns<=16/\1<=c.long/\c.long<=4096:=by
 simp only[PK,Bool.and_eq_true,decide_eq_true_eq] at h;obtain⟨h1,h2,h3,h4,h5⟩:=h;have e1:(c.ns:Int)*c.long<=16*4096:=CU (by omega) (by omega) (by omega) (by omega);have e2:(1:Int)*1<=c.ns*c.long:=CU (by omega) (by omega) (by omega) (by omega);refine⟨?_,by omega,by omega,h1,h2,h3,h4,h5⟩;unfold Zg;rw[if_neg (by omega),XG _ (by omega) (by omega)]
def ZE (c:Cfg) (nq:Nat) (_:Nat->Int) (z:Int):Int:=if nq=0 then -1 else U7 c.fp c.np z
theorem E3:ZC prog 65 (Uq (fun c nq fq zs=>i64 (ZE c nq fq (zs.headD 0))) fun c nq fq zs=>true&&decide (zs.length=1)):=by
 refine Iq ⟨_,_,Tryz.func65,rfl⟩ (fun c nq fq zs=>PW _) 1 fun c nq fq zs _ hz=>?_
 obtain⟨z,rfl⟩:=List.length_eq_one_iff.1 hz;refine(?_:(∃p r,Po prog 65 c nq fq [z] p=some r/\(r.1=i64 (ZE c nq fq z)/\r.2.2.1<=ZQ/\ZZ r.2.2.2.1/\∀q∈r.2.2.2.2,q))->_) (jjnm c nq fq z _ ?_)
 . rintro⟨p,r,h1,h2⟩
   exact⟨E1 prog,300,nSt,rfl,Xk,p,[],r,h1,h2⟩
 . repeat' (first|refine⟨fun h=>?_,fun h=>?_⟩|fail)
   all_goals (refine⟨?_,(by first|(unfold ZQ;omega)|(dsimp only;unfold ZQ;omega)),?_,by simp⟩)
   all_goals (simp only[Int.ofNat_eq_natCast] at *)
   all_goals (first
    |(show i64 _=i64 _;unfold ZE U7;simp at *;first|(rw[if_pos (by omega)];done)|(rw[if_neg (by omega),if_neg (by omega)];done)|(rw[if_neg (by omega),if_pos (by omega)];done)|(intros;omega)|(split<;>first|rfl|omega))
    |(simp at *;simp[ZZ,Z6];omega))
def PN:Yq:=Uq (fun c nq fq zs=>i64 (ZE c nq fq (zs.headD 0))) fun c nq fq zs=>true&&decide (zs.length=1)
def Or (P:Program):Env:=⟨P,[(65,PN)]⟩
theorem KI:Zz (Or prog):=by
 refine Xp (fun f g h=>?_) (by kernel_rfl) (by kernel_rfl);simp only[Or,List.mem_cons,Prod.mk.injEq,List.not_mem_nil,or_false] at h;obtain⟨rfl,rfl⟩:=h;exact E3
def YG (c:Cfg) (nq:Nat) (fq:Nat->Int) (p:Nat):Bool:=decide (0<=ZE c nq fq (Int.ofNat p))
def YL (c:Cfg) (nq:Nat) (fq:Nat->Int) (v:Vw) (p:Nat):Bool:=YG c nq fq p&&v.inn p
abbrev Yv (v:Vw):ABlk:=⟨true,false,32,0,.lit (v.cells.map .v)⟩
abbrev JU (c:Cfg) (nq:Nat):ABlk:=⟨false,false,81,0,.lit (Q1 c nq)⟩
abbrev Y6:List Nat:=[YR 0,0,1,2,3,4,5]
abbrev X2 (c:Cfg) (nq:Nat) (fq:Nat->Int):List ABlk:=[ZA,ZG 3 c.np c.fp,ZG 3 c.ns c.fs,ZG 3 c.nb c.fb,Xj c.nt c.ft,ZG 3 nq fq,JU c nq]
theorem Wc (v:Vw) (k:Nat) (h:k<8):Zv (List.getD (ZW v) (0+Int.toNat (Int.ofNat k)*1) ZS)=v.inn k:=by
 match k,h with
 |0,_=>rfl
 |1,_=>rfl
 |2,_=>rfl
 |3,_=>rfl
 |4,_=>rfl
 |5,_=>rfl
 |6,_=>rfl
 |7,_=>rfl
theorem TJ (v:Vw) (k:Nat) (h:k<8):Zq .b (List.getD (ZW v) (0+Int.toNat (Int.ofNat k)*1) ZS)=true:=by
 match k,h with
 |0,_=>rfl
 |1,_=>rfl
 |2,_=>rfl
 |3,_=>rfl
 |4,_=>rfl
 |5,_=>rfl
 |6,_=>rfl
 |7,_=>rfl
theorem WA {n:Nat} {v:Vw}:Zc n (Yv v):=XW (List.all_eq_true.2 fun x hx=>by
 obtain⟨y,_,rfl⟩:=List.mem_map.1 hx
 rfl)
theorem Dv {c:Cfg} {nq:Nat} {fq:Nat->Int} {n:Nat} (hn:10<=n):∀b∈X2 c nq fq,Zc n b:=by
 intro b hb;have hc:∀i,i<10->Nat.blt i n=true:=fun i h=>by rw[Nat.blt_eq];omega
 simp only[List.mem_cons,List.not_mem_nil,or_false] at hb;rcases hb with rfl|rfl|rfl|rfl|rfl|rfl|rfl
 . exact XW rfl
 . exact WU
 . exact WU
 . exact WU
 . exact WU
 . exact WU
 . exact XW (by simp[Yu,hc 0 (by omega),hc 1 (by omega),hc 2 (by omega),hc 3 (by omega),hc 4 (by omega),Nat.blt_eq];try omega)
theorem Sj (f:Nat->Bool) (k:Nat):ZK f (k+1)=ZK f k+(if f k then 1 else 0):=rfl
def rV (R:Cfg->Nat->(Nat->Int)->List AC->List AV->AV):Y3->AV
 |⟨c,nq,fq,.agg l::r⟩=>R c nq fq l r
 |_=>i64 0
def pV (pre:List AC->List AV->Bool):Y3->Bool
 |⟨_,_,_,.agg l::r⟩=>Yx l&&pre l r
 |_=>false
theorem jjne {G:AMem} (hG:(G.all fun p=>Nat.ble ZQ p.1)=true) {pre:List AC->List AV->Bool} {s:Y3} (h:pV pre s=true):∃c nq fq v r,pre (ZW v) r=true/\(Xz G hG).args s= .c (.ptr 5 0 0):: .agg (ZW v)::r/\(Xz G hG).mem s=G++Sv c nq fq/\∀R,rV R s=R c nq fq (ZW v) r:=by
 obtain⟨c,nq,fq,rest⟩:=s
 match rest with
 | .agg l::r=>
  simp only[pV,Bool.and_eq_true] at h;have e:=UJ h.1;exact⟨c,nq,fq,Zk l,r,by rw[ZW,<- e];exact h.2,by rw[ZW,<- e];rfl,rfl,fun R=>by rw[ZW,<- e];rfl⟩
 | []=>simp[pV] at h
 | .c _::_=>simp[pV] at h
 | .tup _::_=>simp[pV] at h
 | .any::_=>simp[pV] at h
theorem Ih {R:Cfg->Nat->(Nat->Int)->List AC->List AV->AV} (h:∀c nq fq v r,WY (R c nq fq v r)=true) (s:Y3):WY (rV R s)=true:=by
 unfold rV;split
 . exact h _ _ _ _ _
 . rfl
theorem E5 {G:AMem} (hG:(G.all fun p=>Nat.ble ZQ p.1)=true) {E:Env} (hE:Zz E) {f:FuncId} {R:Cfg->Nat->(Nat->Int)->List AC->List AV->AV} {pre:List AC->List AV->Bool} (hf:∃(fn:Func) (c:Code),E.P.funcs[f]? =some fn/\fn.body=some c) (hres:∀c nq fq v r,WY (R c nq fq v r)=true)
 (run:∀c nq fq v r,pre (ZW v) r=true->∃p lp q,ZB [] (ZJ E (fC E 300) f (.c (.ptr 5 0 0):: .agg (ZW v)::r) 1000 nSt (Y7 (G++Sv c nq fq) p lp))=some q/\Zp (R c nq fq (ZW v) r) q):ZC E.P f (Z9 (Xz G hG) (rV R) (pV pre)):=by
 refine Te hE (Xz G hG) (fuel:=300) (str:=nSt) hf (Ih hres) fun s hs=>?_
 obtain⟨c,nq,fq,v,r,h1,h2,h3,h4⟩:=jjne hG hs;rw[h2,h3,h4];exact run c nq fq v r h1
theorem IQ {E:Env} (hE:Zz E) {f:FuncId} {R:Cfg->Nat->(Nat->Int)->List AC->List AV->AV} {pre:List AC->List AV->Bool} (hf:∃(fn:Func) (c:Code),E.P.funcs[f]? =some fn/\fn.body=some c) (hres:∀c nq fq v r,WY (R c nq fq v r)=true)
 (run:∀c nq fq v r,pre (ZW v) r=true->∃p lp q,ZB [] (ZJ E (fC E 300) f (.c (.ptr 5 0 0):: .agg (ZW v)::r) 1000 nSt (Y7 (RB c nq fq) p lp))=some q/\Zp (R c nq fq (ZW v) r) q):ZC E.P f (Z9 netRd (rV R) (pV pre)):=
 E5 (G:=mS) (by kernel_rfl) hE hf hres run
def QZ (E:Env) (f:FuncId) (c:Cfg) (nq:Nat) (fq:Nat->Int) (v:Vw) (r:List AV) (path:List Dec) (lp:List (Option Zh)):Option VF:=ZB [] (ZJ E (fC E 300) f (.c (.ptr 5 0 0):: .agg (ZW v)::r) 1000 nSt (Y7 (RB c nq fq) path lp))
def MA (P:Program) (f:FuncId) (k:IntKind) (z:Int) (path:List Dec):Option VF:=ZB [] (ZJ (E1 P) (fC (E1 P) 300) f [.c (.v (.int k z))] 1000 nSt (Y7 [] path []))
theorem Br (z:Int) (Q:VF->Prop) (H:Q (.c (zU (IntKind.wrap .u8 ((if Int.ofNat 99<z then Int.ofNat 99 else z)+Int.ofNat 1))),[],1005,[],[])):
 ∃p r,MA prog 97 .u8 z p=some r/\Q r:=
 ⟨pD 0 0,_,by kernel_rfl,H⟩
theorem H2 (z:Int) (Q:VF->Prop) (H:Q (.c (zH (if Int.ofNat 1000<IntKind.wrap .u16 ((if Int.ofNat 1000<z then Int.ofNat 1000 else z)+Int.ofNat 8) then Int.ofNat 1000 else IntKind.wrap .u16 ((if Int.ofNat 1000<z then Int.ofNat 1000 else z)+Int.ofNat 8))),[],1006,[],[])):
 ∃p r,MA prog 99 .u16 z p=some r/\Q r:=
 ⟨pD 0 0,_,by kernel_rfl,H⟩
theorem H3 (z:Int) (Q:VF->Prop) (H:Q (.c (zH (IntKind.wrap .u16 ((if Int.ofNat 1>if Int.ofNat 1000<z then Int.ofNat 1000 else z then Int.ofNat 1 else if Int.ofNat 1000<z then Int.ofNat 1000 else z)-Int.ofNat 1))),[],1006,[],[])):
 ∃p r,MA prog 98 .u16 z p=some r/\Q r:=
 ⟨pD 0 0,_,by kernel_rfl,H⟩
def emE (P:Program) (v:Vw) (k:Nat) (path:List Dec):Option VF:=ZB [] (ZJ (E1 P) (fC (E1 P) 300) 66 [.agg (ZW v),i64 (Int.ofNat k)] 1000 nSt (Y7 [] path []))
theorem Au (v:Vw) (k:Nat) (Q:VF->Prop) (H:let zN:=Int.ofNat;let zD:=Int.toNat;let zz0:=(List.getD (ZW v) (0+zD (zN k)*1) ZS);let zz1:=(List.getD (ZW v) (32+zD (zN k)*1) ZS);let zz2:=(List.getD (ZW v) (8+zD (zN k)*1) ZS);let zz3:=(List.getD (ZW v) (16+zD (zN k)*1) ZS);let zq0:List Bool:=[ABlk.inb (ABlk.mk true false 32 0 (Cs.lit (ZW v))) 0 (0+zD (zN k)*1+1),Zq Kd.b zz0,decide (zN 0<=zN k/\zN k<zN 8)];let zq1:List Bool:=(ABlk.inb (ABlk.mk true false 32 0 (Cs.lit (ZW v))) 0 (32+zD (zN k)*1+1))::(Zq Kd.b zz1)::(decide (zN 0<=zN k/\zN k<zN 8))::((!Zv zz0)==true)::zq0;let zq2:List Bool:=(ABlk.inb (ABlk.mk true false 32 0 (Cs.lit (ZW v))) 0 (8+zD (zN k)*1+1))::(Zq (Kd.i .u8) zz2)::(decide (zN 0<=zN k/\zN k<zN 8))::((!Zv zz1)==true)::zq1;let zq3:List Bool:=(ABlk.inb (ABlk.mk true false 32 0 (Cs.lit (ZW v))) 0 (16+zD (zN k)*1+1))::(Zq (Kd.i .u8) zz3)::(decide (zN 0<=zN k/\zN k<zN 8))::((ZP zz2==zN 0)==true)::zq2;(((!Zv zz0)=true->(((!Zv zz1)=true->(((ZP zz2==zN 0)=true->(((ZP zz3==zN 0)=true->Q (.c (zB (ZP (List.getD (ZW v) (24+zD (zN k)*1) ZS)==zN 0)),[],1036,((ABlk.inb (ABlk.mk true false 32 0 (Cs.lit (ZW v))) 0 (24+zD (zN k)*1+1))::(Zq (Kd.i .u16) (List.getD (ZW v) (24+zD (zN k)*1) ZS))::(decide (zN 0<=zN k/\zN k<zN 8))::((ZP zz3==zN 0)==true)::zq3),[]))/\((ZP zz3==zN 0)=false->Q (.c (zB false),[],1031,(((ZP zz3==zN 0)==false)::zq3),[]))))/\((ZP zz2==zN 0)=false->Q (.c (zB false),[],1026,(((ZP zz2==zN 0)==false)::zq2),[]))))/\((!Zv zz1)=false->Q (.c (zB false),[],1021,(((!Zv zz1)==false)::zq1),[]))))/\((!Zv zz0)=false->Q (.c (zB false),[],1016,(((!Zv zz0)==false)::zq0),[])))):
 ∃p r,emE prog v k p=some r/\Q r:=
 ZL H (fun g1=>ZL g1 (fun g2=>ZL g2 (fun g3=>ZL g3 (fun g4=>⟨pD 20 14408200,_,by kernel_rfl,g4⟩) (fun g4=>⟨pD 20 28757107,_,by kernel_rfl,g4⟩)) (fun g3=>⟨pD 20 118342,_,by kernel_rfl,g3⟩)) (fun g2=>⟨pD 20 487,_,by kernel_rfl,g2⟩)) (fun g1=>⟨pD 20 2,_,by kernel_rfl,g1⟩)
theorem Av (c:Cfg) (nq:Nat) (fq:Nat->Int) (v:Vw) (z:Int) (Q:VF->Prop) (H:let zN:=Int.ofNat;let zD:=Int.toNat;let zz0:=((Zy (Cfg.np c) fun k=>List.map AC.v ((fun i=>[Value.int IntKind.i64 (Cfg.fp c i)]) k))&&((Zy (Cfg.ns c) fun k=>List.map AC.v ((fun i=>[Value.int IntKind.i64 (Cfg.fs c i)]) k))&&((Zy (Cfg.nb c) fun k=>List.map AC.v ((fun i=>[Value.int IntKind.i64 (Cfg.fb c i)]) k))&&((Yc (Cfg.nt c) fun k=>List.map AC.v ((fun i=>[Value.int IntKind.i64 (Station.node (Cfg.ft c i)),Value.int IntKind.u32 (Station.safe (Cfg.ft c i)),Value.int IntKind.i64 (Station.hold (Cfg.ft c i))]) k))&&Zy nq fun k=>List.map AC.v ((fun i=>[Value.int IntKind.i64 (fq i)]) k)))));let zq0:List Bool:=[decide (0+c.np<=c.np)&&(decide (0+c.ns<=c.ns)&&(decide (0+c.nb<=c.nb)&&(decide (0+c.nt<=c.nt)&&(decide (0+nq<=nq)&&zz0)))),true];(((decide (ZE c nq fq (List.headD [z] (zN 0))≥zN 0))=true->Q (.agg (z8 (fun zk=>zB (Zv (ZU (Nat.beq zk (32+zD z*1)) (zB true) (zB (Vw.inn v zk))))) [zU (ZP (ZU (Nat.beq 8 (32+zD z*1)) (zB true) (zU (Vw.miss v 0)))),zU (ZP (ZU (Nat.beq 9 (32+zD z*1)) (zB true) (zU (Vw.miss v 1)))),zU (ZP (ZU (Nat.beq 10 (32+zD z*1)) (zB true) (zU (Vw.miss v 2)))),zU (ZP (ZU (Nat.beq 11 (32+zD z*1)) (zB true) (zU (Vw.miss v 3)))),zU (ZP (ZU (Nat.beq 12 (32+zD z*1)) (zB true) (zU (Vw.miss v 4)))),zU (ZP (ZU (Nat.beq 13 (32+zD z*1)) (zB true) (zU (Vw.miss v 5)))),zU (ZP (ZU (Nat.beq 14 (32+zD z*1)) (zB true) (zU (Vw.miss v 6)))),zU (ZP (ZU (Nat.beq 15 (32+zD z*1)) (zB true) (zU (Vw.miss v 7)))),zU (ZP (ZU (Nat.beq 16 (32+zD z*1)) (zB true) (zU (Vw.good v 0)))),zU (ZP (ZU (Nat.beq 17 (32+zD z*1)) (zB true) (zU (Vw.good v 1)))),zU (ZP (ZU (Nat.beq 18 (32+zD z*1)) (zB true) (zU (Vw.good v 2)))),zU (ZP (ZU (Nat.beq 19 (32+zD z*1)) (zB true) (zU (Vw.good v 3)))),zU (ZP (ZU (Nat.beq 20 (32+zD z*1)) (zB true) (zU (Vw.good v 4)))),zU (ZP (ZU (Nat.beq 21 (32+zD z*1)) (zB true) (zU (Vw.good v 5)))),zU (ZP (ZU (Nat.beq 22 (32+zD z*1)) (zB true) (zU (Vw.good v 6)))),zU (ZP (ZU (Nat.beq 23 (32+zD z*1)) (zB true) (zU (Vw.good v 7)))),zH (ZP (ZU (Nat.beq 24 (32+zD z*1)) (zB true) (zH (Vw.score v 0)))),zH (ZP (ZU (Nat.beq 25 (32+zD z*1)) (zB true) (zH (Vw.score v 1)))),zH (ZP (ZU (Nat.beq 26 (32+zD z*1)) (zB true) (zH (Vw.score v 2)))),zH (ZP (ZU (Nat.beq 27 (32+zD z*1)) (zB true) (zH (Vw.score v 3)))),zH (ZP (ZU (Nat.beq 28 (32+zD z*1)) (zB true) (zH (Vw.score v 4)))),zH (ZP (ZU (Nat.beq 29 (32+zD z*1)) (zB true) (zH (Vw.score v 5)))),zH (ZP (ZU (Nat.beq 30 (32+zD z*1)) (zB true) (zH (Vw.score v 6)))),zH (ZP (ZU (Nat.beq 31 (32+zD z*1)) (zB true) (zH (Vw.score v 7)))),zB (Zv (ZU (Nat.beq 32 (32+zD z*1)) (zB true) (zB (Vw.got v 0)))),zB (Zv (ZU (Nat.beq 33 (32+zD z*1)) (zB true) (zB (Vw.got v 1)))),zB (Zv (ZU (Nat.beq 34 (32+zD z*1)) (zB true) (zB (Vw.got v 2)))),zB (Zv (ZU (Nat.beq 35 (32+zD z*1)) (zB true) (zB (Vw.got v 3)))),zB (Zv (ZU (Nat.beq 36 (32+zD z*1)) (zB true) (zB (Vw.got v 4)))),zB (Zv (ZU (Nat.beq 37 (32+zD z*1)) (zB true) (zB (Vw.got v 5)))),zB (Zv (ZU (Nat.beq 38 (32+zD z*1)) (zB true) (zB (Vw.got v 6)))),zB (Zv (ZU (Nat.beq 39 (32+zD z*1)) (zB true) (zB (Vw.got v 7)))),.v (.int .i8 (ZP (ZU (Nat.beq 40 (32+zD z*1)) (zB true) (.v (.int .i8 (Vw.command v)))))),zU (ZP (ZU (Nat.beq 41 (32+zD z*1)) (zB true) (zU (Vw.mode v))))]),[],1011,(zu (zt (y3 (true::true::((Zq Kd.b (ZU (Nat.beq 0 (32+zD z*1)) (zB true) (zB (Vw.inn v 0))))::(Zq Kd.b (ZU (Nat.beq 1 (32+zD z*1)) (zB true) (zB (Vw.inn v 1))))::(Zq Kd.b (ZU (Nat.beq 2 (32+zD z*1)) (zB true) (zB (Vw.inn v 2))))::(Zq Kd.b (ZU (Nat.beq 3 (32+zD z*1)) (zB true) (zB (Vw.inn v 3))))::(Zq Kd.b (ZU (Nat.beq 4 (32+zD z*1)) (zB true) (zB (Vw.inn v 4))))::(Zq Kd.b (ZU (Nat.beq 5 (32+zD z*1)) (zB true) (zB (Vw.inn v 5))))::(Zq Kd.b (ZU (Nat.beq 6 (32+zD z*1)) (zB true) (zB (Vw.inn v 6))))::(Zq Kd.b (ZU (Nat.beq 7 (32+zD z*1)) (zB true) (zB (Vw.inn v 7))))::(Zq (Kd.i .u8) (ZU (Nat.beq 8 (32+zD z*1)) (zB true) (zU (Vw.miss v 0))))::(Zq (Kd.i .u8) (ZU (Nat.beq 9 (32+zD z*1)) (zB true) (zU (Vw.miss v 1))))::(Zq (Kd.i .u8) (ZU (Nat.beq 10 (32+zD z*1)) (zB true) (zU (Vw.miss v 2))))::(Zq (Kd.i .u8) (ZU (Nat.beq 11 (32+zD z*1)) (zB true) (zU (Vw.miss v 3))))::(Zq (Kd.i .u8) (ZU (Nat.beq 12 (32+zD z*1)) (zB true) (zU (Vw.miss v 4))))::(Zq (Kd.i .u8) (ZU (Nat.beq 13 (32+zD z*1)) (zB true) (zU (Vw.miss v 5))))::(Zq (Kd.i .u8) (ZU (Nat.beq 14 (32+zD z*1)) (zB true) (zU (Vw.miss v 6))))::(Zq (Kd.i .u8) (ZU (Nat.beq 15 (32+zD z*1)) (zB true) (zU (Vw.miss v 7))))::(Zq (Kd.i .u8) (ZU (Nat.beq 16 (32+zD z*1)) (zB true) (zU (Vw.good v 0))))::(Zq (Kd.i .u8) (ZU (Nat.beq 17 (32+zD z*1)) (zB true) (zU (Vw.good v 1))))::(Zq (Kd.i .u8) (ZU (Nat.beq 18 (32+zD z*1)) (zB true) (zU (Vw.good v 2))))::(Zq (Kd.i .u8) (ZU (Nat.beq 19 (32+zD z*1)) (zB true) (zU (Vw.good v 3))))::(Zq (Kd.i .u8) (ZU (Nat.beq 20 (32+zD z*1)) (zB true) (zU (Vw.good v 4))))::(Zq (Kd.i .u8) (ZU (Nat.beq 21 (32+zD z*1)) (zB true) (zU (Vw.good v 5))))::(Zq (Kd.i .u8) (ZU (Nat.beq 22 (32+zD z*1)) (zB true) (zU (Vw.good v 6))))::(Zq (Kd.i .u8) (ZU (Nat.beq 23 (32+zD z*1)) (zB true) (zU (Vw.good v 7))))::(Zq (Kd.i .u16) (ZU (Nat.beq 24 (32+zD z*1)) (zB true) (zH (Vw.score v 0))))::(Zq (Kd.i .u16) (ZU (Nat.beq 25 (32+zD z*1)) (zB true) (zH (Vw.score v 1))))::(Zq (Kd.i .u16) (ZU (Nat.beq 26 (32+zD z*1)) (zB true) (zH (Vw.score v 2))))::(Zq (Kd.i .u16) (ZU (Nat.beq 27 (32+zD z*1)) (zB true) (zH (Vw.score v 3))))::(Zq (Kd.i .u16) (ZU (Nat.beq 28 (32+zD z*1)) (zB true) (zH (Vw.score v 4))))::(Zq (Kd.i .u16) (ZU (Nat.beq 29 (32+zD z*1)) (zB true) (zH (Vw.score v 5))))::(Zq (Kd.i .u16) (ZU (Nat.beq 30 (32+zD z*1)) (zB true) (zH (Vw.score v 6))))::(Zq (Kd.i .u16) (ZU (Nat.beq 31 (32+zD z*1)) (zB true) (zH (Vw.score v 7))))::(Zq Kd.b (ZU (Nat.beq 32 (32+zD z*1)) (zB true) (zB (Vw.got v 0))))::(Zq Kd.b (ZU (Nat.beq 33 (32+zD z*1)) (zB true) (zB (Vw.got v 1))))::(Zq Kd.b (ZU (Nat.beq 34 (32+zD z*1)) (zB true) (zB (Vw.got v 2))))::(Zq Kd.b (ZU (Nat.beq 35 (32+zD z*1)) (zB true) (zB (Vw.got v 3))))::(Zq Kd.b (ZU (Nat.beq 36 (32+zD z*1)) (zB true) (zB (Vw.got v 4))))::(Zq Kd.b (ZU (Nat.beq 37 (32+zD z*1)) (zB true) (zB (Vw.got v 5))))::(Zq Kd.b (ZU (Nat.beq 38 (32+zD z*1)) (zB true) (zB (Vw.got v 6))))::(Zq Kd.b (ZU (Nat.beq 39 (32+zD z*1)) (zB true) (zB (Vw.got v 7))))::(Zq (Kd.i .i8) (ZU (Nat.beq 40 (32+zD z*1)) (zB true) (.v (.int .i8 (Vw.command v)))))::(Zq (Kd.i .u8) (ZU (Nat.beq 41 (32+zD z*1)) (zB true) (zU (Vw.mode v))))::(ABlk.inb (ABlk.mk true false 32 0 (Cs.lit (ZW v))) 0 (32+zD z*1+1))::(decide (zN 0<=z/\z<zN 8))::(decide (ZE c nq fq (List.headD [z] (zN 0))≥zN 0)==true)::zq0))))),[]))/\((decide (ZE c nq fq (List.headD [z] (zN 0))≥zN 0))=false->Q (AV.agg (ZW v),[],1007,(zu (zu (zt (zt (y3 (y3 (true::((decide (ZE c nq fq (List.headD [z] (zN 0))≥zN 0)==false)::zq0)))))))),[])))):
 ∃p r,QZ (Or prog) 30 c nq fq v [i64 z] p []=some r/\Q r:=
 ZL H (fun g1=>⟨pD 1 1,_,by kernel_rfl,g1⟩) (fun g1=>⟨pD 1 2,_,by kernel_rfl,g1⟩)
theorem Ek {z:Int} (h0:0<=z) (h1:z<=255):IntKind.wrap .u8 z=z:=by
 simp only[IntKind.wrap,IntKind.bits,IntKind.signed]
 first|omega|(simp;omega)
theorem La {z:Int} (h0:0<=z) (h1:z<=65535):IntKind.wrap .u16 z=z:=by
 simp only[IntKind.wrap,IntKind.bits,IntKind.signed]
 first|omega|(simp;omega)
def Mb (k:IntKind) (g:Int->Int):List AV->AV
 | [.c (.v (.int _ z))]=>.c (.v (.int k (g z)))
 |_=>i64 0
def Th (k:IntKind):List AV->Bool
 | [.c (.v (.int q z))]=>decide (q=k)&&decide (0<=z)
 |_=>false
def Qg (k:IntKind) (g:Int->Int):Yq:=Z9 (Yf [] rfl) (Mb k g) (Th k)
theorem J9 {f:FuncId} {k:IntKind} {g:Int->Int} (hf:∃(fn:Func) (c:Code),Tryz.prog.funcs[f]? =some fn/\fn.body=some c) (run:∀z:Int,0<=z->∃p q,MA prog f k z p=some q/\Zp (.c (.v (.int k (g z)))) q):ZC prog f (Qg k g):=by
 refine Te (E:=E1 prog) Xk (Yf [] rfl) (fuel:=300) (str:=nSt) hf (fun s=>by unfold Mb;split<;>rfl) fun s hs=>?_
 unfold Th at hs;split at hs
 . rename_i q z
   simp only[Bool.and_eq_true,decide_eq_true_eq] at hs;obtain⟨rfl,h0⟩:=hs;obtain⟨p,r,h1,h2⟩:=run z h0;exact⟨p,[],r,h1,h2⟩
 . cases hs
theorem Ci:ZC prog 97 (Qg .u8 Zi):=by
 refine J9 ⟨_,_,Tryz.func97,rfl⟩ fun z h0=>Br z _ ?_
 refine⟨?_,(by first|(unfold ZQ;omega)|(dsimp only;unfold ZQ;omega)),by simp[ZZ],by simp⟩;have e:(if Int.ofNat 99<z then Int.ofNat 99 else z)=min z 99:=by simp only[Int.ofNat_eq_natCast];split<;>omega
 simp only[e];rw[show min z 99+Int.ofNat 1=Zi z from rfl,Ek (by unfold Zi;omega) (by unfold Zi;omega)]
theorem Ad:ZC prog 99 (Qg .u16 Zj):=by
 refine J9 ⟨_,_,Tryz.func99,rfl⟩ fun z h0=>H2 z _ ?_
 refine⟨?_,(by first|(unfold ZQ;omega)|(dsimp only;unfold ZQ;omega)),by simp[ZZ],by simp⟩;have e:(if Int.ofNat 1000<z then Int.ofNat 1000 else z)=min z 1000:=by simp only[Int.ofNat_eq_natCast];split<;>omega
 simp only[e];rw[La (z:=min z 1000+Int.ofNat 8) (by simp;omega) (by simp;omega)];have e2:(if Int.ofNat 1000<min z 1000+Int.ofNat 8 then Int.ofNat 1000 else min z 1000+Int.ofNat 8)=Zj z:=by unfold Zj;simp only[Int.ofNat_eq_natCast];split<;>omega
 rw[e2]
theorem Aa:ZC prog 98 (Qg .u16 Zn):=by
 refine J9 ⟨_,_,Tryz.func98,rfl⟩ fun z h0=>H3 z _ ?_
 refine⟨?_,(by first|(unfold ZQ;omega)|(dsimp only;unfold ZQ;omega)),by simp[ZZ],by simp⟩;have e:(if Int.ofNat 1000<z then Int.ofNat 1000 else z)=min z 1000:=by simp only[Int.ofNat_eq_natCast];split<;>omega
 simp only[e];have e2:(if Int.ofNat 1>min z 1000 then Int.ofNat 1 else min z 1000)-Int.ofNat 1=Zn z:=by unfold Zn;simp only[Int.ofNat_eq_natCast];split<;>omega
 rw[e2,La (by unfold Zn;omega) (by unfold Zn;omega)]
theorem Lo {p:Vw->Nat->Prop} (h0:∀v,p v 0) (h1:∀v,p v 1) (h2:∀v,p v 2) (h3:∀v,p v 3) (h4:∀v,p v 4) (h5:∀v,p v 5) (h6:∀v,p v 6) (h7:∀v,p v 7) (v:Vw) (k:Nat) (h:k<8):p v k:=by
 match k,h with
 |0,_=>exact h0 v
 |1,_=>exact h1 v
 |2,_=>exact h2 v
 |3,_=>exact h3 v
 |4,_=>exact h4 v
 |5,_=>exact h5 v
 |6,_=>exact h6 v
 |7,_=>exact h7 v
theorem Qt (v:Vw) (k:Nat) (h:k<8):Zv (List.getD (ZW v) (32+Int.toNat (Int.ofNat k)*1) ZS)=v.got k/\Zq .b (List.getD (ZW v) (32+Int.toNat (Int.ofNat k)*1) ZS)=true:=
 Lo (p:=fun v k=>Zv (List.getD (ZW v) (32+Int.toNat (Int.ofNat k)*1) ZS)=v.got k/\Zq .b (List.getD (ZW v) (32+Int.toNat (Int.ofNat k)*1) ZS)=true) (fun _=>⟨rfl,rfl⟩) (fun _=>⟨rfl,rfl⟩) (fun _=>⟨rfl,rfl⟩) (fun _=>⟨rfl,rfl⟩) (fun _=>⟨rfl,rfl⟩) (fun _=>⟨rfl,rfl⟩) (fun _=>⟨rfl,rfl⟩) (fun _=>⟨rfl,rfl⟩) v k h
theorem UF (v:Vw) (k:Nat) (h:k<8):ZP (List.getD (ZW v) (8+Int.toNat (Int.ofNat k)*1) ZS)=v.miss k/\Zq (.i .u8) (List.getD (ZW v) (8+Int.toNat (Int.ofNat k)*1) ZS)=true:=
 Lo (p:=fun v k=>ZP (List.getD (ZW v) (8+Int.toNat (Int.ofNat k)*1) ZS)=v.miss k/\Zq (.i .u8) (List.getD (ZW v) (8+Int.toNat (Int.ofNat k)*1) ZS)=true) (fun _=>⟨rfl,rfl⟩) (fun _=>⟨rfl,rfl⟩) (fun _=>⟨rfl,rfl⟩) (fun _=>⟨rfl,rfl⟩) (fun _=>⟨rfl,rfl⟩) (fun _=>⟨rfl,rfl⟩) (fun _=>⟨rfl,rfl⟩) (fun _=>⟨rfl,rfl⟩) v k h
theorem UG (v:Vw) (k:Nat) (h:k<8):ZP (List.getD (ZW v) (16+Int.toNat (Int.ofNat k)*1) ZS)=v.good k/\Zq (.i .u8) (List.getD (ZW v) (16+Int.toNat (Int.ofNat k)*1) ZS)=true:=
 Lo (p:=fun v k=>ZP (List.getD (ZW v) (16+Int.toNat (Int.ofNat k)*1) ZS)=v.good k/\Zq (.i .u8) (List.getD (ZW v) (16+Int.toNat (Int.ofNat k)*1) ZS)=true) (fun _=>⟨rfl,rfl⟩) (fun _=>⟨rfl,rfl⟩) (fun _=>⟨rfl,rfl⟩) (fun _=>⟨rfl,rfl⟩) (fun _=>⟨rfl,rfl⟩) (fun _=>⟨rfl,rfl⟩) (fun _=>⟨rfl,rfl⟩) (fun _=>⟨rfl,rfl⟩) v k h
theorem SJ (v:Vw) (k:Nat) (h:k<8):ZP (List.getD (ZW v) (24+Int.toNat (Int.ofNat k)*1) ZS)=v.score k/\Zq (.i .u16) (List.getD (ZW v) (24+Int.toNat (Int.ofNat k)*1) ZS)=true:=
 Lo (p:=fun v k=>ZP (List.getD (ZW v) (24+Int.toNat (Int.ofNat k)*1) ZS)=v.score k/\Zq (.i .u16) (List.getD (ZW v) (24+Int.toNat (Int.ofNat k)*1) ZS)=true) (fun _=>⟨rfl,rfl⟩) (fun _=>⟨rfl,rfl⟩) (fun _=>⟨rfl,rfl⟩) (fun _=>⟨rfl,rfl⟩) (fun _=>⟨rfl,rfl⟩) (fun _=>⟨rfl,rfl⟩) (fun _=>⟨rfl,rfl⟩) (fun _=>⟨rfl,rfl⟩) v k h
def Xd (v:Vw) (k:Nat):Bool:=!v.inn k&&(!v.got k&&(decide (v.miss k=0)&&(decide (v.good k=0)&&decide (v.score k=0))))
def Mi (R:List AC->List AV->AV):List AV->AV
 | .agg l::r=>R l r
 |_=>i64 0
def SA (pre:List AC->List AV->Bool):List AV->Bool
 | .agg l::r=>Yx l&&pre l r
 |_=>false
def HC (l:List AC) (z:Int):Bool:=!Zv (l.getD z.toNat ZS)&&(!Zv (l.getD (32+z.toNat) ZS)&&(decide (ZP (l.getD (8+z.toNat) ZS)=0)&&(decide (ZP (l.getD (16+z.toNat) ZS)=0)&&decide (ZP (l.getD (24+z.toNat) ZS)=0))))
def BK (l:List AC):List AV->AV
 | [.c (.v (.int .i64 z))]=>bo (HC l z)
 |_=>i64 0
theorem J7 {v:Vw} {k:Nat} (hk:k<8):HC (ZW v) (Int.ofNat k)=Xd v k:=by
 have a0:=Wc v k hk;have a1:=(Qt v k hk).1;have a2:=(UF v k hk).1;have a3:=(UG v k hk).1;have a4:=(SJ v k hk).1;simp only[Nat.zero_add,Nat.mul_one,Int.ofNat_eq_natCast,Int.toNat_natCast] at a0 a1 a2 a3 a4;simp only[HC,Int.ofNat_eq_natCast,Int.toNat_natCast,a0,a1,a2,a3,a4,Xd]
def S6 (_:List AC):List AV->Bool
 | [.c (.v (.int .i64 z))]=>decide (0<=z)&&decide (z<8)
 |_=>false
def PM:Yq:=Z9 (Yf [] rfl) (Mi BK) (SA S6)
theorem jji3:ZC prog 66 PM:=by
 refine Te (E:=E1 prog) Xk (Yf [] rfl) (fuel:=300) (str:=nSt) ⟨_,_,Tryz.func66,rfl⟩ (fun s=>by unfold Mi BK;(repeat' split)<;>rfl) fun s hs=>?_
 unfold SA at hs;split at hs
 . rename_i l r
   rw[Bool.and_eq_true] at hs;obtain⟨hl,hs⟩:=hs;have e:=UJ hl;generalize Zk l=v at e;subst e;unfold S6 at hs;split at hs
   . rename_i z
     simp only[Bool.and_eq_true,decide_eq_true_eq] at hs;obtain⟨h0,h1⟩:=hs;obtain⟨k,rfl⟩:=Int.eq_ofNat_of_zero_le h0;have hk:k<8:=by omega
     refine(?_:(∃p q,emE prog v k p=some q/\Zp (Mi BK [.agg (ZW v),i64 (Int.ofNat k)]) q)->_) (Au v k _ ?_)
     . rintro⟨p,q,h1,h2⟩
       exact⟨p,[],q,h1,h2⟩
     . have hR:Mi BK [.agg (ZW v),i64 (Int.ofNat k)]=bo (Xd v k):=by
        show bo _=bo _;rw[<- J7 hk]
       rw[hR];simp only[Wc v k hk,(Qt v k hk).1,(UF v k hk).1,(UG v k hk).1,(SJ v k hk).1,TJ v k hk,(Qt v k hk).2,(UF v k hk).2,(UG v k hk).2,(SJ v k hk).2]
       (repeat' (first|refine⟨fun h=>?_,fun h=>?_⟩|fail))
       all_goals (refine⟨?_,(by first|(unfold ZQ;omega)|(dsimp only;unfold ZQ;omega)),?_,by simp⟩)
       all_goals first
        |(simp_all[Xd,bo];done)
        |(simp_all[Xd,bo,Bool.beq_eq_decide_eq];done)
        |(simp_all[Xd,bo,decide_eq_decide,beq_eq_decide];done)
        |(simp_all[ZZ,Yk,Vw.len];done)
        |(simp_all[ZZ,Yk,Vw.len];omega)
   . cases hs
 . cases hs
def CD (c:Cfg) (nq:Nat) (fq:Nat->Int) (l:List AC):List AV->AV
 | [.c (.v (.int .i64 z))]=>.agg (Re (decide (0<=ZE c nq fq z)) z l)
 |_=>i64 0
def VM (c:Cfg) (_:List AC):List AV->Bool
 | [.c (.v (.int .i64 _))]=>decide (c.np<=8)
 |_=>false
def pW (pre:Cfg->List AC->List AV->Bool):Y3->Bool
 |⟨c,_,_,.agg l::r⟩=>Yx l&&pre c l r
 |_=>false
theorem Ip {G:AMem} (hG:(G.all fun p=>Nat.ble ZQ p.1)=true) {E:Env} (hE:Zz E) {f:FuncId} {R:Cfg->Nat->(Nat->Int)->List AC->List AV->AV} {pre:Cfg->List AC->List AV->Bool} (hf:∃(fn:Func) (c:Code),E.P.funcs[f]? =some fn/\fn.body=some c) (hres:∀c nq fq v r,WY (R c nq fq v r)=true)
 (run:∀c nq fq v r,pre c (ZW v) r=true->∃p lp q,ZB [] (ZJ E (fC E 300) f (.c (.ptr 5 0 0):: .agg (ZW v)::r) 1000 nSt (Y7 (G++Sv c nq fq) p lp))=some q/\Zp (R c nq fq (ZW v) r) q):ZC E.P f (Z9 (Xz G hG) (rV R) (pW pre)):=by
 refine Te hE (Xz G hG) (fuel:=300) (str:=nSt) hf (Ih hres) fun s hs=>?_
 unfold pW at hs;split at hs
 . rename_i c nq fq l r
   rw[Bool.and_eq_true] at hs;have e:=UJ hs.1;rw[e];rw[e] at hs;exact run c nq fq (Zk l) r hs.2
 . cases hs
theorem Fr (z:Int) (v:Vw):Sb false z v=v:=by
 cases v;simp[Sb,Mr]
def Jw:Yq:=Z9 netRd (rV CD) (pW VM)
theorem Nz {c:Cfg} {nq:Nat} {fq:Nat->Int} {z:Int} (h:0<=ZE c nq fq z):0<=z/\z<c.np:=by
 unfold ZE U7 at h;split at h
 . omega
 . split at h
   . assumption
   . omega
theorem Aj:ZC prog 30 Jw:=by
 refine Ip (G:=mS) (by kernel_rfl) (E:=Or prog) KI ⟨_,_,Tryz.func30,rfl⟩ (fun c nq fq v r=>by unfold CD;split<;>rfl) fun c nq fq v r hr=>?_
 unfold VM at hr;split at hr
 . rename_i z
   have h8:c.np<=8:=of_decide_eq_true hr;refine(?_:(∃p q,QZ (Or prog) 30 c nq fq v [i64 z] p []=some q/\Zp (.agg (Re (decide (0<=ZE c nq fq z)) z (ZW v))) q)->_) (Av c nq fq v z _ ?_)
   . rintro⟨p,q,h1,h2⟩
     exact⟨p,[],q,h1,h2⟩
   . refine⟨fun h=>?_,fun h=>?_⟩
     . have hd:0<=ZE c nq fq z:=by simpa using h
       obtain⟨z0,z1⟩:=Nz hd;have e:decide (0<=ZE c nq fq z)=true:=decide_eq_true hd;rw[e];have hz:z=0\/z=1\/z=2\/z=3\/z=4\/z=5\/z=6\/z=7:=by omega
       rcases hz with rfl|rfl|rfl|rfl|rfl|rfl|rfl|rfl
       all_goals (refine⟨rfl,(by first|(unfold ZQ;omega)|(dsimp only;unfold ZQ;omega)),?_,by simp⟩)
       all_goals (simp_all[ZZ,YZ,YU,YT,YO,YE,YF,ZU,Zq,Yk,Vw.len])
     . have hd:decide (0<=ZE c nq fq z)=false:=by simpa using h
       rw[hd];refine⟨?_,(by first|(unfold ZQ;omega)|(dsimp only;unfold ZQ;omega)),?_,by simp⟩
       . show AV.agg (ZW v)=AV.agg (Re false z (ZW v))
         rw[EM,Fr]
       . simp_all[ZZ,YZ,YU,YT,YO,YE,YF]
 . cases hr
def N9:List (FuncId × Yq):=[(61,VZ),(97,Qg .u8 Zi),(99,Qg .u16 Zj),(98,Qg .u16 Zn)]
theorem jjhr:∀f g,(f,g)∈N9->ZC prog f g:=by
 intro f g h;simp only[N9,List.mem_cons,Prod.mk.injEq,List.not_mem_nil,or_false] at h;rcases h with⟨rfl,rfl⟩|⟨rfl,rfl⟩|⟨rfl,rfl⟩|⟨rfl,rfl⟩
 . exact Ll
 . exact Ci
 . exact Ad
 . exact Aa
def MH (P:Program):Env:=⟨P,N9⟩
theorem JN:Zz (MH prog):=Xp jjhr (by kernel_rfl) (by kernel_rfl)
def OD:Vw:=⟨fun _=>false,fun _=>0,fun _=>0,fun _=>0,fun _=>false,0,0⟩
abbrev QY:List Nat:=[3,4,5,11,12]
abbrev rdS (u:Vw):Zh:=⟨QY,[1000,1001,1128],ZT 99 [(3,.c (.ptr 1000 0 0)),(4,.c (.ptr 1001 0 0))],[(1000,Yv u),(1001,Yv OD)],100000000000000000000000000000000000000000000000000,.exit 0⟩
theorem FH (c:Cfg) (nq:Nat) (fq:Nat->Int) (v u:Vw) (Q:VF->Prop) (H:let zN:=Int.ofNat;let zM:=ABlk.mk;let zD:=Int.toNat;Q (.agg (z8 (fun zk=>zB (Vw.inn u zk)) (z8 (fun zk=>zU (Vw.miss u zk)) (z8 (fun zk=>zU (Vw.good u zk)) (z8 (fun zk=>zH (Vw.score u zk)) (z8 (fun zk=>zB (Vw.got u zk)) [.v (.int .i8 (Vw.command u)),zU (Vw.mode u)]))))),[],100000000000000000000000000000000000000000000000002,(zu (zu (zu (zt (y3 (y3 (((decide (zN 0<=zN 0/\zN 0<=Option.getD (some ↑(c.nt)) ↑(c.nt)/\Option.getD (some ↑(c.nt)) ↑(c.nt)<=YW none c.nt (some ↑(c.nt))))::true::(decide (YW none c.nt (some ↑(c.nt)) <= ↑(Option.getD none c.nt)))::true::(Zu none (zM true true 85 3 (Cs.arr c.nt fun k=>List.map AC.v ((fun i=>[Value.int .i64 (Station.node (Z4 (Zt (zM false false 85 3 (yT c)) 0 0 3) i)),Value.int .u32 (Station.safe (Z4 (Zt (zM false false 85 3 (yT c)) 0 0 3) i)),Value.int .i64 (Station.hold (Z4 (Zt (zM false false 85 3 (yT c)) 0 0 3) i))]) k))) 0 c.nt)::(decide (0+c.nt<=c.nt))::(decide (c.nt<=1000000))::(Yc c.nt fun k=>List.map AC.v ((fun i=>[Value.int .i64 (Station.node (c.ft i)),Value.int .u32 (Station.safe (c.ft i)),Value.int .i64 (Station.hold (c.ft i))]) k))::true::true::(decide (zN 0<=zN 0/\zN 0<=Option.getD (some ↑(0+c.nb)) ↑(0+c.nb)/\Option.getD (some ↑(0+c.nb)) ↑(0+c.nb)<=YW none (0+c.nb) (some ↑(0+c.nb))))::true::(decide (YW none (0+c.nb) (some ↑(0+c.nb)) <= ↑(Option.getD none (0+c.nb))))::true::(Zu none (zM true true 3 1 (Cs.arr (0+c.nb) fun i=>if i<0 then[] else Z8 (zM false false 3 1 (yB c)) 0 0 1 (i-0))) 0 (0+c.nb))::(decide (0+c.nb<=c.nb))::true::true::(decide ((0+c.nb)*8<=140737488355328))::(ABlk.inb (zM false false 3 1 (yB c)) 0 1)::y3 (true::(decide (zN 0<=zN 0/\zN 0<=Option.getD (some ↑(0+c.ns)) ↑(0+c.ns)/\Option.getD (some ↑(0+c.ns)) ↑(0+c.ns)<=YW none (0+c.ns) (some ↑(0+c.ns))))::true::(decide (YW none (0+c.ns) (some ↑(0+c.ns)) <= ↑(Option.getD none (0+c.ns))))::true::(Zu none (zM true true 3 1 (Cs.arr (0+c.ns) fun i=>if i<0 then[] else Z8 (zM false false 3 1 (yS c)) 0 0 1 (i-0))) 0 (0+c.ns))::(decide (0+c.ns<=c.ns))::true::true::(decide ((0+c.ns)*8<=140737488355328))::(ABlk.inb (zM false false 3 1 (yS c)) 0 1)::y3 (true::(decide (zN 0<=zN 0/\zN 0<=Option.getD (some ↑(0+c.np)) ↑(0+c.np)/\Option.getD (some ↑(0+c.np)) ↑(0+c.np)<=YW none (0+c.np) (some ↑(0+c.np))))::true::(decide (YW none (0+c.np) (some ↑(0+c.np)) <= ↑(Option.getD none (0+c.np))))::true::(Zu none (zM true true 3 1 (Cs.arr (0+c.np) fun i=>if i<0 then[] else Z8 (zM false false 3 1 (yP c)) 0 0 1 (i-0))) 0 (0+c.np))::(decide (0+c.np<=c.np))::true::true::(decide ((0+c.np)*8<=140737488355328))::(ABlk.inb (zM false false 3 1 (yP c)) 0 1)::(zt (true::(((!decide (↑nq>zN 0))==false)::true::[]))))))))))))),[LoopV prog (ZY prog 75 0) QY [1000,1001,1128] [some (.c (.ptr 1000 0 0)),some (.c (.ptr 1001 0 0)),some (.c (.ptr 1128 0 0)),some (.c (.v (.int .i64 ↑(zD (Option.getD (some ↑(0+c.np)) ↑(0+c.np)-zN 0))))),some (.c (zI (zN 0)))] [yR 32 0 (Cs.lit (ZW v)),yR 32 0 (Cs.lit (z8 (fun zk=>zB false) (z8 (fun zk=>zU (zN 0)) (z8 (fun zk=>zU (zN 0)) (z8 (fun zk=>zH (zN 0)) (z8 (fun zk=>zB false) [.v (.int .i8 (zN 0)),zU (zN 0)])))))),yR 25 0 (Cs.lit [zI c.nodes,AC.sl 1043 0 0 (zD (Option.getD (some ↑(0+c.np)) ↑(0+c.np)-zN 0)) (some (zD (↑(0+c.np)-zN 0))),AC.sl 1070 0 0 (zD (Option.getD (some ↑(0+c.ns)) ↑(0+c.ns)-zN 0)) (some (zD (↑(0+c.ns)-zN 0))),zI c.long,AC.sl 1097 0 0 (zD (Option.getD (some ↑(0+c.nb)) ↑(0+c.nb)-zN 0)) (some (zD (↑(0+c.nb)-zN 0))),AC.sl 1114 0 0 (zD (Option.getD (some ↑(c.nt)) ↑(c.nt)-zN 0)) (some (zD (↑(c.nt)-zN 0))),zI c.miss,zI c.good,zI c.fresh])] 99 1134 (ZT 99 [(3,.c (.ptr 1000 0 0)),(4,.c (.ptr 1001 0 0))]) [(1000,Yv u),(1001,Yv OD)] 100000000000000000000000000000000000000000000000000 (Exit.exit 0) none])):
 ∃p r,QZ (MH prog) 75 c nq fq v [] p [none,some (rdS u)]=some r/\Q r:=
 ⟨pD 14 1458,_,by kernel_rfl,H⟩
abbrev M6 (c:Cfg):ABlk:=⟨true,false,25,0,.lit [.v (.int .i64 c.nodes),.sl 1043 0 0 c.np (some c.np),.sl 1070 0 0 c.ns (some c.ns),.v (.int .i64 c.long),.sl 1097 0 0 c.nb (some c.nb),.sl 1114 0 0 c.nt (some c.nt),.v (.int .i64 c.miss),.v (.int .i64 c.good),.v (.int .i64 c.fresh)]⟩
abbrev GO:List Nat:=[1000,1001,1128]
abbrev Q0 (c:Cfg) (k:Nat):List AV:=[.c (.ptr 1000 0 0),.c (.ptr 1001 0 0),.c (.ptr 1128 0 0),i64 (Int.ofNat c.np),i64 (Int.ofNat k)]
def Ov (P:Program) (c:Cfg) (u v:Vw) (k:Nat) (path:List Dec):Option VC:=
 view (QY++[]) GO (fC (MH P) 100 (ZY P 75 0) 1000000000000000000000000000000000000000000 nSt (WR 99 QY GO (Q0 c k) [Yv u,Yv v,M6 c] path []))
theorem RA (k0Z k1Z:Nat) (hkZ:k0Z<8/\k1Z=k0Z+1) (c:Cfg) (u v:Vw) (Q:VC->Prop) (H:let zN:=Int.ofNat;let zM:=ABlk.mk;let zz0:=(M6 c);let zz1:=[some (ZN (List.zip QY (Q0 c k0Z)) 3),some (ZN (List.zip QY (Q0 c k0Z)) 4),some (ZN (List.zip QY (Q0 c k0Z)) 5),some (ZN (List.zip QY (Q0 c k0Z)) 11),some (AV.c (zI (zN k1Z)))];let zz2:=[AV.c (zH (Vw.score u k0Z))];let zz3:=[yR 32 0 (Cs.lit (ZW (VW k0Z (Vw.inn u k0Z) (zN 0) (Zi (Vw.good u k0Z)) (Zn (Vw.score u k0Z)) false u))),yR 32 0 (Cs.lit (ZW v)),some zz0];let zz4:=[yR 32 0 (Cs.lit (ZW (VW k0Z (Vw.inn u k0Z) (Zi (Vw.miss u k0Z)) (zN 0) (Zj (Vw.score u k0Z)) false u))),yR 32 0 (Cs.lit (ZW v)),some zz0];let zz5:=(IntKind.wrap IntKind.i64 (Zi (Vw.good u k0Z))≥Cfg.good c);let zz6:=(IntKind.wrap IntKind.i64 (Zi (Vw.miss u k0Z))≥Cfg.miss c);let zz7:=[AV.c (zU (Vw.good u k0Z))];let zz8:=[AV.c (zU (Vw.miss u k0Z))];let zz9:=[yR 32 0 (Cs.lit (ZW (VW k0Z true (zN 0) (Zi (Vw.good u k0Z)) (Zn (Vw.score u k0Z)) false u))),yR 32 0 (Cs.lit (ZW v)),some zz0];let zz10:=[yR 32 0 (Cs.lit (ZW (VW k0Z true (Zi (Vw.miss u k0Z)) (zN 0) (Zj (Vw.score u k0Z)) false u))),yR 32 0 (Cs.lit (ZW v)),some zz0];let zq0:List Bool:=[true,true,true,decide (zN k0Z<zN c.np)==true];let zq1:List Bool:=zt (true::true::((Th .u16 zz2)::y3 (true::(Th .u8 zz7)::y3 ((Vw.got u k0Z==true)::zq0))));let zq2:List Bool:=y3 (true::true::(Vw.inn u k0Z==true)::zq1);let zq3:List Bool:=y3 ((decide (zN 0≥c.miss)==false)::zq2);let zq4:List Bool:=y3 (true::true::((!Vw.inn u k0Z)==true)::zq3);let zq5:List Bool:=y3 ((Vw.inn u k0Z==false)::zq1);let zq6:List Bool:=y3 (true::true::((!Vw.inn u k0Z)==true)::zq5);let zq7:List Bool:=zt (true::true::((Th .u16 zz2)::y3 (true::(Th .u8 zz8)::y3 ((Vw.got u k0Z==false)::zq0))));let zq8:List Bool:=y3 (true::true::(Vw.inn u k0Z==true)::zq7);let zq9:List Bool:=y3 ((decide zz6==false)::zq8);let zq10:List Bool:=y3 (true::true::((!Vw.inn u k0Z)==true)::zq9);let zq11:List Bool:=y3 ((Vw.inn u k0Z==false)::zq7);let zq12:List Bool:=y3 (true::true::((!Vw.inn u k0Z)==true)::zq11);(((Vw.got u k0Z)=true->(((Vw.inn u k0Z)=true->(((decide (zN 0≥c.miss))=true->Q (Exit.normal,zz1,[yR 32 0 (Cs.lit (ZW (VW k0Z false (zN 0) (Zi (Vw.good u k0Z)) (Zn (Vw.score u k0Z)) false u))),yR 32 0 (Cs.lit (ZW v)),some zz0],99,1370000000000000000000000000000000000000017,(y3 (true::(decide (zN 0≥c.miss)==true)::zq2)),[]))/\((decide (zN 0≥c.miss))=false->(((!Vw.inn u k0Z)=true->(((decide zz5)=true->Q (Exit.normal,zz1,zz9,99,1530000000000000000000000000000000000000017,(y3 (true::(decide zz5==true)::zq4)),[]))/\((decide zz5)=false->Q (Exit.normal,zz1,zz3,99,1530000000000000000000000000000000000000013,(true::true::(decide zz5==false)::zq4),[]))))/\((!Vw.inn u k0Z)=false->Q (Exit.normal,zz1,zz3,99,1530000000000000000000000000000000000000013,(true::true::((!Vw.inn u k0Z)==false)::zq3),[]))))))/\((Vw.inn u k0Z)=false->(((!Vw.inn u k0Z)=true->(((decide zz5)=true->Q (Exit.normal,zz1,zz9,99,1530000000000000000000000000000000000000017,(y3 (true::(decide zz5==true)::zq6)),[]))/\((decide zz5)=false->Q (Exit.normal,zz1,zz3,99,1530000000000000000000000000000000000000013,(true::true::(decide zz5==false)::zq6),[]))))/\((!Vw.inn u k0Z)=false->Q (Exit.normal,zz1,zz3,99,1530000000000000000000000000000000000000013,(true::true::((!Vw.inn u k0Z)==false)::zq5),[]))))))/\((Vw.got u k0Z)=false->(((Vw.inn u k0Z)=true->(((decide zz6)=true->Q (Exit.normal,zz1,[yR 32 0 (Cs.lit (ZW (VW k0Z false (Zi (Vw.miss u k0Z)) (zN 0) (Zj (Vw.score u k0Z)) false u))),yR 32 0 (Cs.lit (ZW v)),some zz0],99,1370000000000000000000000000000000000000017,(y3 (true::(decide zz6==true)::zq8)),[]))/\((decide zz6)=false->(((!Vw.inn u k0Z)=true->(((decide (zN 0≥c.good))=true->Q (Exit.normal,zz1,zz10,99,1530000000000000000000000000000000000000017,(y3 (true::(decide (zN 0≥c.good)==true)::zq10)),[]))/\((decide (zN 0≥c.good))=false->Q (Exit.normal,zz1,zz4,99,1530000000000000000000000000000000000000013,(true::true::(decide (zN 0≥c.good)==false)::zq10),[]))))/\((!Vw.inn u k0Z)=false->Q (Exit.normal,zz1,zz4,99,1530000000000000000000000000000000000000013,(true::true::((!Vw.inn u k0Z)==false)::zq9),[]))))))/\((Vw.inn u k0Z)=false->(((!Vw.inn u k0Z)=true->(((decide (zN 0≥c.good))=true->Q (Exit.normal,zz1,zz10,99,1530000000000000000000000000000000000000017,(y3 (true::(decide (zN 0≥c.good)==true)::zq12)),[]))/\((decide (zN 0≥c.good))=false->Q (Exit.normal,zz1,zz4,99,1530000000000000000000000000000000000000013,(true::true::(decide (zN 0≥c.good)==false)::zq12),[]))))/\((!Vw.inn u k0Z)=false->Q (Exit.normal,zz1,zz4,99,1530000000000000000000000000000000000000013,(true::true::((!Vw.inn u k0Z)==false)::zq11),[])))))))):
 ∃p r,Ov prog c u v k0Z p=some r/\Q r:=by
 have hZ:(k0Z=0/\k1Z=1)\/(k0Z=1/\k1Z=2)\/(k0Z=2/\k1Z=3)\/(k0Z=3/\k1Z=4)\/(k0Z=4/\k1Z=5)\/(k0Z=5/\k1Z=6)\/(k0Z=6/\k1Z=7)\/(k0Z=7/\k1Z=8):=by omega
 clear hkZ;rcases hZ with⟨rfl,rfl⟩|⟨rfl,rfl⟩|⟨rfl,rfl⟩|⟨rfl,rfl⟩|⟨rfl,rfl⟩|⟨rfl,rfl⟩|⟨rfl,rfl⟩|⟨rfl,rfl⟩
 all_goals
  exact ZL H (fun g1=>ZL g1 (fun g2=>ZL g2 (fun g3=>⟨pD 11 59062,_,by kernel_rfl,g3⟩) (fun g3=>ZL g3 (fun g4=>ZL g4 (fun g5=>⟨pD 20 1162556725,_,by kernel_rfl,g5⟩) (fun g5=>⟨pD 20 2324818192,_,by kernel_rfl,g5⟩)) (fun g4=>⟨pD 20 472405,_,by kernel_rfl,g4⟩))) (fun g2=>ZL g2 (fun g3=>ZL g3 (fun g4=>⟨pD 20 1162438636,_,by kernel_rfl,g4⟩) (fun g4=>⟨pD 20 2324700103,_,by kernel_rfl,g4⟩)) (fun g3=>⟨pD 20 354316,_,by kernel_rfl,g3⟩))) (fun g1=>ZL g1 (fun g2=>ZL g2 (fun g3=>⟨pD 11 59065,_,by kernel_rfl,g3⟩) (fun g3=>ZL g3 (fun g4=>ZL g4 (fun g5=>⟨pD 20 1162556728,_,by kernel_rfl,g5⟩) (fun g5=>⟨pD 20 2324818195,_,by kernel_rfl,g5⟩)) (fun g4=>⟨pD 20 472408,_,by kernel_rfl,g4⟩))) (fun g2=>ZL g2 (fun g3=>ZL g3 (fun g4=>⟨pD 20 1162438639,_,by kernel_rfl,g4⟩) (fun g4=>⟨pD 20 2324700106,_,by kernel_rfl,g4⟩)) (fun g3=>⟨pD 20 354319,_,by kernel_rfl,g3⟩)))

theorem rdE (c:Cfg) (u v:Vw) (k:Nat) (Q:VC->Prop) (H:Q (Exit.exit 0,[some (ZN (List.zip QY (Q0 c k)) 3),some (ZN (List.zip QY (Q0 c k)) 4),some (ZN (List.zip QY (Q0 c k)) 5),some (ZN (List.zip QY (Q0 c k)) 11),some (ZN (List.zip QY (Q0 c k)) 12)],[yR 32 0 (Cs.lit (ZW u)),yR 32 0 (Cs.lit (ZW v)),yR 25 0 (Cs.lit [zI c.nodes,AC.sl 1043 0 0 c.np (some c.np),AC.sl 1070 0 0 c.ns (some c.ns),zI c.long,AC.sl 1097 0 0 c.nb (some c.nb),AC.sl 1114 0 0 c.nt (some c.nt),zI c.miss,zI c.good,zI c.fresh])],99,1000000000000000000000000000000000000000001,[decide (Int.ofNat k<Int.ofNat c.np)==false],[])):
 ∃p r,Ov prog c u v k p=some r/\Q r:=
 ⟨pD 1 2,_,by kernel_rfl,H⟩
def Ub (v:Vw):Prop:=∀i,i<8->0<=v.miss i/\0<=v.good i/\0<=v.score i
def Vy (l:List AC):Bool:=(List.range 8).all fun i=>decide (0<=ZP (l.getD (8+i) ZS))&&(decide (0<=ZP (l.getD (16+i) ZS))&&decide (0<=ZP (l.getD (24+i) ZS)))
theorem Rj (v:Vw):Vy (ZW v)=true↔Ub v:=by
 have e:∀i,i<8->ZP ((ZW v).getD (8+i) ZS)=v.miss i/\ZP ((ZW v).getD (16+i) ZS)=v.good i/\ZP ((ZW v).getD (24+i) ZS)=v.score i:=fun i hi=>by
  have a2:=(UF v i hi).1;have a3:=(UG v i hi).1;have a4:=(SJ v i hi).1;simp only[Nat.mul_one,Int.ofNat_eq_natCast,Int.toNat_natCast] at a2 a3 a4;exact⟨a2,a3,a4⟩
 unfold Vy;rw[List.all_eq_true];constructor
 . intro h i hi
   have h:=h i (List.mem_range.2 hi);obtain⟨e1,e2,e3⟩:=e i hi;rw[e1,e2,e3] at h;simp only[Bool.and_eq_true,decide_eq_true_eq] at h;exact h
 . intro h i hi
   have hi:=List.mem_range.1 hi;obtain⟨e1,e2,e3⟩:=e i hi;rw[e1,e2,e3];simp only[Bool.and_eq_true,decide_eq_true_eq];exact h i hi
def TF (c:Cfg) (nq:Nat):Bool:=decide (0<nq)&&(decide (1<=c.np/\1<=c.ns/\1<=c.nb)&&(decide (c.np<=1000)&&(decide (c.ns<=1000)&&(decide (c.nb<=1000)&&decide (c.nt<=1000)))))
theorem YX {k:Nat} {ms go:Int} {v u:Vw} (hu:ZD ⟨k,ms,go⟩ v=u) {a:Bool} {m x s:Int} (h1:Vz ⟨k+1,ms,go⟩ k (v.inn k) (v.got k) (v.miss k) (v.good k)=a:=by first|(simp_all[Vz,Vf,Ve,UT,ZD];done)|(simp_all[Vz,Vf,Ve,UT,ZD];omega)|fail) (h2:Vf ⟨k+1,ms,go⟩ k (v.got k) (v.miss k)=m:=by first|(simp_all[Vz,Vf,Ve,UT,ZD];done)|(simp_all[Vz,Vf,Ve,UT,ZD];omega)|fail) (h3:Ve ⟨k+1,ms,go⟩ k (v.got k) (v.good k)=x:=by first|(simp_all[Vz,Vf,Ve,UT,ZD];done)|(simp_all[Vz,Vf,Ve,UT,ZD];omega)|fail) (h4:UT ⟨k+1,ms,go⟩ k (v.got k) (v.score k)=s:=by first|(simp_all[Vz,Vf,Ve,UT,ZD];done)|(simp_all[Vz,Vf,Ve,UT,ZD];omega)|fail):
 ZD ⟨k+1,ms,go⟩ v=VW k a m x s false u:=by
 subst hu h1 h2 h3 h4;unfold ZD VW;have e:∀i,i≠k->(i<k+1↔i<k):=fun i h=>by omega
 simp only[Vw.mk.injEq,and_true];refine⟨?_,?_,?_,?_,?_⟩<;>(funext i;by_cases hi:i=k)
 all_goals (first|(subst hi;simp;done)|(subst hi;simp[RL];done)|(have e2:=e i hi;by_cases hk:i<k<;>simp[hi,Vz,Vf,Ve,UT,RL,hk,e2]))
theorem VI {z:Int} (h:0<=z):IntKind.wrap .i64 (Zi z)=Zi z:=XG _ (by unfold Zi;omega) (by unfold Zi;omega)
def RU (c:Cfg) (v w:Vw) (k:Nat) (r:VC):Prop:=
 ZZ r.2.2.2.2.2.1/\r.2.2.2.2.2.2=[]/\r.2.2.2.2.1<=100000000000000000000000000000000000000000000000000/\r.2.2.2.1=99/\r.1= .normal/\r.2.1=(Q0 c (k+1)).map some/\r.2.2.1=[some (Yv (ZD ⟨k+1,c.miss,c.good⟩ v)),some (Yv w),some (M6 c)]
theorem jjms (c:Cfg) (v w:Vw) (hk:0<c.np) (hp:Ub v):∃p r,Ov prog c (ZD ⟨0,c.miss,c.good⟩ v) w 0 p=some r/\RU c v w 0 r:=by
 obtain⟨p1,p2,p3⟩:=hp 0 (by omega);obtain⟨u,hu⟩:∃u,ZD ⟨0,c.miss,c.good⟩ v=u:=⟨_,rfl⟩
 have e1:u.inn 0=v.inn 0:=by rw[<- hu];rfl
 have e2:u.got 0=v.got 0:=by rw[<- hu];rfl
 have e3:u.miss 0=v.miss 0:=by rw[<- hu];rfl
 have e4:u.good 0=v.good 0:=by rw[<- hu];rfl
 have e5:u.score 0=v.score 0:=by rw[<- hu];rfl
 have w1:=VI p1;have w2:=VI p2;rw[hu];refine(RA 0 1 ⟨by decide,rfl⟩) c u w _ ?_;simp only[e1,e2,e3,e4,e5,w1,w2]
 (repeat' (first|refine⟨fun h=>?_,fun h=>?_⟩|fail))
 all_goals (first|(exfalso;simp_all;done)|skip)
 all_goals (refine⟨?_,rfl,by dsimp only;omega,rfl,rfl,rfl,?_⟩)
 all_goals first
  |(rw[YX (k:=0) (ms:=c.miss) (go:=c.good) (v:=v) (u:=u) hu (a:=true) (m:=0) (x:=Zi (v.good 0)) (s:=Zn (v.score 0))];rfl)
  |(rw[YX (k:=0) (ms:=c.miss) (go:=c.good) (v:=v) (u:=u) hu (a:=true) (m:=Zi (v.miss 0)) (x:=0) (s:=Zj (v.score 0))];rfl)
  |(rw[YX (k:=0) (ms:=c.miss) (go:=c.good) (v:=v) (u:=u) hu (a:=false) (m:=0) (x:=Zi (v.good 0)) (s:=Zn (v.score 0))];rfl)
  |(rw[YX (k:=0) (ms:=c.miss) (go:=c.good) (v:=v) (u:=u) hu (a:=false) (m:=Zi (v.miss 0)) (x:=0) (s:=Zj (v.score 0))];rfl)
  |(rw[YX (k:=0) (ms:=c.miss) (go:=c.good) (v:=v) (u:=u) hu (a:=v.inn 0) (m:=0) (x:=Zi (v.good 0)) (s:=Zn (v.score 0))];rfl)
  |(rw[YX (k:=0) (ms:=c.miss) (go:=c.good) (v:=v) (u:=u) hu (a:=v.inn 0) (m:=Zi (v.miss 0)) (x:=0) (s:=Zj (v.score 0))];rfl)
  |(simp_all[ZZ,Th];done)
  |(simp_all[ZZ,Th];omega)
theorem jjmr (c:Cfg) (v w:Vw) (hk:1<c.np) (hp:Ub v):∃p r,Ov prog c (ZD ⟨1,c.miss,c.good⟩ v) w 1 p=some r/\RU c v w 1 r:=by
 obtain⟨p1,p2,p3⟩:=hp 1 (by omega);obtain⟨u,hu⟩:∃u,ZD ⟨1,c.miss,c.good⟩ v=u:=⟨_,rfl⟩
 have e1:u.inn 1=v.inn 1:=by rw[<- hu];rfl
 have e2:u.got 1=v.got 1:=by rw[<- hu];rfl
 have e3:u.miss 1=v.miss 1:=by rw[<- hu];rfl
 have e4:u.good 1=v.good 1:=by rw[<- hu];rfl
 have e5:u.score 1=v.score 1:=by rw[<- hu];rfl
 have w1:=VI p1;have w2:=VI p2;rw[hu];refine(RA 1 2 ⟨by decide,rfl⟩) c u w _ ?_;simp only[e1,e2,e3,e4,e5,w1,w2]
 (repeat' (first|refine⟨fun h=>?_,fun h=>?_⟩|fail))
 all_goals (first|(exfalso;simp_all;done)|skip)
 all_goals (refine⟨?_,rfl,by dsimp only;omega,rfl,rfl,rfl,?_⟩)
 all_goals first
  |(rw[YX (k:=1) (ms:=c.miss) (go:=c.good) (v:=v) (u:=u) hu (a:=true) (m:=0) (x:=Zi (v.good 1)) (s:=Zn (v.score 1))];rfl)
  |(rw[YX (k:=1) (ms:=c.miss) (go:=c.good) (v:=v) (u:=u) hu (a:=true) (m:=Zi (v.miss 1)) (x:=0) (s:=Zj (v.score 1))];rfl)
  |(rw[YX (k:=1) (ms:=c.miss) (go:=c.good) (v:=v) (u:=u) hu (a:=false) (m:=0) (x:=Zi (v.good 1)) (s:=Zn (v.score 1))];rfl)
  |(rw[YX (k:=1) (ms:=c.miss) (go:=c.good) (v:=v) (u:=u) hu (a:=false) (m:=Zi (v.miss 1)) (x:=0) (s:=Zj (v.score 1))];rfl)
  |(rw[YX (k:=1) (ms:=c.miss) (go:=c.good) (v:=v) (u:=u) hu (a:=v.inn 1) (m:=0) (x:=Zi (v.good 1)) (s:=Zn (v.score 1))];rfl)
  |(rw[YX (k:=1) (ms:=c.miss) (go:=c.good) (v:=v) (u:=u) hu (a:=v.inn 1) (m:=Zi (v.miss 1)) (x:=0) (s:=Zj (v.score 1))];rfl)
  |(simp_all[ZZ,Th];done)
  |(simp_all[ZZ,Th];omega)
theorem jjmq (c:Cfg) (v w:Vw) (hk:2<c.np) (hp:Ub v):∃p r,Ov prog c (ZD ⟨2,c.miss,c.good⟩ v) w 2 p=some r/\RU c v w 2 r:=by
 obtain⟨p1,p2,p3⟩:=hp 2 (by omega);obtain⟨u,hu⟩:∃u,ZD ⟨2,c.miss,c.good⟩ v=u:=⟨_,rfl⟩
 have e1:u.inn 2=v.inn 2:=by rw[<- hu];rfl
 have e2:u.got 2=v.got 2:=by rw[<- hu];rfl
 have e3:u.miss 2=v.miss 2:=by rw[<- hu];rfl
 have e4:u.good 2=v.good 2:=by rw[<- hu];rfl
 have e5:u.score 2=v.score 2:=by rw[<- hu];rfl
 have w1:=VI p1;have w2:=VI p2;rw[hu];refine(RA 2 3 ⟨by decide,rfl⟩) c u w _ ?_;simp only[e1,e2,e3,e4,e5,w1,w2]
 (repeat' (first|refine⟨fun h=>?_,fun h=>?_⟩|fail))
 all_goals (first|(exfalso;simp_all;done)|skip)
 all_goals (refine⟨?_,rfl,by dsimp only;omega,rfl,rfl,rfl,?_⟩)
 all_goals first
  |(rw[YX (k:=2) (ms:=c.miss) (go:=c.good) (v:=v) (u:=u) hu (a:=true) (m:=0) (x:=Zi (v.good 2)) (s:=Zn (v.score 2))];rfl)
  |(rw[YX (k:=2) (ms:=c.miss) (go:=c.good) (v:=v) (u:=u) hu (a:=true) (m:=Zi (v.miss 2)) (x:=0) (s:=Zj (v.score 2))];rfl)
  |(rw[YX (k:=2) (ms:=c.miss) (go:=c.good) (v:=v) (u:=u) hu (a:=false) (m:=0) (x:=Zi (v.good 2)) (s:=Zn (v.score 2))];rfl)
  |(rw[YX (k:=2) (ms:=c.miss) (go:=c.good) (v:=v) (u:=u) hu (a:=false) (m:=Zi (v.miss 2)) (x:=0) (s:=Zj (v.score 2))];rfl)
  |(rw[YX (k:=2) (ms:=c.miss) (go:=c.good) (v:=v) (u:=u) hu (a:=v.inn 2) (m:=0) (x:=Zi (v.good 2)) (s:=Zn (v.score 2))];rfl)
  |(rw[YX (k:=2) (ms:=c.miss) (go:=c.good) (v:=v) (u:=u) hu (a:=v.inn 2) (m:=Zi (v.miss 2)) (x:=0) (s:=Zj (v.score 2))];rfl)
  |(simp_all[ZZ,Th];done)
  |(simp_all[ZZ,Th];omega)
theorem jjmp (c:Cfg) (v w:Vw) (hk:3<c.np) (hp:Ub v):∃p r,Ov prog c (ZD ⟨3,c.miss,c.good⟩ v) w 3 p=some r/\RU c v w 3 r:=by
 obtain⟨p1,p2,p3⟩:=hp 3 (by omega);obtain⟨u,hu⟩:∃u,ZD ⟨3,c.miss,c.good⟩ v=u:=⟨_,rfl⟩
 have e1:u.inn 3=v.inn 3:=by rw[<- hu];rfl
 have e2:u.got 3=v.got 3:=by rw[<- hu];rfl
 have e3:u.miss 3=v.miss 3:=by rw[<- hu];rfl
 have e4:u.good 3=v.good 3:=by rw[<- hu];rfl
 have e5:u.score 3=v.score 3:=by rw[<- hu];rfl
 have w1:=VI p1;have w2:=VI p2;rw[hu];refine(RA 3 4 ⟨by decide,rfl⟩) c u w _ ?_;simp only[e1,e2,e3,e4,e5,w1,w2]
 (repeat' (first|refine⟨fun h=>?_,fun h=>?_⟩|fail))
 all_goals (first|(exfalso;simp_all;done)|skip)
 all_goals (refine⟨?_,rfl,by dsimp only;omega,rfl,rfl,rfl,?_⟩)
 all_goals first
  |(rw[YX (k:=3) (ms:=c.miss) (go:=c.good) (v:=v) (u:=u) hu (a:=true) (m:=0) (x:=Zi (v.good 3)) (s:=Zn (v.score 3))];rfl)
  |(rw[YX (k:=3) (ms:=c.miss) (go:=c.good) (v:=v) (u:=u) hu (a:=true) (m:=Zi (v.miss 3)) (x:=0) (s:=Zj (v.score 3))];rfl)
  |(rw[YX (k:=3) (ms:=c.miss) (go:=c.good) (v:=v) (u:=u) hu (a:=false) (m:=0) (x:=Zi (v.good 3)) (s:=Zn (v.score 3))];rfl)
  |(rw[YX (k:=3) (ms:=c.miss) (go:=c.good) (v:=v) (u:=u) hu (a:=false) (m:=Zi (v.miss 3)) (x:=0) (s:=Zj (v.score 3))];rfl)
  |(rw[YX (k:=3) (ms:=c.miss) (go:=c.good) (v:=v) (u:=u) hu (a:=v.inn 3) (m:=0) (x:=Zi (v.good 3)) (s:=Zn (v.score 3))];rfl)
  |(rw[YX (k:=3) (ms:=c.miss) (go:=c.good) (v:=v) (u:=u) hu (a:=v.inn 3) (m:=Zi (v.miss 3)) (x:=0) (s:=Zj (v.score 3))];rfl)
  |(simp_all[ZZ,Th];done)
  |(simp_all[ZZ,Th];omega)
theorem jjmo (c:Cfg) (v w:Vw) (hk:4<c.np) (hp:Ub v):∃p r,Ov prog c (ZD ⟨4,c.miss,c.good⟩ v) w 4 p=some r/\RU c v w 4 r:=by
 obtain⟨p1,p2,p3⟩:=hp 4 (by omega);obtain⟨u,hu⟩:∃u,ZD ⟨4,c.miss,c.good⟩ v=u:=⟨_,rfl⟩
 have e1:u.inn 4=v.inn 4:=by rw[<- hu];rfl
 have e2:u.got 4=v.got 4:=by rw[<- hu];rfl
 have e3:u.miss 4=v.miss 4:=by rw[<- hu];rfl
 have e4:u.good 4=v.good 4:=by rw[<- hu];rfl
 have e5:u.score 4=v.score 4:=by rw[<- hu];rfl
 have w1:=VI p1;have w2:=VI p2;rw[hu];refine(RA 4 5 ⟨by decide,rfl⟩) c u w _ ?_;simp only[e1,e2,e3,e4,e5,w1,w2]
 (repeat' (first|refine⟨fun h=>?_,fun h=>?_⟩|fail))
 all_goals (first|(exfalso;simp_all;done)|skip)
 all_goals (refine⟨?_,rfl,by dsimp only;omega,rfl,rfl,rfl,?_⟩)
 all_goals first
  |(rw[YX (k:=4) (ms:=c.miss) (go:=c.good) (v:=v) (u:=u) hu (a:=true) (m:=0) (x:=Zi (v.good 4)) (s:=Zn (v.score 4))];rfl)
  |(rw[YX (k:=4) (ms:=c.miss) (go:=c.good) (v:=v) (u:=u) hu (a:=true) (m:=Zi (v.miss 4)) (x:=0) (s:=Zj (v.score 4))];rfl)
  |(rw[YX (k:=4) (ms:=c.miss) (go:=c.good) (v:=v) (u:=u) hu (a:=false) (m:=0) (x:=Zi (v.good 4)) (s:=Zn (v.score 4))];rfl)
  |(rw[YX (k:=4) (ms:=c.miss) (go:=c.good) (v:=v) (u:=u) hu (a:=false) (m:=Zi (v.miss 4)) (x:=0) (s:=Zj (v.score 4))];rfl)
  |(rw[YX (k:=4) (ms:=c.miss) (go:=c.good) (v:=v) (u:=u) hu (a:=v.inn 4) (m:=0) (x:=Zi (v.good 4)) (s:=Zn (v.score 4))];rfl)
  |(rw[YX (k:=4) (ms:=c.miss) (go:=c.good) (v:=v) (u:=u) hu (a:=v.inn 4) (m:=Zi (v.miss 4)) (x:=0) (s:=Zj (v.score 4))];rfl)
  |(simp_all[ZZ,Th];done)
  |(simp_all[ZZ,Th];omega)
theorem jjmn (c:Cfg) (v w:Vw) (hk:5<c.np) (hp:Ub v):∃p r,Ov prog c (ZD ⟨5,c.miss,c.good⟩ v) w 5 p=some r/\RU c v w 5 r:=by
 obtain⟨p1,p2,p3⟩:=hp 5 (by omega);obtain⟨u,hu⟩:∃u,ZD ⟨5,c.miss,c.good⟩ v=u:=⟨_,rfl⟩
 have e1:u.inn 5=v.inn 5:=by rw[<- hu];rfl
 have e2:u.got 5=v.got 5:=by rw[<- hu];rfl
 have e3:u.miss 5=v.miss 5:=by rw[<- hu];rfl
 have e4:u.good 5=v.good 5:=by rw[<- hu];rfl
 have e5:u.score 5=v.score 5:=by rw[<- hu];rfl
 have w1:=VI p1;have w2:=VI p2;rw[hu];refine(RA 5 6 ⟨by decide,rfl⟩) c u w _ ?_;simp only[e1,e2,e3,e4,e5,w1,w2]
 (repeat' (first|refine⟨fun h=>?_,fun h=>?_⟩|fail))
 all_goals (first|(exfalso;simp_all;done)|skip)
 all_goals (refine⟨?_,rfl,by dsimp only;omega,rfl,rfl,rfl,?_⟩)
 all_goals first
  |(rw[YX (k:=5) (ms:=c.miss) (go:=c.good) (v:=v) (u:=u) hu (a:=true) (m:=0) (x:=Zi (v.good 5)) (s:=Zn (v.score 5))];rfl)
  |(rw[YX (k:=5) (ms:=c.miss) (go:=c.good) (v:=v) (u:=u) hu (a:=true) (m:=Zi (v.miss 5)) (x:=0) (s:=Zj (v.score 5))];rfl)
  |(rw[YX (k:=5) (ms:=c.miss) (go:=c.good) (v:=v) (u:=u) hu (a:=false) (m:=0) (x:=Zi (v.good 5)) (s:=Zn (v.score 5))];rfl)
  |(rw[YX (k:=5) (ms:=c.miss) (go:=c.good) (v:=v) (u:=u) hu (a:=false) (m:=Zi (v.miss 5)) (x:=0) (s:=Zj (v.score 5))];rfl)
  |(rw[YX (k:=5) (ms:=c.miss) (go:=c.good) (v:=v) (u:=u) hu (a:=v.inn 5) (m:=0) (x:=Zi (v.good 5)) (s:=Zn (v.score 5))];rfl)
  |(rw[YX (k:=5) (ms:=c.miss) (go:=c.good) (v:=v) (u:=u) hu (a:=v.inn 5) (m:=Zi (v.miss 5)) (x:=0) (s:=Zj (v.score 5))];rfl)
  |(simp_all[ZZ,Th];done)
  |(simp_all[ZZ,Th];omega)
theorem jjmm (c:Cfg) (v w:Vw) (hk:6<c.np) (hp:Ub v):∃p r,Ov prog c (ZD ⟨6,c.miss,c.good⟩ v) w 6 p=some r/\RU c v w 6 r:=by
 obtain⟨p1,p2,p3⟩:=hp 6 (by omega);obtain⟨u,hu⟩:∃u,ZD ⟨6,c.miss,c.good⟩ v=u:=⟨_,rfl⟩
 have e1:u.inn 6=v.inn 6:=by rw[<- hu];rfl
 have e2:u.got 6=v.got 6:=by rw[<- hu];rfl
 have e3:u.miss 6=v.miss 6:=by rw[<- hu];rfl
 have e4:u.good 6=v.good 6:=by rw[<- hu];rfl
 have e5:u.score 6=v.score 6:=by rw[<- hu];rfl
 have w1:=VI p1;have w2:=VI p2;rw[hu];refine(RA 6 7 ⟨by decide,rfl⟩) c u w _ ?_;simp only[e1,e2,e3,e4,e5,w1,w2]
 (repeat' (first|refine⟨fun h=>?_,fun h=>?_⟩|fail))
 all_goals (first|(exfalso;simp_all;done)|skip)
 all_goals (refine⟨?_,rfl,by dsimp only;omega,rfl,rfl,rfl,?_⟩)
 all_goals first
  |(rw[YX (k:=6) (ms:=c.miss) (go:=c.good) (v:=v) (u:=u) hu (a:=true) (m:=0) (x:=Zi (v.good 6)) (s:=Zn (v.score 6))];rfl)
  |(rw[YX (k:=6) (ms:=c.miss) (go:=c.good) (v:=v) (u:=u) hu (a:=true) (m:=Zi (v.miss 6)) (x:=0) (s:=Zj (v.score 6))];rfl)
  |(rw[YX (k:=6) (ms:=c.miss) (go:=c.good) (v:=v) (u:=u) hu (a:=false) (m:=0) (x:=Zi (v.good 6)) (s:=Zn (v.score 6))];rfl)
  |(rw[YX (k:=6) (ms:=c.miss) (go:=c.good) (v:=v) (u:=u) hu (a:=false) (m:=Zi (v.miss 6)) (x:=0) (s:=Zj (v.score 6))];rfl)
  |(rw[YX (k:=6) (ms:=c.miss) (go:=c.good) (v:=v) (u:=u) hu (a:=v.inn 6) (m:=0) (x:=Zi (v.good 6)) (s:=Zn (v.score 6))];rfl)
  |(rw[YX (k:=6) (ms:=c.miss) (go:=c.good) (v:=v) (u:=u) hu (a:=v.inn 6) (m:=Zi (v.miss 6)) (x:=0) (s:=Zj (v.score 6))];rfl)
  |(simp_all[ZZ,Th];done)
  |(simp_all[ZZ,Th];omega)
theorem jjml (c:Cfg) (v w:Vw) (hk:7<c.np) (hp:Ub v):∃p r,Ov prog c (ZD ⟨7,c.miss,c.good⟩ v) w 7 p=some r/\RU c v w 7 r:=by
 obtain⟨p1,p2,p3⟩:=hp 7 (by omega);obtain⟨u,hu⟩:∃u,ZD ⟨7,c.miss,c.good⟩ v=u:=⟨_,rfl⟩
 have e1:u.inn 7=v.inn 7:=by rw[<- hu];rfl
 have e2:u.got 7=v.got 7:=by rw[<- hu];rfl
 have e3:u.miss 7=v.miss 7:=by rw[<- hu];rfl
 have e4:u.good 7=v.good 7:=by rw[<- hu];rfl
 have e5:u.score 7=v.score 7:=by rw[<- hu];rfl
 have w1:=VI p1;have w2:=VI p2;rw[hu];refine(RA 7 8 ⟨by decide,rfl⟩) c u w _ ?_;simp only[e1,e2,e3,e4,e5,w1,w2]
 (repeat' (first|refine⟨fun h=>?_,fun h=>?_⟩|fail))
 all_goals (first|(exfalso;simp_all;done)|skip)
 all_goals (refine⟨?_,rfl,by dsimp only;omega,rfl,rfl,rfl,?_⟩)
 all_goals first
  |(rw[YX (k:=7) (ms:=c.miss) (go:=c.good) (v:=v) (u:=u) hu (a:=true) (m:=0) (x:=Zi (v.good 7)) (s:=Zn (v.score 7))];rfl)
  |(rw[YX (k:=7) (ms:=c.miss) (go:=c.good) (v:=v) (u:=u) hu (a:=true) (m:=Zi (v.miss 7)) (x:=0) (s:=Zj (v.score 7))];rfl)
  |(rw[YX (k:=7) (ms:=c.miss) (go:=c.good) (v:=v) (u:=u) hu (a:=false) (m:=0) (x:=Zi (v.good 7)) (s:=Zn (v.score 7))];rfl)
  |(rw[YX (k:=7) (ms:=c.miss) (go:=c.good) (v:=v) (u:=u) hu (a:=false) (m:=Zi (v.miss 7)) (x:=0) (s:=Zj (v.score 7))];rfl)
  |(rw[YX (k:=7) (ms:=c.miss) (go:=c.good) (v:=v) (u:=u) hu (a:=v.inn 7) (m:=0) (x:=Zi (v.good 7)) (s:=Zn (v.score 7))];rfl)
  |(rw[YX (k:=7) (ms:=c.miss) (go:=c.good) (v:=v) (u:=u) hu (a:=v.inn 7) (m:=Zi (v.miss 7)) (x:=0) (s:=Zj (v.score 7))];rfl)
  |(simp_all[ZZ,Th];done)
  |(simp_all[ZZ,Th];omega)
theorem jjjb {c:Cfg} {n:Nat} (hn:1120<=n):Zc n (M6 c):=by
 have hc:∀i,i<1120->Nat.blt i n=true:=fun i h=>by rw[Nat.blt_eq];omega
 exact XW (by simp[Yu,hc])
theorem jjj9 (c:Cfg) (v w:Vw) (h8:c.np<=8) (hp:Ub v) (k:Nat) (hk:k<c.np):∃p r,Ov prog c (ZD ⟨k,c.miss,c.good⟩ v) w k p=some r/\RU c v w k r:=by
 have:k<8:=by omega
 match k,this with
 |0,_=>exact jjms c v w hk hp
 |1,_=>exact jjmr c v w hk hp
 |2,_=>exact jjmq c v w hk hp
 |3,_=>exact jjmp c v w hk hp
 |4,_=>exact jjmo c v w hk hp
 |5,_=>exact jjmn c v w hk hp
 |6,_=>exact jjmm c v w hk hp
 |7,_=>exact jjml c v w hk hp
theorem DR (ms go:Int) (v:Vw):ZD ⟨0,ms,go⟩ v=v:=by
 cases v;simp[ZD,Vz,Vf,Ve,UT,RL]
theorem jjnn (c:Cfg) (v w:Vw) (h8:c.np<=8) (hp:Ub v):
 LoopV prog (ZY prog 75 0) QY GO ((Q0 c 0).map some) [some (Yv v),some (Yv w),some (M6 c)] 99 1134 (ZT 99 [(3,.c (.ptr 1000 0 0)),(4,.c (.ptr 1001 0 0))]) [(1000,Yv (ZD ⟨c.np,c.miss,c.good⟩ v)),(1001,Yv w)] 100000000000000000000000000000000000000000000000000 (.exit 0) none:=by
 have hz:=DR c.miss c.good v;refine Rx JN (fuel:=100) (str:=nSt) (nh:=1000000000000000000000000000000000000000000) (S:=Nat) (fun k=>k<=c.np) (fun k=>c.np-k) QY [] GO (Q0 c) (fun k=>[Yv (ZD ⟨k,c.miss,c.good⟩ v),Yv w,M6 c]) (by decide) (by decide) (by unfold ZQ;omega) (s0:=0) (Nat.zero_le _) (fun _=>⟨rfl,rfl⟩) (by kernel_rfl) (by rw[hz];exact BL.refl [Yv v,Yv w,M6 c]) (fun k _=>⟨rfl,?_⟩) ?_
 . intro b hb
   simp only[List.mem_cons,List.not_mem_nil,or_false] at hb;rcases hb with rfl|rfl|rfl
   . exact WA
   . exact WA
   . exact jjjb (by omega)
 intro k hk;rcases Nat.lt_or_ge k c.np with hlt|hge
 . obtain⟨p,r,h1,a1,a2,a3,a4,a5,a6,a7⟩:=jjj9 c v w h8 hp k hlt
   exact⟨p,[],r,h1,a1,a2,a3,a4,.inl ⟨a5,k+1,hlt,by show c.np-(k+1)<c.np-k;omega,by rw[a6];rfl,by rw[a7];exact BL.refl [Yv (ZD ⟨k+1,c.miss,c.good⟩ v),Yv w,M6 c]⟩⟩
 . obtain rfl:k=c.np:=by omega
   refine(?_:(∃p r,Ov prog c (ZD ⟨c.np,c.miss,c.good⟩ v) w c.np p=some r/\_)->_) (rdE c (ZD ⟨c.np,c.miss,c.good⟩ v) w c.np (XS 1134 100000000000000000000000000000000000000000000000000 99 QY [] GO (fun k=>k<=c.np) (fun k=>c.np-k) (Q0 c) (fun k=>[Yv (ZD ⟨k,c.miss,c.good⟩ v),Yv w,M6 c]) (.exit 0) [(3,.c (.ptr 1000 0 0)),(4,.c (.ptr 1001 0 0))] [(1000,Yv (ZD ⟨c.np,c.miss,c.good⟩ v)),(1001,Yv w)] c.np) ?_)
   . rintro⟨p,r,h1,h2⟩
     exact⟨p,[],r,h1,h2⟩
   . refine⟨by simp[ZZ],rfl,by dsimp only;omega,rfl,.inr ⟨by simp,rfl,fun q hq=>?_,fun p hpp=>?_⟩⟩
     . simp only[List.mem_cons,List.not_mem_nil,or_false] at hq
       rcases hq with rfl|rfl
       . exact⟨rfl,by simp[ZN]⟩
       . exact⟨rfl,by simp[ZN]⟩
     . simp only[List.mem_cons,List.not_mem_nil,or_false] at hpp
       rcases hpp with rfl|rfl
       . exact⟨by kernel_rfl,WA,_,List.mem_cons_self ..,BEq.refl _⟩
       . exact⟨by kernel_rfl,WA,_,List.mem_cons_of_mem _ (List.mem_cons_self ..),BEq.refl _⟩
def JR (c:Cfg) (_:Nat) (_:Nat->Int) (l:List AC):List AV->AV
 | []=>.agg (PB ⟨c.np,c.miss,c.good⟩ l)
 |_=>i64 0
def Ma (c:Cfg) (nq:Nat) (l:List AC):List AV->Bool
 | []=>decide (c.np<=8)&&(TF c nq&&Vy l)
 |_=>false
def pX (pre:Cfg->Nat->List AC->List AV->Bool):Y3->Bool
 |⟨c,nq,_,.agg l::r⟩=>Yx l&&pre c nq l r
 |_=>false
theorem E4 {G:AMem} (hG:(G.all fun p=>Nat.ble ZQ p.1)=true) {E:Env} (hE:Zz E) {f:FuncId} {R:Cfg->Nat->(Nat->Int)->List AC->List AV->AV} {pre:Cfg->Nat->List AC->List AV->Bool} (hf:∃(fn:Func) (c:Code),E.P.funcs[f]? =some fn/\fn.body=some c) (hres:∀c nq fq v r,WY (R c nq fq v r)=true)
 (run:∀c nq fq v r,pre c nq (ZW v) r=true->∃p lp q,ZB [] (ZJ E (fC E 300) f (.c (.ptr 5 0 0):: .agg (ZW v)::r) 1000 nSt (Y7 (G++Sv c nq fq) p lp))=some q/\Zp (R c nq fq (ZW v) r) q):ZC E.P f (Z9 (Xz G hG) (rV R) (pX pre)):=by
 refine Te hE (Xz G hG) (fuel:=300) (str:=nSt) hf (Ih hres) fun s hs=>?_
 unfold pX at hs;split at hs
 . rename_i c nq fq l r
   rw[Bool.and_eq_true] at hs;have e:=UJ hs.1;rw[e];rw[e] at hs;exact run c nq fq (Zk l) r hs.2
 . cases hs
def JB:Yq:=Z9 netRd (rV JR) (pX Ma)
theorem A9:ZC prog 75 JB:=by
 refine E4 (G:=mS) (by kernel_rfl) (E:=MH prog) JN ⟨_,_,Tryz.func75,rfl⟩ (fun c nq fq v r=>by unfold JR;split<;>rfl) fun c nq fq v r hr=>?_
 unfold Ma at hr;split at hr
 . simp only[TF,Bool.and_eq_true,decide_eq_true_eq] at hr
   obtain⟨h8,⟨hq,g1,g2,g3,g4,g5⟩,hp⟩:=hr;have hp:=(Rj v).1 hp;refine(?_:(∃p q,QZ (MH prog) 75 c nq fq v [] p [none,some (rdS (ZD ⟨c.np,c.miss,c.good⟩ v))]=some q/\Zp (.agg (PB ⟨c.np,c.miss,c.good⟩ (ZW v))) q)->_) (FH c nq fq v (ZD ⟨c.np,c.miss,c.good⟩ v) _ ?_)
   . rintro⟨p,q,h1,h2⟩
     exact⟨p,_,q,h1,h2⟩
   . have hs:=jjnn c v OD h8 hp
     refine⟨by rw[Eo];rfl,(by first|(unfold ZQ;omega)|(dsimp only;unfold ZQ;omega)),?_,fun q hq=>?_⟩
     . simp[ZZ,YZ,YU,YT,YO,YE,YF,WT,YW,Zu,Z6,Yk,Vw.len,hq]
       omega
     . rw[List.mem_singleton.1 hq]
       simp only[Nat.zero_add,Option.getD_some,Int.ofNat_eq_natCast,Int.sub_zero,Int.toNat_natCast] at hs ⊢;exact hs
 . cases hr
theorem Bi (z:Int) (Q:VF->Prop) (H:let zN:=Int.ofNat;(((decide (z<zN 16))=true->Q (.c (zU (zN 0)),[],1005,[decide (z<zN 16)==true],[]))/\((decide (z<zN 16))=false->(((decide (z<zN 64))=true->Q (.c (zU (zN 1)),[],1008,[decide (z<zN 64)==true,decide (z<zN 16)==false],[]))/\((decide (z<zN 64))=false->Q (.c (zU (zN 2)),[],1008,[decide (z<zN 64)==false,decide (z<zN 16)==false],[])))))):
 ∃p r,MA prog 102 .u16 z p=some r/\Q r:=
 ZL H (fun g1=>⟨pD 1 1,_,by kernel_rfl,g1⟩) (fun g1=>ZL g1 (fun g2=>⟨pD 2 5,_,by kernel_rfl,g2⟩) (fun g2=>⟨pD 2 8,_,by kernel_rfl,g2⟩))
theorem Bj (c:Cfg) (nq:Nat) (fq:Nat->Int) (v:Vw) (z:Int) (Q:VF->Prop) (H:let zN:=Int.ofNat;let zD:=Int.toNat;let zq0:List Bool:=[YM c nq fq,true];let zq1:List Bool:=(ABlk.inb (ABlk.mk true false 32 0 (Cs.lit (ZW v))) 0 (0+zD z*1+1))::(Zq Kd.b (List.getD (ZW v) (0+zD z*1) ZS))::(decide (zN 0<=z/\z<zN 8))::(decide (ZE c nq fq z<zN 0)==false)::zq0;let zq2:List Bool:=(ABlk.inb (ABlk.mk true false 32 0 (Cs.lit (ZW v))) 0 (24+zD z*1+1))::(Zq (Kd.i .u16) (List.getD (ZW v) (24+zD z*1) ZS))::(decide (zN 0<=z/\z<zN 8))::((!Zv (List.getD (ZW v) (0+zD z*1) ZS))==false)::zq1;let zq3:List Bool:=(decide (ZP (List.getD (ZW v) (24+zD z*1) ZS)<zN 16)==false)::zq2;(((decide (ZE c nq fq z<zN 0))=true->Q (.c (zU (zN 0)),[],1007,((decide (ZE c nq fq z<zN 0)==true)::zq0),[]))/\((decide (ZE c nq fq z<zN 0))=false->(((!Zv (List.getD (ZW v) (0+zD z*1) ZS))=true->Q (.c (zU (zN 3)),[],1013,(((!Zv (List.getD (ZW v) (0+zD z*1) ZS))==true)::zq1),[]))/\((!Zv (List.getD (ZW v) (0+zD z*1) ZS))=false->(((decide (ZP (List.getD (ZW v) (24+zD z*1) ZS)<zN 16))=true->Q (.c (zU (zN 1)),[],1024,((decide (ZP (List.getD (ZW v) (24+zD z*1) ZS)<zN 16)==true)::zq2),[]))/\((decide (ZP (List.getD (ZW v) (24+zD z*1) ZS)<zN 16))=false->(((decide (ZP (List.getD (ZW v) (24+zD z*1) ZS)<zN 64))=true->Q (.c (zU (zN 2)),[],1027,((decide (ZP (List.getD (ZW v) (24+zD z*1) ZS)<zN 64)==true)::zq3),[]))/\((decide (ZP (List.getD (ZW v) (24+zD z*1) ZS)<zN 64))=false->Q (.c (zU (zN 2)),[],1027,((decide (ZP (List.getD (ZW v) (24+zD z*1) ZS)<zN 64)==false)::zq3),[])))))))))):
 ∃p r,QZ (Or prog) 101 c nq fq v [i64 z] p []=some r/\Q r:=
 ZL H (fun g1=>⟨pD 1 1,_,by kernel_rfl,g1⟩) (fun g1=>ZL g1 (fun g2=>⟨pD 2 5,_,by kernel_rfl,g2⟩) (fun g2=>ZL g2 (fun g3=>⟨pD 4 17,_,by kernel_rfl,g3⟩) (fun g3=>ZL g3 (fun g4=>⟨pD 5 53,_,by kernel_rfl,g4⟩) (fun g4=>⟨pD 5 80,_,by kernel_rfl,g4⟩))))
def toE (P:Program) (s p s' p':Int) (path:List Dec):Option VF:=ZB [] (ZJ (E1 P) (fC (E1 P) 300) 121 [.agg [.v (.int .u16 s),.v (.int .i64 p)],.agg [.v (.int .u16 s'),.v (.int .i64 p')]] 1000 nSt (Y7 [] path []))
theorem Bk (s t s' t':Int) (Q:VF->Prop) (H:let zq0:List Bool:=[(s' !=s')==false,(s !=s)==false,true,true,true,true];let zq1:List Bool:=((t' !=t')==false)::((t !=t)==false)::y3 (true::(decide (s<s')==true)::zq0);let zq2:List Bool:=(decide (t<t')==false)::zq1;let zq3:List Bool:=(decide (s<s')==false)::zq0;let zq4:List Bool:=((t' !=t')==false)::((t !=t)==false)::y3 (true::(decide (s>s')==true)::zq3);let zq5:List Bool:=(decide (t<t')==false)::zq4;let zq6:List Bool:=((t' !=t')==false)::((t !=t)==false)::y3 (true::(decide (s>s')==false)::zq3);let zq7:List Bool:=(decide (t<t')==false)::zq6;let ze1:AV:=.c (zI (Int.ofNat 1));let ze0:AV:=.c (zI (Int.negSucc 0));(((decide (s<s'))=true->(((decide (t<t'))=true->Q (ze0,[],130000000000000000000000000000000000001003,(y3 ((decide (t<t')==true)::zq1)),[]))/\((decide (t<t'))=false->(((decide (t>t'))=true->Q (ze0,[],130000000000000000000000000000000000001003,(y3 ((decide (t>t')==true)::zq2)),[]))/\((decide (t>t'))=false->Q (ze0,[],130000000000000000000000000000000000001003,(y3 ((decide (t>t')==false)::zq2)),[]))))))/\((decide (s<s'))=false->(((decide (s>s'))=true->(((decide (t<t'))=true->Q (ze1,[],130000000000000000000000000000000000001003,(y3 ((decide (t<t')==true)::zq4)),[]))/\((decide (t<t'))=false->(((decide (t>t'))=true->Q (ze1,[],130000000000000000000000000000000000001003,(y3 ((decide (t>t')==true)::zq5)),[]))/\((decide (t>t'))=false->Q (ze1,[],130000000000000000000000000000000000001003,(y3 ((decide (t>t')==false)::zq5)),[]))))))/\((decide (s>s'))=false->(((decide (t<t'))=true->Q (ze0,[],130000000000000000000000000000000000001003,(y3 (y3 ((decide (t<t')==true)::zq6))),[]))/\((decide (t<t'))=false->(((decide (t>t'))=true->Q (ze1,[],130000000000000000000000000000000000001003,(y3 (y3 ((decide (t>t')==true)::zq7))),[]))/\((decide (t>t'))=false->Q (.c (zI (Int.ofNat 0)),[],130000000000000000000000000000000000001003,(y3 (y3 ((decide (t>t')==false)::zq7))),[])))))))))):
 ∃p r,toE prog s t s' t' p=some r/\Q r:=
 ZL H (fun g1=>ZL g1 (fun g2=>⟨pD 8 476,_,by kernel_rfl,g2⟩) (fun g2=>ZL g2 (fun g3=>⟨pD 9 1448,_,by kernel_rfl,g3⟩) (fun g3=>⟨pD 9 2177,_,by kernel_rfl,g3⟩))) (fun g1=>ZL g1 (fun g2=>ZL g2 (fun g3=>⟨pD 9 1430,_,by kernel_rfl,g3⟩) (fun g3=>ZL g3 (fun g4=>⟨pD 10 4346,_,by kernel_rfl,g4⟩) (fun g4=>⟨pD 10 6533,_,by kernel_rfl,g4⟩))) (fun g2=>ZL g2 (fun g3=>⟨pD 11 1457,_,by kernel_rfl,g3⟩) (fun g3=>ZL g3 (fun g4=>⟨pD 12 4373,_,by kernel_rfl,g4⟩) (fun g4=>⟨pD 13 6560,_,by kernel_rfl,g4⟩))))
def VP (z:Int):Int:=if z<16 then 0 else if z<64 then 1 else 2
def FD:List AV->AV
 | [.c (.v (.int .u16 z))]=>.c (.v (.int .u8 (VP z)))
 |_=>i64 0
def FC:List AV->Bool
 | [.c (.v (.int .u16 _))]=>true
 |_=>false
def Jy:Yq:=Z9 (Yf [] rfl) FD FC
theorem Ah:ZC prog 102 Jy:=by
 refine Te (E:=E1 prog) Xk (Yf [] rfl) (fuel:=300) (str:=nSt) ⟨_,_,Tryz.func102,rfl⟩ (fun s=>by unfold FD;split<;>rfl) fun s hs=>?_
 unfold FC at hs;split at hs
 . rename_i z
   refine(?_:(∃p q,MA prog 102 .u16 z p=some q/\Zp (.c (.v (.int .u8 (VP z)))) q)->_) (Bi z _ ?_)
   . rintro⟨p,q,h1,h2⟩
     exact⟨p,[],q,h1,h2⟩
   . (repeat' (first|refine⟨fun h=>?_,fun h=>?_⟩|fail))
     all_goals (refine⟨?_,(by first|(unfold ZQ;omega)|(dsimp only;unfold ZQ;omega)),by simp_all[ZZ],by simp⟩)
     all_goals (simp only[decide_eq_true_eq,decide_eq_false_iff_not,Int.ofNat_eq_natCast,Int.cast_ofNat_Int] at *)
     all_goals (refine congrArg (fun z=>AV.c (.v (.int .u8 z))) ?_;unfold VP)
     all_goals ((repeat' split)<;>first|rfl|(exfalso;omega))
 . cases hs
def W9 (hd:Int) (inn:Bool) (score:Int):Int:=if hd<0 then 0 else if inn=false then 3 else if score<16 then 1 else 2
def hlR (c:Cfg) (nq:Nat) (fq:Nat->Int) (l:List AC):List AV->AV
 | [.c (.v (.int .i64 z))]=>.c (.v (.int .u8 (W9 (ZE c nq fq z) (Zv (l.getD z.toNat ZS)) (ZP (l.getD (24+z.toNat) ZS)))))
 |_=>i64 0
def Hv:Yq:=Z9 netRd (rV hlR) (pW VM)
theorem JC:ZC prog 101 Hv:=by
 refine Ip (G:=mS) (by kernel_rfl) (E:=Or prog) KI ⟨_,_,Tryz.func101,rfl⟩ (fun c nq fq v r=>by unfold hlR;split<;>rfl) fun c nq fq v r hr=>?_
 unfold VM at hr;split at hr
 . rename_i z
   have h8:c.np<=8:=of_decide_eq_true hr;refine(?_:(∃p q,QZ (Or prog) 101 c nq fq v [i64 z] p []=some q/\Zp (.c (.v (.int .u8 (W9 (ZE c nq fq z) (Zv ((ZW v).getD z.toNat ZS)) (ZP ((ZW v).getD (24+z.toNat) ZS)))))) q)->_) (Bj c nq fq v z _ ?_)
   . rintro⟨p,q,h1,h2⟩
     exact⟨p,[],q,h1,h2⟩
   . by_cases hd:0<=ZE c nq fq z
     . obtain⟨z0,z1⟩:=Nz hd
       obtain⟨k,rfl⟩:=Int.eq_ofNat_of_zero_le z0;have hk:k<8:=by omega
       have a0:=Wc v k hk;have b0:=TJ v k hk;obtain⟨a4,b4⟩:=SJ v k hk;simp only[Nat.zero_add,Nat.mul_one,Int.ofNat_eq_natCast,Int.toNat_natCast] at a0 a4 b0 b4;simp only[Int.ofNat_eq_natCast,Int.toNat_natCast,Nat.zero_add,Nat.mul_one,a0,a4,b0,b4];obtain⟨h,hh⟩:∃h,ZE c nq fq (k:Int)=h:=⟨_,rfl⟩
       rw[hh] at hd ⊢;clear hh;have hn:¬h<0:=by omega
       obtain⟨b,hb⟩:∃b,v.inn k=b:=⟨_,rfl⟩
       obtain⟨sc,hsc⟩:∃b,v.score k=b:=⟨_,rfl⟩
       simp only[hb,hsc];cases b
       all_goals (repeat' (first|refine⟨fun h=>?_,fun h=>?_⟩|fail))
       all_goals (first|(exfalso;simp at *;done)|(exfalso;simp at *;omega)|skip)
       all_goals (refine⟨?_,(by first|(unfold ZQ;omega)|(dsimp only;unfold ZQ;omega)),?_,by simp⟩)
       all_goals (simp only[decide_eq_true_eq,decide_eq_false_iff_not,Int.ofNat_eq_natCast,Int.cast_ofNat_Int] at *)
       all_goals first
        |(refine congrArg (fun z=>AV.c (.v (.int .u8 z))) ?_;unfold W9;(repeat' split)<;>first|rfl|(exfalso;omega)|contradiction)
        |(simp[ZZ,YZ,YU,YT,YO,YE,YF,Yk,Vw.len];omega)
     . have e:decide (ZE c nq fq z<0)=true:=decide_eq_true (by omega)
       refine⟨fun h=>?_,fun h=>?_⟩
       . refine⟨?_,(by first|(unfold ZQ;omega)|(dsimp only;unfold ZQ;omega)),?_,by simp⟩
         . simp[W9,show ZE c nq fq z<0 by omega]
         . simp_all[ZZ,YZ,YU,YT,YO,YE,YF]
       . exfalso
         simp at h;omega
 . cases hr
def Mf (s p s' p':Int):Int:=if s<s' then -1 else if s'<s then 1 else if p<p' then -1 else if p'<p then 1 else 0
def toR:List AV->AV
 | [.agg [.v (.int .u16 s),.v (.int .i64 p)],.agg [.v (.int .u16 s'),.v (.int .i64 p')]]=>i64 (Mf s p s' p')
 |_=>i64 0
def toP:List AV->Bool
 | [.agg [.v (.int .u16 _),.v (.int .i64 _)],.agg [.v (.int .u16 _),.v (.int .i64 _)]]=>true
 |_=>false
def Cc:Yq:=Z9 (Yf [] rfl) toR toP
theorem Ch:ZC prog 121 Cc:=by
 refine Te (E:=E1 prog) Xk (Yf [] rfl) (fuel:=300) (str:=nSt) ⟨_,_,Tryz.func121,rfl⟩ (fun s=>by unfold toR;split<;>rfl) fun s hs=>?_
 unfold toP at hs;split at hs
 . rename_i s t s' t'
   refine(?_:(∃p q,toE prog s t s' t' p=some q/\Zp (i64 (Mf s t s' t')) q)->_) (Bk s t s' t' _ ?_)
   . rintro⟨p,q,h1,h2⟩
     exact⟨p,[],q,h1,h2⟩
   . (repeat' (first|refine⟨fun h=>?_,fun h=>?_⟩|fail))
     all_goals (refine⟨?_,(by first|(unfold ZQ;omega)|(dsimp only;unfold ZQ;omega)),by simp_all[ZZ],by simp⟩)
     all_goals (simp only[decide_eq_true_eq,decide_eq_false_iff_not,gt_iff_lt] at *)
     all_goals (refine congrArg i64 ?_;unfold Mf)
     all_goals ((repeat' split)<;>first|rfl|(exfalso;omega))
 . cases hs
def MU:Yq
 | [.c (.v (.int .u64 x))],_,_=>some (i64 (Lib.bitLen x.toNat),[],0,[decide (0<=x),decide (x<=18446744073709551615)])
 |_,_,_=>none
abbrev Pn (c:Cfg) (nq:Nat) (fq:Nat->Int) (v:Vw) (k:Nat):List AV:=[.c (.ptr 5 0 0),.c (.ptr 1000 0 0),i64 (Int.ofNat (ZK (YL c nq fq v) k)),i64 (Int.ofNat (ZK (YG c nq fq) k)),i64 (Int.ofNat k)]
def mdR (P:Program) (c:Cfg) (nq:Nat) (fq:Nat->Int) (v:Vw) (k:Nat) (path:List Dec):Option VC:=
 view ([0,3,4,5,7]++[]) (Y6++[1000]) (fC (Or P) 100 (ZY P 122 0) 1000000000000000000000000000000000000000000 nSt (WR 25 [0,3,4,5,7] (Y6++[1000]) (Pn c nq fq v k) (X2 c nq fq++[Yv v]) path []))
theorem md (c:Cfg) (nq:Nat) (fq:Nat->Int) (v:Vw) (k:Nat) (Q:VC->Prop) (H:let zN:=Int.ofNat;let zM:=ABlk.mk;let zq0:List Bool:=[YM c nq fq,true,decide (zN k<zN 8)==true];let zq1:List Bool:=(ABlk.inb (zM true false 32 0 (Cs.lit (ZW v))) 0 (0+Int.toNat (zN k)*1+1))::(Zq Kd.b (List.getD (ZW v) (0+Int.toNat (zN k)*1) ZS))::(decide (zN 0<=zN k/\zN k<zN 8))::(decide (ZE c nq fq (List.headD [zN k] (zN 0))<zN 0)==false)::zq0;let zs0:=fun (l:List (Option ABlk))=>yF 159 0 (Cs.lit [zI (zN 1),zI (Int.negSucc 0)])::yF 3 1 (yP c)::yF 3 1 (yS c)::yF 3 1 (yB c)::yF 85 3 (yT c)::yF 3 1 (Cs.arr nq fun k=>List.map AC.v ((fun i=>[Value.int .i64 (fq i)]) k))::yF 81 0 (Cs.lit [zI c.nodes,AC.sl 0 0 0 c.np none,AC.sl 1 0 0 c.ns none,zI c.long,AC.sl 2 0 0 c.nb none,AC.sl 3 0 0 c.nt none,zI c.miss,zI c.good,zI c.fresh,AC.sl 4 0 0 nq none])::yR 32 0 (Cs.lit (ZW v))::l;let zs1:=fun (l:List (Option AV))=>some (ZN (List.zip [0,3,4,5,7] (Pn c nq fq v k)) 0)::some (ZN (List.zip [0,3,4,5,7] (Pn c nq fq v k)) (0+1+1+1))::some (ZN (List.zip [0,3,4,5,7] (Pn c nq fq v k)) (0+1+1+1+1))::l;let zs2:=fun (l:List (Option AV))=>some (.c (zI (IntKind.wrap .i64 (zN (ZK (YG c nq fq) k)+zN 1))))::some (.c (zI (IntKind.wrap .i64 (zN k+zN 1))))::l;(((decide (zN k<zN 8))=true->(((decide (ZE c nq fq (List.headD [zN k] (zN 0))<zN 0))=true->Q (Exit.normal,(zs1 [some (ZN (List.zip [0,3,4,5,7] (Pn c nq fq v k)) (0+1+1+1+1+1)),some (.c (zI (IntKind.wrap .i64 (zN k+zN 1))))]),(zs0 []),25,1000000000000000000000000000000000000000008,((decide (ZE c nq fq (List.headD [zN k] (zN 0))<zN 0)==true)::zq0),[]))/\((decide (ZE c nq fq (List.headD [zN k] (zN 0))<zN 0))=false->(((Zv (List.getD (ZW v) (0+Int.toNat (zN k)*1) ZS))=true->Q (Exit.normal,(some (ZN (List.zip [0,3,4,5,7] (Pn c nq fq v k)) 0)::some (ZN (List.zip [0,3,4,5,7] (Pn c nq fq v k)) (0+1+1+1))::some (.c (zI (IntKind.wrap .i64 (zN (ZK (YL c nq fq v) k)+zN 1))))::zs2 []),(zs0 []),25,1000000000000000000000000000000000000000018,((Zv (List.getD (ZW v) (0+Int.toNat (zN k)*1) ZS)==true)::zq1),[]))/\((Zv (List.getD (ZW v) (0+Int.toNat (zN k)*1) ZS))=false->Q (Exit.normal,(zs1 (zs2 [])),(zs0 []),25,1000000000000000000000000000000000000000015,((Zv (List.getD (ZW v) (0+Int.toNat (zN k)*1) ZS)==false)::zq1),[]))))))/\((decide (zN k<zN 8))=false->Q (Exit.exit 0,(zs1 [some (ZN (List.zip [0,3,4,5,7] (Pn c nq fq v k)) (0+1+1+1+1+1)),some (ZN (List.zip [0,3,4,5,7] (Pn c nq fq v k)) (0+1+1+1+1+1+1+1))]),(zs0 []),25,1000000000000000000000000000000000000000001,[decide (zN k<zN 8)==false],[])))):
 ∃p r,mdR prog c nq fq v k p=some r/\Q r:=
 ZL H (fun g1=>ZL g1 (fun g2=>⟨pD 2 4,_,by kernel_rfl,g2⟩) (fun g2=>ZL g2 (fun g3=>⟨pD 3 16,_,by kernel_rfl,g3⟩) (fun g3=>⟨pD 3 25,_,by kernel_rfl,g3⟩))) (fun g1=>⟨pD 1 2,_,by kernel_rfl,g1⟩)
theorem jjno (c:Cfg) (nq:Nat) (fq:Nat->Int) (v:Vw) {eblks:List (Option ABlk)} (heb:BL (X2 c nq fq++[Yv v]) eblks):
 LoopV prog (ZY prog 122 0) [0,3,4,5,7] (Y6++[1000]) ((Pn c nq fq v 0).map some) eblks 25 1004 (ZT 25 [(4,i64 (Int.ofNat (ZK (YL c nq fq v) 8))),(5,i64 (Int.ofNat (ZK (YG c nq fq) 8)))]) [] 100000000000000000000000000000000000000000000000000 (.exit 0) none:=by
 refine Rx KI (fuel:=100) (str:=nSt) (nh:=1000000000000000000000000000000000000000000) (S:=Nat) (fun k=>k<=8) (fun k=>8-k) [0,3,4,5,7] [] (Y6++[1000]) (Pn c nq fq v) (fun _=>X2 c nq fq++[Yv v]) (by decide) (by decide) (by unfold ZQ;omega) (s0:=0) (by omega) (fun _=>⟨rfl,rfl⟩) (by kernel_rfl) heb (fun k _=>⟨rfl,?_⟩) ?_
 . intro b hb
   rcases List.mem_append.1 hb with h|h
   . exact Dv (by omega) b h
   . rw[List.mem_singleton.1 h];exact WA
 intro k hk;refine(?_:(∃p r,mdR prog c nq fq v k p=some r/\_)->_) (md c nq fq v k (XS 1004 100000000000000000000000000000000000000000000000000 25 [0,3,4,5,7] [] (Y6++[1000]) (fun k=>k<=8) (fun k=>8-k) (Pn c nq fq v) (fun _=>X2 c nq fq++[Yv v]) (.exit 0) [(4,i64 (Int.ofNat (ZK (YL c nq fq v) 8))),(5,i64 (Int.ofNat (ZK (YG c nq fq) 8)))] [] k) ?_)
 . rintro⟨p,r,h1,h2⟩
   exact⟨p,[],r,h1,h2⟩
 . have hb:=Rt (YG c nq fq) k
   have hi:=Rt (YL c nq fq v) k
   have nx:∀{a b:Int} {i j:Nat},i=ZK (YL c nq fq v) (k+1)->j=ZK (YG c nq fq) (k+1)->k<8->a=Int.ofNat i->b=Int.ofNat j->[some (.c (.ptr 5 0 0)),some (.c (.ptr 1000 0 0)),some (i64 a),some (i64 b),some (i64 (Int.ofNat (k+1)))]=(Pn c nq fq v (k+1)).map some:=by
    rintro a b i j rfl rfl _ rfl rfl;rfl
   refine⟨fun c1=>⟨fun c2=>?_,fun c2=>⟨fun c3=>?_,fun c3=>?_⟩⟩,fun c1=>?_⟩
   . have hlt:k<8:=by simp at c1;omega
     have h0:YG c nq fq k=false:=by simpa[YG] using c2
     refine⟨?_,rfl,by dsimp only;omega,rfl,.inl ⟨rfl,k+1,by omega,by show 8-(k+1)<8-k;omega,?_,by exact BL.refl (X2 c nq fq++[Yv v])⟩⟩
     . simp[ZZ,hlt,c2,YZ,YU,YT,YO,YE,YF]
       simp at c2;omega
     . rw[Sg k (by omega)]
       exact nx (i:=ZK (YL c nq fq v) k) (j:=ZK (YG c nq fq) k) (by rw[Sj];simp[YL,h0]) (by rw[Sj];simp[h0]) hlt rfl rfl
   . have hlt:k<8:=by simp at c1;omega
     have h0:YG c nq fq k=true:=by simpa[YG] using c2
     rw[Wc v k hlt] at c3;refine⟨?_,rfl,by dsimp only;omega,rfl,.inl ⟨rfl,k+1,by omega,by show 8-(k+1)<8-k;omega,?_,by exact BL.refl (X2 c nq fq++[Yv v])⟩⟩
     . simp only[ZZ,List.forall_mem_cons,Wc v k hlt,TJ v k hlt]
       simp[ZZ,hlt,c3,YZ,YU,YT,YO,YE,YF,Vw.len,Yk,Z6];simp at c2;omega
     . rw[Sg k (by omega),Sg _ (by omega),Sg _ (by omega)]
       exact nx (i:=ZK (YL c nq fq v) k+1) (j:=ZK (YG c nq fq) k+1) (by rw[Sj];simp[YL,h0,c3]) (by rw[Sj];simp[h0]) hlt rfl rfl
   . have hlt:k<8:=by simp at c1;omega
     have h0:YG c nq fq k=true:=by simpa[YG] using c2
     rw[Wc v k hlt] at c3;refine⟨?_,rfl,by dsimp only;omega,rfl,.inl ⟨rfl,k+1,by omega,by show 8-(k+1)<8-k;omega,?_,by exact BL.refl (X2 c nq fq++[Yv v])⟩⟩
     . simp only[ZZ,List.forall_mem_cons,Wc v k hlt,TJ v k hlt]
       simp[ZZ,hlt,c3,YZ,YU,YT,YO,YE,YF,Vw.len,Yk,Z6];simp at c2;omega
     . rw[Sg k (by omega),Sg _ (by omega)]
       exact nx (i:=ZK (YL c nq fq v) k) (j:=ZK (YG c nq fq) k+1) (by rw[Sj];simp[YL,h0,c3]) (by rw[Sj];simp[h0]) hlt rfl rfl
   . have hge:k=8:=by simp at c1;omega
     subst hge;refine⟨by simp[ZZ],rfl,by dsimp only;omega,rfl,.inr ⟨by simp,rfl,fun q hq=>?_,fun p hpp=>(by cases hpp)⟩⟩;simp only[List.mem_cons,List.not_mem_nil,or_false] at hq;rcases hq with rfl|rfl
     . exact⟨rfl,by simp[ZN]⟩
     . exact⟨rfl,by simp[ZN]⟩
def Wz (c:Cfg) (nq:Nat) (fq:Nat->Int) (l:List AC):Nat:=ZK (fun p=>YG c nq fq p&&Zv (l.getD p ZS)) 8
def Tm (c:Cfg) (nq:Nat) (fq:Nat->Int):Nat:=ZK (YG c nq fq) 8
abbrev Wa (v:Vw):List AC:=[.v (.bool (v.inn 0)),.v (.bool (v.inn 1)),.v (.bool (v.inn 2)),.v (.bool (v.inn 3)),.v (.bool (v.inn 4)),.v (.bool (v.inn 5)),.v (.bool (v.inn 6)),.v (.bool (v.inn 7))]
theorem jjkb (c:Cfg) (nq:Nat) (fq:Nat->Int) (v:Vw):Wz c nq fq (Wa v)=ZK (YL c nq fq v) 8:=
 Sf fun i hi=>by
  have:Zv ((Wa v).getD i ZS)=v.inn i:=by
   match i,hi with
   |0,_=>rfl
   |1,_=>rfl
   |2,_=>rfl
   |3,_=>rfl
   |4,_=>rfl
   |5,_=>rfl
   |6,_=>rfl
   |7,_=>rfl
  simp only[YL,this]
def PZ (c:Cfg) (nq:Nat) (fq:Nat->Int) (l:List AC) (_:List AV):AV:=.tup [i64 (Int.ofNat (Wz c nq fq (l.take 8))),i64 (Int.ofNat (Tm c nq fq))]
theorem Ax (c:Cfg) (nq:Nat) (fq:Nat->Int) (v:Vw) (Q:VF->Prop) (H:Q (.tup [.c (zI (Int.ofNat (ZK (YL c nq fq v) 8))),.c (zI (Int.ofNat (ZK (YG c nq fq) 8)))],[],100000000000000000000000000000000000000000000000004,[],[LoopV prog (ZY prog 122 0) [0,3,4,5,7] (Y6++[1000]) [some (.c (.ptr 5 0 0)),some (.c (.ptr 1000 0 0)),some (.c (zI (Int.ofNat 0))),some (.c (zI (Int.ofNat 0))),some (.c (zI (Int.ofNat 0)))] [yF 159 0 (Cs.lit [zI (Int.ofNat 1),zI (Int.negSucc 0)]),yF 3 1 (yP c),yF 3 1 (yS c),yF 3 1 (yB c),yF 85 3 (yT c),yF 3 1 (Cs.arr nq fun k=>List.map AC.v ((fun i=>[Value.int .i64 (fq i)]) k)),yF 81 0 (Cs.lit [zI c.nodes,AC.sl 0 0 0 c.np none,AC.sl 1 0 0 c.ns none,zI c.long,AC.sl 2 0 0 c.nb none,AC.sl 3 0 0 c.nt none,zI c.miss,zI c.good,zI c.fresh,AC.sl 4 0 0 nq none]),yR 32 0 (Cs.lit (ZW v))] 25 1004 (ZT 25 [(4,i64 (Int.ofNat (ZK (YL c nq fq v) 8))),(5,i64 (Int.ofNat (ZK (YG c nq fq) 8)))]) [] 100000000000000000000000000000000000000000000000000 (Exit.exit 0) none])):
 ∃p r,QZ (Or prog) 122 c nq fq v [] p [some ⟨[0,3,4,5,7],Y6++[1000],ZT 25 [(4,i64 (Int.ofNat (ZK (YL c nq fq v) 8))),(5,i64 (Int.ofNat (ZK (YG c nq fq) 8)))],[],100000000000000000000000000000000000000000000000000,.exit 0⟩]=some r/\Q r:=
 ⟨pD 0 0,_,by kernel_rfl,H⟩
theorem jjl9:ZC prog 122 (Z9 netRd (rV PZ) (pV fun _ r=>r.isEmpty)):=by
 refine IQ (E:=Or prog) KI ⟨_,_,Tryz.func122,rfl⟩ (fun _ _ _ _ _=>rfl) fun c nq fq v r hr=>?_
 obtain rfl:=List.isEmpty_iff.1 hr;refine(?_:(∃p q,QZ (Or prog) 122 c nq fq v [] p [some ⟨[0,3,4,5,7],Y6++[1000],ZT 25 [(4,i64 (Int.ofNat (ZK (YL c nq fq v) 8))),(5,i64 (Int.ofNat (ZK (YG c nq fq) 8)))],[],100000000000000000000000000000000000000000000000000,.exit 0⟩]=some q/\Zp (PZ c nq fq (ZW v) []) q)->_) (Ax c nq fq v _ ?_)
 . rintro⟨p,q,h1,h2⟩
   exact⟨p,_,q,h1,h2⟩
 . refine⟨by simp only[PZ,i64,Tm];rw[<- jjkb];rfl,(by first|(unfold ZQ;omega)|(dsimp only;unfold ZQ;omega)),by simp[ZZ],fun q hq=>?_⟩
   rw[List.mem_singleton.1 hq];exact jjno c nq fq v (BL.refl _)
def Hw:Yq:=Z9 netRd (rV PZ) (pV fun _ r=>r.isEmpty)
def ME (P:Program):Env:=⟨P,[(122,Hw)]⟩
theorem Ct:Zz (ME prog):=by
 refine Xp (fun f g h=>?_) (by kernel_rfl) (by kernel_rfl);simp only[ME,List.mem_cons,Prod.mk.injEq,List.not_mem_nil,or_false] at h;obtain⟨rfl,rfl⟩:=h;exact jjl9
def W5 (is all:Nat) (cmd:Int):Int:=if cmd<0\/is=0 then 4 else if is=all then 1 else if is=1 then 3 else 2
def Xw (c:Cfg) (nq:Nat) (fq:Nat->Int) (l:List AC) (cmd:Int):Int:=W5 (Wz c nq fq l) (Tm c nq fq) cmd
def MP (c:Cfg) (nq:Nat) (fq:Nat->Int) (l:List AC) (_:List AV):AV:=.c (.v (.int .u8 (Xw c nq fq (l.take 8) (ZP (l.getD 40 ZS)))))
theorem Aw (c:Cfg) (nq:Nat) (fq:Nat->Int) (v:Vw) (Q:VF->Prop) (H:let zN:=Int.ofNat;let zq0:List Bool:=true::true::(YM c nq fq)::(zu (zt (y3 (true::[]))));let zq1:List Bool:=(decide (Vw.command v<zN 0)==false)::zq0;let zq2:List Bool:=((zN (Wz c nq fq (Wa v))==zN 0)==false)::zq1;let zq3:List Bool:=((zN (Wz c nq fq (Wa v))==zN (Tm c nq fq))==false)::zq2;(((decide (Vw.command v<zN 0))=true->Q (.c (zU (zN 4)),[],1016,((decide (Vw.command v<zN 0)==true)::zq0),[]))/\((decide (Vw.command v<zN 0))=false->(((zN (Wz c nq fq (Wa v))==zN 0)=true->Q (.c (zU (zN 4)),[],1018,(((zN (Wz c nq fq (Wa v))==zN 0)==true)::zq1),[]))/\((zN (Wz c nq fq (Wa v))==zN 0)=false->(((zN (Wz c nq fq (Wa v))==zN (Tm c nq fq))=true->Q (.c (zU (zN 1)),[],1022,(((zN (Wz c nq fq (Wa v))==zN (Tm c nq fq))==true)::zq2),[]))/\((zN (Wz c nq fq (Wa v))==zN (Tm c nq fq))=false->(((zN (Wz c nq fq (Wa v))==zN 1)=true->Q (.c (zU (zN 3)),[],1025,(((zN (Wz c nq fq (Wa v))==zN 1)==true)::zq3),[]))/\((zN (Wz c nq fq (Wa v))==zN 1)=false->Q (.c (zU (zN 2)),[],1025,(((zN (Wz c nq fq (Wa v))==zN 1)==false)::zq3),[])))))))))):
 ∃p r,QZ (ME prog) 105 c nq fq v [] p []=some r/\Q r:=
 ZL H (fun g1=>⟨pD 3 1,_,by kernel_rfl,g1⟩) (fun g1=>ZL g1 (fun g2=>⟨pD 3 11,_,by kernel_rfl,g2⟩) (fun g2=>ZL g2 (fun g3=>⟨pD 4 47,_,by kernel_rfl,g3⟩) (fun g3=>ZL g3 (fun g4=>⟨pD 5 155,_,by kernel_rfl,g4⟩) (fun g4=>⟨pD 5 236,_,by kernel_rfl,g4⟩))))
def MR:Yq:=Z9 netRd (rV MP) (pV fun _ r=>r.isEmpty)
theorem jjlc:ZC prog 105 MR:=by
 refine IQ (E:=ME prog) Ct ⟨_,_,Tryz.func105,rfl⟩ (fun _ _ _ _ _=>rfl) fun c nq fq v r hr=>?_
 obtain rfl:=List.isEmpty_iff.1 hr;refine(?_:(∃p q,QZ (ME prog) 105 c nq fq v [] p []=some q/\Zp (MP c nq fq (ZW v) []) q)->_) (Aw c nq fq v _ ?_)
 . rintro⟨p,q,h1,h2⟩
   exact⟨p,_,q,h1,h2⟩
 . have hr:MP c nq fq (ZW v) []= .c (.v (.int .u8 (W5 (Wz c nq fq (Wa v)) (Tm c nq fq) v.command))):=rfl
   rw[hr];generalize Wz c nq fq (Wa v)=i;generalize Tm c nq fq=a
   (repeat' (first|refine⟨fun h=>?_,fun h=>?_⟩|fail))
   all_goals (refine⟨?_,(by first|(unfold ZQ;omega)|(dsimp only;unfold ZQ;omega)),?_,by simp⟩)
   all_goals (first|(simp_all[W5];done)|(simp_all[W5];omega)|(simp_all[ZZ,YZ,YU,YT,YO,YE,YF,WT,Yk,Z6,Vw.len];done)|(simp_all[ZZ,YZ,YU,YT,YO,YE,YF,WT,Yk,Z6,Vw.len];omega))
abbrev edgeL:List Bool:=[true,true,true,true,true,false,true,true,true,true,false,true,true,true,true,false,false,true,true,true,false,false,false,true,true]
def Zw:ABlk:=⟨false,false,184,0,.lit (edgeL.map fun b=>.v (.bool b))⟩
def mE:AMem:=[(YR 1,Zw)]
def Yn (a b:Int):Bool:=decide (b<5)&&edgeL.getD ((if 5<=a then 0 else a.toNat)*5+b.toNat) false
def edR (P:Program) (a b:Int) (path:List Dec):Option VF:=ZB [] (ZJ (E1 P) (fC (E1 P) 300) 106 [.c (.v (.int .u8 a)),.c (.v (.int .u8 b))] 1000 nSt (Y7 mE path []))
theorem ed (a b:Int) (Q:VF->Prop) (H:let zN:=Int.ofNat;let zD:=Int.toNat;let zs0:=fun (l:List AC)=>zB true::zB true::zB true::zB true::zB true::zB false::zB true::zB true::zB true::zB true::zB false::zB true::zB true::zB true::zB true::zB false::zB false::zB true::zB true::zB true::zB false::zB false::zB false::zB true::zB true::l;(((decide (a≥zN 5))=true->(((decide (b<zN 5))=true->Q (.c (zB (Zv (List.getD (zs0 []) (0+zD b*1) ZS))),[],1014,[ABlk.inb (ABlk.mk false false 184 0 (Cs.lit (zs0 []))) 0 (0+zD b*1+1),Zq Kd.b (List.getD (zs0 []) (0+zD b*1) ZS),decide (zN 0<=b/\b<zN 5),true,decide (b<zN 5)==true,decide (a≥zN 5)==true],[]))/\((decide (b<zN 5))=false->Q (.c (zB false),[],1009,[decide (b<zN 5)==false,decide (a≥zN 5)==true],[]))))/\((decide (a≥zN 5))=false->(((decide (b<zN 5))=true->Q (.c (zB (Zv (List.getD (zs0 []) (0+zD a*5+zD b*1) ZS))),[],1013,[ABlk.inb (ABlk.mk false false 184 0 (Cs.lit (zs0 []))) 0 (0+zD a*5+zD b*1+1),Zq Kd.b (List.getD (zs0 []) (0+zD a*5+zD b*1) ZS),decide (zN 0<=b/\b<zN 5),decide (zN 0<=a/\a<zN 5),decide (b<zN 5)==true,decide (a≥zN 5)==false],[]))/\((decide (b<zN 5))=false->Q (.c (zB false),[],1008,[decide (b<zN 5)==false,decide (a≥zN 5)==false],[])))))):
 ∃p r,edR prog a b p=some r/\Q r:=
 ZL H (fun g1=>ZL g1 (fun g2=>⟨pD 6 4,_,by kernel_rfl,g2⟩) (fun g2=>⟨pD 6 7,_,by kernel_rfl,g2⟩)) (fun g1=>ZL g1 (fun g2=>⟨pD 6 5,_,by kernel_rfl,g2⟩) (fun g2=>⟨pD 6 8,_,by kernel_rfl,g2⟩))
theorem E2 (a b:Nat) (ha:a<5) (hb:b<5):Zv (List.getD (edgeL.map fun b=>AC.v (.bool b)) (a*5+b) ZS)=edgeL.getD (a*5+b) false/\Zq .b (List.getD (edgeL.map fun b=>AC.v (.bool b)) (a*5+b) ZS)=true:=by
 have h:a*5+b<25:=by omega
 generalize a*5+b=k at h
 match k,h with
 |0,_=>exact⟨rfl,rfl⟩
 |1,_=>exact⟨rfl,rfl⟩
 |2,_=>exact⟨rfl,rfl⟩
 |3,_=>exact⟨rfl,rfl⟩
 |4,_=>exact⟨rfl,rfl⟩
 |5,_=>exact⟨rfl,rfl⟩
 |6,_=>exact⟨rfl,rfl⟩
 |7,_=>exact⟨rfl,rfl⟩
 |8,_=>exact⟨rfl,rfl⟩
 |9,_=>exact⟨rfl,rfl⟩
 |10,_=>exact⟨rfl,rfl⟩
 |11,_=>exact⟨rfl,rfl⟩
 |12,_=>exact⟨rfl,rfl⟩
 |13,_=>exact⟨rfl,rfl⟩
 |14,_=>exact⟨rfl,rfl⟩
 |15,_=>exact⟨rfl,rfl⟩
 |16,_=>exact⟨rfl,rfl⟩
 |17,_=>exact⟨rfl,rfl⟩
 |18,_=>exact⟨rfl,rfl⟩
 |19,_=>exact⟨rfl,rfl⟩
 |20,_=>exact⟨rfl,rfl⟩
 |21,_=>exact⟨rfl,rfl⟩
 |22,_=>exact⟨rfl,rfl⟩
 |23,_=>exact⟨rfl,rfl⟩
 |24,_=>exact⟨rfl,rfl⟩
 |n+25,h=>exact absurd h (by omega)
def MS:Yq:=Z9 (Yf mE (by kernel_rfl)) (fun| [.c (.v (.int .u8 a)),.c (.v (.int .u8 b))]=>bo (Yn a b)|_=>bo false) (fun| [.c (.v (.int .u8 a)),.c (.v (.int .u8 b))]=>decide (0<=a)&&decide (0<=b)|_=>false)
theorem jjnw:edgeL.map (fun b=>AC.v (.bool b))=[.v (.bool true),.v (.bool true),.v (.bool true),.v (.bool true),.v (.bool true),.v (.bool false),.v (.bool true),.v (.bool true),.v (.bool true),.v (.bool true),.v (.bool false),.v (.bool true),.v (.bool true),.v (.bool true),.v (.bool true),.v (.bool false),.v (.bool false),.v (.bool true),.v (.bool true),.v (.bool true),.v (.bool false),.v (.bool false),.v (.bool false),.v (.bool true),.v (.bool true)]:=rfl
theorem jjla:ZC prog 106 MS:=by
 refine Te (E:=E1 prog) Xk (Yf mE (by kernel_rfl)) (fuel:=300) (str:=nSt) ⟨_,_,Tryz.func106,rfl⟩ (fun s=>by split<;>rfl) fun s hs=>?_
 split at hs
 . rename_i a b
   simp only[Bool.and_eq_true,decide_eq_true_eq] at hs;obtain⟨a0,b0⟩:=hs;refine(?_:(∃p q,edR prog a b p=some q/\Zp (bo (Yn a b)) q)->_) (ed a b _ ?_)
   . rintro⟨p,q,h1,h2⟩
     exact⟨p,_,q,h1,h2⟩
   . obtain⟨x,rfl⟩:=Int.eq_ofNat_of_zero_le a0
     obtain⟨y,rfl⟩:=Int.eq_ofNat_of_zero_le b0;simp only[<- jjnw];refine⟨fun h1=>⟨fun h2=>?_,fun h2=>?_⟩,fun h1=>⟨fun h2=>?_,fun h2=>?_⟩⟩
     . have h1':(5:Int)<=(x:Int):=by simpa using h1
       have h2':(y:Int)<5:=by simpa using h2
       have e:=E2 0 y (by omega) (by omega);simp only[Nat.zero_mul] at e;refine⟨?_,(by first|(unfold ZQ;omega)|(dsimp only;unfold ZQ;omega)),?_,by simp⟩
       . simp only[Yn,Int.toNat_natCast,Nat.mul_one,e.1]
         simp[bo,h1',h2']
       . simp only[ZZ,List.forall_mem_cons,Int.toNat_natCast,Nat.mul_one,e.2]
         simp[Yk,h1',h2'];omega
     . have h2':¬(y:Int)<5:=by simpa using h2
       refine⟨by simp[bo,Yn,h2'],(by first|(unfold ZQ;omega)|(dsimp only;unfold ZQ;omega)),by simp[ZZ,h1,h2];simp at h1 h2;omega,by simp⟩
     . have h1':¬(5:Int)<=(x:Int):=by simpa using h1
       have h2':(y:Int)<5:=by simpa using h2
       have e:=E2 x y (by omega) (by omega);refine⟨?_,(by first|(unfold ZQ;omega)|(dsimp only;unfold ZQ;omega)),?_,by simp⟩
       . simp only[Yn,Int.toNat_natCast,Nat.mul_one,Nat.zero_add,e.1]
         simp[bo,h1',h2']
       . simp only[ZZ,List.forall_mem_cons,Int.toNat_natCast,Nat.mul_one,Nat.zero_add,e.2]
         simp[Yk,h1',h2'];omega
     . have h2':¬(y:Int)<5:=by simpa using h2
       refine⟨by simp[bo,Yn,h2'],(by first|(unfold ZQ;omega)|(dsimp only;unfold ZQ;omega)),by simp[ZZ,h1,h2];simp at h1 h2;omega,by simp⟩
 . cases hs
def QB:AMem:=mS++mE
def MG (P:Program):Env:=⟨P,[(105,MR),(106,MS)]⟩
theorem Cz:Zz (MG prog):=by
 refine Xp (fun f g h=>?_) (by kernel_rfl) (by kernel_rfl);simp only[MG,List.mem_cons,Prod.mk.injEq,List.not_mem_nil,or_false] at h;rcases h with⟨rfl,rfl⟩|⟨rfl,rfl⟩
 . exact jjlc
 . exact jjla
def Ws (to mode:Int):Int:=if Yn mode to=true then to else IntKind.wrap .u8 (mode-1)
def NT (c:Cfg) (nq:Nat) (fq:Nat->Int) (l:List AC) (_:List AV):AV:=.c (.v (.int .u8 (Ws (Xw c nq fq (l.take 8) (ZP (l.getD 40 ZS))) (ZP (l.getD 41 ZS)))))
def Mg (G:AMem) (E:Env) (f:FuncId) (c:Cfg) (nq:Nat) (fq:Nat->Int) (v:Vw) (r:List AV) (path:List Dec) (lp:List (Option Zh)):Option VF:=ZB [] (ZJ E (fC E 300) f (.c (.ptr 5 0 0):: .agg (ZW v)::r) 1000 nSt (Y7 (G++Sv c nq fq) path lp))
theorem Ay (c:Cfg) (nq:Nat) (fq:Nat->Int) (v:Vw) (Q:VF->Prop) (H:let zs0:=fun (l:List AV)=>AV.c (AC.v (Value.int IntKind.u8 (Vw.mode v)))::AV.c (AC.v (Value.int IntKind.u8 (Xw c nq fq (Wa v) (Vw.command v))))::l;(((Yn (Vw.mode v) (Xw c nq fq (Wa v) (Vw.command v)))=true->Q (AV.c (AC.v (Value.int IntKind.u8 (Xw c nq fq (Wa v) (Vw.command v)))),[],1010,[Yn (Vw.mode v) (Xw c nq fq (Wa v) (Vw.command v))==true,true,match (zs0 []) with| [AV.c (AC.v (Value.int IntKind.u8 a)),AV.c (AC.v (Value.int IntKind.u8 b))]=>decide (0<=a)&&decide (0<=b)|x=>false,true,true,YM c nq fq,true,true,true,true,true,true,true,true,true,true,true,true,true,true,true,true,true,true,true,true,true,true,true,true,true,true,true,true,true,true,true,true,true,true,true,true,true,true,true,true,true,true,true,true],[]))/\((Yn (Vw.mode v) (Xw c nq fq (Wa v) (Vw.command v)))=false->Q (AV.c (AC.v (Value.int IntKind.u8 (IntKind.wrap IntKind.u8 (Vw.mode v-Int.ofNat 1)))),[],1012,[true,true,Yn (Vw.mode v) (Xw c nq fq (Wa v) (Vw.command v))==false,true,match (zs0 []) with| [AV.c (AC.v (Value.int IntKind.u8 a)),AV.c (AC.v (Value.int IntKind.u8 b))]=>decide (0<=a)&&decide (0<=b)|x=>false,true,true,YM c nq fq,true,true,true,true,true,true,true,true,true,true,true,true,true,true,true,true,true,true,true,true,true,true,true,true,true,true,true,true,true,true,true,true,true,true,true,true,true,true,true,true,true,true,true,true],[])))):
 ∃p r,Mg QB (MG prog) 77 c nq fq v [] p []=some r/\Q r:=
 ZL H (fun g1=>⟨pD 1 1,_,by kernel_rfl,g1⟩) (fun g1=>⟨pD 1 2,_,by kernel_rfl,g1⟩)
def MZ:Yq:=Z9 (Xz QB (by kernel_rfl)) (rV NT) (pV fun l r=>r.isEmpty&&decide (0<=ZP (l.getD 41 ZS)))
theorem DH (i a:Nat) (c:Int):1<=W5 i a c/\W5 i a c<=4:=by
 unfold W5
 repeat' split
 all_goals omega
theorem jje9 (c:Cfg) (nq:Nat) (fq:Nat->Int) (l:List AC) (cmd:Int):1<=Xw c nq fq l cmd/\Xw c nq fq l cmd<=4:=DH _ _ _
theorem jji1:ZC prog 77 MZ:=by
 refine E5 (G:=QB) (by kernel_rfl) (E:=MG prog) Cz ⟨_,_,Tryz.func77,rfl⟩ (fun _ _ _ _ _=>rfl) fun c nq fq v r hr=>?_
 simp only[Bool.and_eq_true,decide_eq_true_eq] at hr;obtain⟨hr,h0⟩:=hr;have h0:0<=v.mode:=h0;obtain rfl:=List.isEmpty_iff.1 hr;refine(?_:(∃p q,Mg QB (MG prog) 77 c nq fq v [] p []=some q/\Zp (NT c nq fq (ZW v) []) q)->_) (Ay c nq fq v _ ?_)
 . rintro⟨p,q,h1,h2⟩
   exact⟨p,_,q,h1,h2⟩
 . have hr:NT c nq fq (ZW v) []= .c (.v (.int .u8 (Ws (Xw c nq fq (Wa v) v.command) v.mode))):=rfl
   have ha:=jje9 c nq fq (Wa v) v.command;rw[hr];generalize Xw c nq fq (Wa v) v.command=a at *
   (repeat' (first|refine⟨fun h=>?_,fun h=>?_⟩|fail))
   all_goals (refine⟨?_,(by first|(unfold ZQ;omega)|(dsimp only;unfold ZQ;omega)),?_,by simp⟩)
   . simp[Ws,h]
   . simp[ZZ,YZ,YU,YT,YO,YE,YF,h,h0];omega
   . simp[Ws,h]
   . simp[ZZ,YZ,YU,YT,YO,YE,YF,h,h0];omega
theorem jjnl (c:Cfg) (nq:Nat) (fq:Nat->Int) (z:Int) (Q:VF->Prop) (H:let zN:=Int.ofNat;(((!decide (↑nq>zN 0))=true->Q (.c (zI (Int.negSucc 0)),[],1016,[(!decide (↑nq>zN 0))==true,true],[]))/\((!decide (↑nq>zN 0))=false->(((decide (z<zN 0))=true->Q (.c (zI (Int.negSucc 0)),[],1028,[decide (z<zN 0)==true,true,(!decide (↑nq>zN 0))==false,true],[]))/\((decide (z<zN 0))=false->(((decide (z≥ ↑(c.ns)))=true->Q (.c (zI (Int.negSucc 0)),[],1032,[decide (z≥ ↑(c.ns))==true,decide (z<zN 0)==false,true,(!decide (↑nq>zN 0))==false,true],[]))/\((decide (z≥ ↑(c.ns)))=false->Q (.c (zI (c.fs (0+Int.toNat z))),[],1036,[ABlk.inb (ABlk.mk false false 3 1 (yS c)) (0+Int.toNat z) 1,true,decide (zN 0<=z/\z < ↑(c.ns)),decide (z≥ ↑(c.ns))==false,decide (z<zN 0)==false,true,(!decide (↑nq>zN 0))==false,true],[])))))))):
 ∃p r,Po prog 29 c nq fq [z] p=some r/\Q r:=
 ZL H (fun g1=>⟨pD 7 729,_,by kernel_rfl,g1⟩) (fun g1=>ZL g1 (fun g2=>⟨pD 12 3645,_,by kernel_rfl,g2⟩) (fun g2=>ZL g2 (fun g3=>⟨pD 12 182979,_,by kernel_rfl,g3⟩) (fun g3=>⟨pD 12 360126,_,by kernel_rfl,g3⟩)))
def WE (c:Cfg) (nq:Nat) (_:Nat->Int) (z:Int):Int:=if nq=0 then -1 else U7 c.fs c.ns z
theorem jji0:ZC prog 29 (Uq (fun c nq fq zs=>i64 (WE c nq fq (zs.headD 0))) fun c nq fq zs=>true&&decide (zs.length=1)):=by
 refine Iq ⟨_,_,Tryz.func29,rfl⟩ (fun c nq fq zs=>PW _) 1 fun c nq fq zs _ hz=>?_
 obtain⟨z,rfl⟩:=List.length_eq_one_iff.1 hz;refine(?_:(∃p r,Po prog 29 c nq fq [z] p=some r/\(r.1=i64 (WE c nq fq z)/\r.2.2.1<=ZQ/\ZZ r.2.2.2.1/\∀q∈r.2.2.2.2,q))->_) (jjnl c nq fq z _ ?_)
 . rintro⟨p,r,h1,h2⟩
   exact⟨E1 prog,300,nSt,rfl,Xk,p,[],r,h1,h2⟩
 . repeat' (first|refine⟨fun h=>?_,fun h=>?_⟩|fail)
   all_goals (refine⟨?_,(by first|(unfold ZQ;omega)|(dsimp only;unfold ZQ;omega)),?_,by simp⟩)
   all_goals (simp only[Int.ofNat_eq_natCast] at *)
   all_goals (first
    |(show i64 _=i64 _;unfold WE U7;simp at *;first|(rw[if_pos (by omega)];done)|(rw[if_neg (by omega),if_neg (by omega)];done)|(rw[if_neg (by omega),if_pos (by omega)];done)|(intros;omega)|(split<;>first|rfl|omega))
    |(simp at *;simp[ZZ,Z6];omega))
theorem jjnk (c:Cfg) (nq:Nat) (fq:Nat->Int) (Q:VF->Prop) (H:(((!decide (↑nq>Int.ofNat 0))=true->Q (.c (zI (Int.ofNat 0)),[],1016,[(!decide (↑nq>Int.ofNat 0))==true,true],[]))/\((!decide (↑nq>Int.ofNat 0))=false->Q (.c (zI (IntKind.wrap .i64 (↑(c.ns)*c.long))),[],130000000000000000000000000000000000001015,[true,true,true,(!decide (↑nq>Int.ofNat 0))==false,true],[])))):
 ∃p r,Po prog 24 c nq fq [] p=some r/\Q r:=
 ZL H (fun g1=>⟨pD 7 729,_,by kernel_rfl,g1⟩) (fun g1=>⟨pD 7 1458,_,by kernel_rfl,g1⟩)
theorem Io:ZC prog 24 (Uq (fun c nq _ _=>i64 (Zg c nq)) fun c nq fq zs=>true&&decide (zs.length=0)):=by
 refine Iq ⟨_,_,Tryz.func24,rfl⟩ (fun c nq fq zs=>PW _) 0 fun c nq fq zs _ hz=>?_
 obtain rfl:=List.length_eq_zero_iff.1 hz;refine(?_:(∃p r,Po prog 24 c nq fq [] p=some r/\(r.1=i64 (Zg c nq)/\r.2.2.1<=ZQ/\ZZ r.2.2.2.1/\∀q∈r.2.2.2.2,q))->_) (jjnk c nq fq _ ?_)
 . rintro⟨p,r,h1,h2⟩
   exact⟨E1 prog,300,nSt,rfl,Xk,p,[],r,h1,h2⟩
 . refine⟨fun h=>?_,fun h=>?_⟩
   . refine⟨?_,(by first|(unfold ZQ;omega)|(dsimp only;unfold ZQ;omega)),?_,by simp⟩
     . show i64 _=i64 _
       simp at h;simp[Zg,h]
     . simp at h
       simp[ZZ,h]
   . refine⟨?_,(by first|(unfold ZQ;omega)|(dsimp only;unfold ZQ;omega)),?_,by simp⟩
     . show i64 _=i64 _
       simp at h;unfold Zg;rw[if_neg (by omega)]
     . simp at h
       simp[ZZ];omega
def Ot (E:Env) (f:FuncId) (c:Cfg) (r:List AV) (path:List Dec) (lp:List (Option Zh)):Option VF:=ZB [] (ZJ E (fC E 300) f (.agg (Yi c)::r) 1000 nSt (Y7 (Xl c) path lp))
def wiR (P:Program) (x lo hi:Int) (path:List Dec):Option VF:=ZB [] (ZJ (E1 P) (fC (E1 P) 300) 20 [i64 x,i64 lo,i64 hi] 1000 nSt (Y7 [] path []))
theorem wi (x lo hi:Int) (Q:VF->Prop) (H:(((decide (x>hi))=true->Q (.c (zI (Int.ofNat 3)),[],1005,[decide (x>hi)==true],[]))/\((decide (x>hi))=false->(((decide (x<lo))=true->Q (.c (zI (Int.ofNat 1)),[],1008,[decide (x<lo)==true,decide (x>hi)==false],[]))/\((decide (x<lo))=false->Q (.c (zI (Int.ofNat 0)),[],1008,[decide (x<lo)==false,decide (x>hi)==false],[])))))):
 ∃p r,wiR prog x lo hi p=some r/\Q r:=
 ZL H (fun g1=>⟨pD 1 1,_,by kernel_rfl,g1⟩) (fun g1=>ZL g1 (fun g2=>⟨pD 2 5,_,by kernel_rfl,g2⟩) (fun g2=>⟨pD 2 8,_,by kernel_rfl,g2⟩))
def Ty:Yq
 | [.c (.v (.int .i64 x)),.c (.v (.int .i64 lo)),.c (.v (.int .i64 hi))],_,_=>some (i64 (ZV x lo hi),[],0,[])
 |_,_,_=>none
def Hr (P:Program):Env:=⟨P,[(20,Ty),(21,YP (fun c=>bo (YV c)) TQ),(22,YP (fun c=>bo (Z3 c)) TR)]⟩
abbrev RS (k:Nat):List AV:=[.c (.ptr 1000 0 0),i64 (Int.ofNat k)]
def nbR (P:Program) (c:Cfg) (k:Nat) (path:List Dec):Option VC:=
 view ([1,4]++[2]) [2,1000,3] (fC (Hr P) 300 (ZY P 7 0) 1000000000000000000000000000000000000000000 nSt (WR 125 [1,4] [2,1000,3] (RS k) [ZG 3 c.nb c.fb,Zr c,Xj c.nt c.ft] path []))
theorem nbt (c:Cfg) (k:Nat) (Q:VC->Prop) (H:let zN:=Int.ofNat;let zz2:=(ABlk.mk false false 3 1 (yB c));let zz0:=[some zz2,yR 25 0 (Cs.lit [zI (Cfg.nodes c),AC.sl 0 0 0 (Cfg.np c) none,AC.sl 1 0 0 (Cfg.ns c) none,zI (Cfg.long c),AC.sl 2 0 0 (Cfg.nb c) none,AC.sl 3 0 0 (Cfg.nt c) none,zI (Cfg.miss c),zI (Cfg.good c),zI (Cfg.fresh c)]),yF 85 3 (yT c)];let zz1:=(ZV (Cfg.fb c (0+Int.toNat (zN k))) (zN 0) (zN 4096) !=zN 0);let zq0:List Bool:=[true];let zq1:List Bool:=(ABlk.inb zz2 (0+Int.toNat (zN k)) 1)::true::(decide (zN 0<=zN k/\zN k < ↑(c.nb)))::true::(decide (zN k < ↑(c.nb))==true)::zq0;(((decide (zN k < ↑(c.nb)))=true->((zz1=true->Q (Exit.ret,[some (ZN (List.zip [1,4] (RS k)) 1),some (ZN (List.zip [1,4] (RS k)) 4),some (.c (zI (ZV (c.fb (0+Int.toNat (zN k))) (zN 0) (zN 4096))))],zz0,125,1000000000000000000000000000000000000000015,((zz1==true)::zq1),[]))/\(zz1=false->Q (Exit.normal,[some (ZN (List.zip [1,4] (RS k)) 1),some (.c (zI (IntKind.wrap .i64 (zN k+zN 1)))),some (ZN (List.zip [1,4] (RS k)) 2)],zz0,125,1000000000000000000000000000000000000000016,((zz1==false)::zq1),[]))))/\((decide (zN k < ↑(c.nb)))=false->Q (Exit.exit 0,[some (ZN (List.zip [1,4] (RS k)) 1),some (ZN (List.zip [1,4] (RS k)) 4),some (ZN (List.zip [1,4] (RS k)) 2)],zz0,125,1000000000000000000000000000000000000000005,((decide (zN k < ↑(c.nb))==false)::zq0),[])))):
 ∃p r,nbR prog c k p=some r/\Q r:=
 ZL H (fun g1=>ZL g1 (fun g2=>⟨pD 2 4,_,by kernel_rfl,g2⟩) (fun g2=>⟨pD 2 7,_,by kernel_rfl,g2⟩)) (fun g1=>⟨pD 1 2,_,by kernel_rfl,g1⟩)
def ntR (P:Program) (c:Cfg) (k:Nat) (path:List Dec):Option VC:=
 view ([1,5]++[2]) [3,1000] (fC (Hr P) 300 (ZY P 7 1) 1000000000000000000000000000000000000000000000000000 nSt (WR 125 [1,5] [3,1000] (RS k) [Xj c.nt c.ft,Zr c] path []))
theorem ntt (c:Cfg) (k:Nat) (Q:VC->Prop) (H:let zN:=Int.ofNat;let zz1:=(ABlk.mk false false 85 3 (yT c));let zz0:=[some zz1,yR 25 0 (Cs.lit [zI (Cfg.nodes c),AC.sl 0 0 0 (Cfg.np c) none,AC.sl 1 0 0 (Cfg.ns c) none,zI (Cfg.long c),AC.sl 2 0 0 (Cfg.nb c) none,AC.sl 3 0 0 (Cfg.nt c) none,zI (Cfg.miss c),zI (Cfg.good c),zI (Cfg.fresh c)])];let zz2:=(ZV (Station.hold (c.10 (0+Int.toNat (zN k)))) (zN 1) (zN 100) !=zN 0);let zz3:=(Station.node (c.10 (0+Int.toNat (zN k)))<zN 0);let zz4:=(Station.node (c.10 (0+Int.toNat (zN k)))≥Cfg.nodes c);let zq0:List Bool:=[true];let zq1:List Bool:=y3 ((ABlk.inb zz1 (0+Int.toNat (zN k)) 3)::y3 ((decide (zN 0<=zN k/\zN k < ↑(c.nt)))::true::(decide (zN k < ↑(c.nt))==true)::zq0));let zq2:List Bool:=y3 (true::(decide zz3==false)::zq1);let zq3:List Bool:=true::true::(decide zz4==false)::zq2;let zs0:=fun (l:List (Option AV))=>some (ZN (List.zip [1,5] (RS k)) 1)::some (ZN (List.zip [1,5] (RS k)) 5)::l;(((decide (zN k < ↑(c.nt)))=true->(((decide zz3)=true->Q (Exit.ret,(zs0 [some (.c (zI (zN 1)))]),zz0,125,1000000000000000000000000000000000000000000000000018,((decide zz3==true)::zq1),[]))/\((decide zz3)=false->(((decide zz4)=true->Q (Exit.ret,(zs0 [some (.c (zI (zN 1)))]),zz0,125,1000000000000000000000000000000000000000000000000023,((decide zz4==true)::zq2),[]))/\((decide zz4)=false->((zz2=true->Q (Exit.ret,(zs0 [some (.c (zI (ZV (Station.hold (c.10 (0+Int.toNat (zN k)))) (zN 1) (zN 100))))]),zz0,125,1000000000000000000000000000000000000000000000000029,((zz2==true)::zq3),[]))/\(zz2=false->Q (Exit.normal,[some (ZN (List.zip [1,5] (RS k)) 1),some (.c (zI (IntKind.wrap .i64 (zN k+zN 1)))),some (ZN (List.zip [1,5] (RS k)) 2)],zz0,125,1000000000000000000000000000000000000000000000000030,((zz2==false)::zq3),[]))))))))/\((decide (zN k < ↑(c.nt)))=false->Q (Exit.exit 2,(zs0 [some (ZN (List.zip [1,5] (RS k)) 2)]),zz0,125,1000000000000000000000000000000000000000000000000005,((decide (zN k < ↑(c.nt))==false)::zq0),[])))):
 ∃p r,ntR prog c k p=some r/\Q r:=
 ZL H (fun g1=>ZL g1 (fun g2=>⟨pD 7 4,_,by kernel_rfl,g2⟩) (fun g2=>ZL g2 (fun g3=>⟨pD 7 736,_,by kernel_rfl,g3⟩) (fun g3=>ZL g3 (fun g4=>⟨pD 8 3652,_,by kernel_rfl,g4⟩) (fun g4=>⟨pD 8 5839,_,by kernel_rfl,g4⟩)))) (fun g1=>⟨pD 1 2,_,by kernel_rfl,g1⟩)
abbrev QD (e:Exit) (l:List (Nat × AV)) (mF:AMem):Zh:=⟨[1,4],[2,1000,3],ZT 125 l,mF,100000000000000000000000000000000000000000000000000,e⟩
abbrev LP (e:Exit) (l:List (Nat × AV)) (mF:AMem):Zh:=⟨[1,5],[3,1000],ZT 125 l,mF,10000000000000000000000000000000000000000000000000000,e⟩
def JT (P:Program) (c:Cfg) (lp:List (Option Zh)) (path:List Dec):Option VF:=ZB [] (ZJ (Hr P) (fC (Hr P) 300) 7 [.agg (Yi c)] 1000 nSt (Y7 (Xl c) path lp))
theorem n4A (c:Cfg) (v:Int) (Q:VF->Prop) (H:let zN:=Int.ofNat;let zz0:=(if IntKind.wrap IntKind.i64 (Cfg.nodes c+zN 116)>IntKind.wrap IntKind.i64 (IntKind.wrap IntKind.i64 (zN 3*Cfg.nodes c)+zN 1) then IntKind.wrap IntKind.i64 (Cfg.nodes c+zN 116) else IntKind.wrap IntKind.i64 (IntKind.wrap IntKind.i64 (zN 3*Cfg.nodes c)+zN 1));let zz1:=(ZV (Cfg.nodes c) (zN 4) (zN 16) !=zN 0);let zz2:=(ZV (↑(Cfg.np c)) (zN 2) (zN 8) !=zN 0);let zz3:=(ZV (↑(Cfg.ns c)) (zN 1) (zN 16) !=zN 0);let zz4:=(ZV (Cfg.long c) zz0 (zN 4096) !=zN 0);let zq0:List Bool:=[true,true];let zq1:List Bool:=true::(zz1==false)::zq0;let zq2:List Bool:=(Z2 c)::(TQ c)::y3 (y3 ((zz2==false)::zq1));let zq3:List Bool:=true::((!YV c)==false)::zq2;let zq4:List Bool:=(Z2 c)::(TR c)::y3 (y3 ((zz3==false)::zq3));let zq5:List Bool:=y3 (y3 (((!Z3 c)==false)::zq4));let zq6:List Bool:=y3 ((zz4==false)::zq5);((zz1=true->Q (.c (zI (ZV c.nodes (zN 4) (zN 16))),[],1009,((zz1==true)::zq0),[]))/\(zz1=false->((zz2=true->Q (.c (zI (ZV (↑(c.np)) (zN 2) (zN 8))),[],1015,((zz2==true)::zq1),[]))/\(zz2=false->(((!YV c)=true->Q (.c (zI (zN 1)),[],1016,(((!YV c)==true)::zq2),[]))/\((!YV c)=false->((zz3=true->Q (.c (zI (ZV (↑(c.ns)) (zN 1) (zN 16))),[],1023,((zz3==true)::zq3),[]))/\(zz3=false->(((!Z3 c)=true->Q (.c (zI (zN 1)),[],1024,(((!Z3 c)==true)::zq4),[]))/\((!Z3 c)=false->((zz4=true->Q (.c (zI (ZV c.long zz0 (zN 4096))),[],1038,((zz4==true)::zq5),[]))/\(zz4=false->(((↑(c.nb) !=c.nodes)=true->Q (.c (zI (zN 1)),[],1043,(((↑(c.nb) !=c.nodes)==true)::zq6),[]))/\((↑(c.nb) !=c.nodes)=false->Q (.c (zI v),[],100000000000000000000000000000000000000000000000000,(((↑(c.nb) !=c.nodes)==false)::zq6),[LoopV prog (ZY prog 7 0) [1,4] [2,1000,3] [some (.c (.ptr 1000 0 0)),some (.c (zI (zN 0)))] [yF 3 1 (yB c),yR 25 0 (Cs.lit [zI c.nodes,AC.sl 0 0 0 c.np none,AC.sl 1 0 0 c.ns none,zI c.long,AC.sl 2 0 0 c.nb none,AC.sl 3 0 0 c.nt none,zI c.miss,zI c.good,zI c.fresh]),yF 85 3 (yT c)] 125 1043 (ZT 125 [(2,i64 v)]) [] 100000000000000000000000000000000000000000000000000 Exit.ret none])))))))))))))))):
 ∃p r,JT prog c [some (QD .ret [(2,i64 v)] [])] p=some r/\Q r:=
 ZL H (fun g1=>⟨pD 1 1,_,by kernel_rfl,g1⟩) (fun g1=>ZL g1 (fun g2=>⟨pD 2 5,_,by kernel_rfl,g2⟩) (fun g2=>ZL g2 (fun g3=>⟨pD 3 17,_,by kernel_rfl,g3⟩) (fun g3=>ZL g3 (fun g4=>⟨pD 4 53,_,by kernel_rfl,g4⟩) (fun g4=>ZL g4 (fun g5=>⟨pD 5 161,_,by kernel_rfl,g5⟩) (fun g5=>ZL g5 (fun g6=>⟨pD 6 485,_,by kernel_rfl,g6⟩) (fun g6=>ZL g6 (fun g7=>⟨pD 7 1457,_,by kernel_rfl,g7⟩) (fun g7=>⟨pD 7 2186,_,by kernel_rfl,g7⟩)))))))
theorem n4B (c:Cfg) (v:Int) (Q:VF->Prop) (H:let zN:=Int.ofNat;let zz0:=(if IntKind.wrap IntKind.i64 (Cfg.nodes c+zN 116)>IntKind.wrap IntKind.i64 (IntKind.wrap IntKind.i64 (zN 3*Cfg.nodes c)+zN 1) then IntKind.wrap IntKind.i64 (Cfg.nodes c+zN 116) else IntKind.wrap IntKind.i64 (IntKind.wrap IntKind.i64 (zN 3*Cfg.nodes c)+zN 1));let zz5:=(ABlk.mk true false 25 0 (Cs.lit [zI (Cfg.nodes c),AC.sl 0 0 0 (Cfg.np c) none,AC.sl 1 0 0 (Cfg.ns c) none,zI (Cfg.long c),AC.sl 2 0 0 (Cfg.nb c) none,AC.sl 3 0 0 (Cfg.nt c) none,zI (Cfg.miss c),zI (Cfg.good c),zI (Cfg.fresh c)]));let zz7:=(ABlk.mk false false 85 3 (yT c));let zz1:=[yF 3 1 (yB c),some zz5,some zz7];let zz2:=(ZV (Cfg.nodes c) (zN 4) (zN 16) !=zN 0);let zz3:=(ZV (↑(Cfg.np c)) (zN 2) (zN 8) !=zN 0);let zz4:=(ZV (↑(Cfg.ns c)) (zN 1) (zN 16) !=zN 0);let zz6:=(ZV (Cfg.long c) zz0 (zN 4096) !=zN 0);let zz8:=(ZV (↑(Cfg.nt c)) (zN 0) (zN 8) !=zN 0);let zq0:List Bool:=[true,true];let zq1:List Bool:=true::(zz2==false)::zq0;let zq2:List Bool:=(Z2 c)::(TQ c)::y3 (y3 ((zz3==false)::zq1));let zq3:List Bool:=true::((!YV c)==false)::zq2;let zq4:List Bool:=(Z2 c)::(TR c)::y3 (y3 ((zz4==false)::zq3));let zq5:List Bool:=y3 (y3 (((!Z3 c)==false)::zq4));let zq6:List Bool:=y3 ((zz6==false)::zq5);let zq7:List Bool:=true::((↑(c.nb) !=c.nodes)==false)::zq6;((zz2=true->Q (.c (zI (ZV c.nodes (zN 4) (zN 16))),[],1009,((zz2==true)::zq0),[]))/\(zz2=false->((zz3=true->Q (.c (zI (ZV (↑(c.np)) (zN 2) (zN 8))),[],1015,((zz3==true)::zq1),[]))/\(zz3=false->(((!YV c)=true->Q (.c (zI (zN 1)),[],1016,(((!YV c)==true)::zq2),[]))/\((!YV c)=false->((zz4=true->Q (.c (zI (ZV (↑(c.ns)) (zN 1) (zN 16))),[],1023,((zz4==true)::zq3),[]))/\(zz4=false->(((!Z3 c)=true->Q (.c (zI (zN 1)),[],1024,(((!Z3 c)==true)::zq4),[]))/\((!Z3 c)=false->((zz6=true->Q (.c (zI (ZV c.long zz0 (zN 4096))),[],1038,((zz6==true)::zq5),[]))/\(zz6=false->(((↑(c.nb) !=c.nodes)=true->Q (.c (zI (zN 1)),[],1043,(((↑(c.nb) !=c.nodes)==true)::zq6),[]))/\((↑(c.nb) !=c.nodes)=false->((zz8=true->Q (.c (zI (ZV (↑(c.nt)) (zN 0) (zN 8))),[],100000000000000000000000000000000000000000000000008,((zz8==true)::zq7),[LoopV prog (ZY prog 7 0) [1,4] [2,1000,3] [some (.c (.ptr 1000 0 0)),some (.c (zI (zN 0)))] zz1 125 1043 (ZT 125 [(1,.c (.ptr 1000 0 0))]) [(1000,Zr c),(3,Xj c.nt c.ft)] 100000000000000000000000000000000000000000000000000 (Exit.exit 0) none]))/\(zz8=false->Q (.c (zI v),[],10000000000000000000000000000000000000000000000000000,((zz8==false)::zq7),[LoopV prog (ZY prog 7 1) [1,5] [3,1000] [some (.c (.ptr 1000 0 0)),some (.c (zI (zN 0)))] [some zz7,some zz5] 125 100000000000000000000000000000000000000000000000007 (ZT 125 [(2,i64 v)]) [] 10000000000000000000000000000000000000000000000000000 Exit.ret none,LoopV prog (ZY prog 7 0) [1,4] [2,1000,3] [some (.c (.ptr 1000 0 0)),some (.c (zI (zN 0)))] zz1 125 1043 (ZT 125 [(1,.c (.ptr 1000 0 0))]) [(1000,Zr c),(3,Xj c.nt c.ft)] 100000000000000000000000000000000000000000000000000 (Exit.exit 0) none])))))))))))))))))):
 ∃p r,JT prog c [some (QD (.exit 0) [(1,.c (.ptr 1000 0 0))] [(1000,Zr c),(3,Xj c.nt c.ft)]),some (LP .ret [(2,i64 v)] [])] p=some r/\Q r:=
 ZL H (fun g1=>⟨pD 1 1,_,by kernel_rfl,g1⟩) (fun g1=>ZL g1 (fun g2=>⟨pD 2 5,_,by kernel_rfl,g2⟩) (fun g2=>ZL g2 (fun g3=>⟨pD 3 17,_,by kernel_rfl,g3⟩) (fun g3=>ZL g3 (fun g4=>⟨pD 4 53,_,by kernel_rfl,g4⟩) (fun g4=>ZL g4 (fun g5=>⟨pD 5 161,_,by kernel_rfl,g5⟩) (fun g5=>ZL g5 (fun g6=>⟨pD 6 485,_,by kernel_rfl,g6⟩) (fun g6=>ZL g6 (fun g7=>⟨pD 7 1457,_,by kernel_rfl,g7⟩) (fun g7=>ZL g7 (fun g8=>⟨pD 8 4373,_,by kernel_rfl,g8⟩) (fun g8=>⟨pD 8 6560,_,by kernel_rfl,g8⟩))))))))
theorem n4C (c:Cfg) (Q:VF->Prop) (H:let zN:=Int.ofNat;let zz11:=(ABlk.mk false false 85 3 (yT c));let zz6:=(ABlk.mk true false 25 0 (Cs.lit [zI (Cfg.nodes c),AC.sl 0 0 0 (Cfg.np c) none,AC.sl 1 0 0 (Cfg.ns c) none,zI (Cfg.long c),AC.sl 2 0 0 (Cfg.nb c) none,AC.sl 3 0 0 (Cfg.nt c) none,zI (Cfg.miss c),zI (Cfg.good c),zI (Cfg.fresh c)]));let zz3:=[yF 3 1 (yB c),some zz6,some zz11];let zz0:=[LoopV prog (ZY prog 7 1) [1,5] [3,1000] [some (AV.c (AC.ptr 1000 0 0)),some (AV.c (zI (zN 0)))] [some zz11,some zz6] 125 100000000000000000000000000000000000000000000000007 (ZT 125 [(1,AV.c (AC.ptr 1000 0 0))]) [(1000,Zr c)] 10000000000000000000000000000000000000000000000000000 (Exit.exit 2) none,LoopV prog (ZY prog 7 0) [1,4] [2,1000,3] [some (AV.c (AC.ptr 1000 0 0)),some (AV.c (zI (zN 0)))] zz3 125 1043 (ZT 125 [(1,AV.c (AC.ptr 1000 0 0))]) [(1000,Zr c),(3,Xj (Cfg.nt c) (Cfg.ft c))] 100000000000000000000000000000000000000000000000000 (Exit.exit 0) none];let zz8:=(if IntKind.wrap IntKind.i64 (Cfg.nodes c+zN 116)>IntKind.wrap IntKind.i64 (IntKind.wrap IntKind.i64 (zN 3*Cfg.nodes c)+zN 1) then IntKind.wrap IntKind.i64 (Cfg.nodes c+zN 116) else IntKind.wrap IntKind.i64 (IntKind.wrap IntKind.i64 (zN 3*Cfg.nodes c)+zN 1));let zz1:=(ZV (Cfg.long c) zz8 (zN 4096) !=zN 0);let zz2:=(ZV (Cfg.nodes c) (zN 4) (zN 16) !=zN 0);let zz4:=(ZV (↑(Cfg.np c)) (zN 2) (zN 8) !=zN 0);let zz5:=(ZV (↑(Cfg.ns c)) (zN 1) (zN 16) !=zN 0);let zz7:=(ZV (↑(Cfg.nt c)) (zN 0) (zN 8) !=zN 0);let zz9:=(ZV (Cfg.miss c) (zN 1) (zN 100) !=zN 0);let zz10:=(ZV (Cfg.good c) (zN 1) (zN 100) !=zN 0);let zz12:=(ZV (Cfg.fresh c) (zN 1) (zN 100) !=zN 0);let zq0:List Bool:=[true,true];let zq1:List Bool:=true::(zz2==false)::zq0;let zq2:List Bool:=(Z2 c)::(TQ c)::y3 (y3 ((zz4==false)::zq1));let zq3:List Bool:=true::((!YV c)==false)::zq2;let zq4:List Bool:=(Z2 c)::(TR c)::y3 (y3 ((zz5==false)::zq3));let zq5:List Bool:=y3 (y3 (((!Z3 c)==false)::zq4));let zq6:List Bool:=y3 ((zz1==false)::zq5);let zq7:List Bool:=true::((↑(c.nb) !=c.nodes)==false)::zq6;let zq8:List Bool:=zt (true::((zz7==false)::zq7));let zq9:List Bool:=y3 ((zz9==false)::zq8);let zq10:List Bool:=y3 ((zz10==false)::zq9);((zz2=true->Q (.c (zI (ZV c.nodes (zN 4) (zN 16))),[],1009,((zz2==true)::zq0),[]))/\(zz2=false->((zz4=true->Q (.c (zI (ZV (↑(c.np)) (zN 2) (zN 8))),[],1015,((zz4==true)::zq1),[]))/\(zz4=false->(((!YV c)=true->Q (.c (zI (zN 1)),[],1016,(((!YV c)==true)::zq2),[]))/\((!YV c)=false->((zz5=true->Q (.c (zI (ZV (↑(c.ns)) (zN 1) (zN 16))),[],1023,((zz5==true)::zq3),[]))/\(zz5=false->(((!Z3 c)=true->Q (.c (zI (zN 1)),[],1024,(((!Z3 c)==true)::zq4),[]))/\((!Z3 c)=false->((zz1=true->Q (.c (zI (ZV c.long zz8 (zN 4096))),[],1038,((zz1==true)::zq5),[]))/\(zz1=false->(((↑(c.nb) !=c.nodes)=true->Q (.c (zI (zN 1)),[],1043,(((↑(c.nb) !=c.nodes)==true)::zq6),[]))/\((↑(c.nb) !=c.nodes)=false->((zz7=true->Q (.c (zI (ZV (↑(c.nt)) (zN 0) (zN 8))),[],100000000000000000000000000000000000000000000000008,((zz7==true)::zq7),[LoopV prog (ZY prog 7 0) [1,4] [2,1000,3] [some (.c (.ptr 1000 0 0)),some (.c (zI (zN 0)))] zz3 125 1043 (ZT 125 [(1,.c (.ptr 1000 0 0))]) [(1000,Zr c),(3,Xj c.nt c.ft)] 100000000000000000000000000000000000000000000000000 (Exit.exit 0) none]))/\(zz7=false->((zz9=true->Q (.c (zI (ZV c.miss (zN 1) (zN 100))),[],10000000000000000000000000000000000000000000000000020,((zz9==true)::zq8),zz0))/\(zz9=false->((zz10=true->Q (.c (zI (ZV c.good (zN 1) (zN 100))),[],10000000000000000000000000000000000000000000000000032,((zz10==true)::zq9),zz0))/\(zz10=false->((zz12=true->Q (.c (zI (ZV c.fresh (zN 1) (zN 100))),[],10000000000000000000000000000000000000000000000000044,((zz12==true)::zq10),zz0))/\(zz12=false->Q (.c (zI (zN 0)),[],10000000000000000000000000000000000000000000000000048,((zz12==false)::zq10),zz0)))))))))))))))))))))))):
 ∃p r,JT prog c [some (QD (.exit 0) [(1,.c (.ptr 1000 0 0))] [(1000,Zr c),(3,Xj c.nt c.ft)]),some (LP (.exit 2) [(1,.c (.ptr 1000 0 0))] [(1000,Zr c)])] p=some r/\Q r:=
 ZL H (fun g1=>⟨pD 1 1,_,by kernel_rfl,g1⟩) (fun g1=>ZL g1 (fun g2=>⟨pD 2 5,_,by kernel_rfl,g2⟩) (fun g2=>ZL g2 (fun g3=>⟨pD 3 17,_,by kernel_rfl,g3⟩) (fun g3=>ZL g3 (fun g4=>⟨pD 4 53,_,by kernel_rfl,g4⟩) (fun g4=>ZL g4 (fun g5=>⟨pD 5 161,_,by kernel_rfl,g5⟩) (fun g5=>ZL g5 (fun g6=>⟨pD 6 485,_,by kernel_rfl,g6⟩) (fun g6=>ZL g6 (fun g7=>⟨pD 7 1457,_,by kernel_rfl,g7⟩) (fun g7=>ZL g7 (fun g8=>⟨pD 8 4373,_,by kernel_rfl,g8⟩) (fun g8=>ZL g8 (fun g9=>⟨pD 10 26243,_,by kernel_rfl,g9⟩) (fun g9=>ZL g9 (fun g10=>⟨pD 12 223073,_,by kernel_rfl,g10⟩) (fun g10=>ZL g10 (fun g11=>⟨pD 14 1994543,_,by kernel_rfl,g11⟩) (fun g11=>⟨pD 15 3588866,_,by kernel_rfl,g11⟩)))))))))))
theorem jjdw:ZC prog 20 Ty:=by
 refine⟨⟨_,_,Tryz.func20,rfl⟩,fun C β m m2 w args ib r news k' ob vs hct ho hs hr hfree hlim hv=>?_⟩;unfold Ty at hct;split at hct
 . rename_i x lo hi
   simp only[Option.some.injEq,Prod.mk.injEq] at hct;obtain⟨rfl,rfl,rfl,rfl⟩:=hct;cases hv
   have run:∃p r,wiR prog x lo hi p=some r/\(r.1=i64 (ZV x lo hi)/\r.2.2.1<=ZQ/\ZZ r.2.2.2.1/\∀q∈r.2.2.2.2,q):=by
    refine wi x lo hi _ ?_
    repeat' (first|refine⟨fun h=>?_,fun h=>?_⟩|fail)
    all_goals (refine⟨?_,(by first|(unfold ZQ;omega)|(dsimp only;unfold ZQ;omega)),?_,by simp⟩)
    all_goals (simp_all[ZZ,ZV,i64])
    all_goals (try omega)
    all_goals (rw[if_neg (by omega),if_neg (by omega)])
   obtain⟨p,⟨v,b',n',ob,po⟩,hrun,hvr,hn,hob,hpo⟩:=run;obtain⟨s',r1,r2,r3,r4⟩:=Td hrun;have hn:n'<=ZQ:=hn;refine(X8 Xk r1 ⟨by rw[r3];exact hob,by rw[r4];exact hpo⟩ (C:=Zx w) (β:=fun _=>none) (w:=w) (vs:=[.int .i64 x,.int .i64 lo,.int .i64 hi]) rfl (Sn w) (fun _ _ _=>rfl)).mono ?_;rintro e w' ⟨β',u,rfl,_,_,hu,hr'⟩;simp only at hvr;subst hvr;cases hu;exact⟨β,_,rfl,Ext.refl _,fun _ _=>rfl,rfl,by rw[List.append_nil];exact hr.below (Sr hr')⟩
 . cases hct
theorem HI:Zz (Hr prog):=by
 refine Xp (fun f g h=>?_) (by kernel_rfl) (by kernel_rfl);simp only[Hr,List.mem_cons,Prod.mk.injEq,List.not_mem_nil,or_false] at h;rcases h with⟨rfl,rfl⟩|⟨rfl,rfl⟩|⟨rfl,rfl⟩
 . exact jjdw
 . exact jje1
 . exact jjdx
theorem NJ (c:Cfg) (N:Nat) (hN:1001<=N) (hN2:N<=1000000000000000000000000000000000000000000) (hn:c.nb<=1000000) (j:Nat) (hj:j<=c.nb) (hmin:∀i,i<j->ZV (c.fb i) 0 4096=0) (hyes:j<c.nb->ZV (c.fb j) 0 4096≠0) {e:Exit} {out:List (Nat × AV)} {mF:AMem}
 (hF:(j<c.nb->e= .ret/\out=[(2,i64 (ZV (c.fb j) 0 4096))]/\mF=[])/\(j=c.nb->e= .exit 0/\out=[(1,.c (.ptr 1000 0 0))]/\mF=[(1000,Zr c),(3,Xj c.nt c.ft)])):
 LoopV prog (ZY prog 7 0) [1,4] [2,1000,3] ((RS 0).map some) ([ZG 3 c.nb c.fb,Zr c,Xj c.nt c.ft].map some) 125 N (ZT 125 out) mF 100000000000000000000000000000000000000000000000000 e none:=by
 refine UH HI (fuel:=300) (str:=nSt) (nh:=1000000000000000000000000000000000000000000) [1,4] [2] [2,1000,3] RS [ZG 3 c.nb c.fb,Zr c,Xj c.nt c.ft] j hN2 (by decide) (by unfold ZQ;omega) ?_ (fun _=>⟨rfl,rfl⟩) ?_ ?_ ?_ ?_ ?_
 . rcases Nat.lt_or_ge j c.nb with h|h
   . rw[(hF.1 h).1];simp
   . rw[(hF.2 (by omega)).1];simp
 . simp[Zb];omega
 . intro k _
   simp[US,WW,Yu,XR,i64];omega
 . intro b hb
   simp only[List.mem_cons,List.not_mem_nil,or_false] at hb;rcases hb with rfl|rfl|rfl
   . exact TH
   . exact VN (by omega)
   . exact WU
 . intro k hk
   have hm:=hmin k hk;have hw:IntKind.wrap IntKind.i64 (Int.ofNat k+Int.ofNat 1)=Int.ofNat (k+1):=by rw[XG _ (by simp;omega) (by simp;omega)];rfl
   have ek:0+Int.toNat (Int.ofNat k)=k:=by simp
   refine nbt c k _ ?_;simp only[ek];refine⟨fun c1=>⟨fun c2=>?_,fun c2=>?_⟩,fun c1=>?_⟩
   . exfalso;simp[hm] at c2
   . refine⟨⟨?_,rfl,by dsimp only;omega,rfl⟩,rfl,?_,BL.refl _⟩
     . simp only[ZZ,List.forall_mem_cons,Z6,Yk]
       simp[hm];omega
     . dsimp only;rw[hw];rfl
   . exfalso;simp at c1;omega
 . have ek:0+Int.toNat (Int.ofNat j)=j:=by simp
   refine nbt c j _ ?_;simp only[ek];refine⟨fun c1=>⟨fun c2=>?_,fun c2=>?_⟩,fun c1=>?_⟩
   . have hlt:j<c.nb:=by simpa using c1
     obtain⟨rfl,rfl,rfl⟩:=hF.1 hlt;refine Ry ⟨?_,rfl,by dsimp only;omega,rfl⟩ rfl rfl (by simp[i64]);have hy:=hyes hlt;simp[ZZ,Z6,Yk,hlt,hy]
   . have hlt:j<c.nb:=by simpa using c1
     exfalso;simp[hyes hlt] at c2
   . have hlt:¬j<c.nb:=by simpa using c1
     obtain⟨rfl,rfl,rfl⟩:=hF.2 (by omega);refine⟨⟨?_,rfl,by dsimp only;omega,rfl⟩,rfl,fun q hq=>?_,fun p hpp=>?_⟩
     . simp[ZZ];omega
     . rw[List.mem_singleton.1 hq]
       exact⟨by simp[US,WW,Yu,XR];omega,by simp[ZN]⟩
     . simp only[List.mem_cons,List.not_mem_nil,or_false] at hpp
       rcases hpp with rfl|rfl
       . exact⟨by simp[Zb];omega,VN (by omega),Zr c,by dsimp only[List.zip,List.zipWith];exact List.mem_cons_of_mem _ (List.mem_cons_self ..),BEq.refl _⟩
       . exact⟨by simp[Zb];omega,WU,Xj c.nt c.ft,by dsimp only[List.zip,List.zipWith];exact List.mem_cons_of_mem _ (List.mem_cons_of_mem _ (List.mem_cons_self ..)),BEq.refl _⟩
theorem Fl (c:Cfg) (N:Nat) (hN:1001<=N) (hN2:N<=1000000000000000000000000000000000000000000000000000) (hn:c.nt<=1000000) (j:Nat) (hj:j<=c.nt) (hmin:∀i,i<j->Zo c i=0) (hyes:j<c.nt->Zo c j≠0) {e:Exit} {out:List (Nat × AV)} {mF:AMem}
 (hF:(j<c.nt->e= .ret/\out=[(2,i64 (Zo c j))]/\mF=[])/\(j=c.nt->e= .exit 2/\out=[(1,.c (.ptr 1000 0 0))]/\mF=[(1000,Zr c)])):
 LoopV prog (ZY prog 7 1) [1,5] [3,1000] ((RS 0).map some) ([Xj c.nt c.ft,Zr c].map some) 125 N (ZT 125 out) mF 10000000000000000000000000000000000000000000000000000 e none:=by
 refine UH HI (fuel:=300) (str:=nSt) (nh:=1000000000000000000000000000000000000000000000000000) [1,5] [2] [3,1000] RS [Xj c.nt c.ft,Zr c] j hN2 (by decide) (by unfold ZQ;omega) ?_ (fun _=>⟨rfl,rfl⟩) ?_ ?_ ?_ ?_ ?_
 . rcases Nat.lt_or_ge j c.nt with h|h
   . rw[(hF.1 h).1];simp
   . rw[(hF.2 (by omega)).1];simp
 . simp[Zb];omega
 . intro k _
   simp[US,WW,Yu,XR,i64];omega
 . intro b hb
   simp only[List.mem_cons,List.not_mem_nil,or_false] at hb;rcases hb with rfl|rfl
   . exact WU
   . exact VN (by omega)
 . intro k hk
   have hm:=hmin k hk;have hlt:k<c.nt:=by omega
   have hw:IntKind.wrap IntKind.i64 (Int.ofNat k+Int.ofNat 1)=Int.ofNat (k+1):=by rw[XG _ (by simp;omega) (by simp;omega)];rfl
   have ek:0+Int.toNat (Int.ofNat k)=k:=by simp
   have hb:0<=(c.ft k).node/\(c.ft k).node<c.nodes:=by
    unfold Zo at hm;split at hm
    . assumption
    . cases hm
   have hh:ZV (c.ft k).hold 1 100=0:=by unfold Zo at hm;rw[if_pos hb] at hm;exact hm
   refine ntt c k _ ?_;simp only[ek]
   repeat' (first|refine⟨fun h=>?_,fun h=>?_⟩|fail)
   all_goals (first|(exfalso;simp at *;omega)|(exfalso;simp[hh] at h;done)|skip)
   refine⟨⟨?_,rfl,by dsimp only;omega,rfl⟩,rfl,?_,BL.refl _⟩
   . simp only[ZZ,List.forall_mem_cons,Z6,Yk]
     simp[hh];omega
   . dsimp only;rw[hw];rfl
 . have ek:0+Int.toNat (Int.ofNat j)=j:=by simp
   refine ntt c j _ ?_;simp only[ek];rcases Nat.lt_or_ge j c.nt with hlt|hge
   . obtain⟨rfl,rfl,rfl⟩:=hF.1 hlt
     have hy:=hyes hlt;unfold Zo at hy ⊢;by_cases hb:0<=(c.ft j).node/\(c.ft j).node<c.nodes
     . rw[if_pos hb] at hy ⊢
       repeat' (first|refine⟨fun h=>?_,fun h=>?_⟩|fail)
       all_goals (first|(exfalso;simp at *;omega)|(exfalso;simp[hy] at h;done)|skip)
       refine Ry ⟨?_,rfl,by dsimp only;omega,rfl⟩ rfl rfl (by simp[i64]);simp only[ZZ,List.forall_mem_cons,Z6,Yk];simp[hy];omega
     . rw[if_neg hb] at hy ⊢
       repeat' (first|refine⟨fun h=>?_,fun h=>?_⟩|fail)
       all_goals (first|(exfalso;simp at *;omega)|skip)
       all_goals (refine Ry ⟨?_,rfl,by dsimp only;omega,rfl⟩ rfl rfl (by simp[i64]))
       all_goals (simp only[ZZ,List.forall_mem_cons,Z6,Yk];simp at *;omega)
   . obtain rfl:j=c.nt:=by omega
     obtain⟨rfl,rfl,rfl⟩:=hF.2 rfl
     repeat' (first|refine⟨fun h=>?_,fun h=>?_⟩|fail)
     all_goals (first|(exfalso;simp at *;done)|skip)
     refine⟨⟨?_,rfl,by dsimp only;omega,rfl⟩,rfl,fun q hq=>?_,fun p hpp=>?_⟩
     . simp[ZZ]
     . rw[List.mem_singleton.1 hq]
       exact⟨by simp[US,WW,Yu,XR];omega,by simp[ZN]⟩
     . rw[List.mem_singleton.1 hpp]
       exact⟨by simp[Zb];omega,VN (by omega),Zr c,by dsimp only[List.zip,List.zipWith];exact List.mem_cons_of_mem _ (List.mem_cons_self ..),BEq.refl _⟩
end Go.Proofs.YtodpbgbpifiniaaGreatDoor
end
