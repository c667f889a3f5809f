/- Parts, one behind the other. The variables that are laid, as the evaluator has them. -/
import Derived.Test.YtpgaplcdbbnblaaGreatDoorJMembersView10
import Derived.Test.YtpgaplcdbbnblaaGreatDoorChecked
import Derived.KernelRfl
import Derived.Test.YtpgaplcdbbnblaaGreatDoorJMembersView3
import Derived.IntWalk
set_option linter.unusedSimpArgs false
set_option linter.unusedVariables false
/- The variables that are laid, as the evaluator has them. -/
section
namespace Go.Proofs.YtpgaplcdbbnblaaGreatDoor
open Go.RowKit
def signB:ABlk:=⟨false,false,131,0,.lit [.v (.int .i64 1),.v (.int .i64 (-1))]⟩
def mS:AMem:=[(gid 2,signB)]
end Go.Proofs.YtpgaplcdbbnblaaGreatDoor
end
/- Configs as the evaluator reads them: plain data, their lists in memory; contracts of functions of a config. -/
section
namespace Go.Proofs.YtpgaplcdbbnblaaGreatDoor
open Go.RowKit
structure Cfg where
 nodes:Int
 np:Nat
 fp:Nat→Int
 ns:Nat
 fs:Nat→Int
 long:Int
 nb:Nat
 fb:Nat→Int
 nt:Nat
 ft:Nat→Station
 miss:Int
 good:Int
 fresh:Int
def stOf (F:Nat→List AC) (i:Nat):Station:=⟨asI ((F i).getD 0 nov),asI ((F i).getD 1 nov),asI ((F i).getD 2 nov)⟩
def isSt:List AC→Bool
 | [.v (.int .i64 _),.v (.int .u32 _),.v (.int .i64 _)]=>true
 |_=>false
theorem isSt_eq {l:List AC} (h:isSt l=true):l=(⟨asI (l.getD 0 nov),asI (l.getD 1 nov),asI (l.getD 2 nov)⟩:Station).cells.map .v:=by
 unfold isSt at h
 split at h
 · rfl
 · cases h
def stsOk (n:Nat) (F:Nat→List AC):Bool:=(List.range n).all fun k=>isSt (F k)
theorem stsOk_eq {n:Nat} {F:Nat→List AC} (h:stsOk n F=true):∀i,i<n→F i=((fun i=>(stOf F i).cells) i).map .v:=fun i hi=>isSt_eq (List.all_eq_true.1 h i (by simpa using hi))
abbrev sts (n:Nat) (f:Nat→Station):ABlk:=rBlk 161 3 n fun i=>[.int .i64 (f i).node,.int .u32 (f i).safe,.int .i64 (f i).hold]
def cfgC (c:Cfg):List AC:=[.v (.int .i64 c.nodes),.sl 0 0 0 c.np none,.sl 1 0 0 c.ns none,.v (.int .i64 c.long),.sl 2 0 0 c.nb none,.sl 3 0 0 c.nt none,.v (.int .i64 c.miss),.v (.int .i64 c.good),.v (.int .i64 c.fresh)]
abbrev cfgL (c:Cfg):AMem:=[(0,ints 3 c.np c.fp),(1,ints 3 c.ns c.fs),(2,ints 3 c.nb c.fb),(3,sts c.nt c.ft)]
abbrev cfgM (c:Cfg):AMem:=[(gid 2,signB),(0,ints 3 c.np c.fp),(1,ints 3 c.ns c.fs),(2,ints 3 c.nb c.fb),(3,sts c.nt c.ft)]
def cfgOf (l:List AC) (m:AMem):Option (Cfg × Bool):=
 match l with
 | [.v (.int .i64 nodes),p,s,.v (.int .i64 long),b,t,.v (.int .i64 miss),.v (.int .i64 good),.v (.int .i64 fresh)]=>
  match slOf 1 m p,slOf 1 m s,slOf 1 m b,slOf 3 m t with
  |some (np,P,b1),some (ns,S,b2),some (nb,B,b3),some (nt,T,b4)=>some (⟨nodes,np,fA P,ns,fA S,long,nb,fA B,nt,stOf T,miss,good,fresh⟩,b1&&(b2&&(b3&&(b4&&(intsOk np P&&(intsOk ns S&&(intsOk nb B&&stsOk nt T)))))))
  |_,_,_,_=>none
 |_=>none
theorem rel_cfg {C:Ctx} {β:Nm} {m m2:AMem} {w:World} (hs:Sub m m2) (hr:Rel C β m2 w) {l:List AC} {c:Cfg} (h:cfgOf l m=some (c,true)) (hg:subB mS m=true) {cs:List Value} (hv:γs β l=some cs):
 ∃β',Rel (loneC w) β' (cfgM c) w∧γs β' (cfgC c)=some cs∧∀id,1000≤id→id<lim→β' id=none:=by
 unfold cfgOf at h
 split at h
 · rename_i nodes p s long b t miss good fresh
   split at h
   · rename_i np P b1 ns S b2 nb B b3 nt T b4 hp hsl hb ht
     simp only[Option.some.injEq,Prod.mk.injEq,Bool.and_eq_true] at h
     obtain⟨rfl,rfl,rfl,rfl,rfl,i1,i2,i3,i4⟩:=h
     obtain⟨hlen,hget⟩:=γs_iff.1 hv
     obtain⟨v1,e1,g1⟩:=hget 1 p rfl
     obtain⟨v2,e2,g2⟩:=hget 2 s rfl
     obtain⟨v4,e4,g4⟩:=hget 4 b rfl
     obtain⟨v5,e5,g5⟩:=hget 5 t rfl
     have r0:=rel_glob hr hs hg (by kernel_rfl)
     have n0:∀id x,look mS id=some x→x.own=false∧isO x=false:=by
      intro id x hx
      have:=look_mem hx
      rw[mS,List.mem_singleton] at this
      cases this
      exact⟨rfl,rfl⟩
     have hlo:∀id,id<lim→nmG β id=none:=fun id h=>by unfold nmG;rw[if_neg (by omega)]
     have hgi:∀(id:Nat),id<lim→∀g,id≠gid g:=fun id h=>not_gid h
     obtain⟨L0,k0,z0⟩:=blk_slice hr Nat.one_pos (slOf_sub hs hp) g1 3 (intsOk_eq i1) (fun _=>rfl) (loneC w) (nmG β) rfl
     obtain⟨r1,n1⟩:=rel_add_ro r0 n0 (id:=0) (hlo 0 (by unfold lim;omega)) (hgi 0 (by unfold lim;omega)) rfl rfl k0
     obtain⟨L1,k1,z1⟩:=blk_slice hr Nat.one_pos (slOf_sub hs hsl) g2 3 (intsOk_eq i2) (fun _=>rfl) (loneC w) (ext1 (nmG β) 0 L0) rfl
     obtain⟨r2,n2⟩:=rel_add_ro r1 n1 (id:=1) (by simp[ext1,hlo 1 (by unfold lim;omega)]) (hgi 1 (by unfold lim;omega)) rfl rfl k1
     obtain⟨L2,k2,z2⟩:=blk_slice hr Nat.one_pos (slOf_sub hs hb) g4 3 (intsOk_eq i3) (fun _=>rfl) (loneC w) (ext1 (ext1 (nmG β) 0 L0) 1 L1) rfl
     obtain⟨r3,n3⟩:=rel_add_ro r2 n2 (id:=2) (by simp[ext1,hlo 2 (by unfold lim;omega)]) (hgi 2 (by unfold lim;omega)) rfl rfl k2
     obtain⟨L3,k3,z3⟩:=blk_slice hr (by omega:0<3) (slOf_sub hs ht) g5 161 (stsOk_eq i4) (fun _=>rfl) (loneC w) (ext1 (ext1 (ext1 (nmG β) 0 L0) 1 L1) 2 L2) rfl
     obtain⟨r4,n4⟩:=rel_add_ro r3 n3 (id:=3) (by simp[ext1,hlo 3 (by unfold lim;omega)]) (hgi 3 (by unfold lim;omega)) rfl rfl k3
     refine⟨_,r4,?_,fun id h1 h2=>?_⟩
     · rw[γs_iff]
       refine⟨by rw[hlen];rfl,fun i x hx=>?_⟩
       have hget':=hget i
       match i,hx with
       |0,hx=>obtain⟨u,q1,q2⟩:=hget 0 _ rfl;cases hx;exact⟨u,q1,q2⟩
       |1,hx=>cases hx;exact⟨v1,e1,z0 _ 0 (by simp[ext1])⟩
       |2,hx=>cases hx;exact⟨v2,e2,z1 _ 1 (by simp[ext1])⟩
       |3,hx=>obtain⟨u,q1,q2⟩:=hget 3 _ rfl;cases hx;exact⟨u,q1,q2⟩
       |4,hx=>cases hx;exact⟨v4,e4,z2 _ 2 (by simp[ext1])⟩
       |5,hx=>cases hx;exact⟨v5,e5,z3 _ 3 (by simp[ext1])⟩
       |6,hx=>obtain⟨u,q1,q2⟩:=hget 6 _ rfl;cases hx;exact⟨u,q1,q2⟩
       |7,hx=>obtain⟨u,q1,q2⟩:=hget 7 _ rfl;cases hx;exact⟨u,q1,q2⟩
       |8,hx=>obtain⟨u,q1,q2⟩:=hget 8 _ rfl;cases hx;exact⟨u,q1,q2⟩
     · simp[ext1,hlo id h2,show id≠0 by omega,show id≠1 by omega,show id≠2 by omega,show id≠3 by omega]
   · cases h
 · cases h
def cfgK (c:Cfg):Bool:=decide (0+Cfg.np c≤Cfg.np c)&&(decide (0+Cfg.ns c≤Cfg.ns c)&&(decide (0+Cfg.nb c≤Cfg.nb c)&&(decide (0+Cfg.nt c≤Cfg.nt c)&&((intsOk (Cfg.np c) fun k=>List.map AC.v ((fun i=>[Value.int IntKind.i64 (Cfg.fp c i)]) k))&&((intsOk (Cfg.ns c) fun k=>List.map AC.v ((fun i=>[Value.int IntKind.i64 (Cfg.fs c i)]) k))&&((intsOk (Cfg.nb c) fun k=>List.map AC.v ((fun i=>[Value.int IntKind.i64 (Cfg.fb c i)]) k))&&stsOk (Cfg.nt c) fun k=>List.map AC.v ((fun i=>[Value.int IntKind.i64 (Station.node (Cfg.ft c i)),Value.int IntKind.u32 (Station.safe (Cfg.ft c i)),Value.int IntKind.i64 (Station.hold (Cfg.ft c i))]) k)))))))
theorem cfgK_t (c:Cfg):cfgK c=true:=by simp[cfgK,intsOk,isI64,stsOk,isSt]
def ctCfg (R:Cfg→AV) (pre:Cfg→Bool):CtF
 | [.agg l],m,_=>
  match cfgOf l m,subB mS m with
  |some (c,b),true=>some (R c,[],0,[b,pre c])
  |_,_=>none
 |_,_,_=>none
theorem ctCfg_of {E:Env} (hE:EnvOk E) {f:FuncId} {R:Cfg→AV} {pre:Cfg→Bool} (hf:∃(fn:Func) (c:Code),E.P.funcs[f]? =some fn∧fn.body=some c) (hres:∀c (β1 β2:Nm) u,γ β1 (R c)=some u→γ β2 (R c)=some u) {fuel str:Nat}
 (run:∀c,pre c=true→∃p lp r,viewF [] (fCallF E (fC E fuel) f [.agg (cfgC c)] 1000 str (stA (cfgM c) p lp))=some r∧r.1=R c∧r.2.2.1≤lim∧allT r.2.2.2.1∧∀q∈r.2.2.2.2,q):CtOk E.P f (ctCfg R pre):=by
 refine⟨hf,fun C β m m2 w args ib r news k' ob vs hct ho hs hr hfree hlim hv=>?_⟩
 unfold ctCfg at hct
 split at hct
 · rename_i l
   split at hct
   · rename_i c b hc hg
     simp only[Option.some.injEq,Prod.mk.injEq] at hct
     obtain⟨rfl,rfl,rfl,rfl⟩:=hct
     simp only[allT,List.forall_mem_cons] at ho
     obtain⟨rfl,o2,_⟩:=ho
     obtain⟨p,lp,⟨v,b',n',ob,po⟩,hrun,hvr,hn,hob,hpo⟩:=run c o2
     obtain⟨s',r1,r2,r3,r4⟩:=viewF_out hrun
     have hn:n'≤lim:=hn
     simp only[γt,γ1] at hv
     split at hv
     · rename_i v0 us hv0 hus
       split at hv0
       · rename_i cs hcs
         cases hv0
         cases hus
         cases hv
         obtain⟨β1,q1,q2,q3⟩:=rel_cfg hs hr hc hg hcs
         refine(calls_f hE r1 ⟨by rw[r3];exact hob,by rw[r4];exact hpo⟩ (C:=loneC w) (β:=β1) (w:=w) (vs:=[.agg cs.toArray]) ?_ q1 (fun id h1 h2=>q3 id h1 (by omega))).mono ?_
         · simp only[γt,γ1,q2]
         · rintro e w' ⟨β',u,rfl,_,_,hu,hr'⟩
           simp only at hvr
           subst hvr
           exact⟨β,u,rfl,Ext.refl _,fun _ _=>rfl,hres _ _ _ _ hu,by rw[List.append_nil];exact hr.below (below_lone hr')⟩
       · cases hv0
     · cases hv
   · cases hct
 · cases hct
end Go.Proofs.YtpgaplcdbbnblaaGreatDoor
end
/- What configs.New leans on: rounds of loops as the evaluator runs them. -/
section
namespace Go.Proofs.YtpgaplcdbbnblaaGreatDoor
open Go.RowKit
/-! inside: slices.IndexFunc with inside$1 -/
abbrev insV (n k:Nat):List AV:=[.c (.sl 0 0 0 n none),.c (.fn 192 [(1000,0,0)]),i64 (Int.ofNat n),i64 (Int.ofNat k)]
abbrev insB (f:Nat→Int) (n:Nat) (many:Int):List ABlk:=[ints 3 n f,oBlk 3 [.int .i64 many]]
def insR (P:Program) (f:Nat→Int) (n:Nat) (many:Int) (k:Nat) (path:List Dec):Option VC:=
 view ([0,1,7,8]++[4]) [0,1000] (fC (E1 P) 100 (loopAt P 239 0) 1000000000000000000000000000000000000000000 10000000000000000000000000000000000000000 (stH 19 [0,1,7,8] [0,1000] (insV n k) (insB f n many) path []))
theorem ins (f:Nat→Int) (n:Nat) (many:Int) (k:Nat) (Q:VC→Prop) (H:let zz0:=(ABlk.mk false false 3 1 (Cs.arr n fun k=>List.map AC.v ((fun i=>[Value.int IntKind.i64 (f i)]) k)));let zz1:=[some (lkA (List.zip [0,1,7,8] (insV n k)) 0),some (lkA (List.zip [0,1,7,8] (insV n k)) 1),some (lkA (List.zip [0,1,7,8] (insV n k)) 7),some (lkA (List.zip [0,1,7,8] (insV n k)) 8),some (AV.c (AC.v (Value.int IntKind.i64 (Int.ofNat k))))];let zz2:=[some zz0,some (ABlk.mk true false 3 0 (Cs.lit [AC.v (Value.int IntKind.i64 many)]))];let zq0:List Bool:=[ABlk.inb zz0 (0+Int.toNat (Int.ofNat k)) 1,true,decide (Int.ofNat 0≤Int.ofNat k∧Int.ofNat k < ↑n),decide (Int.ofNat k<Int.ofNat n)==true];let zq1:List Bool:=true::true::(decide (f (0+Int.toNat (Int.ofNat k))<Int.ofNat 0)==false)::zq0;(((decide (Int.ofNat k<Int.ofNat n))=true→(((decide (f (0+Int.toNat (Int.ofNat k))<Int.ofNat 0))=true→Q (Exit.ret,zz1,zz2,19,1000000000000000000000000000000000000000016,((decide (f (0+Int.toNat (Int.ofNat k))<Int.ofNat 0)==true)::zq0),[]))∧((decide (f (0+Int.toNat (Int.ofNat k))<Int.ofNat 0))=false→(((decide (f (0+Int.toNat (Int.ofNat k))≥many))=true→Q (Exit.ret,zz1,zz2,19,1000000000000000000000000000000000000000019,((decide (f (0+Int.toNat (Int.ofNat k))≥many)==true)::zq1),[]))∧((decide (f (0+Int.toNat (Int.ofNat k))≥many))=false→Q (Exit.normal,[some (lkA (List.zip [0,1,7,8] (insV n k)) 0),some (lkA (List.zip [0,1,7,8] (insV n k)) 1),some (lkA (List.zip [0,1,7,8] (insV n k)) 7),some (.c (.v (.int .i64 (IntKind.wrap .i64 (Int.ofNat k+Int.ofNat 1))))),some (lkA (List.zip [0,1,7,8] (insV n k)) 4)],zz2,19,1000000000000000000000000000000000000000019,((decide (f (0+Int.toNat (Int.ofNat k))≥many)==false)::zq1),[]))))))∧((decide (Int.ofNat k<Int.ofNat n))=false→Q (Exit.exit 0,[some (lkA (List.zip [0,1,7,8] (insV n k)) 0),some (lkA (List.zip [0,1,7,8] (insV n k)) 1),some (lkA (List.zip [0,1,7,8] (insV n k)) 7),some (lkA (List.zip [0,1,7,8] (insV n k)) 8),some (lkA (List.zip [0,1,7,8] (insV n k)) 4)],zz2,19,1000000000000000000000000000000000000000001,[decide (Int.ofNat k<Int.ofNat n)==false],[])))):
 ∃p r,insR Tryz.prog f n many k p=some r∧Q r:=
 two H
 (fun g1=>two g1
  (fun g2=>⟨pD 5 4,_,by kernel_rfl,g2⟩)
  (fun g2=>two g2
   (fun g3=>⟨pD 5 88,_,by kernel_rfl,g3⟩)
   (fun g3=>⟨pD 5 169,_,by kernel_rfl,g3⟩)))
 (fun g1=>⟨pD 1 2,_,by kernel_rfl,g1⟩)
/-! each -/
abbrev eachV (lo hi:Int) (n k:Nat):List AV:=[i64 lo,i64 hi,.c (.sl 0 0 0 n none),i64 (Int.ofNat n),i64 (Int.ofNat k)]
def eachR (P:Program) (f:Nat→Int) (n:Nat) (lo hi:Int) (k:Nat) (path:List Dec):Option VC:=
 view ([1,2,10,11,12]++[6]) [0] (fC (E1 P) 100 (loopAt P 134 0) 1000000000000000000000000000000000000000000 10000000000000000000000000000000000000000 (stH 24 [1,2,10,11,12] [0] (eachV lo hi n k) [ints 3 n f] path []))
theorem each (f:Nat→Int) (n:Nat) (lo hi:Int) (k:Nat) (Q:VC→Prop) (H:let zz0:=(List.zip [1,2,10,11,12] (eachV lo hi n k));let zz1:=(ABlk.mk false false 3 1 (Cs.arr n fun k=>List.map AC.v ((fun i=>[Value.int IntKind.i64 (f i)]) k)));let zq0:List Bool:=[ABlk.inb zz1 (0+Int.toNat (Int.ofNat k)) 1,true,decide (Int.ofNat 0≤Int.ofNat k∧Int.ofNat k < ↑n),decide (Int.ofNat k<Int.ofNat n)==true];let zq1:List Bool:=(decide (f (0+Int.toNat (Int.ofNat k))>hi)==false)::zq0;(((decide (Int.ofNat k<Int.ofNat n))=true→(((decide (f (0+Int.toNat (Int.ofNat k))>hi))=true→Q (Exit.ret,[some (lkA zz0 1),some (lkA zz0 2),some (lkA zz0 10),some (lkA zz0 11),some (lkA zz0 12),some (.c (.v (.int .i64 (Int.ofNat 3))))],[some zz1],24,1000000000000000000000000000000000000000018,((decide (f (0+Int.toNat (Int.ofNat k))>hi)==true)::zq0),[]))∧((decide (f (0+Int.toNat (Int.ofNat k))>hi))=false→(((decide (f (0+Int.toNat (Int.ofNat k))<lo))=true→Q (Exit.ret,[some (lkA zz0 1),some (lkA zz0 2),some (lkA zz0 10),some (lkA zz0 11),some (lkA zz0 12),some (.c (.v (.int .i64 (Int.ofNat 1))))],[some zz1],24,1000000000000000000000000000000000000000022,((decide (f (0+Int.toNat (Int.ofNat k))<lo)==true)::zq1),[]))∧((decide (f (0+Int.toNat (Int.ofNat k))<lo))=false→Q (Exit.normal,[some (lkA zz0 1),some (lkA zz0 2),some (lkA zz0 10),some (lkA zz0 11),some (.c (.v (.int .i64 (IntKind.wrap .i64 (Int.ofNat k+Int.ofNat 1))))),some (lkA zz0 6)],[some zz1],24,1000000000000000000000000000000000000000022,((decide (f (0+Int.toNat (Int.ofNat k))<lo)==false)::zq1),[]))))))∧((decide (Int.ofNat k<Int.ofNat n))=false→Q (Exit.exit 0,[some (lkA zz0 1),some (lkA zz0 2),some (lkA zz0 10),some (lkA zz0 11),some (lkA zz0 12),some (lkA zz0 6)],[some zz1],24,1000000000000000000000000000000000000000001,[decide (Int.ofNat k<Int.ofNat n)==false],[])))):
 ∃p r,eachR Tryz.prog f n lo hi k p=some r∧Q r:=
 two H
 (fun g1=>two g1
  (fun g2=>⟨pD 3 4,_,by kernel_rfl,g2⟩)
  (fun g2=>two g2
   (fun g3=>⟨pD 4 16,_,by kernel_rfl,g3⟩)
   (fun g3=>⟨pD 4 25,_,by kernel_rfl,g3⟩)))
 (fun g1=>⟨pD 1 2,_,by kernel_rfl,g1⟩)
/-! slices.IsSorted, backward: the head's number is n - 1 - k -/
abbrev srtV (n k:Nat):List AV:=[.c (.sl 0 0 0 n none),i64 (Int.ofNat (n-1-k))]
def srtR (P:Program) (f:Nat→Int) (n:Nat) (k:Nat) (path:List Dec):Option VC:=
 view ([0,3]++[2]) [0] (fC (E1 P) 100 (loopAt P 126 0) 1000000000000000000000000000000000000000000 10000000000000000000000000000000000000000 (stH 21 [0,3] [0] (srtV n k) [ints 3 n f] path []))
theorem srt (f:Nat→Int) (n:Nat) (k:Nat) (Q:VC→Prop) (H:let zz0:=(0+Int.toNat (IntKind.wrap IntKind.i64 (Int.ofNat (n-1-k)-Int.ofNat 1)));let zz1:=(ABlk.mk false false 3 1 (Cs.arr n fun k=>List.map AC.v ((fun i=>[Value.int IntKind.i64 (f i)]) k)));let zz2:=(f (0+Int.toNat (Int.ofNat (n-1-k))) !=f (0+Int.toNat (Int.ofNat (n-1-k))));let zz3:=(f (0+Int.toNat (Int.ofNat (n-1-k)))<f zz0);let zz4:=[some (lkA (List.zip [0,3] (srtV n k)) 0),some (lkA (List.zip [0,3] (srtV n k)) 3),some (AV.c (AC.v (Value.bool false)))];let zz5:=[some (lkA (List.zip [0,3] (srtV n k)) 0),some (AV.c (AC.v (Value.int IntKind.i64 (IntKind.wrap IntKind.i64 (Int.ofNat (n-1-k)-Int.ofNat 1))))),some (lkA (List.zip [0,3] (srtV n k)) 2)];let zq0:List Bool:=[ABlk.inb zz1 zz0 1,true,decide (Int.ofNat 0≤IntKind.wrap .i64 (Int.ofNat (n-1-k)-Int.ofNat 1)∧IntKind.wrap .i64 (Int.ofNat (n-1-k)-Int.ofNat 1) < ↑n),ABlk.inb zz1 (0+Int.toNat (Int.ofNat (n-1-k))) 1,true,decide (Int.ofNat 0≤Int.ofNat (n-1-k)∧Int.ofNat (n-1-k) < ↑n),decide (Int.ofNat (n-1-k)>Int.ofNat 0)==true];let zq1:List Bool:=(zz2==true)::zq0;let zq2:List Bool:=((!f zz0 !=f zz0)==false)::zq1;let zq3:List Bool:=(zz2==false)::zq0;(((decide (Int.ofNat (n-1-k)>Int.ofNat 0))=true→((zz2=true→(((!f zz0 !=f zz0)=true→Q (Exit.ret,zz4,[some zz1],21,1100000000000000000000000000000000000000003,(((!f zz0 !=f zz0)==true)::zq1),[]))∧((!f zz0 !=f zz0)=false→(((decide zz3)=true→Q (Exit.ret,zz4,[some zz1],21,1100000000000000000000000000000000000000003,((decide zz3==true)::zq2),[]))∧((decide zz3)=false→Q (Exit.normal,zz5,[some zz1],21,1100000000000000000000000000000000000000005,((decide zz3==false)::zq2),[]))))))∧(zz2=false→(((decide zz3)=true→Q (Exit.ret,zz4,[some zz1],21,1100000000000000000000000000000000000000003,((decide zz3==true)::zq3),[]))∧((decide zz3)=false→Q (Exit.normal,zz5,[some zz1],21,1100000000000000000000000000000000000000005,((decide zz3==false)::zq3),[]))))))∧((decide (Int.ofNat (n-1-k)>Int.ofNat 0))=false→Q (Exit.exit 0,[some (lkA (List.zip [0,3] (srtV n k)) 0),some (lkA (List.zip [0,3] (srtV n k)) 3),some (lkA (List.zip [0,3] (srtV n k)) 2)],[some zz1],21,1000000000000000000000000000000000000000002,[decide (Int.ofNat (n-1-k)>Int.ofNat 0)==false],[])))):
 ∃p r,srtR Tryz.prog f n k p=some r∧Q r:=
 two H
 (fun g1=>two g1
  (fun g2=>two g2
   (fun g3=>⟨pD 8 85,_,by kernel_rfl,g3⟩)
   (fun g3=>two g3
    (fun g4=>⟨pD 8 2353,_,by kernel_rfl,g4⟩)
    (fun g4=>⟨pD 8 4540,_,by kernel_rfl,g4⟩)))
  (fun g2=>two g2
   (fun g3=>⟨pD 8 2194,_,by kernel_rfl,g3⟩)
   (fun g3=>⟨pD 8 4381,_,by kernel_rfl,g3⟩)))
 (fun g1=>⟨pD 1 2,_,by kernel_rfl,g1⟩)
end Go.Proofs.YtpgaplcdbbnblaaGreatDoor
end
/- What configs.New leans on: the sums of loops. -/
section
namespace Go.Proofs.YtpgaplcdbbnblaaGreatDoor
open Go.RowKit
theorem hE1:EnvOk (E1 Tryz.prog):=envOk (fun _ _ h=>by cases h) (by kernel_rfl) (by kernel_rfl)
theorem wrap_nat (x:Int) (h0: -9223372036854775808≤x) (h1:x≤9223372036854775807):IntKind.wrap .i64 x=x:=IntWalk.i64_in _ (by first|exact⟨h0,h1⟩|omega)
theorem ints_low {N ty n:Nat} {f:Nat→Int}:lowB N (ints ty n f):=rBlk_low
theorem ins_ob (f:Nat→Int) (n:Nat) (many:Int) (N:Nat) (hN:1001≤N) (hN2:N≤1000000000000000000000000000000000000000000) (hn:n≤1000000) (j:Nat) (hj:j≤n) (hmin:∀i,i<j→0≤f i∧f i<many) (hyes:j<n→f j<0∨many≤f j) {e:Exit} {out:List (Nat × AV)}
 (hF:(j<n→e= .ret∧out=[(4,i64 (Int.ofNat j))])∧(j=n→e= .exit 0∧out=[])):
 LoopV Tryz.prog (loopAt Tryz.prog 239 0) [0,1,7,8] [0,1000] ((insV n 0).map some) ((insB f n many).map some) 19 N (mkFr 19 out) [] 100000000000000000000000000000000000000000000000000 e none:=by
 have e0:∀k:Nat,0+Int.toNat (Int.ofNat k)=k:=fun k=>by simp
 have hw:∀k,k<n→IntKind.wrap IntKind.i64 (Int.ofNat k+Int.ofNat 1)=Int.ofNat (k+1):=fun k hk=>by rw[wrap_nat _ (by simp;omega) (by simp;omega)];rfl
 refine scan_ob hE1 (fuel:=100) (str:=10000000000000000000000000000000000000000) (nh:=1000000000000000000000000000000000000000000) [0,1,7,8] [4] [0,1000] (insV n) (insB f n many) j hN2 (by decide) (by unfold lim;omega) ?_ (fun _=>⟨rfl,rfl⟩) ?_ ?_ ?_ ?_ ?_
 · rcases Nat.lt_or_ge j n with h|h
   · rw[(hF.1 h).1];simp
   · rw[(hF.2 (by omega)).1];simp
 · simp[keptB];omega
 · intro k _
   simp[okV,lowV,lowC,notAny,i64];omega
 · intro b hb
   simp only[List.mem_cons,List.not_mem_nil,or_false] at hb
   rcases hb with rfl|rfl
   · exact ints_low
   · exact oBlk_low
 · intro k hk
   refine ins f n many k _ ⟨fun c1=>⟨fun c2=>?_,fun c2=>⟨fun c3=>?_,fun c3=>?_⟩⟩,fun c1=>?_⟩<;>simp only[e0] at *
   · simp at c2;have:=hmin k hk;omega
   · simp at c3;have:=hmin k hk;omega
   · have hlt:k<n:=by omega
     have:=hmin k hk
     refine⟨⟨?_,rfl,by dsimp only;omega,rfl⟩,rfl,?_,BL.refl _⟩
     · simp only[allT,List.forall_mem_cons,e0]
       simp[inb_arr,hlt]
       omega
     · dsimp only;rw[hw k hlt];rfl
   · simp at c1;omega
 · refine ins f n many j _ ⟨fun c1=>⟨fun c2=>?_,fun c2=>⟨fun c3=>?_,fun c3=>?_⟩⟩,fun c1=>?_⟩<;>simp only[e0] at *
   · have hlt:j<n:=by simpa using c1
     obtain⟨rfl,rfl⟩:=hF.1 hlt
     refine EndV_one ⟨?_,rfl,by dsimp only;omega,rfl⟩ rfl rfl ?_
     · simp only[allT,List.forall_mem_cons,e0]
       simp at c2
       simp[inb_arr,hlt,c2]
     · simp[i64]
   · have hlt:j<n:=by simpa using c1
     obtain⟨rfl,rfl⟩:=hF.1 hlt
     refine EndV_one ⟨?_,rfl,by dsimp only;omega,rfl⟩ rfl rfl ?_
     · simp only[allT,List.forall_mem_cons,e0]
       simp at c2 c3
       simp[inb_arr,hlt,c2,c3]
     · simp[i64]
   · have hlt:j<n:=by simpa using c1
     simp at c2 c3
     have:=hyes hlt
     omega
   · have hlt:¬j<n:=by simpa using c1
     obtain⟨rfl,rfl⟩:=hF.2 (by omega)
     refine EndV_nil ⟨?_,rfl,by dsimp only;omega,rfl⟩ rfl
     simp[allT];omega
def withinF (x lo hi:Int):Int:=if x>hi then 3 else if x<lo then 1 else 0
theorem each_ob (f:Nat→Int) (n:Nat) (lo hi:Int) (N:Nat) (hN:1≤N) (hN2:N≤1000000000000000000000000000000000000000000) (hn:n≤9223372036854775807) (j:Nat) (hj:j≤n) (hmin:∀i,i<j→withinF (f i) lo hi=0) (hyes:j<n→withinF (f j) lo hi≠0) {e:Exit} {out:List (Nat × AV)}
 (hF:(j<n→e= .ret∧out=[(6,i64 (withinF (f j) lo hi))])∧(j=n→e= .exit 0∧out=[])):
 LoopV Tryz.prog (loopAt Tryz.prog 134 0) [1,2,10,11,12] [0] ((eachV lo hi n 0).map some) ([ints 3 n f].map some) 24 N (mkFr 24 out) [] 100000000000000000000000000000000000000000000000000 e none:=by
 have e0:∀k:Nat,0+Int.toNat (Int.ofNat k)=k:=fun k=>by simp
 have hw:∀k,k<n→IntKind.wrap IntKind.i64 (Int.ofNat k+Int.ofNat 1)=Int.ofNat (k+1):=fun k hk=>by rw[wrap_nat _ (by simp;omega) (by simp;omega)];rfl
 refine scan_ob hE1 (fuel:=100) (str:=10000000000000000000000000000000000000000) (nh:=1000000000000000000000000000000000000000000) [1,2,10,11,12] [6] [0] (eachV lo hi n) [ints 3 n f] j hN2 (by decide) (by unfold lim;omega) ?_ (fun _=>⟨rfl,rfl⟩) ?_ ?_ ?_ ?_ ?_
 · rcases Nat.lt_or_ge j n with h|h
   · rw[(hF.1 h).1];simp
   · rw[(hF.2 (by omega)).1];simp
 · simp[keptB];omega
 · intro k _
   simp[okV,lowV,lowC,notAny,i64];omega
 · intro b hb
   rw[List.mem_singleton.1 hb]
   exact ints_low
 · intro k hk
   have hm:=hmin k hk
   unfold withinF at hm
   refine each f n lo hi k _ ⟨fun c1=>⟨fun c2=>?_,fun c2=>⟨fun c3=>?_,fun c3=>?_⟩⟩,fun c1=>?_⟩<;>simp only[e0] at *
   · simp at c2;rw[if_pos c2] at hm;omega
   · simp at c2 c3;rw[if_neg (by omega),if_pos c3] at hm;omega
   · have hlt:k<n:=by omega
     simp at c2 c3
     refine⟨⟨?_,rfl,by dsimp only;omega,rfl⟩,rfl,?_,BL.refl _⟩
     · simp only[allT,List.forall_mem_cons,e0]
       simp[inb_arr,hlt,c2,c3]
     · dsimp only;rw[hw k hlt];rfl
   · simp at c1;omega
 · refine each f n lo hi j _ ⟨fun c1=>⟨fun c2=>?_,fun c2=>⟨fun c3=>?_,fun c3=>?_⟩⟩,fun c1=>?_⟩<;>simp only[e0] at *
   · have hlt:j<n:=by simpa using c1
     obtain⟨rfl,rfl⟩:=hF.1 hlt
     simp at c2
     have hz:withinF (f j) lo hi=3:=by unfold withinF;rw[if_pos c2]
     refine EndV_one ⟨?_,rfl,by dsimp only;omega,rfl⟩ rfl rfl ?_
     · simp only[allT,List.forall_mem_cons,e0]
       simp[inb_arr,hlt,c2]
     · rw[hz];simp[i64]
   · have hlt:j<n:=by simpa using c1
     obtain⟨rfl,rfl⟩:=hF.1 hlt
     simp at c2 c3
     have hz:withinF (f j) lo hi=1:=by unfold withinF;rw[if_neg (by omega),if_pos c3]
     refine EndV_one ⟨?_,rfl,by dsimp only;omega,rfl⟩ rfl rfl ?_
     · simp only[allT,List.forall_mem_cons,e0]
       simp[inb_arr,hlt,c2,c3]
     · rw[hz];simp[i64]
   · have hlt:j<n:=by simpa using c1
     simp at c2 c3
     have:=hyes hlt
     unfold withinF at this
     rw[if_neg (by omega),if_neg (by omega)] at this
     omega
   · have hlt:¬j<n:=by simpa using c1
     obtain⟨rfl,rfl⟩:=hF.2 (by omega)
     refine EndV_nil ⟨?_,rfl,by dsimp only;omega,rfl⟩ rfl
     simp[allT];omega
theorem srt_ob (f:Nat→Int) (n:Nat) (N:Nat) (hN:1≤N) (hN2:N≤1000000000000000000000000000000000000000000) (hn1:1≤n) (hn:n≤1000000) (j:Nat) (hj:j≤n-1) (hmin:∀i,i<j→f (n-1-i-1)≤f (n-1-i)) (hyes:j<n-1→f (n-1-j)<f (n-1-j-1)) {e:Exit} {out:List (Nat × AV)}
 (hF:(j<n-1→e= .ret∧out=[(2,bo false)])∧(j=n-1→e= .exit 0∧out=[])) {z:Int} (hz:z=Int.ofNat (n-1-0)):
 LoopV Tryz.prog (loopAt Tryz.prog 126 0) [0,3] [0] [some (.c (.sl 0 0 0 n none)),some (i64 z)] ([ints 3 n f].map some) 21 N (mkFr 21 out) [] 100000000000000000000000000000000000000000000000000 e none:=by
 subst hz
 have e0:∀k:Nat,0+Int.toNat (Int.ofNat k)=k:=fun k=>by simp
 have hw:∀m:Nat,m<n→0<m→IntKind.wrap IntKind.i64 (Int.ofNat m-Int.ofNat 1)=Int.ofNat (m-1):=fun m hm h0=>by
  rw[wrap_nat _ (by simp;omega) (by simp;omega)];simp;omega
 refine scan_ob hE1 (fuel:=100) (str:=10000000000000000000000000000000000000000) (nh:=1000000000000000000000000000000000000000000) [0,3] [2] [0] (srtV n) [ints 3 n f] j hN2 (by decide) (by unfold lim;omega) ?_ (fun _=>⟨rfl,rfl⟩) ?_ ?_ ?_ ?_ ?_
 · rcases Nat.lt_or_ge j (n-1) with h|h
   · rw[(hF.1 h).1];simp
   · rw[(hF.2 (by omega)).1];simp
 · simp[keptB];omega
 · intro k _
   simp[okV,lowV,lowC,notAny,i64];omega
 · intro b hb
   rw[List.mem_singleton.1 hb]
   exact ints_low
 · intro k hk
   have hm:=hmin k hk
   have hpos:0<n-1-k:=by omega
   have hw1:=hw (n-1-k) (by omega) hpos
   have hk2:n-1-(k+1)=n-1-k-1:=by omega
   refine srt f n k _ ⟨fun c1=>⟨fun c2=>⟨fun c3=>?_,fun c3=>⟨fun c4=>?_,fun c4=>?_⟩⟩,fun c2=>⟨fun c4=>?_,fun c4=>?_⟩⟩,fun c1=>?_⟩<;>simp only[hw1,e0] at *
   · simp at c2
   · simp at c2
   · simp at c2
   · simp at c4;omega
   · refine⟨⟨?_,rfl,by dsimp only;omega,rfl⟩,rfl,?_,BL.refl _⟩
     · simp only[allT,List.forall_mem_cons,hw1,e0]
       simp at c4
       simp[inb_arr,c4]
       omega
     · show _=[some _,some (i64 (Int.ofNat (n-1-(k+1))))]
       rw[hk2];rfl
   · simp at c1;omega
 · refine srt f n j _ ⟨fun c1=>⟨fun c2=>⟨fun c3=>?_,fun c3=>⟨fun c4=>?_,fun c4=>?_⟩⟩,fun c2=>⟨fun c4=>?_,fun c4=>?_⟩⟩,fun c1=>?_⟩
   · simp at c2
   · simp at c2
   · simp at c2
   · have hpos:0<n-1-j:=by simp at c1;omega
     have hw1:=hw (n-1-j) (by omega) hpos
     obtain⟨rfl,rfl⟩:=hF.1 (by omega)
     simp only[hw1,e0] at *
     refine EndV_one ⟨?_,rfl,by dsimp only;omega,rfl⟩ rfl rfl ?_
     · simp only[allT,List.forall_mem_cons,hw1,e0]
       simp at c4
       simp[inb_arr,c4]
       omega
     · simp[bo]
   · have hpos:0<n-1-j:=by simp at c1;omega
     have hw1:=hw (n-1-j) (by omega) hpos
     simp only[hw1,e0] at *
     have:=hyes (by omega)
     simp at c4
     omega
   · have hlt:¬0<n-1-j:=by simp at c1;omega
     obtain⟨rfl,rfl⟩:=hF.2 (by omega)
     refine EndV_nil ⟨?_,rfl,by dsimp only;omega,rfl⟩ rfl
     simp[allT];omega
end Go.Proofs.YtpgaplcdbbnblaaGreatDoor
end
/- What configs.New leans on: functions with their loops' sums as the evaluator runs them. -/
section
namespace Go.Proofs.YtpgaplcdbbnblaaGreatDoor
open Go.RowKit
def insS (e:Exit) (l:List (Nat × AV)):LSum:=⟨[0,1,7,8],[0,1000],mkFr 19 l,[],100000000000000000000000000000000000000000000000000,e⟩
def inside1 (P:Program) (f:Nat→Int) (n:Nat) (many:Int) (e:Exit) (l:List (Nat × AV)):Option VF:=
 viewF [] (fCallF (E1 P) (fC (E1 P) 300) 125 [.c (.sl 0 0 0 n none),i64 many] 1000 10000000000000000000000000000000000000000 (stA [(0,ints 3 n f)] [] [some (insS e l)]))
theorem ins_yes (f:Nat→Int) (n:Nat) (many:Int) (j:Nat):inside1 Tryz.prog f n many .ret [(4,i64 (Int.ofNat j))]=
 some (.c (.v (.bool false)),[],100000000000000000000000000000000000000000000000004,[],[LoopV Tryz.prog (loopAt Tryz.prog 239 0) [0,1,7,8] [0,1000] [some (.c (.sl 0 0 0 n none)),some (.c (AC.fn 192 [(1000,0,0)])),some (.c (.v (.int .i64 ↑n))),some (.c (.v (.int .i64 (Int.ofNat 0))))] [some (ABlk.mk false false 3 1 (Cs.arr n fun k=>List.map AC.v ((fun i=>[Value.int .i64 (f i)]) k))),some (ABlk.mk true false 3 0 (Cs.lit [.v (.int .i64 many)]))] 19 1011 (mkFr 19 [(4,i64 (Int.ofNat j))]) [] 100000000000000000000000000000000000000000000000000 Exit.ret none]):=by kernel_rfl
theorem ins_no (f:Nat→Int) (n:Nat) (many:Int):inside1 Tryz.prog f n many (.exit 0) []=
 some (.c (.v (.bool true)),[],100000000000000000000000000000000000000000000000005,[],[LoopV Tryz.prog (loopAt Tryz.prog 239 0) [0,1,7,8] [0,1000] [some (.c (.sl 0 0 0 n none)),some (.c (AC.fn 192 [(1000,0,0)])),some (.c (.v (.int .i64 ↑n))),some (.c (.v (.int .i64 (Int.ofNat 0))))] [some (ABlk.mk false false 3 1 (Cs.arr n fun k=>List.map AC.v ((fun i=>[Value.int .i64 (f i)]) k))),some (ABlk.mk true false 3 0 (Cs.lit [.v (.int .i64 many)]))] 19 1011 (mkFr 19 []) [] 100000000000000000000000000000000000000000000000000 (Exit.exit 0) none]):=by kernel_rfl
def eachS (e:Exit) (l:List (Nat × AV)):LSum:=⟨[1,2,10,11,12],[0],mkFr 24 l,[],100000000000000000000000000000000000000000000000000,e⟩
def each1 (P:Program) (f:Nat→Int) (n:Nat) (lo hi:Int) (e:Exit) (l:List (Nat × AV)):Option VF:=
 viewF [] (fCallF (E1 P) (fC (E1 P) 300) 134 [.c (.sl 0 0 0 n none),i64 lo,i64 hi] 1000 10000000000000000000000000000000000000000 (stA [(0,ints 3 n f)] [] [some (eachS e l)]))
theorem each_yes (f:Nat→Int) (n:Nat) (lo hi z:Int):each1 Tryz.prog f n lo hi .ret [(6,i64 z)]=
 some (.c (.v (.int .i64 z)),[],100000000000000000000000000000000000000000000000000,[],[LoopV Tryz.prog (loopAt Tryz.prog 134 0) [1,2,10,11,12] [0] [some (.c (.v (.int .i64 lo))),some (.c (.v (.int .i64 hi))),some (.c (.sl 0 0 0 n none)),some (.c (.v (.int .i64 ↑n))),some (.c (.v (.int .i64 (Int.ofNat 0))))] [some (ABlk.mk false false 3 1 (Cs.arr n fun k=>List.map AC.v ((fun i=>[Value.int .i64 (f i)]) k)))] 24 1004 (mkFr 24 [(6,i64 z)]) [] 100000000000000000000000000000000000000000000000000 Exit.ret none]):=by kernel_rfl
theorem each_no (f:Nat→Int) (n:Nat) (lo hi:Int):each1 Tryz.prog f n lo hi (.exit 0) []=
 some (.c (.v (.int .i64 (Int.ofNat 0))),[],100000000000000000000000000000000000000000000000001,[],[LoopV Tryz.prog (loopAt Tryz.prog 134 0) [1,2,10,11,12] [0] [some (.c (.v (.int .i64 lo))),some (.c (.v (.int .i64 hi))),some (.c (.sl 0 0 0 n none)),some (.c (.v (.int .i64 ↑n))),some (.c (.v (.int .i64 (Int.ofNat 0))))] [some (ABlk.mk false false 3 1 (Cs.arr n fun k=>List.map AC.v ((fun i=>[Value.int .i64 (f i)]) k)))] 24 1004 (mkFr 24 []) [] 100000000000000000000000000000000000000000000000000 (Exit.exit 0) none]):=by kernel_rfl
def srtS (e:Exit) (l:List (Nat × AV)):LSum:=⟨[0,3],[0],mkFr 21 l,[],100000000000000000000000000000000000000000000000000,e⟩
def srt1 (P:Program) (f:Nat→Int) (n:Nat) (e:Exit) (l:List (Nat × AV)):Option VF:=
 viewF [] (fCallF (E1 P) (fC (E1 P) 300) 126 [.c (.sl 0 0 0 n none)] 1000 10000000000000000000000000000000000000000 (stA [(0,ints 3 n f)] [] [some (srtS e l)]))
theorem srt_yes (f:Nat→Int) (n:Nat):srt1 Tryz.prog f n .ret [(2,bo false)]=
 some (.c (.v (.bool false)),[],100000000000000000000000000000000000000000000000000,[],[LoopV Tryz.prog (loopAt Tryz.prog 126 0) [0,3] [0] [some (.c (.sl 0 0 0 n none)),some (.c (.v (.int .i64 (IntKind.wrap .i64 (↑n-Int.ofNat 1)))))] [some (ABlk.mk false false 3 1 (Cs.arr n fun k=>List.map AC.v ((fun i=>[Value.int .i64 (f i)]) k)))] 21 1005 (mkFr 21 [(2,bo false)]) [] 100000000000000000000000000000000000000000000000000 Exit.ret none]):=by kernel_rfl
theorem srt_no (f:Nat→Int) (n:Nat):srt1 Tryz.prog f n (.exit 0) []=
 some (.c (.v (.bool true)),[],100000000000000000000000000000000000000000000000001,[],[LoopV Tryz.prog (loopAt Tryz.prog 126 0) [0,3] [0] [some (.c (.sl 0 0 0 n none)),some (.c (.v (.int .i64 (IntKind.wrap .i64 (↑n-Int.ofNat 1)))))] [some (ABlk.mk false false 3 1 (Cs.arr n fun k=>List.map AC.v ((fun i=>[Value.int .i64 (f i)]) k)))] 21 1005 (mkFr 21 []) [] 100000000000000000000000000000000000000000000000000 (Exit.exit 0) none]):=by kernel_rfl
end Go.Proofs.YtpgaplcdbbnblaaGreatDoor
end
/- What configs.New leans on: contracts of inside, each, slices.IsSorted. -/
section
namespace Go.Proofs.YtpgaplcdbbnblaaGreatDoor
open Go.RowKit
theorem γt_vals {β:Nm}:∀(l:List Value),γt β (l.map fun v=>.c (.v v))=some l
 | []=>rfl
 |x::r=>by simp only[List.map_cons,γt,γ1,γc];rw[γt_vals r]
theorem γt_valsI (l:List Value) {restA:List AV} (h:restA=l.map fun v=>.c (.v v)):∀(β1 β2:Nm) us,γt β1 restA=some us→γt β2 restA=some us:=by
 subst h;intro β1 β2 us hu;rw[γt_vals] at hu ⊢;exact hu
def insideF (f:Nat→Int) (n:Nat) (many:Int):Bool:=(List.range n).all fun i=>decide (0≤f i∧f i<many)
def ctInside:CtF
 | [.c a,.c (.v (.int .i64 many))],m,_=>match slOf 1 m a with|some (n,F,b)=>some (bo (insideF (fA F) n many),[],0,[b,decide (n≤1000000),intsOk n F])|none=>none
 |_,_,_=>none
theorem inside_run (f:Nat→Int) (n:Nat) (many:Int) (hn:n≤1000000):∃p lp r,viewF [] (fCallF (E1 Tryz.prog) (fC (E1 Tryz.prog) 300) 125 (.c (.sl 0 0 0 n none)::[i64 many]) 1000 10000000000000000000000000000000000000000 (stA [(0,ints 3 n f)] p lp))=some r∧
 r.1=bo (insideF f n many)∧r.2.2.1≤lim∧allT r.2.2.2.1∧∀q∈r.2.2.2.2,q:=by
 obtain⟨j,hj,hmin,hyes⟩:=first_stop n fun i=>!decide (0≤f i∧f i<many)
 have hmin:∀i,i<j→0≤f i∧f i<many:=fun i hi=>by simpa using hmin i hi
 rcases Nat.lt_or_ge j n with h|h
 · have hy:f j<0∨many≤f j:=by have:=hyes h;simp at this;omega
   refine⟨_,_,_,ins_yes f n many j,?_,by dsimp only;unfold lim;omega,by simp[allT],fun q hq=>?_⟩
   · have:insideF f n many=false:=by
      unfold insideF
      rw[List.all_eq_false]
      exact⟨j,by simpa using h,by simp;omega⟩
     simp[bo,this]
   · rw[List.mem_singleton.1 hq]
     exact ins_ob f n many _ (by omega) (by omega) hn j hj hmin (fun _=>hy) ⟨fun _=>⟨rfl,rfl⟩,fun h=>by omega⟩
 · obtain rfl:j=n:=by omega
   refine⟨_,_,_,ins_no f j many,?_,by dsimp only;unfold lim;omega,by simp[allT],fun q hq=>?_⟩
   · have:insideF f j many=true:=by
      unfold insideF
      exact List.all_eq_true.2 fun i hi=>by have:=hmin i (by simpa using hi);simp[this]
     simp[bo,this]
   · rw[List.mem_singleton.1 hq]
     exact ins_ob f j many _ (by omega) (by omega) hn j hj hmin (fun h=>by omega) ⟨fun h=>by omega,fun _=>⟨rfl,rfl⟩⟩
theorem ct_inside:CtOk Tryz.prog 125 ctInside:=by
 refine⟨⟨_,_,Tryz.func125,rfl⟩,fun C β m m2 w args ib r news k' ob vs hct ho hs hr hfree hlim hv=>?_⟩
 unfold ctInside at hct
 split at hct
 · rename_i a many
   split at hct
   · rename_i n F b hsl
     simp only[Option.some.injEq,Prod.mk.injEq] at hct
     obtain⟨rfl,rfl,rfl,rfl⟩:=hct
     simp only[allT,List.forall_mem_cons,decide_eq_true_eq] at ho
     obtain⟨rfl,o2,o3,_⟩:=ho
     exact pure1 hE1 hs hr hsl o3 hv (γt_valsI [.int .i64 many] rfl) (fun _ _ _ h=>h) 3 (inside_run (fA F) n many o2)
   · cases hct
 · cases hct
def eachF (f:Nat→Int) (n:Nat) (lo hi:Int):Int:=match (List.range n).find? (fun i=>!(withinF (f i) lo hi==0)) with|some j=>withinF (f j) lo hi|none=>0
def ctEach:CtF
 | [.c a,.c (.v (.int .i64 lo)),.c (.v (.int .i64 hi))],m,_=>match slOf 1 m a with|some (n,F,b)=>some (i64 (eachF (fA F) n lo hi),[],0,[b,decide (n≤9223372036854775807),intsOk n F])|none=>none
 |_,_,_=>none
theorem find_first {n j:Nat} {q:Nat→Bool} (h1:∀i,i<j→q i=false) (hj:j≤n) (h2:j<n→q j=true):(List.range n).find? q=if j<n then some j else none:=by
 split
 · rename_i h
   rw[List.find?_range_eq_some]
   exact⟨h2 h,by simpa using h,fun i hi=>by simpa using h1 i hi⟩
 · rename_i h
   rw[List.find?_eq_none]
   intro i hi
   have:i<j:=by simp at hi;omega
   simp[h1 i this]
theorem each_run (f:Nat→Int) (n:Nat) (lo hi:Int) (hn:n≤9223372036854775807):∃p lp r,viewF [] (fCallF (E1 Tryz.prog) (fC (E1 Tryz.prog) 300) 134 (.c (.sl 0 0 0 n none)::[i64 lo,i64 hi]) 1000 10000000000000000000000000000000000000000 (stA [(0,ints 3 n f)] p lp))=some r∧
 r.1=i64 (eachF f n lo hi)∧r.2.2.1≤lim∧allT r.2.2.2.1∧∀q∈r.2.2.2.2,q:=by
 obtain⟨j,hj,hmin,hyes⟩:=first_stop n fun i=>!(withinF (f i) lo hi==0)
 have hfd:=find_first hmin hj hyes
 have hmin':∀i,i<j→withinF (f i) lo hi=0:=fun i hi=>by simpa using hmin i hi
 rcases Nat.lt_or_ge j n with h|h
 · have hy:withinF (f j) lo hi≠0:=by simpa using hyes h
   rw[if_pos h] at hfd
   have hE:eachF f n lo hi=withinF (f j) lo hi:=by unfold eachF;rw[hfd]
   refine⟨_,_,_,each_yes f n lo hi (withinF (f j) lo hi),by rw[hE];rfl,by dsimp only;unfold lim;omega,by simp[allT],fun q hq=>?_⟩
   rw[List.mem_singleton.1 hq]
   exact each_ob f n lo hi _ (by omega) (by omega) hn j hj hmin' (fun _=>hy) ⟨fun _=>⟨rfl,rfl⟩,fun h=>by omega⟩
 · obtain rfl:j=n:=by omega
   rw[if_neg (by omega)] at hfd
   have hE:eachF f j lo hi=0:=by unfold eachF;rw[hfd]
   refine⟨_,_,_,each_no f j lo hi,by rw[hE];rfl,by dsimp only;unfold lim;omega,by simp[allT],fun q hq=>?_⟩
   rw[List.mem_singleton.1 hq]
   exact each_ob f j lo hi _ (by omega) (by omega) hn j hj hmin' (fun h=>by omega) ⟨fun h=>by omega,fun _=>⟨rfl,rfl⟩⟩
theorem ct_each:CtOk Tryz.prog 134 ctEach:=by
 refine⟨⟨_,_,Tryz.func134,rfl⟩,fun C β m m2 w args ib r news k' ob vs hct ho hs hr hfree hlim hv=>?_⟩
 unfold ctEach at hct
 split at hct
 · rename_i a lo hi
   split at hct
   · rename_i n F b hsl
     simp only[Option.some.injEq,Prod.mk.injEq] at hct
     obtain⟨rfl,rfl,rfl,rfl⟩:=hct
     simp only[allT,List.forall_mem_cons,decide_eq_true_eq] at ho
     obtain⟨rfl,o2,o3,_⟩:=ho
     exact pure1 hE1 hs hr hsl o3 hv (γt_valsI [.int .i64 lo,.int .i64 hi] rfl) (fun _ _ _ h=>h) 3 (each_run (fA F) n lo hi o2)
   · cases hct
 · cases hct
def sortedF (f:Nat→Int) (n:Nat):Bool:=(List.range (n-1)).all fun i=>decide (f i≤f (i+1))
def ctSorted:CtF
 | [.c a],m,_=>match slOf 1 m a with|some (n,F,b)=>some (bo (sortedF (fA F) n),[],0,[b,decide (1≤n),decide (n≤1000000),intsOk n F])|none=>none
 |_,_,_=>none
theorem sorted_run (f:Nat→Int) (n:Nat) (hn1:1≤n) (hn:n≤1000000):∃p lp r,viewF [] (fCallF (E1 Tryz.prog) (fC (E1 Tryz.prog) 300) 126 (.c (.sl 0 0 0 n none)::[]) 1000 10000000000000000000000000000000000000000 (stA [(0,ints 3 n f)] p lp))=some r∧
 r.1=bo (sortedF f n)∧r.2.2.1≤lim∧allT r.2.2.2.1∧∀q∈r.2.2.2.2,q:=by
 obtain⟨j,hj,hmin,hyes⟩:=first_stop (n-1) fun i=>decide (f (n-1-i)<f (n-1-i-1))
 have hmin':∀i,i<j→f (n-1-i-1)≤f (n-1-i):=fun i hi=>by have:=hmin i hi;simp at this;omega
 have hz:IntKind.wrap IntKind.i64 (((n:Nat):Int)-Int.ofNat 1)=Int.ofNat (n-1-0):=by rw[wrap_nat _ (by simp;omega) (by simp;omega)];simp;omega
 rcases Nat.lt_or_ge j (n-1) with h|h
 · have hy:f (n-1-j)<f (n-1-j-1):=by simpa using hyes h
   refine⟨_,_,_,srt_yes f n,?_,by dsimp only;unfold lim;omega,by simp[allT],fun q hq=>?_⟩
   · have:sortedF f n=false:=by
      unfold sortedF
      rw[List.all_eq_false]
      refine⟨n-1-j-1,by simp;omega,?_⟩
      have e:n-1-j-1+1=n-1-j:=by omega
      rw[e];simp;omega
     simp[bo,this]
   · rw[List.mem_singleton.1 hq]
     exact srt_ob f n _ (by omega) (by omega) hn1 hn j hj hmin' (fun _=>hy) ⟨fun _=>⟨rfl,rfl⟩,fun h=>by omega⟩ hz
 · obtain rfl:j=n-1:=by omega
   refine⟨_,_,_,srt_no f n,?_,by dsimp only;unfold lim;omega,by simp[allT],fun q hq=>?_⟩
   · have:sortedF f n=true:=by
      unfold sortedF
      refine List.all_eq_true.2 fun i hi=>?_
      have hi:i<n-1:=by simpa using hi
      have:=hmin' (n-1-i-1) (by omega)
      have e1:n-1-(n-1-i-1)=i+1:=by omega
      have e2:n-1-(n-1-i-1)-1=i:=by omega
      rw[e2,e1] at this
      simpa using this
     simp[bo,this]
   · rw[List.mem_singleton.1 hq]
     exact srt_ob f n _ (by omega) (by omega) hn1 hn (n-1) hj hmin' (fun h=>by omega) ⟨fun h=>by omega,fun _=>⟨rfl,rfl⟩⟩ hz
theorem ct_sorted:CtOk Tryz.prog 126 ctSorted:=by
 refine⟨⟨_,_,Tryz.func126,rfl⟩,fun C β m m2 w args ib r news k' ob vs hct ho hs hr hfree hlim hv=>?_⟩
 unfold ctSorted at hct
 split at hct
 · rename_i a
   split at hct
   · rename_i n F b hsl
     simp only[Option.some.injEq,Prod.mk.injEq] at hct
     obtain⟨rfl,rfl,rfl,rfl⟩:=hct
     simp only[allT,List.forall_mem_cons,decide_eq_true_eq] at ho
     obtain⟨rfl,o1,o2,o3,_⟩:=ho
     exact pure1 hE1 hs hr hsl o3 hv (γt_valsI [] rfl) (fun _ _ _ h=>h) 3 (sorted_run (fA F) n o1 o2)
   · cases hct
 · cases hct
end Go.Proofs.YtpgaplcdbbnblaaGreatDoor
end
/- The rules of configs that look at numbers alone, as the evaluator runs them; rings.Step; slices.Index's round. -/
section
namespace Go.Proofs.YtpgaplcdbbnblaaGreatDoor
open Go.RowKit
def ENw (P:Program):Env:=⟨P,[(125,ctInside),(134,ctEach),(126,ctSorted)]⟩
def cfgR (P:Program) (f:FuncId) (c:Cfg) (path:List Dec):Option VF:=viewF [] (fCallF (ENw P) (fC (ENw P) 300) f [.agg (cfgC c)] 1000 10000000000000000000000000000000000000000 (stA (cfgM c) path []))
theorem ru1 (c:Cfg) (Q:VF→Prop) (H:(((decide (c.nodes>Int.ofNat 16))=true→Q (.c (.v (.int .i64 (Int.ofNat 3))),[],1011,[decide (c.nodes>Int.ofNat 16)==true,true,true],[]))∧((decide (c.nodes>Int.ofNat 16))=false→(((decide (c.nodes<Int.ofNat 4))=true→Q (.c (.v (.int .i64 (Int.ofNat 1))),[],1015,[decide (c.nodes<Int.ofNat 4)==true,decide (c.nodes>Int.ofNat 16)==false,true,true],[]))∧((decide (c.nodes<Int.ofNat 4))=false→Q (.c (.v (.int .i64 (Int.ofNat 0))),[],1015,[decide (c.nodes<Int.ofNat 4)==false,decide (c.nodes>Int.ofNat 16)==false,true,true],[])))))):
 ∃p r,cfgR Tryz.prog 120 c p=some r∧Q r:=
 two H
 (fun g1=>⟨pD 1 1,_,by kernel_rfl,g1⟩)
 (fun g1=>two g1
  (fun g2=>⟨pD 2 5,_,by kernel_rfl,g2⟩)
  (fun g2=>⟨pD 2 8,_,by kernel_rfl,g2⟩))
theorem ru2 (c:Cfg) (Q:VF→Prop) (H:(((decide (↑(c.np)>Int.ofNat 8))=true→Q (.c (.v (.int .i64 (Int.ofNat 3))),[],1012,[decide (↑(c.np)>Int.ofNat 8)==true,true],[]))∧((decide (↑(c.np)>Int.ofNat 8))=false→(((decide (↑(c.np)<Int.ofNat 2))=true→Q (.c (.v (.int .i64 (Int.ofNat 1))),[],1016,[decide (↑(c.np)<Int.ofNat 2)==true,decide (↑(c.np)>Int.ofNat 8)==false,true],[]))∧((decide (↑(c.np)<Int.ofNat 2))=false→Q (.c (.v (.int .i64 (Int.ofNat 0))),[],1016,[decide (↑(c.np)<Int.ofNat 2)==false,decide (↑(c.np)>Int.ofNat 8)==false,true],[])))))):
 ∃p r,cfgR Tryz.prog 122 c p=some r∧Q r:=
 two H
 (fun g1=>⟨pD 1 1,_,by kernel_rfl,g1⟩)
 (fun g1=>two g1
  (fun g2=>⟨pD 2 5,_,by kernel_rfl,g2⟩)
  (fun g2=>⟨pD 2 8,_,by kernel_rfl,g2⟩))
theorem ru4 (c:Cfg) (Q:VF→Prop) (H:(((decide (↑(c.ns)>Int.ofNat 16))=true→Q (.c (.v (.int .i64 (Int.ofNat 3))),[],1012,[decide (↑(c.ns)>Int.ofNat 16)==true,true],[]))∧((decide (↑(c.ns)>Int.ofNat 16))=false→(((decide (↑(c.ns)<Int.ofNat 1))=true→Q (.c (.v (.int .i64 (Int.ofNat 1))),[],1016,[decide (↑(c.ns)<Int.ofNat 1)==true,decide (↑(c.ns)>Int.ofNat 16)==false,true],[]))∧((decide (↑(c.ns)<Int.ofNat 1))=false→Q (.c (.v (.int .i64 (Int.ofNat 0))),[],1016,[decide (↑(c.ns)<Int.ofNat 1)==false,decide (↑(c.ns)>Int.ofNat 16)==false,true],[])))))):
 ∃p r,cfgR Tryz.prog 128 c p=some r∧Q r:=
 two H
 (fun g1=>⟨pD 1 1,_,by kernel_rfl,g1⟩)
 (fun g1=>two g1
  (fun g2=>⟨pD 2 5,_,by kernel_rfl,g2⟩)
  (fun g2=>⟨pD 2 8,_,by kernel_rfl,g2⟩))
theorem ru6 (c:Cfg) (Q:VF→Prop) (H:let zz0:=(Cfg.long c<if IntKind.wrap IntKind.i64 (IntKind.wrap IntKind.i64 (Cfg.nodes c+Int.ofNat 114)+Int.ofNat 2)>IntKind.wrap IntKind.i64 (IntKind.wrap IntKind.i64 (Int.ofNat 3*Cfg.nodes c)+Int.ofNat 1) then IntKind.wrap IntKind.i64 (IntKind.wrap IntKind.i64 (Cfg.nodes c+Int.ofNat 114)+Int.ofNat 2) else IntKind.wrap IntKind.i64 (IntKind.wrap IntKind.i64 (Int.ofNat 3*Cfg.nodes c)+Int.ofNat 1));(((decide (c.long>Int.ofNat 4096))=true→Q (.c (.v (.int .i64 (Int.ofNat 3))),[],1020,[decide (c.long>Int.ofNat 4096)==true,true,true,true,true,true,true],[]))∧((decide (c.long>Int.ofNat 4096))=false→(((decide zz0)=true→Q (.c (.v (.int .i64 (Int.ofNat 1))),[],1024,[decide zz0==true,decide (c.long>Int.ofNat 4096)==false,true,true,true,true,true,true],[]))∧((decide zz0)=false→Q (.c (.v (.int .i64 (Int.ofNat 0))),[],1024,[decide zz0==false,decide (c.long>Int.ofNat 4096)==false,true,true,true,true,true,true],[])))))):
 ∃p r,cfgR Tryz.prog 131 c p=some r∧Q r:=
 two H
 (fun g1=>⟨pD 1 1,_,by kernel_rfl,g1⟩)
 (fun g1=>two g1
  (fun g2=>⟨pD 2 5,_,by kernel_rfl,g2⟩)
  (fun g2=>⟨pD 2 8,_,by kernel_rfl,g2⟩))
theorem ru7 (c:Cfg) (Q:VF→Prop) (H:let zz0:=(eachF (Cfg.fb c) (Cfg.nb c) (Int.ofNat 0) (Int.ofNat 4096) !=Int.ofNat 0);(((!↑(c.nb)==c.nodes)=true→Q (.c (.v (.int .i64 (Int.ofNat 1))),[],130000000000000000000000000000000000001002,[true,true,true,true,true,true,decide (0+c.nb≤c.nb),decide (c.nb≤9223372036854775807),intsOk (c.nb) fun k=>List.map AC.v ((fun i=>[Value.int .i64 (c.fb i)]) k),true,(!↑(c.nb)==c.nodes)==true,true,true,true],[]))∧((!↑(c.nb)==c.nodes)=false→((zz0=true→Q (.c (.v (.int .i64 (eachF (c.fb) (c.nb) (Int.ofNat 0) (Int.ofNat 4096)))),[],130000000000000000000000000000000000001002,[true,true,true,zz0==true,true,true,true,true,true,true,decide (0+c.nb≤c.nb),decide (c.nb≤9223372036854775807),intsOk (c.nb) fun k=>List.map AC.v ((fun i=>[Value.int .i64 (c.fb i)]) k),true,(!↑(c.nb)==c.nodes)==false,true,true,true],[]))∧(zz0=false→Q (.c (.v (.int .i64 (Int.ofNat 0))),[],130000000000000000000000000000000000001002,[zz0==false,true,true,true,true,true,true,decide (0+c.nb≤c.nb),decide (c.nb≤9223372036854775807),intsOk (c.nb) fun k=>List.map AC.v ((fun i=>[Value.int .i64 (c.fb i)]) k),true,(!↑(c.nb)==c.nodes)==false,true,true,true],[])))))):
 ∃p r,cfgR Tryz.prog 132 c p=some r∧Q r:=
 two H
 (fun g1=>⟨pD 4 1,_,by kernel_rfl,g1⟩)
 (fun g1=>two g1
  (fun g2=>⟨pD 6 83,_,by kernel_rfl,g2⟩)
  (fun g2=>⟨pD 7 164,_,by kernel_rfl,g2⟩))
theorem ru8 (c:Cfg) (Q:VF→Prop) (H:(((decide (↑(c.nt)>Int.ofNat 8))=true→Q (.c (.v (.int .i64 (Int.ofNat 3))),[],1012,[decide (↑(c.nt)>Int.ofNat 8)==true,true],[]))∧((decide (↑(c.nt)>Int.ofNat 8))=false→Q (.c (.v (.int .i64 (Int.ofNat 0))),[],1016,[decide (↑(c.nt)>Int.ofNat 8)==false,true],[])))):
 ∃p r,cfgR Tryz.prog 135 c p=some r∧Q r:=
 two H
 (fun g1=>⟨pD 1 1,_,by kernel_rfl,g1⟩)
 (fun g1=>⟨pD 2 2,_,by kernel_rfl,g1⟩)
theorem ru10 (c:Cfg) (Q:VF→Prop) (H:Q (.c (.v (.int .i64 (eachF (fA (eltZ (ABlk.mk true false 3 0 (Cs.lit [.v (.int .i64 (c.miss)),.v (.int .i64 (c.good)),.v (.int .i64 (c.fresh))])) 0 0 1)) 3 (Int.ofNat 1) (Int.ofNat 100)))),[],1010,[true,true,true,true,true,true,true,true,true],[])):
 ∃p r,cfgR Tryz.prog 137 c p=some r∧Q r:=
 ⟨pD 0 0,_,by kernel_rfl,H⟩
def stepR (P:Program) (n d a k:Int) (path:List Dec):Option VF:=viewF [] (fCallF (E1 P) (fC (E1 P) 300) 142 [i64 n,.c (.v (.int .u8 d)),i64 a,i64 k] 1000 10000000000000000000000000000000000000000 (stA mS path []))
theorem stp (n a k:Int) (Q:VF→Prop) (H:(((decide (n≥Int.ofNat 4))=true→(((decide (n≤Int.ofNat 16))=true→(((decide (a≥Int.ofNat 0))=true→(((!decide (a<n))=true→Q (.c (.v (.int .i64 (Int.negSucc 0))),[],1031,[(!decide (a<n))==true,decide (a≥Int.ofNat 0)==true,decide (n≤Int.ofNat 16)==true,decide (n≥Int.ofNat 4)==true],[]))∧((!decide (a<n))=false→Q (.c (.v (.int .i64 (Int.tmod (IntKind.wrap .i64 (Int.tmod (IntKind.wrap .i64 (a+IntKind.wrap .i64 (Int.ofNat 1*Int.tmod k n))) n+n)) n))),[],120000000000000000000000000000000000001030,[decide (n≠Int.ofNat 0),decide (n≠Int.ofNat 0),decide (n≠Int.ofNat 0),true,true,true,(!decide (a<n))==false,decide (a≥Int.ofNat 0)==true,decide (n≤Int.ofNat 16)==true,decide (n≥Int.ofNat 4)==true],[]))))∧((decide (a≥Int.ofNat 0))=false→Q (.c (.v (.int .i64 (Int.negSucc 0))),[],1028,[decide (a≥Int.ofNat 0)==false,decide (n≤Int.ofNat 16)==true,decide (n≥Int.ofNat 4)==true],[]))))∧((decide (n≤Int.ofNat 16))=false→Q (.c (.v (.int .i64 (Int.negSucc 0))),[],1017,[decide (n≤Int.ofNat 16)==false,decide (n≥Int.ofNat 4)==true],[]))))∧((decide (n≥Int.ofNat 4))=false→Q (.c (.v (.int .i64 (Int.negSucc 0))),[],1015,[decide (n≥Int.ofNat 4)==false],[])))):
 ∃p r,stepR Tryz.prog n 0 a k p=some r∧Q r:=
 two H
 (fun g1=>two g1
  (fun g2=>two g2
   (fun g3=>two g3
    (fun g4=>⟨pD 12 179344,_,by kernel_rfl,g4⟩)
    (fun g4=>⟨pD 12 356491,_,by kernel_rfl,g4⟩))
   (fun g3=>⟨pD 12 4384,_,by kernel_rfl,g3⟩))
  (fun g2=>⟨pD 9 19,_,by kernel_rfl,g2⟩))
 (fun g1=>⟨pD 9 2,_,by kernel_rfl,g1⟩)
abbrev ixV (v:Int) (n k:Nat):List AV:=[.c (.sl 0 0 0 n none),i64 v,i64 (Int.ofNat n),i64 (Int.ofNat k)]
def ixR (P:Program) (f:Nat→Int) (n:Nat) (v:Int) (k:Nat) (path:List Dec):Option VC:=
 view ([0,1,7,8]++[4]) [0] (fC (E1 P) 100 (loopAt P 197 0) 1000000000000000000000000000000000000000000 10000000000000000000000000000000000000000 (stH 19 [0,1,7,8] [0] (ixV v n k) [ints 3 n f] path []))
theorem ix (f:Nat→Int) (n:Nat) (v:Int) (k:Nat) (Q:VC→Prop) (H:let zz0:=(ABlk.mk false false 3 1 (Cs.arr n fun k=>List.map AC.v ((fun i=>[Value.int IntKind.i64 (f i)]) k)));let zq0:List Bool:=[ABlk.inb zz0 (0+Int.toNat (Int.ofNat k)) 1,true,decide (Int.ofNat 0≤Int.ofNat k∧Int.ofNat k < ↑n),decide (Int.ofNat k<Int.ofNat n)==true];(((decide (Int.ofNat k<Int.ofNat n))=true→(((v==f (0+Int.toNat (Int.ofNat k)))=true→Q (Exit.ret,[some (lkA (List.zip [0,1,7,8] (ixV v n k)) 0),some (lkA (List.zip [0,1,7,8] (ixV v n k)) 1),some (lkA (List.zip [0,1,7,8] (ixV v n k)) 7),some (lkA (List.zip [0,1,7,8] (ixV v n k)) 8),some (.c (.v (.int .i64 (Int.ofNat k))))],[some zz0],19,1000000000000000000000000000000000000000011,(((v==f (0+Int.toNat (Int.ofNat k)))==true)::zq0),[]))∧((v==f (0+Int.toNat (Int.ofNat k)))=false→Q (Exit.normal,[some (lkA (List.zip [0,1,7,8] (ixV v n k)) 0),some (lkA (List.zip [0,1,7,8] (ixV v n k)) 1),some (lkA (List.zip [0,1,7,8] (ixV v n k)) 7),some (.c (.v (.int .i64 (IntKind.wrap .i64 (Int.ofNat k+Int.ofNat 1))))),some (lkA (List.zip [0,1,7,8] (ixV v n k)) 4)],[some zz0],19,1000000000000000000000000000000000000000011,(((v==f (0+Int.toNat (Int.ofNat k)))==false)::zq0),[]))))∧((decide (Int.ofNat k<Int.ofNat n))=false→Q (Exit.exit 0,[some (lkA (List.zip [0,1,7,8] (ixV v n k)) 0),some (lkA (List.zip [0,1,7,8] (ixV v n k)) 1),some (lkA (List.zip [0,1,7,8] (ixV v n k)) 7),some (lkA (List.zip [0,1,7,8] (ixV v n k)) 8),some (lkA (List.zip [0,1,7,8] (ixV v n k)) 4)],[some zz0],19,1000000000000000000000000000000000000000001,[decide (Int.ofNat k<Int.ofNat n)==false],[])))):
 ∃p r,ixR Tryz.prog f n v k p=some r∧Q r:=
 two H
 (fun g1=>two g1
  (fun g2=>⟨pD 2 4,_,by kernel_rfl,g2⟩)
  (fun g2=>⟨pD 2 7,_,by kernel_rfl,g2⟩))
 (fun g1=>⟨pD 1 2,_,by kernel_rfl,g1⟩)
def ixS (e:Exit) (l:List (Nat × AV)):LSum:=⟨[0,1,7,8],[0],mkFr 19 l,[],100000000000000000000000000000000000000000000000000,e⟩
def contains1 (P:Program) (f:Nat→Int) (n:Nat) (v:Int) (e:Exit) (l:List (Nat × AV)):Option VF:=
 viewF [] (fCallF (E1 P) (fC (E1 P) 300) 130 [.c (.sl 0 0 0 n none),i64 v] 1000 10000000000000000000000000000000000000000 (stA [(0,ints 3 n f)] [] [some (ixS e l)]))
theorem contains_yes (f:Nat→Int) (n:Nat) (v:Int) (j:Nat):contains1 Tryz.prog f n v .ret [(4,i64 (Int.ofNat j))]=
 some (.c (.v (.bool true)),[],100000000000000000000000000000000000000000000000002,[],[LoopV Tryz.prog (loopAt Tryz.prog 197 0) [0,1,7,8] [0] [some (.c (.sl 0 0 0 n none)),some (.c (.v (.int .i64 v))),some (.c (.v (.int .i64 ↑n))),some (.c (.v (.int .i64 (Int.ofNat 0))))] [some (ABlk.mk false false 3 1 (Cs.arr n fun k=>List.map AC.v ((fun i=>[Value.int .i64 (f i)]) k)))] 19 1007 (mkFr 19 [(4,i64 (Int.ofNat j))]) [] 100000000000000000000000000000000000000000000000000 Exit.ret none]):=by kernel_rfl
theorem contains_no (f:Nat→Int) (n:Nat) (v:Int):contains1 Tryz.prog f n v (.exit 0) []=
 some (.c (.v (.bool false)),[],100000000000000000000000000000000000000000000000003,[],[LoopV Tryz.prog (loopAt Tryz.prog 197 0) [0,1,7,8] [0] [some (.c (.sl 0 0 0 n none)),some (.c (.v (.int .i64 v))),some (.c (.v (.int .i64 ↑n))),some (.c (.v (.int .i64 (Int.ofNat 0))))] [some (ABlk.mk false false 3 1 (Cs.arr n fun k=>List.map AC.v ((fun i=>[Value.int .i64 (f i)]) k)))] 19 1007 (mkFr 19 []) [] 100000000000000000000000000000000000000000000000000 (Exit.exit 0) none]):=by kernel_rfl
end Go.Proofs.YtpgaplcdbbnblaaGreatDoor
end
/- Contracts: the rules of configs that look at numbers alone; rings.Step clockwise; slices.Contains. -/
section
namespace Go.Proofs.YtpgaplcdbbnblaaGreatDoor
open Go.RowKit
theorem fA_ints {ty n:Nat} {f:Nat→Int} {o r:Bool}:fA (elt ⟨o,r,ty,1,.arr n fun k=>List.map AC.v ((fun i=>[Value.int .i64 (f i)]) k)⟩ 0 0 1)=f:=by
 funext i
 simp[fA,elt,asI]
theorem intsOk_ints {n:Nat} {f:Nat→Int}:intsOk n (fun k=>List.map AC.v ((fun i=>[Value.int .i64 (f i)]) k))=true:=by
 unfold intsOk
 exact List.all_eq_true.2 fun i _=>by simp[isI64]
theorem hENw:EnvOk (ENw Tryz.prog):=by
 refine envOk (fun f g h=>?_) (by kernel_rfl) (by kernel_rfl)
 simp only[ENw,List.mem_cons,Prod.mk.injEq,List.not_mem_nil,or_false] at h
 rcases h with⟨rfl,rfl⟩|⟨rfl,rfl⟩|⟨rfl,rfl⟩
 · exact ct_inside
 · exact ct_each
 · exact ct_sorted
theorem plain_i64 (z:Int) (β1 β2:Nm) (u:Value) (h:γ β1 (i64 z)=some u):γ β2 (i64 z)=some u:=h
theorem ctCfg_tree {f:FuncId} {R:Cfg→AV} {pre:Cfg→Bool} (hf:∃(fn:Func) (c:Code),Tryz.prog.funcs[f]? =some fn∧fn.body=some c) (hres:∀c (β1 β2:Nm) u,γ β1 (R c)=some u→γ β2 (R c)=some u)
 (h:∀c,pre c=true→∃p r,cfgR Tryz.prog f c p=some r∧(r.1=R c∧r.2.2.1≤lim∧allT r.2.2.2.1∧∀q∈r.2.2.2.2,q)):CtOk Tryz.prog f (ctCfg R pre):=
 ctCfg_of (E:=ENw Tryz.prog) (fuel:=300) (str:=10000000000000000000000000000000000000000) hENw hf hres fun c hp=>by
  obtain⟨p,r,h1,h2⟩:=h c hp
  exact⟨p,[],r,h1,h2⟩
def rule1 (c:Cfg):Int:=withinF c.nodes 4 16
def rule2 (c:Cfg):Int:=withinF c.np 2 8
def rule4 (c:Cfg):Int:=withinF c.ns 1 16
def rule6 (c:Cfg):Int:=withinF c.long (max (3*c.nodes+1) (c.nodes+116)) 4096
def rule7 (c:Cfg):Int:=if (c.nb:Int)=c.nodes then eachF c.fb c.nb 0 4096 else 1
def rule8 (c:Cfg):Int:=withinF c.nt 0 8
def rule10 (c:Cfg):Int:=if withinF c.miss 1 100≠0 then withinF c.miss 1 100 else if withinF c.good 1 100≠0 then withinF c.good 1 100 else withinF c.fresh 1 100
def okNodes (c:Cfg):Bool:=decide (4≤c.nodes∧c.nodes≤16)
theorem ct_ru1:CtOk Tryz.prog 120 (ctCfg (fun c=>i64 (rule1 c)) fun _=>true):=by
 refine ctCfg_tree ⟨_,_,Tryz.func120,rfl⟩ (fun c=>plain_i64 _) fun c hp=>ru1 c _ ?_
 repeat' (first|refine⟨fun h=>?_,fun h=>?_⟩|fail)
 all_goals (refine⟨?_,(by first|(unfold lim;omega)|(dsimp only;unfold lim;omega)),?_,by simp⟩)
 all_goals (simp_all[allT,rule1,withinF,i64])
 all_goals (rw[if_neg (by omega),if_neg (by omega)])
theorem ct_ru2:CtOk Tryz.prog 122 (ctCfg (fun c=>i64 (rule2 c)) fun _=>true):=by
 refine ctCfg_tree ⟨_,_,Tryz.func122,rfl⟩ (fun c=>plain_i64 _) fun c hp=>ru2 c _ ?_
 repeat' (first|refine⟨fun h=>?_,fun h=>?_⟩|fail)
 all_goals (refine⟨?_,(by first|(unfold lim;omega)|(dsimp only;unfold lim;omega)),?_,by simp⟩)
 all_goals (simp_all[allT,rule2,withinF,i64])
 all_goals (try omega)
theorem ct_ru4:CtOk Tryz.prog 128 (ctCfg (fun c=>i64 (rule4 c)) fun _=>true):=by
 refine ctCfg_tree ⟨_,_,Tryz.func128,rfl⟩ (fun c=>plain_i64 _) fun c hp=>ru4 c _ ?_
 repeat' (first|refine⟨fun h=>?_,fun h=>?_⟩|fail)
 all_goals (refine⟨?_,(by first|(unfold lim;omega)|(dsimp only;unfold lim;omega)),?_,by simp⟩)
 all_goals (simp_all[allT,rule4,withinF,i64])
 all_goals (try omega)
theorem ct_ru6:CtOk Tryz.prog 131 (ctCfg (fun c=>i64 (rule6 c)) okNodes):=by
 refine ctCfg_tree ⟨_,_,Tryz.func131,rfl⟩ (fun c=>plain_i64 _) fun c hp=>ru6 c _ ?_
 simp only[okNodes,decide_eq_true_eq] at hp
 have w1:IntKind.wrap IntKind.i64 (IntKind.wrap IntKind.i64 (Cfg.nodes c+Int.ofNat 114)+Int.ofNat 2)=c.nodes+116:=by
  rw[wrap_nat (Cfg.nodes c+Int.ofNat 114) (by simp;omega) (by simp;omega),wrap_nat _ (by simp;omega) (by simp;omega)];simp;omega
 have w2:IntKind.wrap IntKind.i64 (IntKind.wrap IntKind.i64 (Int.ofNat 3*Cfg.nodes c)+Int.ofNat 1)=3*c.nodes+1:=by
  rw[wrap_nat (Int.ofNat 3*Cfg.nodes c) (by simp;omega) (by simp;omega),wrap_nat _ (by simp;omega) (by simp;omega)];simp
 simp only[w1,w2]
 have hm:(if c.nodes+116>3*c.nodes+1 then c.nodes+116 else 3*c.nodes+1)=max (3*c.nodes+1) (c.nodes+116):=by split<;>omega
 simp only[hm]
 have hr:rule6 c=withinF c.long (max (3*c.nodes+1) (c.nodes+116)) 4096:=rfl
 generalize max (3*c.nodes+1) (c.nodes+116)=q at *
 repeat' (first|refine⟨fun h=>?_,fun h=>?_⟩|fail)
 all_goals (refine⟨?_,(by first|(unfold lim;omega)|(dsimp only;unfold lim;omega)),?_,by simp⟩)
 all_goals (simp_all[allT,withinF,i64])
 all_goals (try omega)
theorem ct_ru7:CtOk Tryz.prog 132 (ctCfg (fun c=>i64 (rule7 c)) fun c=>decide (c.nb≤9223372036854775807)):=by
 refine ctCfg_tree ⟨_,_,Tryz.func132,rfl⟩ (fun c=>plain_i64 _) fun c hp=>ru7 c _ ?_
 simp only[decide_eq_true_eq] at hp
 simp only[fA_ints,intsOk_ints]
 repeat' (first|refine⟨fun h=>?_,fun h=>?_⟩|fail)
 all_goals (refine⟨?_,(by first|(unfold lim;omega)|(dsimp only;unfold lim;omega)),?_,by simp⟩)
 all_goals (simp_all[allT,rule7,i64])
theorem ct_ru8:CtOk Tryz.prog 135 (ctCfg (fun c=>i64 (rule8 c)) fun _=>true):=by
 refine ctCfg_tree ⟨_,_,Tryz.func135,rfl⟩ (fun c=>plain_i64 _) fun c hp=>ru8 c _ ?_
 repeat' (first|refine⟨fun h=>?_,fun h=>?_⟩|fail)
 all_goals (refine⟨?_,(by first|(unfold lim;omega)|(dsimp only;unfold lim;omega)),?_,by simp⟩)
 all_goals (simp_all[allT,rule8,withinF,i64])
 all_goals (try omega)
theorem each3 (f:Nat→Int) (lo hi:Int):eachF f 3 lo hi=if withinF (f 0) lo hi≠0 then withinF (f 0) lo hi else if withinF (f 1) lo hi≠0 then withinF (f 1) lo hi else withinF (f 2) lo hi:=by
 unfold eachF
 rw[show List.range 3=[0,1,2] from rfl]
 by_cases h0:withinF (f 0) lo hi=0
 · by_cases h1:withinF (f 1) lo hi=0
   · by_cases h2:withinF (f 2) lo hi=0
     · simp[h0,h1,h2]
     · simp[h0,h1,h2]
   · simp[h0,h1]
 · simp[h0]
theorem ct_ru10:CtOk Tryz.prog 137 (ctCfg (fun c=>i64 (rule10 c)) fun _=>true):=by
 refine ctCfg_tree ⟨_,_,Tryz.func137,rfl⟩ (fun c=>plain_i64 _) fun c hp=>ru10 c _ ?_
 refine⟨?_,(by first|(unfold lim;omega)|(dsimp only;unfold lim;omega)),by simp[allT],by simp⟩
 show i64 _=i64 _
 rw[each3]
 rfl
end Go.Proofs.YtpgaplcdbbnblaaGreatDoor
end
/- Contract of slices.Contains; the rules of configs with loops: their rounds as the evaluator runs them. -/
section
namespace Go.Proofs.YtpgaplcdbbnblaaGreatDoor
open Go.RowKit
theorem ix_ob (f:Nat→Int) (n:Nat) (v:Int) (N:Nat) (hN:1≤N) (hN2:N≤1000000000000000000000000000000000000000000) (hn:n≤1000000) (j:Nat) (hj:j≤n) (hmin:∀i,i<j→f i≠v) (hyes:j<n→f j=v) {e:Exit} {out:List (Nat × AV)}
 (hF:(j<n→e= .ret∧out=[(4,i64 (Int.ofNat j))])∧(j=n→e= .exit 0∧out=[])):
 LoopV Tryz.prog (loopAt Tryz.prog 197 0) [0,1,7,8] [0] ((ixV v n 0).map some) ([ints 3 n f].map some) 19 N (mkFr 19 out) [] 100000000000000000000000000000000000000000000000000 e none:=by
 have e0:∀k:Nat,0+Int.toNat (Int.ofNat k)=k:=fun k=>by simp
 have hw:∀k,k<n→IntKind.wrap IntKind.i64 (Int.ofNat k+Int.ofNat 1)=Int.ofNat (k+1):=fun k hk=>by rw[wrap_nat _ (by simp;omega) (by simp;omega)];rfl
 refine scan_ob hE1 (fuel:=100) (str:=10000000000000000000000000000000000000000) (nh:=1000000000000000000000000000000000000000000) [0,1,7,8] [4] [0] (ixV v n) [ints 3 n f] j hN2 (by decide) (by unfold lim;omega) ?_ (fun _=>⟨rfl,rfl⟩) ?_ ?_ ?_ ?_ ?_
 · rcases Nat.lt_or_ge j n with h|h
   · rw[(hF.1 h).1];simp
   · rw[(hF.2 (by omega)).1];simp
 · simp[keptB];omega
 · intro k _
   simp[okV,lowV,lowC,notAny,i64];omega
 · intro b hb
   rw[List.mem_singleton.1 hb]
   exact ints_low
 · intro k hk
   have hm:=hmin k hk
   refine ix f n v k _ ⟨fun c1=>⟨fun c2=>?_,fun c2=>?_⟩,fun c1=>?_⟩<;>simp only[e0] at *
   · simp at c2;exact absurd c2.symm hm
   · have hlt:k<n:=by omega
     simp at c2
     refine⟨⟨?_,rfl,by dsimp only;omega,rfl⟩,rfl,?_,BL.refl _⟩
     · simp only[allT,List.forall_mem_cons,e0]
       simp[inb_arr,hlt,c2]
     · dsimp only;rw[hw k hlt];rfl
   · simp at c1;omega
 · refine ix f n v j _ ⟨fun c1=>⟨fun c2=>?_,fun c2=>?_⟩,fun c1=>?_⟩<;>simp only[e0] at *
   · have hlt:j<n:=by simpa using c1
     obtain⟨rfl,rfl⟩:=hF.1 hlt
     refine EndV_one ⟨?_,rfl,by dsimp only;omega,rfl⟩ rfl rfl ?_
     · simp only[allT,List.forall_mem_cons,e0]
       simp at c2
       simp[inb_arr,hlt,c2]
     · simp[i64]
   · have hlt:j<n:=by simpa using c1
     simp at c2
     exact absurd (hyes hlt).symm c2
   · have hlt:¬j<n:=by simpa using c1
     obtain⟨rfl,rfl⟩:=hF.2 (by omega)
     refine EndV_nil ⟨?_,rfl,by dsimp only;omega,rfl⟩ rfl
     simp[allT];omega
def hasF (f:Nat→Int) (n:Nat) (v:Int):Bool:=(List.range n).any fun i=>f i==v
theorem contains_run (f:Nat→Int) (n:Nat) (v:Int) (hn:n≤1000000):∃p lp r,viewF [] (fCallF (E1 Tryz.prog) (fC (E1 Tryz.prog) 300) 130 (.c (.sl 0 0 0 n none)::[i64 v]) 1000 10000000000000000000000000000000000000000 (stA [(0,ints 3 n f)] p lp))=some r∧
 r.1=bo (hasF f n v)∧r.2.2.1≤lim∧allT r.2.2.2.1∧∀q∈r.2.2.2.2,q:=by
 obtain⟨j,hj,hmin,hyes⟩:=first_stop n fun i=>f i==v
 have hmin':∀i,i<j→f i≠v:=fun i hi=>by simpa using hmin i hi
 rcases Nat.lt_or_ge j n with h|h
 · have hy:f j=v:=by simpa using hyes h
   refine⟨_,_,_,contains_yes f n v j,?_,by dsimp only;unfold lim;omega,by simp[allT],fun q hq=>?_⟩
   · have:hasF f n v=true:=List.any_eq_true.2 ⟨j,by simpa using h,by simp[hy]⟩
     simp[bo,this]
   · rw[List.mem_singleton.1 hq]
     exact ix_ob f n v _ (by omega) (by omega) hn j hj hmin' (fun _=>hy) ⟨fun _=>⟨rfl,rfl⟩,fun h=>by omega⟩
 · obtain rfl:j=n:=by omega
   refine⟨_,_,_,contains_no f j v,?_,by dsimp only;unfold lim;omega,by simp[allT],fun q hq=>?_⟩
   · have:hasF f j v=false:=List.any_eq_false.2 fun i hi=>by have:=hmin' i (by simpa using hi);simpa using this
     simp[bo,this]
   · rw[List.mem_singleton.1 hq]
     exact ix_ob f j v _ (by omega) (by omega) hn j hj hmin' (fun h=>by omega) ⟨fun h=>by omega,fun _=>⟨rfl,rfl⟩⟩
def ctContains:CtF
 | [.c a,.c (.v (.int .i64 v))],m,_=>match slOf 1 m a with|some (n,F,b)=>some (bo (hasF (fA F) n v),[],0,[b,decide (n≤1000000),intsOk n F])|none=>none
 |_,_,_=>none
theorem ct_contains:CtOk Tryz.prog 130 ctContains:=by
 refine⟨⟨_,_,Tryz.func130,rfl⟩,fun C β m m2 w args ib r news k' ob vs hct ho hs hr hfree hlim hv=>?_⟩
 unfold ctContains at hct
 split at hct
 · rename_i a v
   split at hct
   · rename_i n F b hsl
     simp only[Option.some.injEq,Prod.mk.injEq] at hct
     obtain⟨rfl,rfl,rfl,rfl⟩:=hct
     simp only[allT,List.forall_mem_cons,decide_eq_true_eq] at ho
     obtain⟨rfl,o2,o3,_⟩:=ho
     exact pure1 hE1 hs hr hsl o3 hv (γt_valsI [.int .i64 v] rfl) (fun _ _ _ h=>h) 3 (contains_run (fA F) n v o2)
   · cases hct
 · cases hct
def ENx (P:Program):Env:=⟨P,[(125,ctInside),(134,ctEach),(126,ctSorted),(130,ctContains)]⟩
theorem hENx:EnvOk (ENx Tryz.prog):=by
 refine envOk (fun f g h=>?_) (by kernel_rfl) (by kernel_rfl)
 simp only[ENx,List.mem_cons,Prod.mk.injEq,List.not_mem_nil,or_false] at h
 rcases h with⟨rfl,rfl⟩|⟨rfl,rfl⟩|⟨rfl,rfl⟩|⟨rfl,rfl⟩
 · exact ct_inside
 · exact ct_each
 · exact ct_sorted
 · exact ct_contains
abbrev cfgB (c:Cfg):ABlk:=⟨true,false,25,0,.lit (cfgC c)⟩
abbrev r5V (c:Cfg) (al:Bool) (k:Nat):List AV:=[.c (.ptr 1000 0 0),bo al,i64 (Int.ofNat c.np),i64 (Int.ofNat k)]
def r5R (P:Program) (c:Cfg) (al:Bool) (k:Nat) (path:List Dec):Option VC:=
 view ([1,3,13,14]++[]) [1,1000] (fC (ENx P) 100 (loopAt P 129 0) 1000000000000000000000000000000000000000000 10000000000000000000000000000000000000000 (stH 27 [1,3,13,14] [1,1000] (r5V c al k) [ints 3 c.ns c.fs,cfgB c] path []))
theorem r5 (c:Cfg) (al:Bool) (k:Nat) (Q:VC→Prop) (H:let zz0:=[some (ABlk.mk false false 3 1 (Cs.arr (Cfg.ns c) fun k=>List.map AC.v ((fun i=>[Value.int IntKind.i64 (Cfg.fs c i)]) k))),some (ABlk.mk true false 25 0 (Cs.lit [AC.v (Value.int IntKind.i64 (Cfg.nodes c)),AC.sl 0 0 0 (Cfg.np c) none,AC.sl 1 0 0 (Cfg.ns c) none,AC.v (Value.int IntKind.i64 (Cfg.long c)),AC.sl 2 0 0 (Cfg.nb c) none,AC.sl 3 0 0 (Cfg.nt c) none,AC.v (Value.int IntKind.i64 (Cfg.miss c)),AC.v (Value.int IntKind.i64 (Cfg.good c)),AC.v (Value.int IntKind.i64 (Cfg.fresh c))]))];(((decide (Int.ofNat k<Int.ofNat (c.np)))=true→(((al)=true→Q (Exit.normal,[some (lkA (List.zip [1,3,13,14] (r5V c al k)) 1),some (.c (.v (.bool (hasF (c.fs) (c.ns) (Int.ofNat k))))),some (lkA (List.zip [1,3,13,14] (r5V c al k)) 13),some (.c (.v (.int .i64 (IntKind.wrap .i64 (Int.ofNat k+Int.ofNat 1)))))],zz0,27,1000000000000000000000000000000000000000012,[decide (0+c.ns≤c.ns),decide (c.ns≤1000000),intsOk (c.ns) fun k=>List.map AC.v ((fun i=>[Value.int .i64 (c.fs i)]) k),true,al==true,decide (Int.ofNat k<Int.ofNat (c.np))==true],[]))∧((al)=false→Q (Exit.normal,[some (lkA (List.zip [1,3,13,14] (r5V c al k)) 1),some (.c (.v (.bool false))),some (lkA (List.zip [1,3,13,14] (r5V c al k)) 13),some (.c (.v (.int .i64 (IntKind.wrap .i64 (Int.ofNat k+Int.ofNat 1)))))],zz0,27,1000000000000000000000000000000000000000009,[al==false,decide (Int.ofNat k<Int.ofNat (c.np))==true],[]))))∧((decide (Int.ofNat k<Int.ofNat (c.np)))=false→Q (Exit.exit 0,[some (lkA (List.zip [1,3,13,14] (r5V c al k)) 1),some (lkA (List.zip [1,3,13,14] (r5V c al k)) 3),some (lkA (List.zip [1,3,13,14] (r5V c al k)) 13),some (lkA (List.zip [1,3,13,14] (r5V c al k)) 14)],zz0,27,1000000000000000000000000000000000000000001,[decide (Int.ofNat k<Int.ofNat (c.np))==false],[])))):
 ∃p r,r5R Tryz.prog c al k p=some r∧Q r:=
 two H
 (fun g1=>two g1
  (fun g2=>⟨pD 5 4,_,by kernel_rfl,g2⟩)
  (fun g2=>⟨pD 5 7,_,by kernel_rfl,g2⟩))
 (fun g1=>⟨pD 1 2,_,by kernel_rfl,g1⟩)
abbrev r9V (c:Cfg) (k:Nat):List AV:=[.c (.ptr 1000 0 0),.c (.sl 3 0 0 c.nt none),i64 (Int.ofNat c.nt),i64 (Int.ofNat k)]
def r9R (P:Program) (c:Cfg) (k:Nat) (path:List Dec):Option VC:=
 view ([1,7,8,9]++[2]) [3,1000] (fC (ENx P) 100 (loopAt P 136 0) 1000000000000000000000000000000000000000000 10000000000000000000000000000000000000000 (stH 33 [1,7,8,9] [3,1000] (r9V c k) [sts c.nt c.ft,cfgB c] path []))
theorem r9 (c:Cfg) (k:Nat) (Q:VC→Prop) (H:let zz1:=(ABlk.mk false false 161 3 (Cs.arr (Cfg.nt c) fun k=>List.map AC.v ((fun i=>[Value.int IntKind.i64 (Station.node (Cfg.ft c i)),Value.int IntKind.u32 (Station.safe (Cfg.ft c i)),Value.int IntKind.i64 (Station.hold (Cfg.ft c i))]) k)));let zz0:=[some zz1,some (ABlk.mk true false 25 0 (Cs.lit [AC.v (Value.int IntKind.i64 (Cfg.nodes c)),AC.sl 0 0 0 (Cfg.np c) none,AC.sl 1 0 0 (Cfg.ns c) none,AC.v (Value.int IntKind.i64 (Cfg.long c)),AC.sl 2 0 0 (Cfg.nb c) none,AC.sl 3 0 0 (Cfg.nt c) none,AC.v (Value.int IntKind.i64 (Cfg.miss c)),AC.v (Value.int IntKind.i64 (Cfg.good c)),AC.v (Value.int IntKind.i64 (Cfg.fresh c))]))];let zz2:=[some (lkA (List.zip [1,7,8,9] (r9V c k)) 1),some (lkA (List.zip [1,7,8,9] (r9V c k)) 7),some (lkA (List.zip [1,7,8,9] (r9V c k)) 8),some (lkA (List.zip [1,7,8,9] (r9V c k)) 9),some (AV.c (AC.v (Value.int IntKind.i64 (Int.ofNat 1))))];let zz3:=(Station.hold (c.10 (0+Int.toNat (Int.ofNat k)))>Int.ofNat 100);let zz4:=(Station.hold (c.10 (0+Int.toNat (Int.ofNat k)))<Int.ofNat 1);let zz5:=(Station.node (c.10 (0+Int.toNat (Int.ofNat k)))≥Int.ofNat 0);let zz6:=(Station.node (c.10 (0+Int.toNat (Int.ofNat k)))<Cfg.nodes c);let zt:List Bool→List Bool:=fun l=>true::true::true::true::true::true::true::true::l;let zq0:List Bool:=[true,true,true,ABlk.inb zz1 (0+Int.toNat (Int.ofNat k)) 3,true,true,true,decide (Int.ofNat 0≤Int.ofNat k∧Int.ofNat k < ↑(c.nt)),decide (Int.ofNat k<Int.ofNat (c.nt))==true];let zq1:List Bool:=true::true::true::true::(decide zz5==true)::zq0;let zq2:List Bool:=true::true::((!decide zz6)==true)::zq1;let zq3:List Bool:=(decide zz3==false)::zq2;let zq4:List Bool:=true::true::((!decide zz6)==false)::zq1;let zq5:List Bool:=(decide zz3==false)::zq4;let zq6:List Bool:=true::true::(decide zz5==false)::zq0;let zq7:List Bool:=(decide zz3==false)::zq6;(((decide (Int.ofNat k<Int.ofNat (c.nt)))=true→(((decide zz5)=true→(((!decide zz6)=true→(((decide zz3)=true→Q (Exit.ret,zz2,zz0,33,1170000000000000000000000000000000000000009,(true::true::true::true::true::true::(decide zz3==true)::zq2),[]))∧((decide zz3)=false→(((decide zz4)=true→Q (Exit.ret,zz2,zz0,33,1170000000000000000000000000000000000000009,(true::true::true::true::true::true::(decide zz4==true)::zq3),[]))∧((decide zz4)=false→Q (Exit.ret,zz2,zz0,33,1170000000000000000000000000000000000000009,(true::true::true::true::true::true::(decide zz4==false)::zq3),[]))))))∧((!decide zz6)=false→(((decide zz3)=true→Q (Exit.ret,[some (lkA (List.zip [1,7,8,9] (r9V c k)) 1),some (lkA (List.zip [1,7,8,9] (r9V c k)) 7),some (lkA (List.zip [1,7,8,9] (r9V c k)) 8),some (lkA (List.zip [1,7,8,9] (r9V c k)) 9),some (.c (.v (.int .i64 (Int.ofNat 3))))],zz0,33,1170000000000000000000000000000000000000009,(zt (true::((decide zz3==true)::zq4))),[]))∧((decide zz3)=false→(((decide zz4)=true→Q (Exit.ret,zz2,zz0,33,1170000000000000000000000000000000000000009,(zt (true::((decide zz4==true)::zq5))),[]))∧((decide zz4)=false→Q (Exit.normal,[some (lkA (List.zip [1,7,8,9] (r9V c k)) 1),some (lkA (List.zip [1,7,8,9] (r9V c k)) 7),some (lkA (List.zip [1,7,8,9] (r9V c k)) 8),some (.c (.v (.int .i64 (IntKind.wrap .i64 (Int.ofNat k+Int.ofNat 1))))),some (lkA (List.zip [1,7,8,9] (r9V c k)) 2)],zz0,33,1170000000000000000000000000000000000000009,(true::true::true::true::true::true::(decide zz4==false)::zq5),[]))))))))∧((decide zz5)=false→(((decide zz3)=true→Q (Exit.ret,zz2,zz0,33,1170000000000000000000000000000000000000009,(true::true::true::true::true::true::(decide zz3==true)::zq6),[]))∧((decide zz3)=false→(((decide zz4)=true→Q (Exit.ret,zz2,zz0,33,1170000000000000000000000000000000000000009,(true::true::true::true::true::true::(decide zz4==true)::zq7),[]))∧((decide zz4)=false→Q (Exit.ret,zz2,zz0,33,1170000000000000000000000000000000000000009,(true::true::true::true::true::true::(decide zz4==false)::zq7),[]))))))))∧((decide (Int.ofNat k<Int.ofNat (c.nt)))=false→Q (Exit.exit 0,[some (lkA (List.zip [1,7,8,9] (r9V c k)) 1),some (lkA (List.zip [1,7,8,9] (r9V c k)) 7),some (lkA (List.zip [1,7,8,9] (r9V c k)) 8),some (lkA (List.zip [1,7,8,9] (r9V c k)) 9),some (lkA (List.zip [1,7,8,9] (r9V c k)) 2)],zz0,33,1000000000000000000000000000000000000000001,[decide (Int.ofNat k<Int.ofNat (c.nt))==false],[])))):
 ∃p r,r9R Tryz.prog c k p=some r∧Q r:=
 two H
 (fun g1=>two g1
  (fun g2=>two g2
   (fun g3=>two g3
    (fun g4=>⟨pD 12 2920,_,by kernel_rfl,g4⟩)
    (fun g4=>two g4
     (fun g5=>⟨pD 13 11668,_,by kernel_rfl,g5⟩)
     (fun g5=>⟨pD 13 18229,_,by kernel_rfl,g5⟩)))
   (fun g3=>two g3
    (fun g4=>⟨pD 14 3649,_,by kernel_rfl,g4⟩)
    (fun g4=>two g4
     (fun g5=>⟨pD 15 12397,_,by kernel_rfl,g5⟩)
     (fun g5=>⟨pD 16 18958,_,by kernel_rfl,g5⟩))))
  (fun g2=>two g2
   (fun g3=>⟨pD 12 2194,_,by kernel_rfl,g3⟩)
   (fun g3=>two g3
    (fun g4=>⟨pD 13 10942,_,by kernel_rfl,g4⟩)
    (fun g4=>⟨pD 13 17503,_,by kernel_rfl,g4⟩))))
 (fun g1=>⟨pD 1 2,_,by kernel_rfl,g1⟩)
def r5S (c:Cfg) (al:Bool):LSum:=⟨[1,3,13,14],[1,1000],mkFr 27 [(3,bo al)],[],100000000000000000000000000000000000000000000000000,.exit 0⟩
def ru5R (P:Program) (c:Cfg) (al:Bool) (path:List Dec):Option VF:=viewF [] (fCallF (ENx P) (fC (ENx P) 300) 129 [.agg (cfgC c)] 1000 10000000000000000000000000000000000000000 (stA (cfgM c) path [some (r5S c al)]))
theorem ru5 (c:Cfg) (al:Bool) (Q:VF→Prop) (H:let zz0:=[LoopV Tryz.prog (loopAt Tryz.prog 129 0) [1,3,13,14] [1,1000] [some (AV.c (AC.ptr 1000 0 0)),some (AV.c (AC.v (Value.bool (insideF (Cfg.fs c) (Cfg.ns c) ↑(Cfg.np c))))),some (AV.c (AC.v (Value.int IntKind.i64 ↑(Cfg.np c)))),some (AV.c (AC.v (Value.int IntKind.i64 (Int.ofNat 0))))] [some (ABlk.mk false false 3 1 (Cs.arr (Cfg.ns c) fun k=>List.map AC.v ((fun i=>[Value.int IntKind.i64 (Cfg.fs c i)]) k))),some (ABlk.mk true false 25 0 (Cs.lit [AC.v (Value.int IntKind.i64 (Cfg.nodes c)),AC.sl 0 0 0 (Cfg.np c) none,AC.sl 1 0 0 (Cfg.ns c) none,AC.v (Value.int IntKind.i64 (Cfg.long c)),AC.sl 2 0 0 (Cfg.nb c) none,AC.sl 3 0 0 (Cfg.nt c) none,AC.v (Value.int IntKind.i64 (Cfg.miss c)),AC.v (Value.int IntKind.i64 (Cfg.good c)),AC.v (Value.int IntKind.i64 (Cfg.fresh c))]))] 27 1012 (mkFr 27 [(3,bo al)]) [] 100000000000000000000000000000000000000000000000000 (Exit.exit 0) none];let zq0:List Bool:=[true,decide (0+c.ns≤c.ns),decide (c.ns≤1000000),intsOk (c.ns) fun k=>List.map AC.v ((fun i=>[Value.int .i64 (c.fs i)]) k),true,true];(((!al)=true→Q (.c (.v (.int .i64 (Int.ofNat 1))),[],100000000000000000000000000000000000000000000000006,(((!al)==true)::zq0),zz0))∧((!al)=false→Q (.c (.v (.int .i64 (Int.ofNat 0))),[],100000000000000000000000000000000000000000000000006,(((!al)==false)::zq0),zz0)))):
 ∃p r,ru5R Tryz.prog c al p=some r∧Q r:=
 two H
 (fun g1=>⟨pD 1 1,_,by kernel_rfl,g1⟩)
 (fun g1=>⟨pD 1 2,_,by kernel_rfl,g1⟩)
def r9S (e:Exit) (l:List (Nat × AV)):LSum:=⟨[1,7,8,9],[3,1000],mkFr 33 l,[],100000000000000000000000000000000000000000000000000,e⟩
def ru9R (P:Program) (c:Cfg) (e:Exit) (l:List (Nat × AV)):Option VF:=viewF [] (fCallF (ENx P) (fC (ENx P) 300) 136 [.agg (cfgC c)] 1000 10000000000000000000000000000000000000000 (stA (cfgM c) [] [some (r9S e l)]))
theorem ru9_yes (c:Cfg) (z:Int):ru9R Tryz.prog c .ret [(2,i64 z)]=
 some (.c (.v (.int .i64 z)),[],100000000000000000000000000000000000000000000000000,[true],[LoopV Tryz.prog (loopAt Tryz.prog 136 0) [1,7,8,9] [3,1000] [some (.c (.ptr 1000 0 0)),some (.c (.sl 3 0 0 (c.nt) none)),some (.c (.v (.int .i64 ↑(c.nt)))),some (.c (.v (.int .i64 (Int.ofNat 0))))] [some (ABlk.mk false false 161 3 (Cs.arr (c.nt) fun k=>List.map AC.v ((fun i=>[Value.int .i64 (Station.node (c.ft i)),Value.int .u32 (Station.safe (c.ft i)),Value.int .i64 (Station.hold (c.ft i))]) k))),some (ABlk.mk true false 25 0 (Cs.lit [.v (.int .i64 (c.nodes)),AC.sl 0 0 0 (c.np) none,AC.sl 1 0 0 (c.ns) none,.v (.int .i64 (c.long)),AC.sl 2 0 0 (c.nb) none,AC.sl 3 0 0 (c.nt) none,.v (.int .i64 (c.miss)),.v (.int .i64 (c.good)),.v (.int .i64 (c.fresh))]))] 33 1006 (mkFr 33 [(2,i64 z)]) [] 100000000000000000000000000000000000000000000000000 Exit.ret none]):=by kernel_rfl
theorem ru9_no (c:Cfg):ru9R Tryz.prog c (.exit 0) []=
 some (.c (.v (.int .i64 (Int.ofNat 0))),[],100000000000000000000000000000000000000000000000001,[true],[LoopV Tryz.prog (loopAt Tryz.prog 136 0) [1,7,8,9] [3,1000] [some (.c (.ptr 1000 0 0)),some (.c (.sl 3 0 0 (c.nt) none)),some (.c (.v (.int .i64 ↑(c.nt)))),some (.c (.v (.int .i64 (Int.ofNat 0))))] [some (ABlk.mk false false 161 3 (Cs.arr (c.nt) fun k=>List.map AC.v ((fun i=>[Value.int .i64 (Station.node (c.ft i)),Value.int .u32 (Station.safe (c.ft i)),Value.int .i64 (Station.hold (c.ft i))]) k))),some (ABlk.mk true false 25 0 (Cs.lit [.v (.int .i64 (c.nodes)),AC.sl 0 0 0 (c.np) none,AC.sl 1 0 0 (c.ns) none,.v (.int .i64 (c.long)),AC.sl 2 0 0 (c.nb) none,AC.sl 3 0 0 (c.nt) none,.v (.int .i64 (c.miss)),.v (.int .i64 (c.good)),.v (.int .i64 (c.fresh))]))] 33 1006 (mkFr 33 []) [] 100000000000000000000000000000000000000000000000000 (Exit.exit 0) none]):=by kernel_rfl
end Go.Proofs.YtpgaplcdbbnblaaGreatDoor
end
/- The rules of configs with loops: contracts. -/
section
namespace Go.Proofs.YtpgaplcdbbnblaaGreatDoor
open Go.RowKit
def all5 (c:Cfg) (k:Nat):Bool:=insideF c.fs c.ns c.np&&(List.range k).all fun p=>hasF c.fs c.ns (Int.ofNat p)
theorem all5_succ (c:Cfg) (k:Nat):all5 c (k+1)=(all5 c k&&hasF c.fs c.ns (Int.ofNat k)):=by
 unfold all5
 rw[List.range_succ,List.all_append,Bool.and_assoc]
 simp
theorem cfgB_low {N:Nat} {c:Cfg} (hN:4≤N):lowB N (cfgB c):=low_lit (by simp[cfgC,lowC];omega)
theorem r5_ob (c:Cfg) (N:Nat) (hN:1001≤N) (hN2:N≤1000000000000000000000000000000000000000000) (hp:c.np≤1000000) (hs:c.ns≤1000000):
 LoopV Tryz.prog (loopAt Tryz.prog 129 0) [1,3,13,14] [1,1000] ((r5V c (all5 c 0) 0).map some) ([ints 3 c.ns c.fs,cfgB c].map some) 27 N (mkFr 27 [(3,bo (all5 c c.np))]) [] 100000000000000000000000000000000000000000000000000 (.exit 0) none:=by
 have hw:∀k,k<c.np→IntKind.wrap IntKind.i64 (Int.ofNat k+Int.ofNat 1)=Int.ofNat (k+1):=fun k hk=>by rw[wrap_nat _ (by simp;omega) (by simp;omega)];rfl
 refine scan_ob hENx (fuel:=100) (str:=10000000000000000000000000000000000000000) (nh:=1000000000000000000000000000000000000000000) [1,3,13,14] [] [1,1000] (fun k=>r5V c (all5 c k) k) [ints 3 c.ns c.fs,cfgB c] c.np hN2 (by decide) (by unfold lim;omega) (by simp) (fun _=>⟨rfl,rfl⟩) ?_ ?_ ?_ ?_ ?_
 · simp[keptB];omega
 · intro k _
   simp[okV,lowV,lowC,notAny,i64,bo];omega
 · intro b hb
   simp only[List.mem_cons,List.not_mem_nil,or_false] at hb
   rcases hb with rfl|rfl
   · exact ints_low
   · exact cfgB_low (by omega)
 · intro k hk
   refine r5 c (all5 c k) k _ ⟨fun c1=>⟨fun c2=>?_,fun c2=>?_⟩,fun c1=>?_⟩
   · refine⟨⟨?_,rfl,by dsimp only;omega,rfl⟩,rfl,?_,BL.refl _⟩
     · simp only[allT,List.forall_mem_cons,intsOk_ints,c2]
       simp[hs,hk]
     · dsimp only;rw[hw k hk];(try rw[fA_ints]);rw[all5_succ,c2];rfl
   · refine⟨⟨?_,rfl,by dsimp only;omega,rfl⟩,rfl,?_,BL.refl _⟩
     · simp only[allT,List.forall_mem_cons,c2]
       simp[hk]
     · dsimp only;rw[hw k hk,all5_succ,c2];rfl
   · simp at c1;omega
 · refine r5 c (all5 c c.np) c.np _ ⟨fun c1=>⟨fun c2=>?_,fun c2=>?_⟩,fun c1=>?_⟩
   · simp at c1
   · simp at c1
   · refine EndV_one ⟨?_,rfl,by dsimp only;omega,rfl⟩ rfl rfl ?_
     · simp[allT]
     · show (3,some _)∈[(1,_),(3,some (bo (all5 c c.np))),(13,_),(14,_)]
       simp
def rule5 (c:Cfg):Int:=if all5 c c.np=true then 0 else 1
theorem ct_ru5:CtOk Tryz.prog 129 (ctCfg (fun c=>i64 (rule5 c)) fun c=>decide (c.np≤1000000)&&decide (c.ns≤1000000)):=by
 refine ctCfg_of (E:=ENx Tryz.prog) (fuel:=300) (str:=10000000000000000000000000000000000000000) hENx ⟨_,_,Tryz.func129,rfl⟩ (fun c=>plain_i64 _) fun c hp=>?_
 simp only[Bool.and_eq_true,decide_eq_true_eq] at hp
 refine(?_:(∃p r,ru5R Tryz.prog c (all5 c c.np) p=some r∧(r.1=i64 (rule5 c)∧r.2.2.1≤lim∧allT r.2.2.2.1∧∀q∈r.2.2.2.2,q))→_) (ru5 c (all5 c c.np) _ ?_)
 · rintro⟨p,r,h1,h2⟩
   exact⟨p,_,r,h1,h2⟩
 · simp only[fA_ints,intsOk_ints]
   have hl:=r5_ob c 1012 (by omega) (by omega) hp.1 hp.2
   refine⟨fun h=>?_,fun h=>?_⟩
   · refine⟨?_,(by first|(unfold lim;omega)|(dsimp only;unfold lim;omega)),?_,fun q hq=>?_⟩
     · have:all5 c c.np=false:=by simpa using h
       simp[rule5,this,i64]
     · simp[allT,hp,h]
     · rw[List.mem_singleton.1 hq]
       have e:all5 c 0=insideF c.fs c.ns c.np:=by simp[all5]
       rw[e] at hl
       exact hl
   · refine⟨?_,(by first|(unfold lim;omega)|(dsimp only;unfold lim;omega)),?_,fun q hq=>?_⟩
     · have:all5 c c.np=true:=by simpa using h
       simp[rule5,this,i64]
     · simp[allT,hp,h]
     · rw[List.mem_singleton.1 hq]
       have e:all5 c 0=insideF c.fs c.ns c.np:=by simp[all5]
       rw[e] at hl
       exact hl
def ruleSt (c:Cfg) (i:Nat):Int:=if 0≤(c.ft i).node∧(c.ft i).node<c.nodes then withinF (c.ft i).hold 1 100 else 1
theorem r9_ob (c:Cfg) (N:Nat) (hN:1001≤N) (hN2:N≤1000000000000000000000000000000000000000000) (hn:c.nt≤1000000) (j:Nat) (hj:j≤c.nt) (hmin:∀i,i<j→ruleSt c i=0) (hyes:j<c.nt→ruleSt c j≠0) {e:Exit} {out:List (Nat × AV)}
 (hF:(j<c.nt→e= .ret∧out=[(2,i64 (ruleSt c j))])∧(j=c.nt→e= .exit 0∧out=[])):
 LoopV Tryz.prog (loopAt Tryz.prog 136 0) [1,7,8,9] [3,1000] ((r9V c 0).map some) ([sts c.nt c.ft,cfgB c].map some) 33 N (mkFr 33 out) [] 100000000000000000000000000000000000000000000000000 e none:=by
 have e0:∀k:Nat,0+Int.toNat (Int.ofNat k)=k:=fun k=>by simp
 have hw:∀k,k<c.nt→IntKind.wrap IntKind.i64 (Int.ofNat k+Int.ofNat 1)=Int.ofNat (k+1):=fun k hk=>by rw[wrap_nat _ (by simp;omega) (by simp;omega)];rfl
 refine scan_ob hENx (fuel:=100) (str:=10000000000000000000000000000000000000000) (nh:=1000000000000000000000000000000000000000000) [1,7,8,9] [2] [3,1000] (r9V c) [sts c.nt c.ft,cfgB c] j hN2 (by decide) (by unfold lim;omega) ?_ (fun _=>⟨rfl,rfl⟩) ?_ ?_ ?_ ?_ ?_
 · rcases Nat.lt_or_ge j c.nt with h|h
   · rw[(hF.1 h).1];simp
   · rw[(hF.2 (by omega)).1];simp
 · simp[keptB];omega
 · intro k _
   simp[okV,lowV,lowC,notAny,i64];omega
 · intro b hb
   simp only[List.mem_cons,List.not_mem_nil,or_false] at hb
   rcases hb with rfl|rfl
   · exact rBlk_low
   · exact cfgB_low (by omega)
 · intro k hk
   have hm:=hmin k hk
   have hlt:k<c.nt:=by omega
   refine r9 c k _ ?_
   simp only[e0]
   unfold ruleSt withinF at hm
   repeat' (first|refine⟨fun h=>?_,fun h=>?_⟩|fail)
   all_goals (first|(exfalso;simp at *;done)|(exfalso;simp at *;omega)|(exfalso;simp at *;split at hm<;>omega)|(exfalso;simp at *;split at hm<;>first|omega|(split at hm<;>first|omega|(split at hm<;>omega)))|skip)
   all_goals (refine⟨⟨?_,rfl,by dsimp only;omega,rfl⟩,rfl,?_,BL.refl _⟩)
   · simp at *
     simp[allT,inb_arr,inb_lit,e0, *]
   · dsimp only;rw[hw k hlt];rfl
 · rcases Nat.lt_or_ge j c.nt with hlt|hge
   · obtain⟨rfl,rfl⟩:=hF.1 hlt
     have hy:=hyes hlt
     refine r9 c j _ ?_
     simp only[e0]
     repeat' (first|refine⟨fun h=>?_,fun h=>?_⟩|fail)
     all_goals (first
      |(exfalso;simp at *;omega)
      |(have hz:ruleSt c j=0:=(by simp at *;unfold ruleSt withinF;rw[if_pos (by omega),if_neg (by omega),if_neg (by omega)]);exact absurd hz hy)
      |(have hz:ruleSt c j=3:=(by simp at *;unfold ruleSt withinF;rw[if_pos (by omega),if_pos (by omega)]);rw[hz];refine EndV_one ⟨?_,rfl,by dsimp only;omega,rfl⟩ rfl rfl (by simp[i64]);simp at *;simp[allT,inb_arr,inb_lit, *])
      |(have hz:ruleSt c j=1:=(by simp at *;unfold ruleSt withinF;rw[if_pos (by omega),if_neg (by omega),if_pos (by omega)]);rw[hz];refine EndV_one ⟨?_,rfl,by dsimp only;omega,rfl⟩ rfl rfl (by simp[i64]);simp at *;simp[allT,inb_arr,inb_lit, *])
      |(have hz:ruleSt c j=1:=(by simp at *;unfold ruleSt withinF;rw[if_neg (by omega)]);rw[hz];refine EndV_one ⟨?_,rfl,by dsimp only;omega,rfl⟩ rfl rfl (by simp[i64]);simp at *;simp[allT,inb_arr,inb_lit, *]))
   · obtain rfl:j=c.nt:=by omega
     obtain⟨rfl,rfl⟩:=hF.2 rfl
     refine r9 c c.nt _ ?_
     simp only[e0]
     repeat' (first|refine⟨fun h=>?_,fun h=>?_⟩|fail)
     all_goals (first|(exfalso;simp at *;done)|skip)
     refine EndV_nil ⟨?_,rfl,by dsimp only;omega,rfl⟩ rfl
     simp[allT]
def rule9 (c:Cfg):Int:=match (List.range c.nt).find? (fun i=>!(ruleSt c i==0)) with|some j=>ruleSt c j|none=>0
theorem ct_ru9:CtOk Tryz.prog 136 (ctCfg (fun c=>i64 (rule9 c)) fun c=>decide (c.nt≤1000000)):=by
 refine ctCfg_of (E:=ENx Tryz.prog) (fuel:=300) (str:=10000000000000000000000000000000000000000) hENx ⟨_,_,Tryz.func136,rfl⟩ (fun c=>plain_i64 _) fun c hp=>?_
 simp only[decide_eq_true_eq] at hp
 obtain⟨j,hj,hmin,hyes⟩:=first_stop c.nt fun i=>!(ruleSt c i==0)
 have hfd:=find_first hmin hj hyes
 have hmin':∀i,i<j→ruleSt c i=0:=fun i hi=>by simpa using hmin i hi
 rcases Nat.lt_or_ge j c.nt with h|h
 · have hy:ruleSt c j≠0:=by simpa using hyes h
   rw[if_pos h] at hfd
   have hE:rule9 c=ruleSt c j:=by unfold rule9;rw[hfd]
   refine⟨_,_,_,ru9_yes c (ruleSt c j),by rw[hE];rfl,by dsimp only;unfold lim;omega,by simp[allT],fun q hq=>?_⟩
   rw[List.mem_singleton.1 hq]
   exact r9_ob c _ (by omega) (by omega) hp j hj hmin' (fun _=>hy) ⟨fun _=>⟨rfl,rfl⟩,fun h=>by omega⟩
 · obtain rfl:j=c.nt:=by omega
   rw[if_neg (by omega)] at hfd
   have hE:rule9 c=0:=by unfold rule9;rw[hfd]
   refine⟨_,_,_,ru9_no c,by rw[hE];rfl,by dsimp only;unfold lim;omega,by simp[allT],fun q hq=>?_⟩
   rw[List.mem_singleton.1 hq]
   exact r9_ob c _ (by omega) (by omega) hp c.nt hj hmin' (fun h=>by omega) ⟨fun h=>by omega,fun _=>⟨rfl,rfl⟩⟩
end Go.Proofs.YtpgaplcdbbnblaaGreatDoor
end
/- Contract of rings.Step clockwise. -/
section
namespace Go.Proofs.YtpgaplcdbbnblaaGreatDoor
open Go.RowKit
def ringF (n a k:Int):Int:=if 4≤n∧n≤16∧0≤a∧a<n then (a+k) % n else -1
theorem step_val (n a k:Int) (h0:4≤n) (h1:n≤16) (h2:0≤a) (h3:a<n):
 (IntKind.wrap IntKind.i64 (Int.tmod (IntKind.wrap IntKind.i64 (a+IntKind.wrap IntKind.i64 (Int.ofNat 1*Int.tmod k n))) n+n)).tmod n=(a+k) % n:=by
 have hn:0<n:=by omega
 have t1:k.tmod n<n:=Int.tmod_lt_of_pos _ hn
 have t2: -n<k.tmod n:=Int.lt_tmod_of_pos _ hn
 have t3:k.tmod n=k-n*k.tdiv n:=Int.tmod_def k n
 rw[show Int.ofNat 1*Int.tmod k n=k.tmod n by simp,wrap_nat (k.tmod n) (by omega) (by omega),wrap_nat (a+k.tmod n) (by omega) (by omega)]
 generalize ht:k.tmod n=t at *
 have u1:(a+t).tmod n<n:=Int.tmod_lt_of_pos _ hn
 have u2: -n<(a+t).tmod n:=Int.lt_tmod_of_pos _ hn
 have u3:(a+t).tmod n=(a+t)-n*(a+t).tdiv n:=Int.tmod_def _ _
 generalize (a+t).tmod n=u at *
 rw[wrap_nat (u+n) (by omega) (by omega),Int.tmod_eq_emod_of_nonneg (by omega),Int.add_emod_right,u3,t3]
 rw[show a+(k-n*k.tdiv n)-n*(a+(k-n*k.tdiv n)).tdiv n=a+k-n*(k.tdiv n+(a+(k-n*k.tdiv n)).tdiv n) by rw[Int.mul_add];omega]
 exact Int.sub_mul_emod_self_left _ _ _
theorem step_all (n a k:Int):∃p r,stepR Tryz.prog n 0 a k p=some r∧(r.1=i64 (ringF n a k)∧r.2.2.1≤lim∧allT r.2.2.2.1∧∀q∈r.2.2.2.2,q):=by
 refine stp n a k _ ?_
 repeat' (first|refine⟨fun h=>?_,fun h=>?_⟩|fail)
 all_goals (refine⟨?_,by dsimp only;unfold lim;omega,?_,by simp⟩)
 all_goals first
  | (have hm:4≤n∧n≤16∧0≤a∧a<n:=(by simp at *;omega)
     show i64 _=i64 _;rw[step_val n a k (by omega) (by omega) (by omega) (by omega)];unfold ringF;rw[if_pos hm];done)
  | (have hm:¬(4≤n∧n≤16∧0≤a∧a<n):=(by simp at *;omega)
     show i64 _=i64 _;unfold ringF;rw[if_neg hm];rfl)
  |(simp at *;simp[allT, *];done)
  |(simp at *;simp[allT, *];omega)
  |(simp_all[allT];done)
  |(simp_all[allT];omega)
def ctStep:CtF
 | [.c (.v (.int .i64 n)),.c (.v (.int .u8 d)),.c (.v (.int .i64 a)),.c (.v (.int .i64 k))],m,_=>match decide (d=0),subB mS m with|true,true=>some (i64 (ringF n a k),[],0,[])|_,_=>none
 |_,_,_=>none
theorem ct_step:CtOk Tryz.prog 142 ctStep:=by
 refine⟨⟨_,_,Tryz.func142,rfl⟩,fun C β m m2 w args ib r news k' ob vs hct ho hs hr hfree hlim hv=>?_⟩
 unfold ctStep at hct
 split at hct
 · rename_i n d a k
   split at hct
   · rename_i hd hg
     have hd:=of_decide_eq_true hd
     subst hd
     simp only[Option.some.injEq,Prod.mk.injEq] at hct
     obtain⟨rfl,rfl,rfl,rfl⟩:=hct
     cases hv
     obtain⟨p,⟨v,b',n',ob,po⟩,hrun,hvr,hn,hob,hpo⟩:=step_all n a k
     obtain⟨s',r1,r2,r3,r4⟩:=viewF_out hrun
     have hn:n'≤lim:=hn
     refine(calls_f hE1 r1 ⟨by rw[r3];exact hob,by rw[r4];exact hpo⟩ (C:=loneC w) (β:=nmG β) (w:=w) (vs:=[.int .i64 n,.int .u8 0,.int .i64 a,.int .i64 k]) rfl (rel_glob hr hs hg (by kernel_rfl)) (fun id h1 h2=>by unfold nmG;rw[if_neg (by omega)])).mono ?_
     rintro e w' ⟨β',u,rfl,_,_,hu,hr'⟩
     simp only at hvr
     subst hvr
     cases hu
     exact⟨β,_,rfl,Ext.refl _,fun _ _=>rfl,rfl,by rw[List.append_nil];exact hr.below (below_lone hr')⟩
   · cases hct
 · cases hct
def ENh (P:Program):Env:=⟨P,[(142,ctStep)]⟩
theorem hENh:EnvOk (ENh Tryz.prog):=by
 refine envOk (fun f g h=>?_) (by kernel_rfl) (by kernel_rfl)
 simp only[ENh,List.mem_cons,Prod.mk.injEq,List.not_mem_nil,or_false] at h
 obtain⟨rfl,rfl⟩:=h
 exact ct_step
def halfF (c:Cfg) (i:Nat):Int:=if i % 2=0 then c.fp (i / 2) else ringF c.nodes (c.fp (i / 2)) 1
abbrev hlvB (c:Cfg) (k:Nat):ABlk:=wBlk 3 1 (2*k) fun i=>[.int .i64 (halfF c i)]
abbrev hlvF (c:Cfg) (k:Nat):List (Nat × AV):=[(1,.c (.ptr 1000 0 0)),(2,.c (.sl 2000 0 0 (2*k) none)),(6,.c (.sl 0 0 0 c.np none)),(7,i64 (Int.ofNat c.np)),(8,i64 (Int.ofNat k))]
abbrev hlvM (c:Cfg) (k:Nat):AMem:=[(2000,hlvB c k),(0,ints 3 c.np c.fp),(1000,cfgB c),(gid 2,signB)]
def hlvR (P:Program) (c:Cfg) (k:Nat) (path:List Dec):Option VC:=
 view [1,2,6,7,8] [2000,1000000000000000000000000000000000000000010,0,1000,gid 2] (fC (ENh P) 100 (loopAt P 64 0) 1000000000000000000000000000000000000000000 10000000000000000000000000000000000000000 ⟨mkFr 22 (hlvF c k),hlvM c k,0,0,false,path,[],[],[],none,[]⟩)
theorem hlv (c:Cfg) (k:Nat) (Q:VC→Prop) (H:(((decide (Int.ofNat k<Int.ofNat (c.np)))=true→Q (Exit.normal,[some (lkA (hlvF c k) (0+1)),some (.c (.sl 1000000000000000000000000000000000000000010 0 0 (2*k+2) none)),some (lkA (hlvF c k) (0+1+1+1+1+1+1)),some (lkA (hlvF c k) (0+1+1+1+1+1+1+1)),some (.c (.v (.int .i64 (IntKind.wrap .i64 (Int.ofNat k+Int.ofNat 1)))))],[none,some (ABlk.mk true true 3 1 (Cs.arr (2*k+2) fun i=>if i<2*k then List.map AC.v ((fun i=>[Value.int .i64 (halfF c i)]) i) else elt (ABlk.mk true false 3 0 (Cs.lit [.v (.int .i64 (c.fp (0+Int.toNat (Int.ofNat k)))),.v (.int .i64 (ringF (c.nodes) (c.fp (0+Int.toNat (Int.ofNat k))) (Int.ofNat 1)))])) 0 0 1 (i-2*k))),some (ABlk.mk false false 3 1 (Cs.arr (c.np) fun k=>List.map AC.v ((fun i=>[Value.int .i64 (c.fp i)]) k))),some (ABlk.mk true false 25 0 (Cs.lit [.v (.int .i64 (c.nodes)),AC.sl 0 0 0 (c.np) none,AC.sl 1 0 0 (c.ns) none,.v (.int .i64 (c.long)),AC.sl 2 0 0 (c.nb) none,AC.sl 3 0 0 (c.nt) none,.v (.int .i64 (c.miss)),.v (.int .i64 (c.good)),.v (.int .i64 (c.fresh))])),some (ABlk.mk false false 131 0 (Cs.lit [.v (.int .i64 (Int.ofNat 1)),.v (.int .i64 (Int.negSucc 0))]))],22,1000000000000000000000000000000000000000014,[true,true,decide (2*k≤2*k),decide ((2*k+2)*8≤140737488355328),true,true,ABlk.inb (ABlk.mk false false 3 1 (Cs.arr (c.np) fun k=>List.map AC.v ((fun i=>[Value.int .i64 (c.fp i)]) k))) (0+Int.toNat (Int.ofNat k)) 1,true,decide (Int.ofNat 0≤Int.ofNat k∧Int.ofNat k < ↑(c.np)),decide (Int.ofNat k<Int.ofNat (c.np))==true],[]))∧((decide (Int.ofNat k<Int.ofNat (c.np)))=false→Q (Exit.exit 0,[some (lkA (hlvF c k) (0+1)),some (lkA (hlvF c k) (0+1+1)),some (lkA (hlvF c k) (0+1+1+1+1+1+1)),some (lkA (hlvF c k) (0+1+1+1+1+1+1+1)),some (lkA (hlvF c k) (0+1+1+1+1+1+1+1+1))],[some (ABlk.mk true true 3 1 (Cs.arr (2*k) fun k=>List.map AC.v ((fun i=>[Value.int .i64 (halfF c i)]) k))),none,some (ABlk.mk false false 3 1 (Cs.arr (c.np) fun k=>List.map AC.v ((fun i=>[Value.int .i64 (c.fp i)]) k))),some (ABlk.mk true false 25 0 (Cs.lit [.v (.int .i64 (c.nodes)),AC.sl 0 0 0 (c.np) none,AC.sl 1 0 0 (c.ns) none,.v (.int .i64 (c.long)),AC.sl 2 0 0 (c.nb) none,AC.sl 3 0 0 (c.nt) none,.v (.int .i64 (c.miss)),.v (.int .i64 (c.good)),.v (.int .i64 (c.fresh))])),some (ABlk.mk false false 131 0 (Cs.lit [.v (.int .i64 (Int.ofNat 1)),.v (.int .i64 (Int.negSucc 0))]))],22,1000000000000000000000000000000000000000001,[decide (Int.ofNat k<Int.ofNat (c.np))==false],[])))):
 ∃p r,hlvR Tryz.prog c k p=some r∧Q r:=
 two H
 (fun g1=>⟨pD 1 1,_,by kernel_rfl,g1⟩)
 (fun g1=>⟨pD 1 2,_,by kernel_rfl,g1⟩)
end Go.Proofs.YtpgaplcdbbnblaaGreatDoor
end
/- configs.halves: its loop's sum; the function as the evaluator runs it. -/
section
namespace Go.Proofs.YtpgaplcdbbnblaaGreatDoor
open Go.RowKit
theorem hlv_sum (c:Cfg) (hp:c.np≤1000):
 LoopV Tryz.prog (loopAt Tryz.prog 64 0) [1,2,6,7,8] [0,1000,gid 2] [some (.c (.ptr 1000 0 0)),some (.c (.v (.slice none 0 0))),some (.c (.sl 0 0 0 c.np none)),some (i64 (Int.ofNat c.np)),some (i64 0)] [some (ints 3 c.np c.fp),some (cfgB c),some signB] 22 1006
  (mkFr 22 [(2,.c (.sl 2000 0 0 (2*c.np) none))]) [(2000,hlvB c c.np)] 100000000000000000000000000000000000000000000000000 (.exit 0) none:=by
 refine loop_ob hENh (fuel:=100) (S:=Nat) (inv:=fun k=>k≤c.np) (μ:=fun k=>c.np-k) (tmI:=fun k=>mkFr 22 (hlvF c k)) (mI:=fun k=>hlvM c k) (nh:=1000000000000000000000000000000000000000000) (str:=10000000000000000000000000000000000000000) (by omega) (by omega) (fun _ h=>by cases h) (s0:=0) (by omega) ?_ ?_
 · intro tm m g1 g2 g3
   simp only[List.map_cons,List.map_nil,List.cons.injEq,and_true] at g1 g2
   obtain⟨s1,s2,s6,s7,s8⟩:=g1
   obtain⟨b0,b1,b2⟩:=g2
   refine wk_mk (ρ:=fun _=>.inr 1) (by omega) (by omega) (by unfold lim;omega) g3 ?_ ?_ ?_
   · kernel_rfl
   · exact⟨.inr (.inr (.inl ⟨by omega,by omega,rfl,Nat.one_pos,_,rfl⟩)),.inl ⟨.inl (by omega),b0,ints_low⟩,.inl ⟨.inl (by omega),b1,cfgB_low (by omega)⟩,.inl ⟨.inr (by unfold gid;omega),b2,low_lit rfl⟩,trivial⟩
   · exact⟨⟨_,s1,by simp,GW_low rfl⟩,⟨_,s2,by simp,GW_nil (by omega) (by omega) (by omega) rfl⟩,⟨_,s6,by simp,GW_low rfl⟩,⟨_,s7,by simp[i64],GW_i64 rfl⟩,⟨_,s8,by simp[i64],GW_i64 rfl⟩,trivial⟩
 · intro k hk
   have e0:0+Int.toNat (Int.ofNat k)=k:=by simp
   refine(?_:(∃p r,hlvR Tryz.prog c k p=some r∧_)→_) (hlv c k (fun r=>allT r.2.2.2.2.2.1∧r.2.2.2.2.2.2=[]∧r.2.2.2.2.1≤100000000000000000000000000000000000000000000000000∧
    ∀ st':St,[1,2,6,7,8].map (fun t=>st'.tm[t]?)=r.2.1→[2000,1000000000000000000000000000000000000000010,0,1000,gid 2].map (look st'.m)=r.2.2.1→st'.tm.length=r.2.2.2.1→
     ((r.1= .normal∧∃s',s'≤c.np∧c.np-s'<c.np-k∧Wk 1006 1000000000000000000000000000000000000000000 100000000000000000000000000000000000000000000000000 st'.tm st'.m (mkFr 22 (hlvF c s')) (hlvM c s'))∨
      (r.1≠ .normal∧r.1= .exit 0∧Wk 1006 100000000000000000000000000000000000000000000000000 100000000000000000000000000000000000000000000000000 st'.tm st'.m (mkFr 22 [(2,.c (.sl 2000 0 0 (2*c.np) none))]) [(2000,hlvB c c.np)]))) ⟨fun c1=>?_,fun c1=>?_⟩)
   · rintro⟨p,⟨e,l,b,len,n1,ob,po⟩,hv,hob,hpo,hn1,hw⟩
     obtain⟨st,v1,v2,v3,v4,v6,v7,v8⟩:=view_out hv
     exact⟨p,[],e,n1,st,v1,hn1,⟨by rw[v6];exact hob,by rw[v7];have hpo:po=[]:=hpo;rw[hpo];simp⟩,v8,hw st v2 v3 v4⟩
   · have hlt:k<c.np:=by simpa using c1
     refine⟨?_,rfl,by dsimp only;omega,fun st' v2 v3 v4=>.inl ⟨rfl,k+1,by omega,by omega,?_⟩⟩
     · simp only[allT,List.forall_mem_cons,e0]
       simp[inb_arr,hlt]
       omega
     · simp only[List.map_cons,List.map_nil,List.cons.injEq,and_true] at v2 v3
       obtain⟨s1,s2,s6,s7,s8⟩:=v2
       obtain⟨_,b22,b0,b1,b2⟩:=v3
       refine wk_mk (ρ:=fun _=>.inl 1000000000000000000000000000000000000000010) (by omega) (by omega) (by unfold lim;omega) v4 ?_ ?_ ?_
       · kernel_rfl
       · refine⟨.inr (.inl ⟨by omega,by omega,_,_,rfl,b22,?_,wBlk_low⟩),.inl ⟨.inl (by omega),b0,ints_low⟩,.inl ⟨.inl (by omega),b1,cfgB_low (by omega)⟩,.inl ⟨.inr (by unfold gid;omega),b2,low_lit rfl⟩,trivial⟩
         refine⟨rfl,rfl,rfl,rfl,.inr (.inl ⟨2*k+2,_,_,rfl,rfl,fun i hi=>?_⟩)⟩
         by_cases h1:i<2*k
         · simp[h1]
         · by_cases h2:i=2*k
           · subst h2
             simp[elt,halfF,e0]
           · obtain rfl:i=2*k+1:=by omega
             have hm:(2*k+1) % 2=1:=by omega
             have hd:(2*k+1) / 2=k:=by omega
             simp[elt,halfF,e0,hm,hd]
       · exact⟨⟨_,s1,by simp[lkA],GW_low rfl⟩,⟨_,s2,by simp,GW_sl (by omega) (by omega) (by omega) rfl⟩,⟨_,s6,by simp[lkA],GW_low rfl⟩,⟨_,s7,by simp[i64,lkA],GW_i64 rfl⟩,
          ⟨_,s8,by simp,GW_i64 (by rw[wrap_nat _ (by simp;omega) (by simp;omega)];simp)⟩,trivial⟩
   · have hlt:¬k<c.np:=by simpa using c1
     obtain rfl:k=c.np:=by omega
     refine⟨?_,rfl,by dsimp only;omega,fun st' v2 v3 v4=>.inr ⟨by simp,rfl,?_⟩⟩
     · simp[allT]
     · simp only[List.map_cons,List.map_nil,List.cons.injEq,and_true] at v2 v3
       obtain⟨s1,s2,s6,s7,s8⟩:=v2
       obtain⟨b22,_⟩:=v3
       refine wk_mk (ρ:=fun _=>.inl 2000) (by omega) (by omega) (by unfold lim;omega) v4 rfl ?_ ?_
       · exact⟨.inr (.inl ⟨by omega,by omega,2000,_,rfl,b22,BEq.refl _,wBlk_low⟩),trivial⟩
       · exact⟨⟨_,s2,by simp[lkA],GW_sl (by omega) (by omega) (by omega) rfl⟩,trivial⟩
def hlvS (c:Cfg):LSum:=⟨[1,2,6,7,8],[0,1000,gid 2],mkFr 22 [(2,.c (.sl 2000 0 0 (2*c.np) none))],[(2000,hlvB c c.np)],100000000000000000000000000000000000000000000000000,.exit 0⟩
def hlv1 (P:Program) (c:Cfg):Option VF:=viewF [2000] (fCallF (ENh P) (fC (ENh P) 300) 64 [.agg (cfgC c)] 1000 10000000000000000000000000000000000000000 (stA (cfgM c) [] [some (hlvS c)]))
theorem hlv_run (c:Cfg):hlv1 Tryz.prog c=
 some (.c (.sl 2000 0 0 (2*c.np) none),[some (ABlk.mk true true 3 1 (Cs.arr (2*c.np) fun k=>List.map AC.v ((fun i=>[Value.int .i64 (halfF c i)]) k)))],100000000000000000000000000000000000000000000000002,[true],[LoopV Tryz.prog (loopAt Tryz.prog 64 0) [1,2,6,7,8] [0,1000,gid 2] [some (.c (.ptr 1000 0 0)),some (.c (AC.v (Value.slice none 0 0))),some (.c (.sl 0 0 0 (c.np) none)),some (.c (.v (.int .i64 ↑(c.np)))),some (.c (.v (.int .i64 (Int.ofNat 0))))] [some (ABlk.mk false false 3 1 (Cs.arr (c.np) fun k=>List.map AC.v ((fun i=>[Value.int .i64 (c.fp i)]) k))),some (ABlk.mk true false 25 0 (Cs.lit [.v (.int .i64 (c.nodes)),AC.sl 0 0 0 (c.np) none,AC.sl 1 0 0 (c.ns) none,.v (.int .i64 (c.long)),AC.sl 2 0 0 (c.nb) none,AC.sl 3 0 0 (c.nt) none,.v (.int .i64 (c.miss)),.v (.int .i64 (c.good)),.v (.int .i64 (c.fresh))])),some (ABlk.mk false false 131 0 (Cs.lit [.v (.int .i64 (Int.ofNat 1)),.v (.int .i64 (Int.negSucc 0))]))] 22 1006 (mkFr 22 [(2,.c (.sl 2000 0 0 (2*c.np) none))]) [(2000,hlvB c (c.np))] 100000000000000000000000000000000000000000000000000 (Exit.exit 0) none]):=by kernel_rfl
end Go.Proofs.YtpgaplcdbbnblaaGreatDoor
end
/- Contract of configs.halves. -/
section
namespace Go.Proofs.YtpgaplcdbbnblaaGreatDoor
open Go.RowKit
def ctHalves:CtF
 | [.agg l],m,ib=>
  match cfgOf l m,subB mS m with
  |some (c,b),true=>some (.c (.sl ib 0 0 (2*c.np) none),[(ib,hlvB c c.np)],1,[b,decide (c.np≤1000)])
  |_,_=>none
 |_,_,_=>none
theorem ct_halves:CtOk Tryz.prog 64 ctHalves:=by
 refine⟨⟨_,_,Tryz.func64,rfl⟩,fun C β m m2 w args ib r news k' ob vs hct ho hs hr hfree hlim hv=>?_⟩
 unfold ctHalves at hct
 split at hct
 · rename_i l
   split at hct
   · rename_i c b hc hg
     simp only[Option.some.injEq,Prod.mk.injEq] at hct
     obtain⟨rfl,rfl,rfl,rfl⟩:=hct
     simp only[allT,List.forall_mem_cons,decide_eq_true_eq] at ho
     obtain⟨rfl,o2,_⟩:=ho
     obtain⟨s',r1,r2,r3,r4⟩:=viewF_out (hlv_run c)
     simp only[γt,γ1] at hv
     split at hv
     · rename_i v0 us hv0 hus
       split at hv0
       · rename_i cs hcs
         cases hv0
         cases hus
         cases hv
         obtain⟨β1,q1,q2,q3⟩:=rel_cfg hs hr hc hg hcs
         refine(calls_f hENh r1 ⟨by rw[r3];simp[allT],by rw[r4];intro q hq;rw[List.mem_singleton.1 hq];exact hlv_sum c o2⟩ (C:=loneC w) (β:=β1) (w:=w) (vs:=[.agg cs.toArray]) ?_ q1 (fun id h1 h2=>q3 id h1 (by unfold lim;omega))).mono ?_
         · simp only[γt,γ1,q2]
         · rintro e w' ⟨β',u,rfl,_,_,hu,hr'⟩
           simp only[List.map_cons,List.map_nil,List.cons.injEq,and_true] at r2
           obtain⟨L,hL,hb⟩:=hr'.blk 2000 _ r2
           have hid:β ib=none:=hfree ib (Nat.le_refl _) (by omega)
           refine⟨ext1 β ib L,u,rfl,ext1_ext hid,fun id h=>?_,?_,?_⟩
           · unfold ext1
             rw[if_neg (by omega)]
           · simp only[γ,γ1,γc,hL] at hu
             simp only[γ,γ1,γc,ext1_same]
             exact hu
           · refine rel_fresh hr (below_lone hr') hid (not_gid (by omega)) hr' r2 rfl rfl (fun k j _=>?_) hL
             match j with
             |0=>exact⟨_,rfl⟩
             |j+1=>exact⟨_,rfl⟩
       · cases hv0
     · cases hv
   · cases hct
 · cases hct
end Go.Proofs.YtpgaplcdbbnblaaGreatDoor
end
/- members.one as the evaluator runs it. -/
section
namespace Go.Proofs.YtpgaplcdbbnblaaGreatDoor
open Go.RowKit
def oneR (P:Program) (b:Bool) (path:List Dec):Option VF:=viewF [] (fCallF (E1 P) (fC (E1 P) 300) 145 [bo b] 1000 10000000000000000000000000000000000000000 (stA [] path []))
theorem oneT (b:Bool) (Q:VF→Prop) (H:(((b)=true→Q (.c (.v (.int .i64 (Int.ofNat 1))),[],1003,[b==true],[]))∧((b)=false→Q (.c (.v (.int .i64 (Int.ofNat 0))),[],1003,[b==false],[])))):
 ∃p r,oneR Tryz.prog b p=some r∧Q r:=
 two H
 (fun g1=>⟨pD 1 1,_,by kernel_rfl,g1⟩)
 (fun g1=>⟨pD 1 2,_,by kernel_rfl,g1⟩)
end Go.Proofs.YtpgaplcdbbnblaaGreatDoor
end
/- members.one by contract; slices.Collect of a view's numbers, as the evaluator runs it. -/
section
namespace Go.Proofs.YtpgaplcdbbnblaaGreatDoor
open Go.RowKit
def oneG:List AV→AV
 | [.c (.v (.bool b))]=>i64 (oneI b)
 |_=>i64 0
def oneP:List AV→Bool
 | [.c (.v (.bool _))]=>true
 |_=>false
def ctOne:CtF:=ctRd (pureRd [] rfl) oneG oneP
theorem ct_one:CtOk Tryz.prog 145 ctOne:=by
 refine ctRd_ofE (E:=E1 Tryz.prog) hE1 (pureRd [] rfl) (fuel:=300) (str:=10000000000000000000000000000000000000000) ⟨_,_,Tryz.func145,rfl⟩ (fun s=>by unfold oneG;split<;>rfl) fun s hs=>?_
 unfold oneP at hs
 split at hs
 · rename_i b
   refine(?_:(∃p q,oneR Tryz.prog b p=some q∧GoodF (i64 (oneI b)) q)→_) (oneT b _ ⟨fun h=>?_,fun h=>?_⟩)
   · rintro⟨p,q,h1,h2⟩
     exact⟨p,[],q,h1,h2⟩
   · subst h;exact⟨rfl,(by first|(unfold lim;omega)|(dsimp only;unfold lim;omega)),by simp[allT],by simp⟩
   · subst h;exact⟨rfl,(by first|(unfold lim;omega)|(dsimp only;unfold lim;omega)),by simp[allT],by simp⟩
 · cases hs
def EOne (P:Program):Env:=⟨P,[(145,ctOne)]⟩
theorem hEOne:EnvOk (EOne Tryz.prog):=by
 refine envOk (fun f g h=>?_) (by kernel_rfl) (by kernel_rfl)
 simp only[EOne,List.mem_cons,Prod.mk.injEq,List.not_mem_nil,or_false] at h
 obtain⟨rfl,rfl⟩:=h
 exact ct_one
end Go.Proofs.YtpgaplcdbbnblaaGreatDoor
end
/- slices.Collect of a view's numbers: its contract; members.Less as the evaluator runs it. -/
section
namespace Go.Proofs.YtpgaplcdbbnblaaGreatDoor
open Go.RowKit
theorem rel_pt {C:Ctx} {β:Nm} {m2:AMem} {w:World} (hr:Rel C β m2 w) {id:Nat} {x:ABlk} {l:List AC} (hx:look m2 id=some x) (hc:x.cs= .lit l) (hp:l.all plainC=true) (ty:Nat):
 ∃L,β id=some L∧Rel (loneC w) (ext1 (fun _=>none) 0 L) [(0,⟨false,false,ty,0,.lit l⟩)] w:=by
 obtain⟨L,hL,hk⟩:=hr.blk id x hx
 have hsz:=hk.lit l hc
 refine⟨L,hL,?_⟩
 have h0:=rel_add_ro (C:=loneC w) (β:=fun _=>none) (m:=[]) (rel_nil w) (fun _ _ h=>by cases h) (id:=0) rfl (fun g=>by unfold gid;omega) (y:=⟨false,false,ty,0,.lit l⟩) rfl rfl (L:=L) ?_
 · exact h0.1
 · refine⟨by rw[hk.sz,hsz],fun _ _=>rfl,fun k j hi=>?_,hk.lt,fun ho=>(by cases ho),fun n f hf=>(by cases hf),fun ho=>(by cases ho)⟩
   obtain⟨g1,u,g2,g3,g4⟩:=hk.cells k j (by simp only[ABlk.inb,hc,hsz] at hi ⊢;exact hi)
   refine⟨g1,u,?_,g3,g4⟩
   rw[hc] at g2
   simp only[Cs.get,List.getD] at g2 ⊢
   cases e:l[j]? with
   |none=>rw[e] at g2;exact g2
   |some y=>
    rw[e] at g2
    exact plainC_γ (List.all_eq_true.1 hp y (List.mem_of_getElem? e)) g2
theorem isVw_plain {l:List AC} (h:isVw l=true):l.all plainC=true:=by
 rw[vw_eq h]
 exact plain_map _
def colRd:Rd (List AC) where
 dec:=fun xs m=>
  match xs with
  | [.c (.fn f [(id,0,0)])]=>
   match Nat.beq f 144,look m id with
   |true,some ⟨_,_,_,_,.lit l⟩=>some (l,isVw l)
   |_,_=>none
  |_=>none
 args:=fun _=>[.c (.fn 144 [(0,0,0)])]
 mem:=fun l=>[(0,⟨false,false,32,0,.lit l⟩)]
 ok :=by
  intro C β m m2 w xs s vs hs hr hd hv
  split at hd
  · rename_i f id
    split at hd
    · rename_i o1 r1 t1 sz l hf hlk
      simp only[Option.some.injEq,Prod.mk.injEq] at hd
      obtain⟨rfl,h1⟩:=hd
      obtain rfl:=Nat.eq_of_beq_eq_true hf
      obtain⟨L,hL,hR⟩:=rel_pt hr (hs _ _ hlk) rfl (isVw_plain h1) 32
      refine⟨_,hR,?_,fun id' h1 _=>?_⟩
      · simp only[γt,γ1,γc,γp,ad,hL,ext1_same] at hv ⊢
        exact hv
      · unfold ext1
        rw[if_neg (by omega)]
    · cases hd
  · cases hd
def keyB (l:List AC):ABlk:=wBlk 3 1 42 fun j=>[.int .i64 (keyF l j)]
def ctCol:CtF:=ctRdR colRd (fun _=>42) keyB isVw
end Go.Proofs.YtpgaplcdbbnblaaGreatDoor
end
/- The contract of slices.Collect of a view's numbers; members.Less as the evaluator runs it. -/
section
namespace Go.Proofs.YtpgaplcdbbnblaaGreatDoor
open Go.RowKit
abbrev colN:Nat:=2240000000000000000000000000000000000001675
def colV (P:Program) (v:Vw) (path:List Dec):Option VF:=viewF [colN] (fCallF (EOne P) (fC (EOne P) 300) 68 [.c (.fn 144 [(0,0,0)])] 1000 10000000000000000000000000000000000000000 (stA [(0,⟨false,false,32,0,.lit (vwL v)⟩)] path []))
theorem colU (v:Vw) (Q:VF→Prop) (H:let zt:List Bool→List Bool:=fun l=>true::true::true::true::true::true::true::true::l;let zu:List Bool→List Bool:=fun l=>zt (zt (zt (zt l)));Q (.c (.sl 2240000000000000000000000000000000000001675 0 0 42 none),[some (ABlk.mk true true 3 1 (Cs.arr 42 fun i=>if i<41 then if i<40 then if i<39 then if i<38 then if i<37 then if i<36 then if i<35 then if i<34 then if i<33 then if i<32 then if i<31 then if i<30 then if i<29 then if i<28 then if i<27 then if i<26 then if i<25 then if i<24 then if i<23 then if i<22 then if i<21 then if i<20 then if i<19 then if i<18 then if i<17 then if i<16 then if i<15 then if i<14 then if i<13 then if i<12 then if i<11 then if i<10 then if i<9 then if i<8 then if i<7 then if i<6 then if i<5 then if i<4 then if i<3 then if i<2 then if i<1 then if i<0 then[] else elt (ABlk.mk true false 3 0 (Cs.lit [.v (.int .i64 (oneI (Vw.inn v 0)))])) 0 0 1 (i-0) else elt (ABlk.mk true false 3 0 (Cs.lit [.v (.int .i64 (oneI (Vw.got v 0)))])) 0 0 1 (i-1) else elt (ABlk.mk true false 3 0 (Cs.lit [.v (.int .i64 (IntKind.wrap .i64 (Vw.miss v 0)))])) 0 0 1 (i-2) else elt (ABlk.mk true false 3 0 (Cs.lit [.v (.int .i64 (IntKind.wrap .i64 (Vw.good v 0)))])) 0 0 1 (i-3) else elt (ABlk.mk true false 3 0 (Cs.lit [.v (.int .i64 (IntKind.wrap .i64 (Vw.score v 0)))])) 0 0 1 (i-4) else elt (ABlk.mk true false 3 0 (Cs.lit [.v (.int .i64 (oneI (Vw.inn v 1)))])) 0 0 1 (i-5) else elt (ABlk.mk true false 3 0 (Cs.lit [.v (.int .i64 (oneI (Vw.got v 1)))])) 0 0 1 (i-6) else elt (ABlk.mk true false 3 0 (Cs.lit [.v (.int .i64 (IntKind.wrap .i64 (Vw.miss v 1)))])) 0 0 1 (i-7) else elt (ABlk.mk true false 3 0 (Cs.lit [.v (.int .i64 (IntKind.wrap .i64 (Vw.good v 1)))])) 0 0 1 (i-8) else elt (ABlk.mk true false 3 0 (Cs.lit [.v (.int .i64 (IntKind.wrap .i64 (Vw.score v 1)))])) 0 0 1 (i-9) else elt (ABlk.mk true false 3 0 (Cs.lit [.v (.int .i64 (oneI (Vw.inn v 2)))])) 0 0 1 (i-10) else elt (ABlk.mk true false 3 0 (Cs.lit [.v (.int .i64 (oneI (Vw.got v 2)))])) 0 0 1 (i-11) else elt (ABlk.mk true false 3 0 (Cs.lit [.v (.int .i64 (IntKind.wrap .i64 (Vw.miss v 2)))])) 0 0 1 (i-12) else elt (ABlk.mk true false 3 0 (Cs.lit [.v (.int .i64 (IntKind.wrap .i64 (Vw.good v 2)))])) 0 0 1 (i-13) else elt (ABlk.mk true false 3 0 (Cs.lit [.v (.int .i64 (IntKind.wrap .i64 (Vw.score v 2)))])) 0 0 1 (i-14) else elt (ABlk.mk true false 3 0 (Cs.lit [.v (.int .i64 (oneI (Vw.inn v 3)))])) 0 0 1 (i-15) else elt (ABlk.mk true false 3 0 (Cs.lit [.v (.int .i64 (oneI (Vw.got v 3)))])) 0 0 1 (i-16) else elt (ABlk.mk true false 3 0 (Cs.lit [.v (.int .i64 (IntKind.wrap .i64 (Vw.miss v 3)))])) 0 0 1 (i-17) else elt (ABlk.mk true false 3 0 (Cs.lit [.v (.int .i64 (IntKind.wrap .i64 (Vw.good v 3)))])) 0 0 1 (i-18) else elt (ABlk.mk true false 3 0 (Cs.lit [.v (.int .i64 (IntKind.wrap .i64 (Vw.score v 3)))])) 0 0 1 (i-19) else elt (ABlk.mk true false 3 0 (Cs.lit [.v (.int .i64 (oneI (Vw.inn v 4)))])) 0 0 1 (i-20) else elt (ABlk.mk true false 3 0 (Cs.lit [.v (.int .i64 (oneI (Vw.got v 4)))])) 0 0 1 (i-21) else elt (ABlk.mk true false 3 0 (Cs.lit [.v (.int .i64 (IntKind.wrap .i64 (Vw.miss v 4)))])) 0 0 1 (i-22) else elt (ABlk.mk true false 3 0 (Cs.lit [.v (.int .i64 (IntKind.wrap .i64 (Vw.good v 4)))])) 0 0 1 (i-23) else elt (ABlk.mk true false 3 0 (Cs.lit [.v (.int .i64 (IntKind.wrap .i64 (Vw.score v 4)))])) 0 0 1 (i-24) else elt (ABlk.mk true false 3 0 (Cs.lit [.v (.int .i64 (oneI (Vw.inn v 5)))])) 0 0 1 (i-25) else elt (ABlk.mk true false 3 0 (Cs.lit [.v (.int .i64 (oneI (Vw.got v 5)))])) 0 0 1 (i-26) else elt (ABlk.mk true false 3 0 (Cs.lit [.v (.int .i64 (IntKind.wrap .i64 (Vw.miss v 5)))])) 0 0 1 (i-27) else elt (ABlk.mk true false 3 0 (Cs.lit [.v (.int .i64 (IntKind.wrap .i64 (Vw.good v 5)))])) 0 0 1 (i-28) else elt (ABlk.mk true false 3 0 (Cs.lit [.v (.int .i64 (IntKind.wrap .i64 (Vw.score v 5)))])) 0 0 1 (i-29) else elt (ABlk.mk true false 3 0 (Cs.lit [.v (.int .i64 (oneI (Vw.inn v 6)))])) 0 0 1 (i-30) else elt (ABlk.mk true false 3 0 (Cs.lit [.v (.int .i64 (oneI (Vw.got v 6)))])) 0 0 1 (i-31) else elt (ABlk.mk true false 3 0 (Cs.lit [.v (.int .i64 (IntKind.wrap .i64 (Vw.miss v 6)))])) 0 0 1 (i-32) else elt (ABlk.mk true false 3 0 (Cs.lit [.v (.int .i64 (IntKind.wrap .i64 (Vw.good v 6)))])) 0 0 1 (i-33) else elt (ABlk.mk true false 3 0 (Cs.lit [.v (.int .i64 (IntKind.wrap .i64 (Vw.score v 6)))])) 0 0 1 (i-34) else elt (ABlk.mk true false 3 0 (Cs.lit [.v (.int .i64 (oneI (Vw.inn v 7)))])) 0 0 1 (i-35) else elt (ABlk.mk true false 3 0 (Cs.lit [.v (.int .i64 (oneI (Vw.got v 7)))])) 0 0 1 (i-36) else elt (ABlk.mk true false 3 0 (Cs.lit [.v (.int .i64 (IntKind.wrap .i64 (Vw.miss v 7)))])) 0 0 1 (i-37) else elt (ABlk.mk true false 3 0 (Cs.lit [.v (.int .i64 (IntKind.wrap .i64 (Vw.good v 7)))])) 0 0 1 (i-38) else elt (ABlk.mk true false 3 0 (Cs.lit [.v (.int .i64 (IntKind.wrap .i64 (Vw.score v 7)))])) 0 0 1 (i-39) else elt (ABlk.mk true false 3 0 (Cs.lit [.v (.int .i64 (IntKind.wrap .i64 (Vw.command v)))])) 0 0 1 (i-40) else elt (ABlk.mk true false 3 0 (Cs.lit [.v (.int .i64 (IntKind.wrap .i64 (Vw.mode v)))])) 0 0 1 (i-41)))],2240000000000000000000000000000000000001680,(zu (zu (zu (zu (zu (zu (zu (zu (zu (zu (zu (zu (zu (zu (zu (zu (zt (true::true::true::true::true::true::true::[])))))))))))))))))),[])):
 ∃p r,colV Tryz.prog v p=some r∧Q r:=
 ⟨pD 98 0,_,by kernel_rfl,H⟩
end Go.Proofs.YtpgaplcdbbnblaaGreatDoor
end
/- The contract of slices.Collect of a view's numbers; the contracts that members.Less uses. -/
section
namespace Go.Proofs.YtpgaplcdbbnblaaGreatDoor
open Go.RowKit
theorem allT_all {l:List Bool} (h:l.all id=true):allT l:=fun b hb=>List.all_eq_true.1 h b hb
theorem keyB_pl (l:List AC) (k j:Nat) (h:(keyB l).inb k (j+1)=true):∃v,(keyB l).cs.get k j= .v v:=wBlk_pl (ty:=3) (sz:=1) (n:=42) (f:=fun j=>[.int .i64 (keyF l j)]) (fun _=>rfl) k j h
set_option maxRecDepth 100000 in
theorem ct_col:CtOk Tryz.prog 68 ctCol:=by
 refine ctRdR_of (fun _=>⟨_,_,rfl⟩) (ctRdL_of (E:=EOne Tryz.prog) hEOne colRd (fuel:=300) (str:=10000000000000000000000000000000000000000) colN ⟨_,_,Tryz.func68,rfl⟩ (fun _=>rfl) (fun _=>⟨_,_,rfl⟩) keyB_pl fun l hl=>?_)
 have e:=vw_eq hl
 generalize vwOf l=v at e
 subst e
 refine(?_:(∃p q,colV Tryz.prog v p=some q∧GoodL colN 42 (keyB (vwL v)) q)→_) (colU v _ ?_)
 · rintro⟨p,q,h1,h2⟩
   exact⟨p,[],q,h1,h2⟩
 · refine⟨rfl,⟨_,rfl,rfl,rfl,rfl,rfl,.inr (.inl ⟨42,_,_,rfl,rfl,fun k hk=>?_⟩)⟩,(by first|(unfold lim;omega)|(dsimp only;unfold lim;omega)),allT_all (by kernel_rfl),by simp⟩
   match k,hk with
   |0,_=>rfl
   |1,_=>rfl
   |2,_=>rfl
   |3,_=>rfl
   |4,_=>rfl
   |5,_=>rfl
   |6,_=>rfl
   |7,_=>rfl
   |8,_=>rfl
   |9,_=>rfl
   |10,_=>rfl
   |11,_=>rfl
   |12,_=>rfl
   |13,_=>rfl
   |14,_=>rfl
   |15,_=>rfl
   |16,_=>rfl
   |17,_=>rfl
   |18,_=>rfl
   |19,_=>rfl
   |20,_=>rfl
   |21,_=>rfl
   |22,_=>rfl
   |23,_=>rfl
   |24,_=>rfl
   |25,_=>rfl
   |26,_=>rfl
   |27,_=>rfl
   |28,_=>rfl
   |29,_=>rfl
   |30,_=>rfl
   |31,_=>rfl
   |32,_=>rfl
   |33,_=>rfl
   |34,_=>rfl
   |35,_=>rfl
   |36,_=>rfl
   |37,_=>rfl
   |38,_=>rfl
   |39,_=>rfl
   |40,_=>rfl
   |41,_=>rfl
   |k+42,h=>exact absurd h (by omega)
def ctsLe:List (FuncId × CtF):=[(145,ctOne),(68,ctCol)]
theorem ctsLe_ok:∀f g,(f,g)∈ctsLe→CtOk Tryz.prog f g:=by
 intro f g h
 simp only[ctsLe,List.mem_cons,Prod.mk.injEq,List.not_mem_nil,or_false] at h
 rcases h with⟨rfl,rfl⟩|⟨rfl,rfl⟩
 · exact ct_one
 · exact ct_col
def ELe (P:Program):Env:=⟨P,ctsLe⟩
theorem hELe:EnvOk (ELe Tryz.prog):=envOk ctsLe_ok (by kernel_rfl) (by kernel_rfl)
end Go.Proofs.YtpgaplcdbbnblaaGreatDoor
end
/- members.Less as the evaluator runs it. -/
section
namespace Go.Proofs.YtpgaplcdbbnblaaGreatDoor
open Go.RowKit
def lessR (P:Program) (a b:Vw) (path:List Dec):Option VF:=viewF [] (fCallF (ELe P) (fC (ELe P) 300) 17 [.agg (vwL a),.agg (vwL b)] 1000 10000000000000000000000000000000000000000 (stA [] path []))
set_option maxRecDepth 1000000
set_option maxHeartbeats 1000000
theorem lessT35 (a b:Vw) (Q:VF→Prop) (H:let zz0:=(IntKind.wrap IntKind.i64 (Vw.miss a 0) !=keyF (vwL b) 2);let zz1:=(IntKind.wrap IntKind.i64 (Vw.good a 0) !=keyF (vwL b) 3);let zz2:=(IntKind.wrap IntKind.i64 (Vw.score a 0) !=keyF (vwL b) 4);let zz3:=(IntKind.wrap IntKind.i64 (Vw.miss a 1) !=keyF (vwL b) 7);let zz4:=(IntKind.wrap IntKind.i64 (Vw.good a 1) !=keyF (vwL b) 8);let zz5:=(IntKind.wrap IntKind.i64 (Vw.score a 1) !=keyF (vwL b) 9);let zz6:=(IntKind.wrap IntKind.i64 (Vw.miss a 2) !=keyF (vwL b) 12);let zz7:=(IntKind.wrap IntKind.i64 (Vw.good a 2) !=keyF (vwL b) 13);let zz8:=(IntKind.wrap IntKind.i64 (Vw.score a 2) !=keyF (vwL b) 14);let zz9:=(IntKind.wrap IntKind.i64 (Vw.miss a 3) !=keyF (vwL b) 17);let zz10:=(IntKind.wrap IntKind.i64 (Vw.good a 3) !=keyF (vwL b) 18);let zz11:=(IntKind.wrap IntKind.i64 (Vw.score a 3) !=keyF (vwL b) 19);let zz12:=(IntKind.wrap IntKind.i64 (Vw.miss a 4) !=keyF (vwL b) 22);let zz13:=(IntKind.wrap IntKind.i64 (Vw.good a 4) !=keyF (vwL b) 23);let zz14:=(IntKind.wrap IntKind.i64 (Vw.score a 4) !=keyF (vwL b) 24);let zz15:=(IntKind.wrap IntKind.i64 (Vw.miss a 5) !=keyF (vwL b) 27);let zz16:=(IntKind.wrap IntKind.i64 (Vw.good a 5) !=keyF (vwL b) 28);let zz17:=(IntKind.wrap IntKind.i64 (Vw.score a 5) !=keyF (vwL b) 29);let zz18:=(IntKind.wrap IntKind.i64 (Vw.miss a 6) !=keyF (vwL b) 32);let zz19:=(IntKind.wrap IntKind.i64 (Vw.good a 6) !=keyF (vwL b) 33);let zz20:=(IntKind.wrap IntKind.i64 (Vw.score a 6) !=keyF (vwL b) 34);let zz21:=(IntKind.wrap IntKind.i64 (Vw.miss a 7) !=keyF (vwL b) 37);let zz22:=(IntKind.wrap IntKind.i64 (Vw.good a 7) !=keyF (vwL b) 38);let zz23:=(IntKind.wrap IntKind.i64 (Vw.score a 7) !=keyF (vwL b) 39);let zz24:=(IntKind.wrap IntKind.i64 (Vw.command a) !=keyF (vwL b) 40);let zt:List Bool→List Bool:=fun l=>true::true::true::true::true::true::true::true::l;let zu:List Bool→List Bool:=fun l=>zt (zt (zt (zt l)));let zq0:List Bool:=zu (zu (zu (zt (zt (true::true::true::[])))));let zq1:List Bool:=zt (true::true::true::true::true::(((oneI (Vw.inn a 0) !=keyF (vwL b) 0)==false)::zq0));let zq2:List Bool:=zt (true::true::true::true::true::(((oneI (Vw.got a 0) !=keyF (vwL b) 1)==false)::zq1));let zq3:List Bool:=zt (true::true::true::true::true::((zz0==false)::zq2));let zq4:List Bool:=zt (true::true::true::true::true::((zz1==false)::zq3));let zq5:List Bool:=zu ((zz2==false)::zq4);let zq6:List Bool:=zt (true::true::true::true::true::(((oneI (Vw.inn a 1) !=keyF (vwL b) 5)==false)::zq5));let zq7:List Bool:=zt (true::true::true::true::true::(((oneI (Vw.got a 1) !=keyF (vwL b) 6)==false)::zq6));let zq8:List Bool:=zt (true::true::true::true::true::((zz3==false)::zq7));let zq9:List Bool:=zt (true::true::true::true::true::((zz4==false)::zq8));let zq10:List Bool:=zu ((zz5==false)::zq9);let zq11:List Bool:=zt (true::true::true::true::true::(((oneI (Vw.inn a 2) !=keyF (vwL b) 10)==false)::zq10));let zq12:List Bool:=zt (true::true::true::true::true::(((oneI (Vw.got a 2) !=keyF (vwL b) 11)==false)::zq11));let zq13:List Bool:=zt (true::true::true::true::true::((zz6==false)::zq12));let zq14:List Bool:=zt (true::true::true::true::true::((zz7==false)::zq13));let zq15:List Bool:=zu ((zz8==false)::zq14);let zq16:List Bool:=zt (true::true::true::true::true::(((oneI (Vw.inn a 3) !=keyF (vwL b) 15)==false)::zq15));let zq17:List Bool:=zt (true::true::true::true::true::(((oneI (Vw.got a 3) !=keyF (vwL b) 16)==false)::zq16));let zq18:List Bool:=zt (true::true::true::true::true::((zz9==false)::zq17));let zq19:List Bool:=zt (true::true::true::true::true::((zz10==false)::zq18));let zq20:List Bool:=zu ((zz11==false)::zq19);let zq21:List Bool:=zt (true::true::true::true::true::(((oneI (Vw.inn a 4) !=keyF (vwL b) 20)==false)::zq20));let zq22:List Bool:=zt (true::true::true::true::true::(((oneI (Vw.got a 4) !=keyF (vwL b) 21)==false)::zq21));let zq23:List Bool:=zt (true::true::true::true::true::((zz12==false)::zq22));let zq24:List Bool:=zt (true::true::true::true::true::((zz13==false)::zq23));let zq25:List Bool:=zu ((zz14==false)::zq24);let zq26:List Bool:=zt (true::true::true::true::true::(((oneI (Vw.inn a 5) !=keyF (vwL b) 25)==false)::zq25));let zq27:List Bool:=zt (true::true::true::true::true::(((oneI (Vw.got a 5) !=keyF (vwL b) 26)==false)::zq26));let zq28:List Bool:=zt (true::true::true::true::true::((zz15==false)::zq27));let zq29:List Bool:=zt (true::true::true::true::true::((zz16==false)::zq28));let zq30:List Bool:=zu ((zz17==false)::zq29);let zq31:List Bool:=zt (true::true::true::true::true::(((oneI (Vw.inn a 6) !=keyF (vwL b) 30)==false)::zq30));let zq32:List Bool:=zt (true::true::true::true::true::(((oneI (Vw.got a 6) !=keyF (vwL b) 31)==false)::zq31));let zq33:List Bool:=zt (true::true::true::true::true::((zz18==false)::zq32));let zq34:List Bool:=zt (true::true::true::true::true::((zz19==false)::zq33));let zq35:List Bool:=zu ((zz20==false)::zq34);let zq36:List Bool:=zt (true::true::true::true::true::(((oneI (Vw.inn a 7) !=keyF (vwL b) 35)==false)::zq35));let zq37:List Bool:=zt (true::true::true::true::true::(((oneI (Vw.got a 7) !=keyF (vwL b) 36)==false)::zq36));let zq38:List Bool:=zt (true::true::true::true::true::((zz21==false)::zq37));let zq39:List Bool:=zt (true::true::true::true::true::((zz22==false)::zq38));let zq40:List Bool:=zt (true::true::true::true::((zz23==false)::zq39));let zq41:List Bool:=zt (true::true::true::true::((zz24==false)::zq40));(((oneI (Vw.inn a 7) !=keyF (vwL b) 35)=true→Q (.c (.v (.bool (decide (oneI (Vw.inn a 7)<keyF (vwL b) 35)))),[],2240000000000000000000000000000000000001783,(true::true::true::((oneI (Vw.inn a 7) !=keyF (vwL b) 35)==true)::zq35),[]))∧((oneI (Vw.inn a 7) !=keyF (vwL b) 35)=false→(((oneI (Vw.got a 7) !=keyF (vwL b) 36)=true→Q (.c (.v (.bool (decide (oneI (Vw.got a 7)<keyF (vwL b) 36)))),[],2240000000000000000000000000000000000001803,(true::true::true::((oneI (Vw.got a 7) !=keyF (vwL b) 36)==true)::zq36),[]))∧((oneI (Vw.got a 7) !=keyF (vwL b) 36)=false→((zz21=true→Q (.c (.v (.bool (decide (IntKind.wrap .i64 (Vw.miss a 7)<keyF (vwL b) 37)))),[],2240000000000000000000000000000000000001823,(true::true::true::(zz21==true)::zq37),[]))∧(zz21=false→((zz22=true→Q (.c (.v (.bool (decide (IntKind.wrap .i64 (Vw.good a 7)<keyF (vwL b) 38)))),[],2240000000000000000000000000000000000001843,(true::true::true::(zz22==true)::zq38),[]))∧(zz22=false→((zz23=true→Q (.c (.v (.bool (decide (IntKind.wrap .i64 (Vw.score a 7)<keyF (vwL b) 39)))),[],2240000000000000000000000000000000000001863,(true::true::true::(zz23==true)::zq39),[]))∧(zz23=false→((zz24=true→Q (.c (.v (.bool (decide (IntKind.wrap .i64 (Vw.command a)<keyF (vwL b) 40)))),[],2240000000000000000000000000000000000001884,(true::true::true::(zz24==true)::zq40),[]))∧(zz24=false→(((IntKind.wrap .i64 (Vw.mode a) !=keyF (vwL b) 41)=true→Q (.c (.v (.bool (decide (IntKind.wrap .i64 (Vw.mode a)<keyF (vwL b) 41)))),[],2240000000000000000000000000000000000001899,(true::true::true::((IntKind.wrap .i64 (Vw.mode a) !=keyF (vwL b) 41)==true)::zq41),[]))∧((IntKind.wrap .i64 (Vw.mode a) !=keyF (vwL b) 41)=false→Q (.c (.v (.bool false)),[],2240000000000000000000000000000000000001899,(zt (true::(((IntKind.wrap .i64 (Vw.mode a) !=keyF (vwL b) 41)==false)::zq41))),[])))))))))))))))):
 ∃p r,lessR Tryz.prog a b p=some r∧Q r:=
 two H
 (fun g36=>⟨pD 123 5437108084066188140733837757915665834416483666194228251597,_,by kernel_rfl,g36⟩)
 (fun g36=>two g36
 (fun g37=>⟨pD 126 156385973276878409815440943436722489171860436379373721189281,_,by kernel_rfl,g37⟩)
 (fun g37=>two g37
 (fun g38=>⟨pD 129 4232005333482808395032532796764506719282847159635220030506749,_,by kernel_rfl,g38⟩)
 (fun g38=>two g38
 (fun g39=>⟨pD 132 114273728059042917995894012836614680932279488687543070382078385,_,by kernel_rfl,g39⟩)
 (fun g39=>two g39
 (fun g40=>⟨pD 135 3085400241649165877219153973912569384683188809941055029874512557,_,by kernel_rfl,g40⟩)
 (fun g40=>two g40
 (fun g41=>⟨pD 139 238016618137668174152944066610418416316987232997629464969740557443,_,by kernel_rfl,g41⟩)
 (fun g41=>two g41
 (fun g42=>⟨pD 140 2558678648573953499803397471922244465282429620705283270473295391073,_,by kernel_rfl,g42⟩)
 (fun g42=>⟨pD 140 4647274475966610292888805536702887909351327769642171695426494741340,_,by kernel_rfl,g42⟩)))))))
theorem lessT25 (a b:Vw) (Q:VF→Prop) (H:let zz0:=(IntKind.wrap IntKind.i64 (Vw.miss a 0) !=keyF (vwL b) 2);let zz1:=(IntKind.wrap IntKind.i64 (Vw.good a 0) !=keyF (vwL b) 3);let zz2:=(IntKind.wrap IntKind.i64 (Vw.score a 0) !=keyF (vwL b) 4);let zz3:=(IntKind.wrap IntKind.i64 (Vw.miss a 1) !=keyF (vwL b) 7);let zz4:=(IntKind.wrap IntKind.i64 (Vw.good a 1) !=keyF (vwL b) 8);let zz5:=(IntKind.wrap IntKind.i64 (Vw.score a 1) !=keyF (vwL b) 9);let zz6:=(IntKind.wrap IntKind.i64 (Vw.miss a 2) !=keyF (vwL b) 12);let zz7:=(IntKind.wrap IntKind.i64 (Vw.good a 2) !=keyF (vwL b) 13);let zz8:=(IntKind.wrap IntKind.i64 (Vw.score a 2) !=keyF (vwL b) 14);let zz9:=(IntKind.wrap IntKind.i64 (Vw.miss a 3) !=keyF (vwL b) 17);let zz10:=(IntKind.wrap IntKind.i64 (Vw.good a 3) !=keyF (vwL b) 18);let zz11:=(IntKind.wrap IntKind.i64 (Vw.score a 3) !=keyF (vwL b) 19);let zz12:=(IntKind.wrap IntKind.i64 (Vw.miss a 4) !=keyF (vwL b) 22);let zz13:=(IntKind.wrap IntKind.i64 (Vw.good a 4) !=keyF (vwL b) 23);let zz14:=(IntKind.wrap IntKind.i64 (Vw.score a 4) !=keyF (vwL b) 24);let zz15:=(IntKind.wrap IntKind.i64 (Vw.miss a 5) !=keyF (vwL b) 27);let zz16:=(IntKind.wrap IntKind.i64 (Vw.good a 5) !=keyF (vwL b) 28);let zz17:=(IntKind.wrap IntKind.i64 (Vw.score a 5) !=keyF (vwL b) 29);let zz18:=(IntKind.wrap IntKind.i64 (Vw.miss a 6) !=keyF (vwL b) 32);let zz19:=(IntKind.wrap IntKind.i64 (Vw.good a 6) !=keyF (vwL b) 33);let zz20:=(IntKind.wrap IntKind.i64 (Vw.score a 6) !=keyF (vwL b) 34);let zt:List Bool→List Bool:=fun l=>true::true::true::true::true::true::true::true::l;let zu:List Bool→List Bool:=fun l=>zt (zt (zt (zt l)));let zq0:List Bool:=zu (zu (zu (zt (zt (true::true::true::[])))));let zq1:List Bool:=zt (true::true::true::true::true::(((oneI (Vw.inn a 0) !=keyF (vwL b) 0)==false)::zq0));let zq2:List Bool:=zt (true::true::true::true::true::(((oneI (Vw.got a 0) !=keyF (vwL b) 1)==false)::zq1));let zq3:List Bool:=zt (true::true::true::true::true::((zz0==false)::zq2));let zq4:List Bool:=zt (true::true::true::true::true::((zz1==false)::zq3));let zq5:List Bool:=zu ((zz2==false)::zq4);let zq6:List Bool:=zt (true::true::true::true::true::(((oneI (Vw.inn a 1) !=keyF (vwL b) 5)==false)::zq5));let zq7:List Bool:=zt (true::true::true::true::true::(((oneI (Vw.got a 1) !=keyF (vwL b) 6)==false)::zq6));let zq8:List Bool:=zt (true::true::true::true::true::((zz3==false)::zq7));let zq9:List Bool:=zt (true::true::true::true::true::((zz4==false)::zq8));let zq10:List Bool:=zu ((zz5==false)::zq9);let zq11:List Bool:=zt (true::true::true::true::true::(((oneI (Vw.inn a 2) !=keyF (vwL b) 10)==false)::zq10));let zq12:List Bool:=zt (true::true::true::true::true::(((oneI (Vw.got a 2) !=keyF (vwL b) 11)==false)::zq11));let zq13:List Bool:=zt (true::true::true::true::true::((zz6==false)::zq12));let zq14:List Bool:=zt (true::true::true::true::true::((zz7==false)::zq13));let zq15:List Bool:=zu ((zz8==false)::zq14);let zq16:List Bool:=zt (true::true::true::true::true::(((oneI (Vw.inn a 3) !=keyF (vwL b) 15)==false)::zq15));let zq17:List Bool:=zt (true::true::true::true::true::(((oneI (Vw.got a 3) !=keyF (vwL b) 16)==false)::zq16));let zq18:List Bool:=zt (true::true::true::true::true::((zz9==false)::zq17));let zq19:List Bool:=zt (true::true::true::true::true::((zz10==false)::zq18));let zq20:List Bool:=zu ((zz11==false)::zq19);let zq21:List Bool:=zt (true::true::true::true::true::(((oneI (Vw.inn a 4) !=keyF (vwL b) 20)==false)::zq20));let zq22:List Bool:=zt (true::true::true::true::true::(((oneI (Vw.got a 4) !=keyF (vwL b) 21)==false)::zq21));let zq23:List Bool:=zt (true::true::true::true::true::((zz12==false)::zq22));let zq24:List Bool:=zt (true::true::true::true::true::((zz13==false)::zq23));let zq25:List Bool:=zu ((zz14==false)::zq24);let zq26:List Bool:=zt (true::true::true::true::true::(((oneI (Vw.inn a 5) !=keyF (vwL b) 25)==false)::zq25));let zq27:List Bool:=zt (true::true::true::true::true::(((oneI (Vw.got a 5) !=keyF (vwL b) 26)==false)::zq26));let zq28:List Bool:=zt (true::true::true::true::true::((zz15==false)::zq27));let zq29:List Bool:=zt (true::true::true::true::true::((zz16==false)::zq28));let zq30:List Bool:=zu ((zz17==false)::zq29);let zq31:List Bool:=zt (true::true::true::true::true::(((oneI (Vw.inn a 6) !=keyF (vwL b) 30)==false)::zq30));let zq32:List Bool:=zt (true::true::true::true::true::(((oneI (Vw.got a 6) !=keyF (vwL b) 31)==false)::zq31));let zq33:List Bool:=zt (true::true::true::true::true::((zz18==false)::zq32));let zq34:List Bool:=zt (true::true::true::true::true::((zz19==false)::zq33));(((oneI (Vw.inn a 5) !=keyF (vwL b) 25)=true→Q (.c (.v (.bool (decide (oneI (Vw.inn a 5)<keyF (vwL b) 25)))),[],1680000000000000000000000000000000000001571,(true::true::true::((oneI (Vw.inn a 5) !=keyF (vwL b) 25)==true)::zq25),[]))∧((oneI (Vw.inn a 5) !=keyF (vwL b) 25)=false→(((oneI (Vw.got a 5) !=keyF (vwL b) 26)=true→Q (.c (.v (.bool (decide (oneI (Vw.got a 5)<keyF (vwL b) 26)))),[],1680000000000000000000000000000000000001591,(true::true::true::((oneI (Vw.got a 5) !=keyF (vwL b) 26)==true)::zq26),[]))∧((oneI (Vw.got a 5) !=keyF (vwL b) 26)=false→((zz15=true→Q (.c (.v (.bool (decide (IntKind.wrap .i64 (Vw.miss a 5)<keyF (vwL b) 27)))),[],1680000000000000000000000000000000000001611,(true::true::true::(zz15==true)::zq27),[]))∧(zz15=false→((zz16=true→Q (.c (.v (.bool (decide (IntKind.wrap .i64 (Vw.good a 5)<keyF (vwL b) 28)))),[],1680000000000000000000000000000000000001631,(true::true::true::(zz16==true)::zq28),[]))∧(zz16=false→((zz17=true→Q (.c (.v (.bool (decide (IntKind.wrap .i64 (Vw.score a 5)<keyF (vwL b) 29)))),[],1680000000000000000000000000000000000001651,(true::true::true::(zz17==true)::zq29),[]))∧(zz17=false→(((oneI (Vw.inn a 6) !=keyF (vwL b) 30)=true→Q (.c (.v (.bool (decide (oneI (Vw.inn a 6)<keyF (vwL b) 30)))),[],1960000000000000000000000000000000000001677,(true::true::true::((oneI (Vw.inn a 6) !=keyF (vwL b) 30)==true)::zq30),[]))∧((oneI (Vw.inn a 6) !=keyF (vwL b) 30)=false→(((oneI (Vw.got a 6) !=keyF (vwL b) 31)=true→Q (.c (.v (.bool (decide (oneI (Vw.got a 6)<keyF (vwL b) 31)))),[],1960000000000000000000000000000000000001697,(true::true::true::((oneI (Vw.got a 6) !=keyF (vwL b) 31)==true)::zq31),[]))∧((oneI (Vw.got a 6) !=keyF (vwL b) 31)=false→((zz18=true→Q (.c (.v (.bool (decide (IntKind.wrap .i64 (Vw.miss a 6)<keyF (vwL b) 32)))),[],1960000000000000000000000000000000000001717,(true::true::true::(zz18==true)::zq32),[]))∧(zz18=false→((zz19=true→Q (.c (.v (.bool (decide (IntKind.wrap .i64 (Vw.good a 6)<keyF (vwL b) 33)))),[],1960000000000000000000000000000000000001737,(true::true::true::(zz19==true)::zq33),[]))∧(zz19=false→((zz20=true→Q (.c (.v (.bool (decide (IntKind.wrap .i64 (Vw.score a 6)<keyF (vwL b) 34)))),[],1960000000000000000000000000000000000001757,(true::true::true::(zz20==true)::zq34),[]))∧(zz20=false→(∃p r,lessR Tryz.prog a b p=some r∧Q r)))))))))))))))))))))):
 ∃p r,lessR Tryz.prog a b p=some r∧Q r:=
 two H
 (fun g26=>⟨pD 89 326020797877071374798943849336740900355165,_,by kernel_rfl,g26⟩)
 (fun g26=>two g26
 (fun g27=>⟨pD 92 9377242275893958334982615309534828512250001,_,by kernel_rfl,g27⟩)
 (fun g27=>two g27
 (fun g28=>⟨pD 95 253760222182349906259941744734883194033410573,_,by kernel_rfl,g28⟩)
 (fun g28=>two g28
 (fun g29=>⟨pD 98 6852100679656660500233838239219289063104746017,_,by kernel_rfl,g29⟩)
 (fun g29=>two g29
 (fun g30=>⟨pD 101 185007293031463046537529043590298247528030803005,_,by kernel_rfl,g30⟩)
 (fun g30=>two g30
 (fun g31=>⟨pD 106 42102378979235051304169700931194161760632775925753,_,by kernel_rfl,g31⟩)
 (fun g31=>two g31
 (fun g32=>⟨pD 109 1210978595999436750094863543239623208249012635824021,_,by kernel_rfl,g32⟩)
 (fun g32=>two g32
 (fun g33=>⟨pD 112 32770636455544882617443597285567207463435268853077257,_,by kernel_rfl,g33⟩)
 (fun g33=>two g33
 (fun g34=>⟨pD 115 884881398663271921035859408328411982353464186718914629,_,by kernel_rfl,g34⟩)
 (fun g34=>two g34
 (fun g35=>⟨pD 118 23891871978271901958333086306485220904384244969096523673,_,by kernel_rfl,g35⟩)
 (fun g35=>g35))))))))))
theorem lessT (a b:Vw) (Q:VF→Prop) (H:let zz0:=(IntKind.wrap IntKind.i64 (Vw.miss a 0) !=keyF (vwL b) 2);let zz1:=(IntKind.wrap IntKind.i64 (Vw.good a 0) !=keyF (vwL b) 3);let zz2:=(IntKind.wrap IntKind.i64 (Vw.score a 0) !=keyF (vwL b) 4);let zz3:=(IntKind.wrap IntKind.i64 (Vw.miss a 1) !=keyF (vwL b) 7);let zz4:=(IntKind.wrap IntKind.i64 (Vw.good a 1) !=keyF (vwL b) 8);let zz5:=(IntKind.wrap IntKind.i64 (Vw.score a 1) !=keyF (vwL b) 9);let zz6:=(IntKind.wrap IntKind.i64 (Vw.miss a 2) !=keyF (vwL b) 12);let zz7:=(IntKind.wrap IntKind.i64 (Vw.good a 2) !=keyF (vwL b) 13);let zz8:=(IntKind.wrap IntKind.i64 (Vw.score a 2) !=keyF (vwL b) 14);let zz9:=(IntKind.wrap IntKind.i64 (Vw.miss a 3) !=keyF (vwL b) 17);let zz10:=(IntKind.wrap IntKind.i64 (Vw.good a 3) !=keyF (vwL b) 18);let zz11:=(IntKind.wrap IntKind.i64 (Vw.score a 3) !=keyF (vwL b) 19);let zz12:=(IntKind.wrap IntKind.i64 (Vw.miss a 4) !=keyF (vwL b) 22);let zz13:=(IntKind.wrap IntKind.i64 (Vw.good a 4) !=keyF (vwL b) 23);let zz14:=(IntKind.wrap IntKind.i64 (Vw.score a 4) !=keyF (vwL b) 24);let zt:List Bool→List Bool:=fun l=>true::true::true::true::true::true::true::true::l;let zu:List Bool→List Bool:=fun l=>zt (zt (zt (zt l)));let zq0:List Bool:=zu (zu (zu (zt (zt (true::true::true::[])))));let zq1:List Bool:=zt (true::true::true::true::true::(((oneI (Vw.inn a 0) !=keyF (vwL b) 0)==false)::zq0));let zq2:List Bool:=zt (true::true::true::true::true::(((oneI (Vw.got a 0) !=keyF (vwL b) 1)==false)::zq1));let zq3:List Bool:=zt (true::true::true::true::true::((zz0==false)::zq2));let zq4:List Bool:=zt (true::true::true::true::true::((zz1==false)::zq3));let zq5:List Bool:=zu ((zz2==false)::zq4);let zq6:List Bool:=zt (true::true::true::true::true::(((oneI (Vw.inn a 1) !=keyF (vwL b) 5)==false)::zq5));let zq7:List Bool:=zt (true::true::true::true::true::(((oneI (Vw.got a 1) !=keyF (vwL b) 6)==false)::zq6));let zq8:List Bool:=zt (true::true::true::true::true::((zz3==false)::zq7));let zq9:List Bool:=zt (true::true::true::true::true::((zz4==false)::zq8));let zq10:List Bool:=zu ((zz5==false)::zq9);let zq11:List Bool:=zt (true::true::true::true::true::(((oneI (Vw.inn a 2) !=keyF (vwL b) 10)==false)::zq10));let zq12:List Bool:=zt (true::true::true::true::true::(((oneI (Vw.got a 2) !=keyF (vwL b) 11)==false)::zq11));let zq13:List Bool:=zt (true::true::true::true::true::((zz6==false)::zq12));let zq14:List Bool:=zt (true::true::true::true::true::((zz7==false)::zq13));let zq15:List Bool:=zu ((zz8==false)::zq14);let zq16:List Bool:=zt (true::true::true::true::true::(((oneI (Vw.inn a 3) !=keyF (vwL b) 15)==false)::zq15));let zq17:List Bool:=zt (true::true::true::true::true::(((oneI (Vw.got a 3) !=keyF (vwL b) 16)==false)::zq16));let zq18:List Bool:=zt (true::true::true::true::true::((zz9==false)::zq17));let zq19:List Bool:=zt (true::true::true::true::true::((zz10==false)::zq18));let zq20:List Bool:=zu ((zz11==false)::zq19);let zq21:List Bool:=zt (true::true::true::true::true::(((oneI (Vw.inn a 4) !=keyF (vwL b) 20)==false)::zq20));let zq22:List Bool:=zt (true::true::true::true::true::(((oneI (Vw.got a 4) !=keyF (vwL b) 21)==false)::zq21));let zq23:List Bool:=zt (true::true::true::true::true::((zz12==false)::zq22));let zq24:List Bool:=zt (true::true::true::true::true::((zz13==false)::zq23));(((oneI (Vw.inn a 0) !=keyF (vwL b) 0)=true→Q (.c (.v (.bool (decide (oneI (Vw.inn a 0)<keyF (vwL b) 0)))),[],280000000000000000000000000000000000001041,(true::true::true::((oneI (Vw.inn a 0) !=keyF (vwL b) 0)==true)::zq0),[]))∧((oneI (Vw.inn a 0) !=keyF (vwL b) 0)=false→(((oneI (Vw.got a 0) !=keyF (vwL b) 1)=true→Q (.c (.v (.bool (decide (oneI (Vw.got a 0)<keyF (vwL b) 1)))),[],280000000000000000000000000000000000001061,(true::true::true::((oneI (Vw.got a 0) !=keyF (vwL b) 1)==true)::zq1),[]))∧((oneI (Vw.got a 0) !=keyF (vwL b) 1)=false→((zz0=true→Q (.c (.v (.bool (decide (IntKind.wrap .i64 (Vw.miss a 0)<keyF (vwL b) 2)))),[],280000000000000000000000000000000000001081,(true::true::true::(zz0==true)::zq2),[]))∧(zz0=false→((zz1=true→Q (.c (.v (.bool (decide (IntKind.wrap .i64 (Vw.good a 0)<keyF (vwL b) 3)))),[],280000000000000000000000000000000000001101,(true::true::true::(zz1==true)::zq3),[]))∧(zz1=false→((zz2=true→Q (.c (.v (.bool (decide (IntKind.wrap .i64 (Vw.score a 0)<keyF (vwL b) 4)))),[],280000000000000000000000000000000000001121,(true::true::true::(zz2==true)::zq4),[]))∧(zz2=false→(((oneI (Vw.inn a 1) !=keyF (vwL b) 5)=true→Q (.c (.v (.bool (decide (oneI (Vw.inn a 1)<keyF (vwL b) 5)))),[],560000000000000000000000000000000000001147,(true::true::true::((oneI (Vw.inn a 1) !=keyF (vwL b) 5)==true)::zq5),[]))∧((oneI (Vw.inn a 1) !=keyF (vwL b) 5)=false→(((oneI (Vw.got a 1) !=keyF (vwL b) 6)=true→Q (.c (.v (.bool (decide (oneI (Vw.got a 1)<keyF (vwL b) 6)))),[],560000000000000000000000000000000000001167,(true::true::true::((oneI (Vw.got a 1) !=keyF (vwL b) 6)==true)::zq6),[]))∧((oneI (Vw.got a 1) !=keyF (vwL b) 6)=false→((zz3=true→Q (.c (.v (.bool (decide (IntKind.wrap .i64 (Vw.miss a 1)<keyF (vwL b) 7)))),[],560000000000000000000000000000000000001187,(true::true::true::(zz3==true)::zq7),[]))∧(zz3=false→((zz4=true→Q (.c (.v (.bool (decide (IntKind.wrap .i64 (Vw.good a 1)<keyF (vwL b) 8)))),[],560000000000000000000000000000000000001207,(true::true::true::(zz4==true)::zq8),[]))∧(zz4=false→((zz5=true→Q (.c (.v (.bool (decide (IntKind.wrap .i64 (Vw.score a 1)<keyF (vwL b) 9)))),[],560000000000000000000000000000000000001227,(true::true::true::(zz5==true)::zq9),[]))∧(zz5=false→(((oneI (Vw.inn a 2) !=keyF (vwL b) 10)=true→Q (.c (.v (.bool (decide (oneI (Vw.inn a 2)<keyF (vwL b) 10)))),[],840000000000000000000000000000000000001253,(true::true::true::((oneI (Vw.inn a 2) !=keyF (vwL b) 10)==true)::zq10),[]))∧((oneI (Vw.inn a 2) !=keyF (vwL b) 10)=false→(((oneI (Vw.got a 2) !=keyF (vwL b) 11)=true→Q (.c (.v (.bool (decide (oneI (Vw.got a 2)<keyF (vwL b) 11)))),[],840000000000000000000000000000000000001273,(true::true::true::((oneI (Vw.got a 2) !=keyF (vwL b) 11)==true)::zq11),[]))∧((oneI (Vw.got a 2) !=keyF (vwL b) 11)=false→((zz6=true→Q (.c (.v (.bool (decide (IntKind.wrap .i64 (Vw.miss a 2)<keyF (vwL b) 12)))),[],840000000000000000000000000000000000001293,(true::true::true::(zz6==true)::zq12),[]))∧(zz6=false→((zz7=true→Q (.c (.v (.bool (decide (IntKind.wrap .i64 (Vw.good a 2)<keyF (vwL b) 13)))),[],840000000000000000000000000000000000001313,(true::true::true::(zz7==true)::zq13),[]))∧(zz7=false→((zz8=true→Q (.c (.v (.bool (decide (IntKind.wrap .i64 (Vw.score a 2)<keyF (vwL b) 14)))),[],840000000000000000000000000000000000001333,(true::true::true::(zz8==true)::zq14),[]))∧(zz8=false→(((oneI (Vw.inn a 3) !=keyF (vwL b) 15)=true→Q (.c (.v (.bool (decide (oneI (Vw.inn a 3)<keyF (vwL b) 15)))),[],1120000000000000000000000000000000000001359,(true::true::true::((oneI (Vw.inn a 3) !=keyF (vwL b) 15)==true)::zq15),[]))∧((oneI (Vw.inn a 3) !=keyF (vwL b) 15)=false→(((oneI (Vw.got a 3) !=keyF (vwL b) 16)=true→Q (.c (.v (.bool (decide (oneI (Vw.got a 3)<keyF (vwL b) 16)))),[],1120000000000000000000000000000000000001379,(true::true::true::((oneI (Vw.got a 3) !=keyF (vwL b) 16)==true)::zq16),[]))∧((oneI (Vw.got a 3) !=keyF (vwL b) 16)=false→((zz9=true→Q (.c (.v (.bool (decide (IntKind.wrap .i64 (Vw.miss a 3)<keyF (vwL b) 17)))),[],1120000000000000000000000000000000000001399,(true::true::true::(zz9==true)::zq17),[]))∧(zz9=false→((zz10=true→Q (.c (.v (.bool (decide (IntKind.wrap .i64 (Vw.good a 3)<keyF (vwL b) 18)))),[],1120000000000000000000000000000000000001419,(true::true::true::(zz10==true)::zq18),[]))∧(zz10=false→((zz11=true→Q (.c (.v (.bool (decide (IntKind.wrap .i64 (Vw.score a 3)<keyF (vwL b) 19)))),[],1120000000000000000000000000000000000001439,(true::true::true::(zz11==true)::zq19),[]))∧(zz11=false→(((oneI (Vw.inn a 4) !=keyF (vwL b) 20)=true→Q (.c (.v (.bool (decide (oneI (Vw.inn a 4)<keyF (vwL b) 20)))),[],1400000000000000000000000000000000000001465,(true::true::true::((oneI (Vw.inn a 4) !=keyF (vwL b) 20)==true)::zq20),[]))∧((oneI (Vw.inn a 4) !=keyF (vwL b) 20)=false→(((oneI (Vw.got a 4) !=keyF (vwL b) 21)=true→Q (.c (.v (.bool (decide (oneI (Vw.got a 4)<keyF (vwL b) 21)))),[],1400000000000000000000000000000000000001485,(true::true::true::((oneI (Vw.got a 4) !=keyF (vwL b) 21)==true)::zq21),[]))∧((oneI (Vw.got a 4) !=keyF (vwL b) 21)=false→((zz12=true→Q (.c (.v (.bool (decide (IntKind.wrap .i64 (Vw.miss a 4)<keyF (vwL b) 22)))),[],1400000000000000000000000000000000000001505,(true::true::true::(zz12==true)::zq22),[]))∧(zz12=false→((zz13=true→Q (.c (.v (.bool (decide (IntKind.wrap .i64 (Vw.good a 4)<keyF (vwL b) 23)))),[],1400000000000000000000000000000000000001525,(true::true::true::(zz13==true)::zq23),[]))∧(zz13=false→((zz14=true→Q (.c (.v (.bool (decide (IntKind.wrap .i64 (Vw.score a 4)<keyF (vwL b) 24)))),[],1400000000000000000000000000000000000001545,(true::true::true::(zz14==true)::zq24),[]))∧(zz14=false→(∃p r,lessR Tryz.prog a b p=some r∧Q r)))))))))))))))))))))))))))))))))))))))))))))))))))):
 ∃p r,lessR Tryz.prog a b p=some r∧Q r:=
 two H
 (fun g1=>⟨pD 4 9,_,by kernel_rfl,g1⟩)
 (fun g1=>two g1
 (fun g2=>⟨pD 7 261,_,by kernel_rfl,g2⟩)
 (fun g2=>two g2
 (fun g3=>⟨pD 10 7065,_,by kernel_rfl,g3⟩)
 (fun g3=>two g3
 (fun g4=>⟨pD 13 190773,_,by kernel_rfl,g4⟩)
 (fun g4=>two g4
 (fun g5=>⟨pD 16 5150889,_,by kernel_rfl,g5⟩)
 (fun g5=>two g5
 (fun g6=>⟨pD 21 1172195325,_,by kernel_rfl,g6⟩)
 (fun g6=>two g6
 (fun g7=>⟨pD 24 33715516401,_,by kernel_rfl,g7⟩)
 (fun g7=>two g7
 (fun g8=>⟨pD 27 912385185453,_,by kernel_rfl,g8⟩)
 (fun g8=>two g8
 (fun g9=>⟨pD 30 24636466249857,_,by kernel_rfl,g9⟩)
 (fun g9=>two g9
 (fun g10=>⟨pD 33 665186654988765,_,by kernel_rfl,g10⟩)
 (fun g10=>two g10
 (fun g11=>⟨pD 38 151377495348271833,_,by kernel_rfl,g11⟩)
 (fun g11=>two g11
 (fun g12=>⟨pD 41 4354027283664247221,_,by kernel_rfl,g12⟩)
 (fun g12=>two g12
 (fun g13=>⟨pD 44 117825571568195582697,_,by kernel_rfl,g13⟩)
 (fun g13=>two g13
 (fun g14=>⟨pD 47 3181557267250541640549,_,by kernel_rfl,g14⟩)
 (fun g14=>two g14
 (fun g15=>⟨pD 50 85902313050673885202553,_,by kernel_rfl,g15⟩)
 (fun g15=>two g15
 (fun g16=>⟨pD 55 19548914423807566291862637,_,by kernel_rfl,g16⟩)
 (fun g16=>two g16
 (fun g17=>⟨pD 58 562279793118848123402170881,_,by kernel_rfl,g17⟩)
 (fun g17=>two g17
 (fun g18=>⟨pD 61 15216013517884943165380493469,_,by kernel_rfl,g18⟩)
 (fun g18=>two g18
 (fun g19=>⟨pD 64 410866824086569509298795203345,_,by kernel_rfl,g19⟩)
 (fun g19=>two g19
 (fun g20=>⟨pD 67 11093438709441052794900992369997,_,by kernel_rfl,g20⟩)
 (fun g20=>two g20
 (fun g21=>⟨pD 72 2524549995163560191564446525723689,_,by kernel_rfl,g21⟩)
 (fun g21=>two g21
 (fun g22=>⟨pD 75 72612904134974325028400462136127461,_,by kernel_rfl,g22⟩)
 (fun g22=>two g22
 (fun g23=>⟨pD 78 1964998465909864975622972883617029305,_,by kernel_rfl,g23⟩)
 (fun g23=>two g23
 (fun g24=>⟨pD 81 53059408633831912541676428263601379093,_,by kernel_rfl,g24⟩)
 (fun g24=>two g24
 (fun g25=>⟨pD 84 1432608483167727196825119723523178823369,_,by kernel_rfl,g25⟩)
 (fun g25=>g25)))))))))))))))))))))))))

end Go.Proofs.YtpgaplcdbbnblaaGreatDoor
end
/- members.Less: its contract. Printed by wip/gen_le.py. -/
section
namespace Go.Proofs.YtpgaplcdbbnblaaGreatDoor
open Go.RowKit
set_option maxRecDepth 1000000 in
theorem less_all (a b:Vw):∃p r,lessR Tryz.prog a b p=some r∧GoodF (bo (lessL (vwL a) (vwL b))) r:=by
 obtain⟨X,hX⟩:∃X,lessL (vwL a) (vwL b)=X:=⟨_,rfl⟩
 have e0:X=lexF (keyF (vwL a)) (keyF (vwL b)) 42 0:=hX.symm
 rw[hX]
 refine lessT a b _ ?_
 refine⟨fun h0=>?_,fun h0=>?_⟩
 · have n0:keyF (vwL a) 0≠keyF (vwL b) 0:=bne_iff_ne.1 h0
   refine⟨by rw[e0,lex_ne n0];rfl,(by first|(unfold lim;omega)|(dsimp only;unfold lim;omega)),?_,by simp⟩
   simp only[h0]
   exact allT_all (by kernel_rfl)
 have e1:X=lexF (keyF (vwL a)) (keyF (vwL b)) 41 1:=e0.trans (lex_eq (n:=41) (i:=0) (bne_eq_false_iff_eq.1 h0))
 refine⟨fun h1=>?_,fun h1=>?_⟩
 · have n1:keyF (vwL a) 1≠keyF (vwL b) 1:=bne_iff_ne.1 h1
   refine⟨by rw[e1,lex_ne n1];rfl,(by first|(unfold lim;omega)|(dsimp only;unfold lim;omega)),?_,by simp⟩
   simp only[h0,h1]
   exact allT_all (by kernel_rfl)
 have e2:X=lexF (keyF (vwL a)) (keyF (vwL b)) 40 2:=e1.trans (lex_eq (n:=40) (i:=1) (bne_eq_false_iff_eq.1 h1))
 refine⟨fun h2=>?_,fun h2=>?_⟩
 · have n2:keyF (vwL a) 2≠keyF (vwL b) 2:=bne_iff_ne.1 h2
   refine⟨by rw[e2,lex_ne n2];rfl,(by first|(unfold lim;omega)|(dsimp only;unfold lim;omega)),?_,by simp⟩
   simp only[h0,h1,h2]
   exact allT_all (by kernel_rfl)
 have e3:X=lexF (keyF (vwL a)) (keyF (vwL b)) 39 3:=e2.trans (lex_eq (n:=39) (i:=2) (bne_eq_false_iff_eq.1 h2))
 refine⟨fun h3=>?_,fun h3=>?_⟩
 · have n3:keyF (vwL a) 3≠keyF (vwL b) 3:=bne_iff_ne.1 h3
   refine⟨by rw[e3,lex_ne n3];rfl,(by first|(unfold lim;omega)|(dsimp only;unfold lim;omega)),?_,by simp⟩
   simp only[h0,h1,h2,h3]
   exact allT_all (by kernel_rfl)
 have e4:X=lexF (keyF (vwL a)) (keyF (vwL b)) 38 4:=e3.trans (lex_eq (n:=38) (i:=3) (bne_eq_false_iff_eq.1 h3))
 refine⟨fun h4=>?_,fun h4=>?_⟩
 · have n4:keyF (vwL a) 4≠keyF (vwL b) 4:=bne_iff_ne.1 h4
   refine⟨by rw[e4,lex_ne n4];rfl,(by first|(unfold lim;omega)|(dsimp only;unfold lim;omega)),?_,by simp⟩
   simp only[h0,h1,h2,h3,h4]
   exact allT_all (by kernel_rfl)
 have e5:X=lexF (keyF (vwL a)) (keyF (vwL b)) 37 5:=e4.trans (lex_eq (n:=37) (i:=4) (bne_eq_false_iff_eq.1 h4))
 refine⟨fun h5=>?_,fun h5=>?_⟩
 · have n5:keyF (vwL a) 5≠keyF (vwL b) 5:=bne_iff_ne.1 h5
   refine⟨by rw[e5,lex_ne n5];rfl,(by first|(unfold lim;omega)|(dsimp only;unfold lim;omega)),?_,by simp⟩
   simp only[h0,h1,h2,h3,h4,h5]
   exact allT_all (by kernel_rfl)
 have e6:X=lexF (keyF (vwL a)) (keyF (vwL b)) 36 6:=e5.trans (lex_eq (n:=36) (i:=5) (bne_eq_false_iff_eq.1 h5))
 refine⟨fun h6=>?_,fun h6=>?_⟩
 · have n6:keyF (vwL a) 6≠keyF (vwL b) 6:=bne_iff_ne.1 h6
   refine⟨by rw[e6,lex_ne n6];rfl,(by first|(unfold lim;omega)|(dsimp only;unfold lim;omega)),?_,by simp⟩
   simp only[h0,h1,h2,h3,h4,h5,h6]
   exact allT_all (by kernel_rfl)
 have e7:X=lexF (keyF (vwL a)) (keyF (vwL b)) 35 7:=e6.trans (lex_eq (n:=35) (i:=6) (bne_eq_false_iff_eq.1 h6))
 refine⟨fun h7=>?_,fun h7=>?_⟩
 · have n7:keyF (vwL a) 7≠keyF (vwL b) 7:=bne_iff_ne.1 h7
   refine⟨by rw[e7,lex_ne n7];rfl,(by first|(unfold lim;omega)|(dsimp only;unfold lim;omega)),?_,by simp⟩
   simp only[h0,h1,h2,h3,h4,h5,h6,h7]
   exact allT_all (by kernel_rfl)
 have e8:X=lexF (keyF (vwL a)) (keyF (vwL b)) 34 8:=e7.trans (lex_eq (n:=34) (i:=7) (bne_eq_false_iff_eq.1 h7))
 refine⟨fun h8=>?_,fun h8=>?_⟩
 · have n8:keyF (vwL a) 8≠keyF (vwL b) 8:=bne_iff_ne.1 h8
   refine⟨by rw[e8,lex_ne n8];rfl,(by first|(unfold lim;omega)|(dsimp only;unfold lim;omega)),?_,by simp⟩
   simp only[h0,h1,h2,h3,h4,h5,h6,h7,h8]
   exact allT_all (by kernel_rfl)
 have e9:X=lexF (keyF (vwL a)) (keyF (vwL b)) 33 9:=e8.trans (lex_eq (n:=33) (i:=8) (bne_eq_false_iff_eq.1 h8))
 refine⟨fun h9=>?_,fun h9=>?_⟩
 · have n9:keyF (vwL a) 9≠keyF (vwL b) 9:=bne_iff_ne.1 h9
   refine⟨by rw[e9,lex_ne n9];rfl,(by first|(unfold lim;omega)|(dsimp only;unfold lim;omega)),?_,by simp⟩
   simp only[h0,h1,h2,h3,h4,h5,h6,h7,h8,h9]
   exact allT_all (by kernel_rfl)
 have e10:X=lexF (keyF (vwL a)) (keyF (vwL b)) 32 10:=e9.trans (lex_eq (n:=32) (i:=9) (bne_eq_false_iff_eq.1 h9))
 refine⟨fun h10=>?_,fun h10=>?_⟩
 · have n10:keyF (vwL a) 10≠keyF (vwL b) 10:=bne_iff_ne.1 h10
   refine⟨by rw[e10,lex_ne n10];rfl,(by first|(unfold lim;omega)|(dsimp only;unfold lim;omega)),?_,by simp⟩
   simp only[h0,h1,h2,h3,h4,h5,h6,h7,h8,h9,h10]
   exact allT_all (by kernel_rfl)
 have e11:X=lexF (keyF (vwL a)) (keyF (vwL b)) 31 11:=e10.trans (lex_eq (n:=31) (i:=10) (bne_eq_false_iff_eq.1 h10))
 refine⟨fun h11=>?_,fun h11=>?_⟩
 · have n11:keyF (vwL a) 11≠keyF (vwL b) 11:=bne_iff_ne.1 h11
   refine⟨by rw[e11,lex_ne n11];rfl,(by first|(unfold lim;omega)|(dsimp only;unfold lim;omega)),?_,by simp⟩
   simp only[h0,h1,h2,h3,h4,h5,h6,h7,h8,h9,h10,h11]
   exact allT_all (by kernel_rfl)
 have e12:X=lexF (keyF (vwL a)) (keyF (vwL b)) 30 12:=e11.trans (lex_eq (n:=30) (i:=11) (bne_eq_false_iff_eq.1 h11))
 refine⟨fun h12=>?_,fun h12=>?_⟩
 · have n12:keyF (vwL a) 12≠keyF (vwL b) 12:=bne_iff_ne.1 h12
   refine⟨by rw[e12,lex_ne n12];rfl,(by first|(unfold lim;omega)|(dsimp only;unfold lim;omega)),?_,by simp⟩
   simp only[h0,h1,h2,h3,h4,h5,h6,h7,h8,h9,h10,h11,h12]
   exact allT_all (by kernel_rfl)
 have e13:X=lexF (keyF (vwL a)) (keyF (vwL b)) 29 13:=e12.trans (lex_eq (n:=29) (i:=12) (bne_eq_false_iff_eq.1 h12))
 refine⟨fun h13=>?_,fun h13=>?_⟩
 · have n13:keyF (vwL a) 13≠keyF (vwL b) 13:=bne_iff_ne.1 h13
   refine⟨by rw[e13,lex_ne n13];rfl,(by first|(unfold lim;omega)|(dsimp only;unfold lim;omega)),?_,by simp⟩
   simp only[h0,h1,h2,h3,h4,h5,h6,h7,h8,h9,h10,h11,h12,h13]
   exact allT_all (by kernel_rfl)
 have e14:X=lexF (keyF (vwL a)) (keyF (vwL b)) 28 14:=e13.trans (lex_eq (n:=28) (i:=13) (bne_eq_false_iff_eq.1 h13))
 refine⟨fun h14=>?_,fun h14=>?_⟩
 · have n14:keyF (vwL a) 14≠keyF (vwL b) 14:=bne_iff_ne.1 h14
   refine⟨by rw[e14,lex_ne n14];rfl,(by first|(unfold lim;omega)|(dsimp only;unfold lim;omega)),?_,by simp⟩
   simp only[h0,h1,h2,h3,h4,h5,h6,h7,h8,h9,h10,h11,h12,h13,h14]
   exact allT_all (by kernel_rfl)
 have e15:X=lexF (keyF (vwL a)) (keyF (vwL b)) 27 15:=e14.trans (lex_eq (n:=27) (i:=14) (bne_eq_false_iff_eq.1 h14))
 refine⟨fun h15=>?_,fun h15=>?_⟩
 · have n15:keyF (vwL a) 15≠keyF (vwL b) 15:=bne_iff_ne.1 h15
   refine⟨by rw[e15,lex_ne n15];rfl,(by first|(unfold lim;omega)|(dsimp only;unfold lim;omega)),?_,by simp⟩
   simp only[h0,h1,h2,h3,h4,h5,h6,h7,h8,h9,h10,h11,h12,h13,h14,h15]
   exact allT_all (by kernel_rfl)
 have e16:X=lexF (keyF (vwL a)) (keyF (vwL b)) 26 16:=e15.trans (lex_eq (n:=26) (i:=15) (bne_eq_false_iff_eq.1 h15))
 refine⟨fun h16=>?_,fun h16=>?_⟩
 · have n16:keyF (vwL a) 16≠keyF (vwL b) 16:=bne_iff_ne.1 h16
   refine⟨by rw[e16,lex_ne n16];rfl,(by first|(unfold lim;omega)|(dsimp only;unfold lim;omega)),?_,by simp⟩
   simp only[h0,h1,h2,h3,h4,h5,h6,h7,h8,h9,h10,h11,h12,h13,h14,h15,h16]
   exact allT_all (by kernel_rfl)
 have e17:X=lexF (keyF (vwL a)) (keyF (vwL b)) 25 17:=e16.trans (lex_eq (n:=25) (i:=16) (bne_eq_false_iff_eq.1 h16))
 refine⟨fun h17=>?_,fun h17=>?_⟩
 · have n17:keyF (vwL a) 17≠keyF (vwL b) 17:=bne_iff_ne.1 h17
   refine⟨by rw[e17,lex_ne n17];rfl,(by first|(unfold lim;omega)|(dsimp only;unfold lim;omega)),?_,by simp⟩
   simp only[h0,h1,h2,h3,h4,h5,h6,h7,h8,h9,h10,h11,h12,h13,h14,h15,h16,h17]
   exact allT_all (by kernel_rfl)
 have e18:X=lexF (keyF (vwL a)) (keyF (vwL b)) 24 18:=e17.trans (lex_eq (n:=24) (i:=17) (bne_eq_false_iff_eq.1 h17))
 refine⟨fun h18=>?_,fun h18=>?_⟩
 · have n18:keyF (vwL a) 18≠keyF (vwL b) 18:=bne_iff_ne.1 h18
   refine⟨by rw[e18,lex_ne n18];rfl,(by first|(unfold lim;omega)|(dsimp only;unfold lim;omega)),?_,by simp⟩
   simp only[h0,h1,h2,h3,h4,h5,h6,h7,h8,h9,h10,h11,h12,h13,h14,h15,h16,h17,h18]
   exact allT_all (by kernel_rfl)
 have e19:X=lexF (keyF (vwL a)) (keyF (vwL b)) 23 19:=e18.trans (lex_eq (n:=23) (i:=18) (bne_eq_false_iff_eq.1 h18))
 refine⟨fun h19=>?_,fun h19=>?_⟩
 · have n19:keyF (vwL a) 19≠keyF (vwL b) 19:=bne_iff_ne.1 h19
   refine⟨by rw[e19,lex_ne n19];rfl,(by first|(unfold lim;omega)|(dsimp only;unfold lim;omega)),?_,by simp⟩
   simp only[h0,h1,h2,h3,h4,h5,h6,h7,h8,h9,h10,h11,h12,h13,h14,h15,h16,h17,h18,h19]
   exact allT_all (by kernel_rfl)
 have e20:X=lexF (keyF (vwL a)) (keyF (vwL b)) 22 20:=e19.trans (lex_eq (n:=22) (i:=19) (bne_eq_false_iff_eq.1 h19))
 refine⟨fun h20=>?_,fun h20=>?_⟩
 · have n20:keyF (vwL a) 20≠keyF (vwL b) 20:=bne_iff_ne.1 h20
   refine⟨by rw[e20,lex_ne n20];rfl,(by first|(unfold lim;omega)|(dsimp only;unfold lim;omega)),?_,by simp⟩
   simp only[h0,h1,h2,h3,h4,h5,h6,h7,h8,h9,h10,h11,h12,h13,h14,h15,h16,h17,h18,h19,h20]
   exact allT_all (by kernel_rfl)
 have e21:X=lexF (keyF (vwL a)) (keyF (vwL b)) 21 21:=e20.trans (lex_eq (n:=21) (i:=20) (bne_eq_false_iff_eq.1 h20))
 refine⟨fun h21=>?_,fun h21=>?_⟩
 · have n21:keyF (vwL a) 21≠keyF (vwL b) 21:=bne_iff_ne.1 h21
   refine⟨by rw[e21,lex_ne n21];rfl,(by first|(unfold lim;omega)|(dsimp only;unfold lim;omega)),?_,by simp⟩
   simp only[h0,h1,h2,h3,h4,h5,h6,h7,h8,h9,h10,h11,h12,h13,h14,h15,h16,h17,h18,h19,h20,h21]
   exact allT_all (by kernel_rfl)
 have e22:X=lexF (keyF (vwL a)) (keyF (vwL b)) 20 22:=e21.trans (lex_eq (n:=20) (i:=21) (bne_eq_false_iff_eq.1 h21))
 refine⟨fun h22=>?_,fun h22=>?_⟩
 · have n22:keyF (vwL a) 22≠keyF (vwL b) 22:=bne_iff_ne.1 h22
   refine⟨by rw[e22,lex_ne n22];rfl,(by first|(unfold lim;omega)|(dsimp only;unfold lim;omega)),?_,by simp⟩
   simp only[h0,h1,h2,h3,h4,h5,h6,h7,h8,h9,h10,h11,h12,h13,h14,h15,h16,h17,h18,h19,h20,h21,h22]
   exact allT_all (by kernel_rfl)
 have e23:X=lexF (keyF (vwL a)) (keyF (vwL b)) 19 23:=e22.trans (lex_eq (n:=19) (i:=22) (bne_eq_false_iff_eq.1 h22))
 refine⟨fun h23=>?_,fun h23=>?_⟩
 · have n23:keyF (vwL a) 23≠keyF (vwL b) 23:=bne_iff_ne.1 h23
   refine⟨by rw[e23,lex_ne n23];rfl,(by first|(unfold lim;omega)|(dsimp only;unfold lim;omega)),?_,by simp⟩
   simp only[h0,h1,h2,h3,h4,h5,h6,h7,h8,h9,h10,h11,h12,h13,h14,h15,h16,h17,h18,h19,h20,h21,h22,h23]
   exact allT_all (by kernel_rfl)
 have e24:X=lexF (keyF (vwL a)) (keyF (vwL b)) 18 24:=e23.trans (lex_eq (n:=18) (i:=23) (bne_eq_false_iff_eq.1 h23))
 refine⟨fun h24=>?_,fun h24=>?_⟩
 · have n24:keyF (vwL a) 24≠keyF (vwL b) 24:=bne_iff_ne.1 h24
   refine⟨by rw[e24,lex_ne n24];rfl,(by first|(unfold lim;omega)|(dsimp only;unfold lim;omega)),?_,by simp⟩
   simp only[h0,h1,h2,h3,h4,h5,h6,h7,h8,h9,h10,h11,h12,h13,h14,h15,h16,h17,h18,h19,h20,h21,h22,h23,h24]
   exact allT_all (by kernel_rfl)
 refine lessT25 a b _ ?_
 have e25:X=lexF (keyF (vwL a)) (keyF (vwL b)) 17 25:=e24.trans (lex_eq (n:=17) (i:=24) (bne_eq_false_iff_eq.1 h24))
 refine⟨fun h25=>?_,fun h25=>?_⟩
 · have n25:keyF (vwL a) 25≠keyF (vwL b) 25:=bne_iff_ne.1 h25
   refine⟨by rw[e25,lex_ne n25];rfl,(by first|(unfold lim;omega)|(dsimp only;unfold lim;omega)),?_,by simp⟩
   simp only[h0,h1,h2,h3,h4,h5,h6,h7,h8,h9,h10,h11,h12,h13,h14,h15,h16,h17,h18,h19,h20,h21,h22,h23,h24,h25]
   exact allT_all (by kernel_rfl)
 have e26:X=lexF (keyF (vwL a)) (keyF (vwL b)) 16 26:=e25.trans (lex_eq (n:=16) (i:=25) (bne_eq_false_iff_eq.1 h25))
 refine⟨fun h26=>?_,fun h26=>?_⟩
 · have n26:keyF (vwL a) 26≠keyF (vwL b) 26:=bne_iff_ne.1 h26
   refine⟨by rw[e26,lex_ne n26];rfl,(by first|(unfold lim;omega)|(dsimp only;unfold lim;omega)),?_,by simp⟩
   simp only[h0,h1,h2,h3,h4,h5,h6,h7,h8,h9,h10,h11,h12,h13,h14,h15,h16,h17,h18,h19,h20,h21,h22,h23,h24,h25,h26]
   exact allT_all (by kernel_rfl)
 have e27:X=lexF (keyF (vwL a)) (keyF (vwL b)) 15 27:=e26.trans (lex_eq (n:=15) (i:=26) (bne_eq_false_iff_eq.1 h26))
 refine⟨fun h27=>?_,fun h27=>?_⟩
 · have n27:keyF (vwL a) 27≠keyF (vwL b) 27:=bne_iff_ne.1 h27
   refine⟨by rw[e27,lex_ne n27];rfl,(by first|(unfold lim;omega)|(dsimp only;unfold lim;omega)),?_,by simp⟩
   simp only[h0,h1,h2,h3,h4,h5,h6,h7,h8,h9,h10,h11,h12,h13,h14,h15,h16,h17,h18,h19,h20,h21,h22,h23,h24,h25,h26,h27]
   exact allT_all (by kernel_rfl)
 have e28:X=lexF (keyF (vwL a)) (keyF (vwL b)) 14 28:=e27.trans (lex_eq (n:=14) (i:=27) (bne_eq_false_iff_eq.1 h27))
 refine⟨fun h28=>?_,fun h28=>?_⟩
 · have n28:keyF (vwL a) 28≠keyF (vwL b) 28:=bne_iff_ne.1 h28
   refine⟨by rw[e28,lex_ne n28];rfl,(by first|(unfold lim;omega)|(dsimp only;unfold lim;omega)),?_,by simp⟩
   simp only[h0,h1,h2,h3,h4,h5,h6,h7,h8,h9,h10,h11,h12,h13,h14,h15,h16,h17,h18,h19,h20,h21,h22,h23,h24,h25,h26,h27,h28]
   exact allT_all (by kernel_rfl)
 have e29:X=lexF (keyF (vwL a)) (keyF (vwL b)) 13 29:=e28.trans (lex_eq (n:=13) (i:=28) (bne_eq_false_iff_eq.1 h28))
 refine⟨fun h29=>?_,fun h29=>?_⟩
 · have n29:keyF (vwL a) 29≠keyF (vwL b) 29:=bne_iff_ne.1 h29
   refine⟨by rw[e29,lex_ne n29];rfl,(by first|(unfold lim;omega)|(dsimp only;unfold lim;omega)),?_,by simp⟩
   simp only[h0,h1,h2,h3,h4,h5,h6,h7,h8,h9,h10,h11,h12,h13,h14,h15,h16,h17,h18,h19,h20,h21,h22,h23,h24,h25,h26,h27,h28,h29]
   exact allT_all (by kernel_rfl)
 have e30:X=lexF (keyF (vwL a)) (keyF (vwL b)) 12 30:=e29.trans (lex_eq (n:=12) (i:=29) (bne_eq_false_iff_eq.1 h29))
 refine⟨fun h30=>?_,fun h30=>?_⟩
 · have n30:keyF (vwL a) 30≠keyF (vwL b) 30:=bne_iff_ne.1 h30
   refine⟨by rw[e30,lex_ne n30];rfl,(by first|(unfold lim;omega)|(dsimp only;unfold lim;omega)),?_,by simp⟩
   simp only[h0,h1,h2,h3,h4,h5,h6,h7,h8,h9,h10,h11,h12,h13,h14,h15,h16,h17,h18,h19,h20,h21,h22,h23,h24,h25,h26,h27,h28,h29,h30]
   exact allT_all (by kernel_rfl)
 have e31:X=lexF (keyF (vwL a)) (keyF (vwL b)) 11 31:=e30.trans (lex_eq (n:=11) (i:=30) (bne_eq_false_iff_eq.1 h30))
 refine⟨fun h31=>?_,fun h31=>?_⟩
 · have n31:keyF (vwL a) 31≠keyF (vwL b) 31:=bne_iff_ne.1 h31
   refine⟨by rw[e31,lex_ne n31];rfl,(by first|(unfold lim;omega)|(dsimp only;unfold lim;omega)),?_,by simp⟩
   simp only[h0,h1,h2,h3,h4,h5,h6,h7,h8,h9,h10,h11,h12,h13,h14,h15,h16,h17,h18,h19,h20,h21,h22,h23,h24,h25,h26,h27,h28,h29,h30,h31]
   exact allT_all (by kernel_rfl)
 have e32:X=lexF (keyF (vwL a)) (keyF (vwL b)) 10 32:=e31.trans (lex_eq (n:=10) (i:=31) (bne_eq_false_iff_eq.1 h31))
 refine⟨fun h32=>?_,fun h32=>?_⟩
 · have n32:keyF (vwL a) 32≠keyF (vwL b) 32:=bne_iff_ne.1 h32
   refine⟨by rw[e32,lex_ne n32];rfl,(by first|(unfold lim;omega)|(dsimp only;unfold lim;omega)),?_,by simp⟩
   simp only[h0,h1,h2,h3,h4,h5,h6,h7,h8,h9,h10,h11,h12,h13,h14,h15,h16,h17,h18,h19,h20,h21,h22,h23,h24,h25,h26,h27,h28,h29,h30,h31,h32]
   exact allT_all (by kernel_rfl)
 have e33:X=lexF (keyF (vwL a)) (keyF (vwL b)) 9 33:=e32.trans (lex_eq (n:=9) (i:=32) (bne_eq_false_iff_eq.1 h32))
 refine⟨fun h33=>?_,fun h33=>?_⟩
 · have n33:keyF (vwL a) 33≠keyF (vwL b) 33:=bne_iff_ne.1 h33
   refine⟨by rw[e33,lex_ne n33];rfl,(by first|(unfold lim;omega)|(dsimp only;unfold lim;omega)),?_,by simp⟩
   simp only[h0,h1,h2,h3,h4,h5,h6,h7,h8,h9,h10,h11,h12,h13,h14,h15,h16,h17,h18,h19,h20,h21,h22,h23,h24,h25,h26,h27,h28,h29,h30,h31,h32,h33]
   exact allT_all (by kernel_rfl)
 have e34:X=lexF (keyF (vwL a)) (keyF (vwL b)) 8 34:=e33.trans (lex_eq (n:=8) (i:=33) (bne_eq_false_iff_eq.1 h33))
 refine⟨fun h34=>?_,fun h34=>?_⟩
 · have n34:keyF (vwL a) 34≠keyF (vwL b) 34:=bne_iff_ne.1 h34
   refine⟨by rw[e34,lex_ne n34];rfl,(by first|(unfold lim;omega)|(dsimp only;unfold lim;omega)),?_,by simp⟩
   simp only[h0,h1,h2,h3,h4,h5,h6,h7,h8,h9,h10,h11,h12,h13,h14,h15,h16,h17,h18,h19,h20,h21,h22,h23,h24,h25,h26,h27,h28,h29,h30,h31,h32,h33,h34]
   exact allT_all (by kernel_rfl)
 refine lessT35 a b _ ?_
 have e35:X=lexF (keyF (vwL a)) (keyF (vwL b)) 7 35:=e34.trans (lex_eq (n:=7) (i:=34) (bne_eq_false_iff_eq.1 h34))
 refine⟨fun h35=>?_,fun h35=>?_⟩
 · have n35:keyF (vwL a) 35≠keyF (vwL b) 35:=bne_iff_ne.1 h35
   refine⟨by rw[e35,lex_ne n35];rfl,(by first|(unfold lim;omega)|(dsimp only;unfold lim;omega)),?_,by simp⟩
   simp only[h0,h1,h2,h3,h4,h5,h6,h7,h8,h9,h10,h11,h12,h13,h14,h15,h16,h17,h18,h19,h20,h21,h22,h23,h24,h25,h26,h27,h28,h29,h30,h31,h32,h33,h34,h35]
   exact allT_all (by kernel_rfl)
 have e36:X=lexF (keyF (vwL a)) (keyF (vwL b)) 6 36:=e35.trans (lex_eq (n:=6) (i:=35) (bne_eq_false_iff_eq.1 h35))
 refine⟨fun h36=>?_,fun h36=>?_⟩
 · have n36:keyF (vwL a) 36≠keyF (vwL b) 36:=bne_iff_ne.1 h36
   refine⟨by rw[e36,lex_ne n36];rfl,(by first|(unfold lim;omega)|(dsimp only;unfold lim;omega)),?_,by simp⟩
   simp only[h0,h1,h2,h3,h4,h5,h6,h7,h8,h9,h10,h11,h12,h13,h14,h15,h16,h17,h18,h19,h20,h21,h22,h23,h24,h25,h26,h27,h28,h29,h30,h31,h32,h33,h34,h35,h36]
   exact allT_all (by kernel_rfl)
 have e37:X=lexF (keyF (vwL a)) (keyF (vwL b)) 5 37:=e36.trans (lex_eq (n:=5) (i:=36) (bne_eq_false_iff_eq.1 h36))
 refine⟨fun h37=>?_,fun h37=>?_⟩
 · have n37:keyF (vwL a) 37≠keyF (vwL b) 37:=bne_iff_ne.1 h37
   refine⟨by rw[e37,lex_ne n37];rfl,(by first|(unfold lim;omega)|(dsimp only;unfold lim;omega)),?_,by simp⟩
   simp only[h0,h1,h2,h3,h4,h5,h6,h7,h8,h9,h10,h11,h12,h13,h14,h15,h16,h17,h18,h19,h20,h21,h22,h23,h24,h25,h26,h27,h28,h29,h30,h31,h32,h33,h34,h35,h36,h37]
   exact allT_all (by kernel_rfl)
 have e38:X=lexF (keyF (vwL a)) (keyF (vwL b)) 4 38:=e37.trans (lex_eq (n:=4) (i:=37) (bne_eq_false_iff_eq.1 h37))
 refine⟨fun h38=>?_,fun h38=>?_⟩
 · have n38:keyF (vwL a) 38≠keyF (vwL b) 38:=bne_iff_ne.1 h38
   refine⟨by rw[e38,lex_ne n38];rfl,(by first|(unfold lim;omega)|(dsimp only;unfold lim;omega)),?_,by simp⟩
   simp only[h0,h1,h2,h3,h4,h5,h6,h7,h8,h9,h10,h11,h12,h13,h14,h15,h16,h17,h18,h19,h20,h21,h22,h23,h24,h25,h26,h27,h28,h29,h30,h31,h32,h33,h34,h35,h36,h37,h38]
   exact allT_all (by kernel_rfl)
 have e39:X=lexF (keyF (vwL a)) (keyF (vwL b)) 3 39:=e38.trans (lex_eq (n:=3) (i:=38) (bne_eq_false_iff_eq.1 h38))
 refine⟨fun h39=>?_,fun h39=>?_⟩
 · have n39:keyF (vwL a) 39≠keyF (vwL b) 39:=bne_iff_ne.1 h39
   refine⟨by rw[e39,lex_ne n39];rfl,(by first|(unfold lim;omega)|(dsimp only;unfold lim;omega)),?_,by simp⟩
   simp only[h0,h1,h2,h3,h4,h5,h6,h7,h8,h9,h10,h11,h12,h13,h14,h15,h16,h17,h18,h19,h20,h21,h22,h23,h24,h25,h26,h27,h28,h29,h30,h31,h32,h33,h34,h35,h36,h37,h38,h39]
   exact allT_all (by kernel_rfl)
 have e40:X=lexF (keyF (vwL a)) (keyF (vwL b)) 2 40:=e39.trans (lex_eq (n:=2) (i:=39) (bne_eq_false_iff_eq.1 h39))
 refine⟨fun h40=>?_,fun h40=>?_⟩
 · have n40:keyF (vwL a) 40≠keyF (vwL b) 40:=bne_iff_ne.1 h40
   refine⟨by rw[e40,lex_ne n40];rfl,(by first|(unfold lim;omega)|(dsimp only;unfold lim;omega)),?_,by simp⟩
   simp only[h0,h1,h2,h3,h4,h5,h6,h7,h8,h9,h10,h11,h12,h13,h14,h15,h16,h17,h18,h19,h20,h21,h22,h23,h24,h25,h26,h27,h28,h29,h30,h31,h32,h33,h34,h35,h36,h37,h38,h39,h40]
   exact allT_all (by kernel_rfl)
 have e41:X=lexF (keyF (vwL a)) (keyF (vwL b)) 1 41:=e40.trans (lex_eq (n:=1) (i:=40) (bne_eq_false_iff_eq.1 h40))
 refine⟨fun h41=>?_,fun h41=>?_⟩
 · have n41:keyF (vwL a) 41≠keyF (vwL b) 41:=bne_iff_ne.1 h41
   refine⟨by rw[e41,lex_ne n41];rfl,(by first|(unfold lim;omega)|(dsimp only;unfold lim;omega)),?_,by simp⟩
   simp only[h0,h1,h2,h3,h4,h5,h6,h7,h8,h9,h10,h11,h12,h13,h14,h15,h16,h17,h18,h19,h20,h21,h22,h23,h24,h25,h26,h27,h28,h29,h30,h31,h32,h33,h34,h35,h36,h37,h38,h39,h40,h41]
   exact allT_all (by kernel_rfl)
 have e42:X=lexF (keyF (vwL a)) (keyF (vwL b)) 0 42:=e41.trans (lex_eq (n:=0) (i:=41) (bne_eq_false_iff_eq.1 h41))
 refine⟨by rw[e42];rfl,(by first|(unfold lim;omega)|(dsimp only;unfold lim;omega)),?_,by simp⟩
 simp only[h0,h1,h2,h3,h4,h5,h6,h7,h8,h9,h10,h11,h12,h13,h14,h15,h16,h17,h18,h19,h20,h21,h22,h23,h24,h25,h26,h27,h28,h29,h30,h31,h32,h33,h34,h35,h36,h37,h38,h39,h40,h41]
 exact allT_all (by kernel_rfl)
def lesG:List AV→AV
 | [.agg x,.agg y]=>bo (lessL x y)
 |_=>i64 0
def lesP:List AV→Bool
 | [.agg x,.agg y]=>isVw x&&isVw y
 |_=>false
def ctLess:CtF:=ctRd (pureRd [] rfl) lesG lesP
theorem ct_less:CtOk Tryz.prog 17 ctLess:=by
 refine ctRd_ofE (E:=ELe Tryz.prog) hELe (pureRd [] rfl) (fuel:=300) (str:=10000000000000000000000000000000000000000) ⟨_,_,Tryz.func17,rfl⟩ (fun s=>by unfold lesG;split<;>rfl) fun s hs=>?_
 unfold lesP at hs
 split at hs
 · rename_i x y
   simp only[Bool.and_eq_true] at hs
   obtain⟨h1,h2⟩:=hs
   have e1:=vw_eq h1
   have e2:=vw_eq h2
   generalize vwOf x=a at e1
   generalize vwOf y=b at e2
   subst e1
   subst e2
   obtain⟨p,r,g1,g2⟩:=less_all a b
   exact⟨p,[],r,g1,g2⟩
 · cases hs
end Go.Proofs.YtpgaplcdbbnblaaGreatDoor
end
/- sennitref04: pairs, slots as the evaluator runs them. -/
section
namespace Go.Proofs.YtpgaplcdbbnblaaGreatDoor
open Go.RowKit
abbrev boolsW (n:Nat) (f:Nat→Bool):ABlk:=wBlk 4 1 n fun i=>[.bool (f i)]
abbrev r4pV (k:Nat):List AV:=[.c (.ptr 1000 0 0),.c (.sl 1002 0 0 16 none),i64 (Int.ofNat k)]
def r4pR (P:Program) (c:Cfg) (u:Nat→Bool) (k:Nat) (path:List Dec):Option VC:=
 view ([1,3,4]++[2]) [0,1000,1002] (fC (E1 P) 300 (loopAt P 66 0) 1000000000000000000000000000000000000000000 10000000000000000000000000000000000000000 (stH 63 [1,3,4] [0,1000,1002] (r4pV k) [ints 3 c.np c.fp,cfgB c,boolsW 16 u] path []))
theorem r4p (c:Cfg) (u:Nat→Bool) (k:Nat) (Q:VC→Prop) (H:let zz2:=(ABlk.mk false false 3 1 (Cs.arr (Cfg.np c) fun k=>List.map AC.v ((fun i=>[Value.int IntKind.i64 (Cfg.fp c i)]) k)));let zz10:=(ABlk.mk true false 25 0 (Cs.lit [AC.v (Value.int IntKind.i64 (Cfg.nodes c)),AC.sl 0 0 0 (Cfg.np c) none,AC.sl 1 0 0 (Cfg.ns c) none,AC.v (Value.int IntKind.i64 (Cfg.long c)),AC.sl 2 0 0 (Cfg.nb c) none,AC.sl 3 0 0 (Cfg.nt c) none,AC.v (Value.int IntKind.i64 (Cfg.miss c)),AC.v (Value.int IntKind.i64 (Cfg.good c)),AC.v (Value.int IntKind.i64 (Cfg.fresh c))]));let zz3:=(ABlk.mk true true 4 1 (Cs.arr 16 fun k=>List.map AC.v ((fun i=>[Value.bool (u i)]) k)));let zz0:=[some zz2,some zz10,some zz3];let zz1:=(IntKind.wrap IntKind.i64 (Cfg.fp c (0+Int.toNat (Int.ofNat k))+Int.ofNat 1));let zz4:=[some (lkA (List.zip [1,3,4] (r4pV k)) 1),some (lkA (List.zip [1,3,4] (r4pV k)) 3),some (lkA (List.zip [1,3,4] (r4pV k)) 4),some (AV.c (AC.v (Value.bool false)))];let zz5:=[some zz2,some zz10,some (ABlk.mk true true 4 1 (Cs.arr 16 fun i=>if i=0+Int.toNat (Int.tmod zz1 (Cfg.nodes c)) then setL ((fun i=>if i=0+Int.toNat (Cfg.fp c (0+Int.toNat (Int.ofNat k))) then setL ((fun k=>List.map AC.v ((fun i=>[Value.bool (u i)]) k)) i) 0 [AC.v (Value.bool true)] else List.map AC.v ((fun i=>[Value.bool (u i)]) i)) i) 0 [AC.v (Value.bool true)] else if i=0+Int.toNat (Cfg.fp c (0+Int.toNat (Int.ofNat k))) then setL ((fun k=>List.map AC.v ((fun i=>[Value.bool (u i)]) k)) i) 0 [AC.v (Value.bool true)] else List.map AC.v ((fun i=>[Value.bool (u i)]) i)))];let zz6:=(0+Int.toNat (Cfg.fp c (0+Int.toNat (Int.ofNat k))));let zz11:=(0+Int.toNat (IntKind.wrap IntKind.i64 (Int.ofNat k-Int.ofNat 1)));let zz7:=(Cfg.fp c (0+Int.toNat (Int.ofNat k))≤Cfg.fp c zz11);let zz8:=(Cfg.fp c (0+Int.toNat (Int.ofNat k))<Int.ofNat 0);let zz9:=(Cfg.fp c (0+Int.toNat (Int.ofNat k))≥Cfg.nodes c);let zz12:=(ABlk.mk true true 4 1 (Cs.arr 16 fun i=>if i=0+Int.toNat (Cfg.fp c (0+Int.toNat (Int.ofNat k))) then setL ((fun k=>List.map AC.v ((fun i=>[Value.bool (u i)]) k)) i) 0 [AC.v (Value.bool true)] else List.map AC.v ((fun i=>[Value.bool (u i)]) i)));let zz13:=[some (lkA (List.zip [1,3,4] (r4pV k)) 1),some (lkA (List.zip [1,3,4] (r4pV k)) 3),some (AV.c (AC.v (Value.int IntKind.i64 (IntKind.wrap IntKind.i64 (Int.ofNat k+Int.ofNat 1))))),some (lkA (List.zip [1,3,4] (r4pV k)) 2)];let zq0:List Bool:=[true];let zq1:List Bool:=(ABlk.inb zz2 (0+Int.toNat (Int.ofNat k)) 1)::true::(decide (Int.ofNat 0≤Int.ofNat k∧Int.ofNat k < ↑(c.np)))::true::(decide (Int.ofNat k < ↑(c.np))==true)::zq0;let zq2:List Bool:=true::true::(decide zz8==false)::zq1;let zq3:List Bool:=(decide zz9==false)::zq2;let zq4:List Bool:=(ABlk.inb zz2 zz11 1)::true::(decide (Int.ofNat 0≤IntKind.wrap .i64 (Int.ofNat k-Int.ofNat 1)∧IntKind.wrap .i64 (Int.ofNat k-Int.ofNat 1) < ↑(c.np)))::true::(decide (Int.ofNat k>Int.ofNat 0)==true)::zq3;let zq5:List Bool:=(ABlk.inb zz3 zz6 1)::true::(decide (Int.ofNat 0≤c.fp (0+Int.toNat (Int.ofNat k))∧c.fp (0+Int.toNat (Int.ofNat k))<Int.ofNat 16))::(decide (c.nodes≠Int.ofNat 0))::true::true::(decide zz7==false)::zq4;let zq6:List Bool:=(ABlk.inb zz3 (0+Int.toNat (Int.tmod zz1 (c.nodes))) 1)::true::(decide (Int.ofNat 0≤Int.tmod zz1 (c.nodes)∧Int.tmod zz1 (c.nodes)<Int.ofNat 16))::(u zz6==false)::zq5;let zq7:List Bool:=(ABlk.inb zz3 zz6 1)::true::(decide (Int.ofNat 0≤c.fp (0+Int.toNat (Int.ofNat k))∧c.fp (0+Int.toNat (Int.ofNat k))<Int.ofNat 16))::(decide (c.nodes≠Int.ofNat 0))::true::true::(decide (Int.ofNat k>Int.ofNat 0)==false)::zq3;let zq8:List Bool:=(ABlk.inb zz3 (0+Int.toNat (Int.tmod zz1 (c.nodes))) 1)::true::(decide (Int.ofNat 0≤Int.tmod zz1 (c.nodes)∧Int.tmod zz1 (c.nodes)<Int.ofNat 16))::(u zz6==false)::zq7;(((decide (Int.ofNat k < ↑(c.np)))=true→(((decide zz8)=true→Q (Exit.ret,zz4,zz0,63,1000000000000000000000000000000000000000018,((decide zz8==true)::zq1),[]))∧((decide zz8)=false→(((decide zz9)=true→Q (Exit.ret,zz4,zz0,63,1000000000000000000000000000000000000000022,((decide zz9==true)::zq2),[]))∧((decide zz9)=false→(((decide (Int.ofNat k>Int.ofNat 0))=true→(((decide zz7)=true→Q (Exit.ret,zz4,zz0,63,1000000000000000000000000000000000000000034,((decide zz7==true)::zq4),[]))∧((decide zz7)=false→(((u zz6)=true→Q (Exit.ret,zz4,zz0,63,1000000000000000000000000000000000000000046,((u zz6==true)::zq5),[]))∧((u zz6)=false→(((u (0+Int.toNat (Int.tmod zz1 (c.nodes))))=true→Q (Exit.ret,zz4,zz0,63,1000000000000000000000000000000000000000050,((u (0+Int.toNat (Int.tmod zz1 (c.nodes)))==true)::zq6),[]))∧((u (0+Int.toNat (Int.tmod zz1 (c.nodes))))=false→Q (Exit.normal,zz13,zz5,63,1000000000000000000000000000000000000000060,((ABlk.inb zz12 (0+Int.toNat (Int.tmod zz1 (c.nodes))) 1)::(decide (Int.ofNat 0≤Int.tmod zz1 (c.nodes)∧Int.tmod zz1 (c.nodes)<Int.ofNat 16))::(ABlk.inb zz3 zz6 1)::(decide (Int.ofNat 0≤c.fp (0+Int.toNat (Int.ofNat k))∧c.fp (0+Int.toNat (Int.ofNat k))<Int.ofNat 16))::(u (0+Int.toNat (Int.tmod zz1 (c.nodes)))==false)::zq6),[]))))))))∧((decide (Int.ofNat k>Int.ofNat 0))=false→(((u zz6)=true→Q (Exit.ret,zz4,zz0,63,1000000000000000000000000000000000000000038,((u zz6==true)::zq7),[]))∧((u zz6)=false→(((u (0+Int.toNat (Int.tmod zz1 (c.nodes))))=true→Q (Exit.ret,zz4,zz0,63,1000000000000000000000000000000000000000042,((u (0+Int.toNat (Int.tmod zz1 (c.nodes)))==true)::zq8),[]))∧((u (0+Int.toNat (Int.tmod zz1 (c.nodes))))=false→Q (Exit.normal,zz13,zz5,63,1000000000000000000000000000000000000000052,((ABlk.inb zz12 (0+Int.toNat (Int.tmod zz1 (c.nodes))) 1)::(decide (Int.ofNat 0≤Int.tmod zz1 (c.nodes)∧Int.tmod zz1 (c.nodes)<Int.ofNat 16))::(ABlk.inb zz3 zz6 1)::(decide (Int.ofNat 0≤c.fp (0+Int.toNat (Int.ofNat k))∧c.fp (0+Int.toNat (Int.ofNat k))<Int.ofNat 16))::(u (0+Int.toNat (Int.tmod zz1 (c.nodes)))==false)::zq8),[]))))))))))))∧((decide (Int.ofNat k < ↑(c.np)))=false→Q (Exit.exit 0,[some (lkA (List.zip [1,3,4] (r4pV k)) 1),some (lkA (List.zip [1,3,4] (r4pV k)) 3),some (lkA (List.zip [1,3,4] (r4pV k)) 4),some (lkA (List.zip [1,3,4] (r4pV k)) 2)],zz0,63,1000000000000000000000000000000000000000005,((decide (Int.ofNat k < ↑(c.np))==false)::zq0),[])))):
 ∃p r,r4pR Tryz.prog c u k p=some r∧Q r:=
 two H
 (fun g1=>two g1
  (fun g2=>⟨pD 10 4,_,by kernel_rfl,g2⟩)
  (fun g2=>two g2
   (fun g3=>⟨pD 10 250,_,by kernel_rfl,g3⟩)
   (fun g3=>two g3
    (fun g4=>two g4
     (fun g5=>⟨pD 18 129147217,_,by kernel_rfl,g5⟩)
     (fun g5=>two g5
      (fun g6=>⟨pD 23 645707869,_,by kernel_rfl,g6⟩)
      (fun g6=>two g6
       (fun g7=>⟨pD 23 32414187967,_,by kernel_rfl,g7⟩)
       (fun g7=>⟨pD 23 63795247576,_,by kernel_rfl,g7⟩))))
    (fun g4=>two g4
     (fun g5=>⟨pD 23 387434104,_,by kernel_rfl,g5⟩)
     (fun g5=>two g5
      (fun g6=>⟨pD 23 32155914202,_,by kernel_rfl,g6⟩)
      (fun g6=>⟨pD 23 63536973811,_,by kernel_rfl,g6⟩))))))
 (fun g1=>⟨pD 1 2,_,by kernel_rfl,g1⟩)
def pcR (P:Program) (c:Cfg) (e:Exit) (l:List (Nat × AV)):Option VF:=viewF [] (fCallF (E1 P) (fC (E1 P) 300) 66 [.agg (cfgC c)] 1000 10000000000000000000000000000000000000000 (stA (cfgM c) [] [some ⟨[1,3,4],[0,1000,1002],mkFr 63 l,[],100000000000000000000000000000000000000000000000000,e⟩]))
theorem pc_yes (c:Cfg):pcR Tryz.prog c (.exit 0) []=
 some (.c (.v (.bool true)),[],100000000000000000000000000000000000000000000000001,[true],[LoopV Tryz.prog (loopAt Tryz.prog 66 0) [1,3,4] [0,1000,1002] [some (.c (.ptr 1000 0 0)),some (.c (.sl 1002 0 0 16 none)),some (.c (.v (.int .i64 (Int.ofNat 0))))] [some (ABlk.mk false false 3 1 (Cs.arr (c.np) fun k=>List.map AC.v ((fun i=>[Value.int .i64 (c.fp i)]) k))),some (ABlk.mk true false 25 0 (Cs.lit [.v (.int .i64 (c.nodes)),AC.sl 0 0 0 (c.np) none,AC.sl 1 0 0 (c.ns) none,.v (.int .i64 (c.long)),AC.sl 2 0 0 (c.nb) none,AC.sl 3 0 0 (c.nt) none,.v (.int .i64 (c.miss)),.v (.int .i64 (c.good)),.v (.int .i64 (c.fresh))])),some (ABlk.mk true true 4 1 (Cs.arr 16 fun x=>List.map AC.v (Array.toList (Value.cells (Value.bool false)))))] 63 1005 (mkFr 63 []) [] 100000000000000000000000000000000000000000000000000 (Exit.exit 0) none]):=by kernel_rfl
theorem pc_no (c:Cfg):pcR Tryz.prog c .ret [(2,bo false)]=
 some (.c (.v (.bool false)),[],100000000000000000000000000000000000000000000000000,[true],[LoopV Tryz.prog (loopAt Tryz.prog 66 0) [1,3,4] [0,1000,1002] [some (.c (.ptr 1000 0 0)),some (.c (.sl 1002 0 0 16 none)),some (.c (.v (.int .i64 (Int.ofNat 0))))] [some (ABlk.mk false false 3 1 (Cs.arr (c.np) fun k=>List.map AC.v ((fun i=>[Value.int .i64 (c.fp i)]) k))),some (ABlk.mk true false 25 0 (Cs.lit [.v (.int .i64 (c.nodes)),AC.sl 0 0 0 (c.np) none,AC.sl 1 0 0 (c.ns) none,.v (.int .i64 (c.long)),AC.sl 2 0 0 (c.nb) none,AC.sl 3 0 0 (c.nt) none,.v (.int .i64 (c.miss)),.v (.int .i64 (c.good)),.v (.int .i64 (c.fresh))])),some (ABlk.mk true true 4 1 (Cs.arr 16 fun x=>List.map AC.v (Array.toList (Value.cells (Value.bool false)))))] 63 1005 (mkFr 63 [(2,bo false)]) [] 100000000000000000000000000000000000000000000000000 Exit.ret none]):=by kernel_rfl
abbrev r4sV (c:Cfg) (k:Nat):List AV:=[.c (.ptr 1000 0 0),.c (.sl 1005 0 0 c.np none),i64 (Int.ofNat k)]
def r4sR (P:Program) (c:Cfg) (u:Nat→Bool) (k:Nat) (path:List Dec):Option VC:=
 view ([1,3,4]++[2]) [1,1000,1005] (fC (E1 P) 300 (loopAt P 67 0) 1000000000000000000000000000000000000000000 10000000000000000000000000000000000000000 (stH 52 [1,3,4] [1,1000,1005] (r4sV c k) [ints 3 c.ns c.fs,cfgB c,boolsW c.np u] path []))
theorem r4s (c:Cfg) (u:Nat→Bool) (k:Nat) (Q:VC→Prop) (H:let zz1:=(ABlk.mk false false 3 1 (Cs.arr (Cfg.ns c) fun k=>List.map AC.v ((fun i=>[Value.int IntKind.i64 (Cfg.fs c i)]) k)));let zz2:=(ABlk.mk true false 25 0 (Cs.lit [AC.v (Value.int IntKind.i64 (Cfg.nodes c)),AC.sl 0 0 0 (Cfg.np c) none,AC.sl 1 0 0 (Cfg.ns c) none,AC.v (Value.int IntKind.i64 (Cfg.long c)),AC.sl 2 0 0 (Cfg.nb c) none,AC.sl 3 0 0 (Cfg.nt c) none,AC.v (Value.int IntKind.i64 (Cfg.miss c)),AC.v (Value.int IntKind.i64 (Cfg.good c)),AC.v (Value.int IntKind.i64 (Cfg.fresh c))]));let zz0:=[some zz1,some zz2,some (ABlk.mk true true 4 1 (Cs.arr (Cfg.np c) fun k=>List.map AC.v ((fun i=>[Value.bool (u i)]) k)))];let zz3:=(Cfg.fs c (0+Int.toNat (Int.ofNat k))<Int.ofNat 0);let zz4:=[some (lkA (List.zip [1,3,4] (r4sV c k)) 1),some (lkA (List.zip [1,3,4] (r4sV c k)) 3),some (lkA (List.zip [1,3,4] (r4sV c k)) 4),some (AV.c (AC.v (Value.bool false)))];let zq0:List Bool:=[true];let zq1:List Bool:=(ABlk.inb zz1 (0+Int.toNat (Int.ofNat k)) 1)::true::(decide (Int.ofNat 0≤Int.ofNat k∧Int.ofNat k < ↑(c.ns)))::true::(decide (Int.ofNat k < ↑(c.ns))==true)::zq0;let zq2:List Bool:=true::(ABlk.inb zz1 (0+Int.toNat (Int.ofNat k)) 1)::true::(decide (Int.ofNat 0≤Int.ofNat k∧Int.ofNat k < ↑(c.ns)))::true::(decide zz3==false)::zq1;(((decide (Int.ofNat k < ↑(c.ns)))=true→(((decide zz3)=true→Q (Exit.ret,zz4,zz0,52,1170000000000000000000000000000000000000006,((decide zz3==true)::zq1),[]))∧((decide zz3)=false→(((decide (c.fs (0+Int.toNat (Int.ofNat k))≥ ↑(c.np)))=true→Q (Exit.ret,zz4,zz0,52,1170000000000000000000000000000000000000006,((decide (c.fs (0+Int.toNat (Int.ofNat k))≥ ↑(c.np))==true)::zq2),[]))∧((decide (c.fs (0+Int.toNat (Int.ofNat k))≥ ↑(c.np)))=false→Q (Exit.normal,[some (lkA (List.zip [1,3,4] (r4sV c k)) 1),some (lkA (List.zip [1,3,4] (r4sV c k)) 3),some (.c (.v (.int .i64 (IntKind.wrap .i64 (Int.ofNat k+Int.ofNat 1))))),some (lkA (List.zip [1,3,4] (r4sV c k)) 2)],[some zz1,some zz2,some (ABlk.mk true true 4 1 (Cs.arr (c.np) fun i=>if i=0+Int.toNat (c.fs (0+Int.toNat (Int.ofNat k))) then setL ((fun k=>List.map AC.v ((fun i=>[Value.bool (u i)]) k)) i) 0 [.v (.bool true)] else List.map AC.v ((fun i=>[Value.bool (u i)]) i)))],52,1170000000000000000000000000000000000000016,((ABlk.inb (ABlk.mk true true 4 1 (Cs.arr (c.np) fun k=>List.map AC.v ((fun i=>[Value.bool (u i)]) k))) (0+Int.toNat (c.fs (0+Int.toNat (Int.ofNat k)))) 1)::(decide (Int.ofNat 0≤c.fs (0+Int.toNat (Int.ofNat k))∧c.fs (0+Int.toNat (Int.ofNat k)) < ↑(c.np)))::(ABlk.inb zz1 (0+Int.toNat (Int.ofNat k)) 1)::true::(decide (Int.ofNat 0≤Int.ofNat k∧Int.ofNat k < ↑(c.ns)))::true::(decide (c.fs (0+Int.toNat (Int.ofNat k))≥ ↑(c.np))==false)::zq2),[]))))))∧((decide (Int.ofNat k < ↑(c.ns)))=false→Q (Exit.exit 0,[some (lkA (List.zip [1,3,4] (r4sV c k)) 1),some (lkA (List.zip [1,3,4] (r4sV c k)) 3),some (lkA (List.zip [1,3,4] (r4sV c k)) 4),some (lkA (List.zip [1,3,4] (r4sV c k)) 2)],zz0,52,1000000000000000000000000000000000000000005,((decide (Int.ofNat k < ↑(c.ns))==false)::zq0),[])))):
 ∃p r,r4sR Tryz.prog c u k p=some r∧Q r:=
 two H
 (fun g1=>two g1
  (fun g2=>⟨pD 11 4,_,by kernel_rfl,g2⟩)
  (fun g2=>two g2
   (fun g3=>⟨pD 11 59056,_,by kernel_rfl,g3⟩)
   (fun g3=>⟨pD 11 118105,_,by kernel_rfl,g3⟩)))
 (fun g1=>⟨pD 1 2,_,by kernel_rfl,g1⟩)
abbrev r4tV (c:Cfg) (k:Nat):List AV:=[.c (.sl 1005 0 0 c.np none),i64 (Int.ofNat k)]
def r4tR (P:Program) (c:Cfg) (u:Nat→Bool) (k:Nat) (path:List Dec):Option VC:=
 view ([3,5]++[2]) [1005] (fC (E1 P) 300 (loopAt P 67 1) 1000000000000000000000000000000000000000000000000000 10000000000000000000000000000000000000000 (stH 52 [3,5] [1005] (r4tV c k) [boolsW c.np u] path []))
theorem r4t (c:Cfg) (u:Nat→Bool) (k:Nat) (Q:VC→Prop) (H:let zz0:=(ABlk.mk true true 4 1 (Cs.arr (Cfg.np c) fun k=>List.map AC.v ((fun i=>[Value.bool (u i)]) k)));(((decide (Int.ofNat k < ↑(c.np)))=true→(((!u (0+Int.toNat (Int.ofNat k)))=true→Q (Exit.ret,[some (lkA (List.zip [3,5] (r4tV c k)) 3),some (lkA (List.zip [3,5] (r4tV c k)) 5),some (.c (.v (.bool false)))],[some zz0],52,1000000000000000000000000000000000000000000000000010,[(!u (0+Int.toNat (Int.ofNat k)))==true,ABlk.inb zz0 (0+Int.toNat (Int.ofNat k)) 1,true,decide (Int.ofNat 0≤Int.ofNat k∧Int.ofNat k < ↑(c.np)),decide (Int.ofNat k < ↑(c.np))==true],[]))∧((!u (0+Int.toNat (Int.ofNat k)))=false→Q (Exit.normal,[some (lkA (List.zip [3,5] (r4tV c k)) 3),some (.c (.v (.int .i64 (IntKind.wrap .i64 (Int.ofNat k+Int.ofNat 1))))),some (lkA (List.zip [3,5] (r4tV c k)) 2)],[some zz0],52,1000000000000000000000000000000000000000000000000012,[(!u (0+Int.toNat (Int.ofNat k)))==false,ABlk.inb zz0 (0+Int.toNat (Int.ofNat k)) 1,true,decide (Int.ofNat 0≤Int.ofNat k∧Int.ofNat k < ↑(c.np)),decide (Int.ofNat k < ↑(c.np))==true],[]))))∧((decide (Int.ofNat k < ↑(c.np)))=false→Q (Exit.exit 2,[some (lkA (List.zip [3,5] (r4tV c k)) 3),some (lkA (List.zip [3,5] (r4tV c k)) 5),some (lkA (List.zip [3,5] (r4tV c k)) 2)],[some zz0],52,1000000000000000000000000000000000000000000000000004,[decide (Int.ofNat k < ↑(c.np))==false],[])))):
 ∃p r,r4tR Tryz.prog c u k p=some r∧Q r:=
 two H
 (fun g1=>two g1
  (fun g2=>⟨pD 2 4,_,by kernel_rfl,g2⟩)
  (fun g2=>⟨pD 2 7,_,by kernel_rfl,g2⟩))
 (fun g1=>⟨pD 1 2,_,by kernel_rfl,g1⟩)
def scR (P:Program) (c:Cfg) (l:List (Option LSum)):Option VF:=viewF [] (fCallF (E1 P) (fC (E1 P) 300) 67 [.agg (cfgC c)] 1000 10000000000000000000000000000000000000000 (stA (cfgM c) [] l))
abbrev s4A (c:Cfg) (u:Nat→Bool):LSum:=⟨[1,3,4],[1,1000,1005],mkFr 52 [(3,.c (.sl 1005 0 0 c.np none))],[(1005,boolsW c.np u)],100000000000000000000000000000000000000000000000000,.exit 0⟩
abbrev s4B (e:Exit) (l:List (Nat × AV)):LSum:=⟨[3,5],[1005],mkFr 52 l,[],10000000000000000000000000000000000000000000000000000,e⟩
theorem sc_bad (c:Cfg):scR Tryz.prog c [some ⟨[1,3,4],[1,1000,1005],mkFr 52 [(2,bo false)],[],100000000000000000000000000000000000000000000000000,.ret⟩]=
 some (.c (.v (.bool false)),[],100000000000000000000000000000000000000000000000000,[decide (Int.ofNat 0≤ ↑(c.np)∧Int.ofNat (c.np)=Int.ofNat (c.np)∧ ↑(c.np)*Int.ofNat 1≤Int.ofNat 140737488355328),true],[LoopV Tryz.prog (loopAt Tryz.prog 67 0) [1,3,4] [1,1000,1005] [some (.c (.ptr 1000 0 0)),some (.c (.sl 1005 0 0 (Int.toNat ↑(c.np)) none)),some (.c (.v (.int .i64 (Int.ofNat 0))))] [some (ABlk.mk false false 3 1 (Cs.arr (c.ns) fun k=>List.map AC.v ((fun i=>[Value.int .i64 (c.fs i)]) k))),some (ABlk.mk true false 25 0 (Cs.lit [.v (.int .i64 (c.nodes)),AC.sl 0 0 0 (c.np) none,AC.sl 1 0 0 (c.ns) none,.v (.int .i64 (c.long)),AC.sl 2 0 0 (c.nb) none,AC.sl 3 0 0 (c.nt) none,.v (.int .i64 (c.miss)),.v (.int .i64 (c.good)),.v (.int .i64 (c.fresh))])),some (ABlk.mk true true 4 1 (Cs.arr (Int.toNat ↑(c.np)) fun x=>List.map AC.v (Array.toList (Value.cells (Value.bool false)))))] 52 1008 (mkFr 52 [(2,bo false)]) [] 100000000000000000000000000000000000000000000000000 Exit.ret none]):=by kernel_rfl
theorem sc_yes (c:Cfg) (u:Nat→Bool):scR Tryz.prog c [some (s4A c u),some (s4B (.exit 2) [])]=
 some (.c (.v (.bool true)),[],10000000000000000000000000000000000000000000000000001,[decide (Int.ofNat 0≤ ↑(c.np)∧Int.ofNat (c.np)=Int.ofNat (c.np)∧ ↑(c.np)*Int.ofNat 1≤Int.ofNat 140737488355328),true],[LoopV Tryz.prog (loopAt Tryz.prog 67 1) [3,5] [1005] [some (.c (.sl 1005 0 0 (c.np) none)),some (.c (.v (.int .i64 (Int.ofNat 0))))] [some (ABlk.mk true true 4 1 (Cs.arr (c.np) fun k=>List.map AC.v ((fun i=>[Value.bool (u i)]) k)))] 52 100000000000000000000000000000000000000000000000001 (mkFr 52 []) [] 10000000000000000000000000000000000000000000000000000 (Exit.exit 2) none,LoopV Tryz.prog (loopAt Tryz.prog 67 0) [1,3,4] [1,1000,1005] [some (.c (.ptr 1000 0 0)),some (.c (.sl 1005 0 0 (Int.toNat ↑(c.np)) none)),some (.c (.v (.int .i64 (Int.ofNat 0))))] [some (ABlk.mk false false 3 1 (Cs.arr (c.ns) fun k=>List.map AC.v ((fun i=>[Value.int .i64 (c.fs i)]) k))),some (ABlk.mk true false 25 0 (Cs.lit [.v (.int .i64 (c.nodes)),AC.sl 0 0 0 (c.np) none,AC.sl 1 0 0 (c.ns) none,.v (.int .i64 (c.long)),AC.sl 2 0 0 (c.nb) none,AC.sl 3 0 0 (c.nt) none,.v (.int .i64 (c.miss)),.v (.int .i64 (c.good)),.v (.int .i64 (c.fresh))])),some (ABlk.mk true true 4 1 (Cs.arr (Int.toNat ↑(c.np)) fun x=>List.map AC.v (Array.toList (Value.cells (Value.bool false)))))] 52 1008 (mkFr 52 [(3,.c (.sl 1005 0 0 (c.np) none))]) [(1005,boolsW (c.np) u)] 100000000000000000000000000000000000000000000000000 (Exit.exit 0) none]):=by kernel_rfl
theorem sc_no (c:Cfg) (u:Nat→Bool):scR Tryz.prog c [some (s4A c u),some (s4B .ret [(2,bo false)])]=
 some (.c (.v (.bool false)),[],10000000000000000000000000000000000000000000000000000,[decide (Int.ofNat 0≤ ↑(c.np)∧Int.ofNat (c.np)=Int.ofNat (c.np)∧ ↑(c.np)*Int.ofNat 1≤Int.ofNat 140737488355328),true],[LoopV Tryz.prog (loopAt Tryz.prog 67 1) [3,5] [1005] [some (.c (.sl 1005 0 0 (c.np) none)),some (.c (.v (.int .i64 (Int.ofNat 0))))] [some (ABlk.mk true true 4 1 (Cs.arr (c.np) fun k=>List.map AC.v ((fun i=>[Value.bool (u i)]) k)))] 52 100000000000000000000000000000000000000000000000001 (mkFr 52 [(2,bo false)]) [] 10000000000000000000000000000000000000000000000000000 Exit.ret none,LoopV Tryz.prog (loopAt Tryz.prog 67 0) [1,3,4] [1,1000,1005] [some (.c (.ptr 1000 0 0)),some (.c (.sl 1005 0 0 (Int.toNat ↑(c.np)) none)),some (.c (.v (.int .i64 (Int.ofNat 0))))] [some (ABlk.mk false false 3 1 (Cs.arr (c.ns) fun k=>List.map AC.v ((fun i=>[Value.int .i64 (c.fs i)]) k))),some (ABlk.mk true false 25 0 (Cs.lit [.v (.int .i64 (c.nodes)),AC.sl 0 0 0 (c.np) none,AC.sl 1 0 0 (c.ns) none,.v (.int .i64 (c.long)),AC.sl 2 0 0 (c.nb) none,AC.sl 3 0 0 (c.nt) none,.v (.int .i64 (c.miss)),.v (.int .i64 (c.good)),.v (.int .i64 (c.fresh))])),some (ABlk.mk true true 4 1 (Cs.arr (Int.toNat ↑(c.np)) fun x=>List.map AC.v (Array.toList (Value.cells (Value.bool false)))))] 52 1008 (mkFr 52 [(3,.c (.sl 1005 0 0 (c.np) none))]) [(1005,boolsW (c.np) u)] 100000000000000000000000000000000000000000000000000 (Exit.exit 0) none]):=by kernel_rfl
end Go.Proofs.YtpgaplcdbbnblaaGreatDoor
end
/- sennitref04.pairs: contract. -/
section
namespace Go.Proofs.YtpgaplcdbbnblaaGreatDoor
open Go.RowKit
def nxt4 (c:Cfg) (p:Nat):Int:=Int.tmod (c.fp p+1) c.nodes
def usedF (c:Cfg) (k i:Nat):Bool:=(List.range k).any fun p=>decide (i=(c.fp p).toNat)||decide (i=(nxt4 c p).toNat)
theorem usedF_succ (c:Cfg) (k i:Nat):usedF c (k+1) i=(usedF c k i||(decide (i=(c.fp k).toNat)||decide (i=(nxt4 c k).toNat))):=by
 unfold usedF
 rw[List.range_succ,List.any_append]
 simp
def BadP (c:Cfg) (k:Nat):Prop:=c.fp k<0∨c.nodes≤c.fp k∨(0<k∧c.fp k≤c.fp (k-1))∨usedF c k (c.fp k).toNat=true∨usedF c k (nxt4 c k).toNat=true
theorem nxt4_in (c:Cfg) (k:Nat) (h4:4≤c.nodes) (h0:0≤c.fp k):0≤nxt4 c k∧nxt4 c k<c.nodes:=by
 unfold nxt4
 rw[Int.tmod_eq_emod_of_nonneg (by omega)]
 exact⟨Int.emod_nonneg _ (by omega),Int.emod_lt_of_pos _ (by omega)⟩
theorem pr_sum (c:Cfg) (h4:4≤c.nodes) (h16:c.nodes≤16) (hp:c.np≤1000000) (j:Nat) (hj:j≤c.np) (hmin:∀i,i<j→¬BadP c i) (hyes:j<c.np→BadP c j) {e:Exit} {out:List (Nat × AV)}
 (hF:(j<c.np→e= .ret∧out=[(2,bo false)])∧(j=c.np→e= .exit 0∧out=[])) {eblks:List (Option ABlk)} (heb:BL [ints 3 c.np c.fp,cfgB c,boolsW 16 (usedF c 0)] eblks):
 LoopV Tryz.prog (loopAt Tryz.prog 66 0) [1,3,4] [0,1000,1002] ((r4pV 0).map some) eblks 63 1005 (mkFr 63 out) [] 100000000000000000000000000000000000000000000000000 e none:=by
 refine loop_viewE hE1 (fuel:=300) (str:=10000000000000000000000000000000000000000) (nh:=1000000000000000000000000000000000000000000) (S:=Nat) (fun k=>k≤j) (fun k=>j-k) [1,3,4] [2] [0,1000,1002] r4pV (fun k=>[ints 3 c.np c.fp,cfgB c,boolsW 16 (usedF c k)]) (by decide) (by decide) (by unfold lim;omega) (s0:=0) (by omega) (fun _=>⟨rfl,rfl⟩) (by kernel_rfl) heb (fun k _=>⟨rfl,fun b hb=>?_⟩) ?_
 · simp only[List.mem_cons,List.not_mem_nil,or_false] at hb
   rcases hb with rfl|rfl|rfl
   · exact ints_low
   · exact cfgB_low (by omega)
   · exact wBlk_low
 intro k hk
 have ek:0+Int.toNat (Int.ofNat k)=k:=by simp
 obtain⟨z,hz,hz2⟩:∃z,IntKind.wrap IntKind.i64 (Int.ofNat k-Int.ofNat 1)=z∧(0<k→z=Int.ofNat (k-1)):=⟨_,rfl,fun h=>by rw[wrap_nat _ (by simp;omega) (by simp;omega)];simp;omega⟩
 obtain⟨y,hy,hy2⟩:∃y,Int.tmod (IntKind.wrap IntKind.i64 (Cfg.fp c k+Int.ofNat 1)) (Cfg.nodes c)=y∧(0≤c.fp k→c.fp k<c.nodes→y=nxt4 c k):=⟨_,rfl,fun h1 h2=>by rw[wrap_nat _ (by simp;omega) (by simp;omega)];rfl⟩
 have hin:=nxt4_in c k h4
 have hw:IntKind.wrap IntKind.i64 (Int.ofNat k+Int.ofNat 1)=Int.ofNat (k+1):=by rw[wrap_nat _ (by simp;omega) (by simp;omega)];rfl
 refine(?_:(∃p r,r4pR Tryz.prog c (usedF c k) k p=some r∧_)→_) (r4p c (usedF c k) k (StepV 1005 100000000000000000000000000000000000000000000000000 63 [1,3,4] [2] [0,1000,1002] (fun k=>k≤j) (fun k=>j-k) r4pV (fun k=>[ints 3 c.np c.fp,cfgB c,boolsW 16 (usedF c k)]) e out [] k) ?_)
 · rintro⟨p,r,h1,h2⟩
   exact⟨p,[],r,h1,h2⟩
 · simp only [ek,hz,hy,decide_eq_true_eq,decide_eq_false_iff_not]
   rcases Nat.lt_or_ge k j with hlt|hge
   · have hm:=hmin k hlt
     unfold BadP at hm
     simp only[not_or,not_and,Int.not_lt,Int.not_le,Bool.not_eq_true] at hm
     obtain⟨b1,b2,b3,b4,b5⟩:=hm
     obtain rfl:=hy2 b1 b2
     obtain⟨i1,i2⟩:=hin b1
     simp only[Nat.zero_add,b4,b5]
     repeat' (first|refine⟨fun h=>?_,fun h=>?_⟩|fail)
     all_goals (first|(exfalso;cases h;done)|(exfalso;simp only[Int.ofNat_eq_natCast] at *;omega)|skip)
     · exfalso
       rename_i h0
       have h0':0<k:=by simp only[Int.ofNat_eq_natCast] at h0;omega
       have b3':=b3 h0'
       obtain rfl:=hz2 h0'
       have h9:c.fp k≤c.fp (k-1):=h
       omega
     all_goals refine⟨?_,rfl,by dsimp only;omega,rfl,.inl ⟨rfl,k+1,by omega,by show j-(k+1)<j-k;omega,?_,BEq.refl _,BEq.refl _,⟨rfl,rfl,rfl,rfl,.inr (.inl ⟨16,_,_,rfl,rfl,fun i hi=>?_⟩)⟩,trivial⟩⟩
     all_goals first
      |(dsimp only;rw[hw];rfl)
      | (show _=List.map AC.v [Value.bool (usedF c (k+1) i)]
         rw[usedF_succ]
         by_cases g1:i=(nxt4 c k).toNat
         · simp[g1];split<;>rfl
         · by_cases g2:i=(c.fp k).toNat<;>simp[g1,g2]<;>split<;>rfl)
      | (by_cases h0':0<k
         · have b3':=b3 h0'
           obtain rfl:=hz2 h0'
           simp only[allT,List.forall_mem_cons,inb_arr,inb_lit,b4,b5] at *
           simp at *
           omega
         · simp only[allT,List.forall_mem_cons,inb_arr,inb_lit,b4,b5] at *
           simp at *
           omega)
   · obtain rfl:k=j:=by omega
     rcases Nat.lt_or_ge k c.np with hlt|hge
     · obtain⟨rfl,rfl⟩:=hF.1 hlt
       have hm:=hyes hlt
       unfold BadP at hm
       simp only[Nat.zero_add]
       repeat' (first|refine⟨fun h=>?_,fun h=>?_⟩|fail)
       all_goals (first|(exfalso;simp only[Int.ofNat_eq_natCast] at *;omega)|skip)
       all_goals (first|(have hy3:=hy2 (by simp only[Int.ofNat_eq_natCast] at *;omega) (by simp only[Int.ofNat_eq_natCast] at *;omega);subst hy3;obtain⟨i1,i2⟩:=hin (by simp only[Int.ofNat_eq_natCast] at *;omega))|skip)
       all_goals (first|(have hz3:=hz2 (by simp only[Int.ofNat_eq_natCast] at *;omega);subst hz3)|skip)
       all_goals (first
        | (exfalso
           simp only[Int.ofNat_eq_natCast,Int.toNat_natCast] at *
           rcases hm with hm|hm|⟨hm0,hm⟩|hm|hm<;>first|omega|(simp_all;done))
        | (refine⟨?_,rfl,by dsimp only;omega,rfl,.inr ⟨by simp,rfl,fun q hq=>?_,fun p hpp=>(by cases hpp)⟩⟩
           · simp only[allT,List.forall_mem_cons,inb_arr,inb_lit]
             simp only[Int.ofNat_eq_natCast,Int.toNat_natCast] at *
             simp
             first|omega|(and_intros<;>first|assumption|omega)
           · rw[List.mem_singleton.1 hq]
             exact⟨rfl,by simp[bo]⟩))
     · obtain rfl:k=c.np:=by omega
       obtain⟨rfl,rfl⟩:=hF.2 rfl
       refine⟨fun h=>?_,fun h=>?_⟩
       · exfalso;simp at h
       · refine⟨by simp[allT],rfl,by dsimp only;omega,rfl,.inr ⟨by simp,rfl,fun q hq=>(by cases hq),fun p hpp=>(by cases hpp)⟩⟩
end Go.Proofs.YtpgaplcdbbnblaaGreatDoor
end
/- sennitref04: pairs, slots, Within: contracts. -/
section
namespace Go.Proofs.YtpgaplcdbbnblaaGreatDoor
open Go.RowKit
instance (c:Cfg) (k:Nat):Decidable (BadP c k):=by unfold BadP;infer_instance
def pairs4 (c:Cfg):Bool:=(List.range c.np).all fun k=>decide (¬BadP c k)
def okPr (c:Cfg):Bool:=decide (4≤c.nodes∧c.nodes≤16∧c.np≤1000000)
theorem all_stop {n:Nat} {q:Nat→Prop} [∀k,Decidable (q k)] {j:Nat} (hj:j<n) (h:q j):((List.range n).all fun k=>decide (¬q k))=false:=by
 cases e:(List.range n).all fun k=>decide (¬q k) with
 |false=>rfl
 |true=>
  have:=List.all_eq_true.1 e j (by simpa using hj)
  exact absurd h (of_decide_eq_true this)
theorem all_end {n:Nat} {q:Nat→Prop} [∀k,Decidable (q k)] (h:∀i,i<n→¬q i):((List.range n).all fun k=>decide (¬q k))=true:=
 List.all_eq_true.2 fun i hi=>decide_eq_true (h i (by simpa using hi))
theorem first_stopP (n:Nat) (q:Nat→Prop) [∀k,Decidable (q k)]:∃j,j≤n∧(∀i,i<j→¬q i)∧(j<n→q j):=by
 obtain⟨j,h1,h2,h3⟩:=first_stop n fun k=>decide (q k)
 exact⟨j,h1,fun i hi=>of_decide_eq_false (h2 i hi),fun h=>of_decide_eq_true (h3 h)⟩
theorem bo_keep (b:Bool) (β1 β2:Nm) (u:Value) (h:γ β1 (bo b)=some u):γ β2 (bo b)=some u:=h
theorem ct_pairs4:CtOk Tryz.prog 66 (ctCfg (fun c=>bo (pairs4 c)) okPr):=by
 refine ctCfg_of (E:=E1 Tryz.prog) (fuel:=300) (str:=10000000000000000000000000000000000000000) hE1 ⟨_,_,Tryz.func66,rfl⟩ (fun c=>bo_keep _) fun c hp=>?_
 obtain⟨h4,h16,hn⟩:=of_decide_eq_true hp
 obtain⟨j,hj,hmin,hyes⟩:=first_stopP c.np (BadP c)
 rcases Nat.lt_or_ge j c.np with h|h
 · refine⟨_,_,_,pc_no c,?_,by dsimp only;unfold lim;omega,by simp[allT],fun q hq=>?_⟩
   · show bo false=bo (pairs4 c)
     unfold pairs4
     rw[all_stop h (hyes h)]
   · rw[List.mem_singleton.1 hq]
     exact pr_sum c h4 h16 hn j hj hmin hyes ⟨fun _=>⟨rfl,rfl⟩,fun h=>by omega⟩ ⟨BEq.refl _,BEq.refl _,⟨rfl,rfl,rfl,rfl,.inr (.inl ⟨_,_,_,rfl,rfl,fun i hi=>rfl⟩)⟩,trivial⟩
 · obtain rfl:j=c.np:=by omega
   refine⟨_,_,_,pc_yes c,?_,by dsimp only;unfold lim;omega,by simp[allT],fun q hq=>?_⟩
   · show bo true=bo (pairs4 c)
     unfold pairs4
     rw[all_end hmin]
   · rw[List.mem_singleton.1 hq]
     exact pr_sum c h4 h16 hn c.np hj hmin hyes ⟨fun h=>by omega,fun _=>⟨rfl,rfl⟩⟩ ⟨BEq.refl _,BEq.refl _,⟨rfl,rfl,rfl,rfl,.inr (.inl ⟨_,_,_,rfl,rfl,fun i hi=>rfl⟩)⟩,trivial⟩
/-! ### slots -/
def hasQ (c:Cfg) (k i:Nat):Bool:=(List.range k).any fun p=>decide (i=(c.fs p).toNat)
theorem hasQ_succ (c:Cfg) (k i:Nat):hasQ c (k+1) i=(hasQ c k i||decide (i=(c.fs k).toNat)):=by
 unfold hasQ
 rw[List.range_succ,List.any_append]
 simp
def BadS (c:Cfg) (k:Nat):Prop:=c.fs k<0∨(c.np:Int)≤c.fs k
instance (c:Cfg) (k:Nat):Decidable (BadS c k):=by unfold BadS;infer_instance
theorem sl_sum (c:Cfg) (hn:c.ns≤1000000) (j:Nat) (hj:j≤c.ns) (hmin:∀i,i<j→¬BadS c i) (hyes:j<c.ns→BadS c j) {e:Exit} {out:List (Nat × AV)} {mF:AMem}
 (hF:(j<c.ns→e= .ret∧out=[(2,bo false)]∧mF=[])∧(j=c.ns→e= .exit 0∧out=[(3,.c (.sl 1005 0 0 c.np none))]∧mF=[(1005,boolsW c.np (hasQ c c.ns))])) {eblks:List (Option ABlk)} (heb:BL [ints 3 c.ns c.fs,cfgB c,boolsW c.np (hasQ c 0)] eblks):
 LoopV Tryz.prog (loopAt Tryz.prog 67 0) [1,3,4] [1,1000,1005] ((r4sV c 0).map some) eblks 52 1008 (mkFr 52 out) mF 100000000000000000000000000000000000000000000000000 e none:=by
 refine loop_viewE hE1 (fuel:=300) (str:=10000000000000000000000000000000000000000) (nh:=1000000000000000000000000000000000000000000) (S:=Nat) (fun k=>k≤j) (fun k=>j-k) [1,3,4] [2] [1,1000,1005] (r4sV c) (fun k=>[ints 3 c.ns c.fs,cfgB c,boolsW c.np (hasQ c k)]) (by decide) (by decide) (by unfold lim;omega) (s0:=0) (by omega) (fun _=>⟨rfl,rfl⟩) (by kernel_rfl) heb (fun k _=>⟨rfl,fun b hb=>?_⟩) ?_
 · simp only[List.mem_cons,List.not_mem_nil,or_false] at hb
   rcases hb with rfl|rfl|rfl
   · exact ints_low
   · exact cfgB_low (by omega)
   · exact wBlk_low
 intro k hk
 have ek:0+Int.toNat (Int.ofNat k)=k:=by simp
 have hw:IntKind.wrap IntKind.i64 (Int.ofNat k+Int.ofNat 1)=Int.ofNat (k+1):=by rw[wrap_nat _ (by simp;omega) (by simp;omega)];rfl
 refine(?_:(∃p r,r4sR Tryz.prog c (hasQ c k) k p=some r∧_)→_) (r4s c (hasQ c k) k (StepV 1008 100000000000000000000000000000000000000000000000000 52 [1,3,4] [2] [1,1000,1005] (fun k=>k≤j) (fun k=>j-k) (r4sV c) (fun k=>[ints 3 c.ns c.fs,cfgB c,boolsW c.np (hasQ c k)]) e out mF k) ?_)
 · rintro⟨p,r,h1,h2⟩
   exact⟨p,[],r,h1,h2⟩
 · simp only [ek,Nat.zero_add,decide_eq_true_eq,decide_eq_false_iff_not]
   rcases Nat.lt_or_ge k j with hlt|hge
   · have hm:=hmin k hlt
     unfold BadS at hm
     simp only[not_or,Int.not_lt,Int.not_le] at hm
     obtain⟨b1,b2⟩:=hm
     repeat' (first|refine⟨fun h=>?_,fun h=>?_⟩|fail)
     all_goals (first|(exfalso;simp only[Int.ofNat_eq_natCast] at *;omega)|skip)
     refine⟨?_,rfl,by dsimp only;omega,rfl,.inl ⟨rfl,k+1,by omega,by show j-(k+1)<j-k;omega,?_,BEq.refl _,BEq.refl _,⟨rfl,rfl,rfl,rfl,.inr (.inl ⟨c.np,_,_,rfl,rfl,fun i hi=>?_⟩)⟩,trivial⟩⟩
     · simp only[allT,List.forall_mem_cons,inb_arr,inb_lit]
       simp only[Int.ofNat_eq_natCast,Int.toNat_natCast] at *
       simp
       omega
     · dsimp only;rw[hw];rfl
     · show _=List.map AC.v [Value.bool (hasQ c (k+1) i)]
       rw[hasQ_succ]
       by_cases g1:i=(c.fs k).toNat
       · simp[g1];rfl
       · simp[g1]
   · obtain rfl:k=j:=by omega
     rcases Nat.lt_or_ge k c.ns with hlt|hge
     · obtain⟨rfl,rfl,rfl⟩:=hF.1 hlt
       have hm:=hyes hlt
       unfold BadS at hm
       repeat' (first|refine⟨fun h=>?_,fun h=>?_⟩|fail)
       all_goals (first
        |(exfalso;simp only[Int.ofNat_eq_natCast] at *;omega)
        | (refine⟨?_,rfl,by dsimp only;omega,rfl,.inr ⟨by simp,rfl,fun q hq=>?_,fun p hpp=>(by cases hpp)⟩⟩
           · simp only[allT,List.forall_mem_cons,inb_arr,inb_lit]
             simp only[Int.ofNat_eq_natCast,Int.toNat_natCast] at *
             simp
             omega
           · rw[List.mem_singleton.1 hq]
             exact⟨rfl,by simp[bo]⟩))
     · obtain rfl:k=c.ns:=by omega
       obtain⟨rfl,rfl,rfl⟩:=hF.2 rfl
       refine⟨fun h=>?_,fun h=>?_⟩
       · exfalso;simp at h
       · refine⟨by simp[allT],rfl,by dsimp only;omega,rfl,.inr ⟨by simp,rfl,fun q hq=>?_,fun p hpp=>?_⟩⟩
         · rw[List.mem_singleton.1 hq]
           exact⟨rfl,by simp[lkA]⟩
         · rw[List.mem_singleton.1 hpp]
           exact⟨rfl,wBlk_low,_,(by simp;rfl),BEq.refl _⟩
theorem st_sum (c:Cfg) (u:Nat→Bool) (hn:c.np≤1000000) (j:Nat) (hj:j≤c.np) (hmin:∀i,i<j→u i=true) (hyes:j<c.np→u j=false) {e:Exit} {out:List (Nat × AV)}
 (hF:(j<c.np→e= .ret∧out=[(2,bo false)])∧(j=c.np→e= .exit 2∧out=[])):
 LoopV Tryz.prog (loopAt Tryz.prog 67 1) [3,5] [1005] ((r4tV c 0).map some) ([boolsW c.np u].map some) 52 100000000000000000000000000000000000000000000000001 (mkFr 52 out) [] 10000000000000000000000000000000000000000000000000000 e none:=by
 refine scan_ob hE1 (fuel:=300) (str:=10000000000000000000000000000000000000000) (nh:=1000000000000000000000000000000000000000000000000000) [3,5] [2] [1005] (r4tV c) [boolsW c.np u] j (by decide) (by decide) (by unfold lim;omega) ?_ (fun _=>⟨rfl,rfl⟩) (by kernel_rfl) (fun k _=>rfl) ?_ ?_ ?_
 · rcases Nat.lt_or_ge j c.np with h|h
   · rw[(hF.1 h).1];simp
   · rw[(hF.2 (by omega)).1];simp
 · intro b hb
   rw[List.mem_singleton.1 hb]
   exact wBlk_low
 · intro k hk
   have hm:=hmin k hk
   have hw:IntKind.wrap IntKind.i64 (Int.ofNat k+Int.ofNat 1)=Int.ofNat (k+1):=by rw[wrap_nat _ (by simp;omega) (by simp;omega)];rfl
   have ek:0+Int.toNat (Int.ofNat k)=k:=by simp
   refine r4t c u k _ ?_
   simp only[ek]
   refine⟨fun c1=>⟨fun c2=>?_,fun c2=>?_⟩,fun c1=>?_⟩
   · simp[hm] at c2
   · refine⟨⟨?_,rfl,by dsimp only;omega,rfl⟩,rfl,?_,BL.refl _⟩
     · simp[allT,inb_arr,hm];omega
     · dsimp only;rw[hw];rfl
   · simp at c1;omega
 · have ek:0+Int.toNat (Int.ofNat j)=j:=by simp
   refine r4t c u j _ ?_
   simp only[ek]
   refine⟨fun c1=>⟨fun c2=>?_,fun c2=>?_⟩,fun c1=>?_⟩
   · have hlt:j<c.np:=by simpa using c1
     obtain⟨rfl,rfl⟩:=hF.1 hlt
     refine EndV_one ⟨?_,rfl,by dsimp only;omega,rfl⟩ rfl rfl (by simp[bo])
     simp[allT,inb_arr,hyes hlt,hlt]
   · have hlt:j<c.np:=by simpa using c1
     simp[hyes hlt] at c2
   · have hlt:¬j<c.np:=by simpa using c1
     obtain⟨rfl,rfl⟩:=hF.2 (by omega)
     refine EndV_nil ⟨?_,rfl,by dsimp only;omega,rfl⟩ rfl
     simp[allT];omega
def slots4 (c:Cfg):Bool:=((List.range c.ns).all fun k=>decide (¬BadS c k))&&(List.range c.np).all fun i=>decide (¬(hasQ c c.ns i=false))
def okSl (c:Cfg):Bool:=decide (c.np≤1000000∧c.ns≤1000000)
theorem ct_slots4:CtOk Tryz.prog 67 (ctCfg (fun c=>bo (slots4 c)) okSl):=by
 refine ctCfg_of (E:=E1 Tryz.prog) (fuel:=300) (str:=10000000000000000000000000000000000000000) hE1 ⟨_,_,Tryz.func67,rfl⟩ (fun c=>bo_keep _) fun c hp=>?_
 obtain⟨hnp,hns⟩:=of_decide_eq_true hp
 have heb:BL [ints 3 c.ns c.fs,cfgB c,boolsW c.np (hasQ c 0)] [some (ints 3 c.ns c.fs),some (cfgB c),some (ABlk.mk true true 4 1 (Cs.arr (Int.toNat ↑(Cfg.np c)) fun x=>List.map AC.v (Array.toList (Value.cells (Value.bool false)))))]:=⟨BEq.refl _,BEq.refl _,⟨rfl,rfl,rfl,rfl,.inr (.inl ⟨_,_,_,rfl,rfl,fun i hi=>rfl⟩)⟩,trivial⟩
 obtain⟨j,hj,hmin,hyes⟩:=first_stopP c.ns (BadS c)
 rcases Nat.lt_or_ge j c.ns with h|h
 · refine⟨_,_,_,sc_bad c,?_,by dsimp only;unfold lim;omega,?_,fun q hq=>?_⟩
   · show bo false=bo (slots4 c)
     unfold slots4
     rw[all_stop h (hyes h)]
     rfl
   · simp[allT];omega
   · rw[List.mem_singleton.1 hq]
     exact sl_sum c hns j hj hmin hyes ⟨fun _=>⟨rfl,rfl,rfl⟩,fun h=>by omega⟩ heb
 · obtain rfl:j=c.ns:=by omega
   have hs:=sl_sum c hns c.ns hj hmin hyes ⟨fun h=>by omega,fun _=>⟨rfl,rfl,rfl⟩⟩ heb
   obtain⟨i,hi,him,hiy⟩:=first_stopP c.np fun i=>hasQ c c.ns i=false
   have him':∀k,k<i→hasQ c c.ns k=true:=fun k hk=>by simpa using him k hk
   rcases Nat.lt_or_ge i c.np with h2|h2
   · refine⟨_,_,_,sc_no c (hasQ c c.ns),?_,by dsimp only;unfold lim;omega,?_,fun q hq=>?_⟩
     · show bo false=bo (slots4 c)
       unfold slots4
       rw[all_stop h2 (hiy h2),Bool.and_false]
     · simp[allT];omega
     · simp only[List.mem_cons,List.not_mem_nil,or_false] at hq
       rcases hq with rfl|rfl
       · exact st_sum c (hasQ c c.ns) hnp i hi him' hiy ⟨fun _=>⟨rfl,rfl⟩,fun h=>by omega⟩
       · exact hs
   · obtain rfl:i=c.np:=by omega
     refine⟨_,_,_,sc_yes c (hasQ c c.ns),?_,by dsimp only;unfold lim;omega,?_,fun q hq=>?_⟩
     · show bo true=bo (slots4 c)
       unfold slots4
       rw[all_end hmin,all_end him]
       rfl
     · simp[allT];omega
     · simp only[List.mem_cons,List.not_mem_nil,or_false] at hq
       rcases hq with rfl|rfl
       · exact st_sum c (hasQ c c.ns) hnp c.np hi him' hiy ⟨fun h=>by omega,fun _=>⟨rfl,rfl⟩⟩
       · exact hs
end Go.Proofs.YtpgaplcdbbnblaaGreatDoor
end
/- The examples of layer 22 as the evaluator runs them. -/
section
namespace Go.Proofs.YtpgaplcdbbnblaaGreatDoor
open Go.RowKit
def lv22 (P:Program):Option VF:=viewF [] (fCallF (E1 P) (fC (E1 P) 300) 14 [] 10 10000000000000000000000000000000000000000 (stC mS))
theorem lv22_run:lv22 Tryz.prog=
 some (.c (.v (.bool true)),[],5730000000000000000000000000000000000003141,[],[]):=by kernel_rfl
end Go.Proofs.YtpgaplcdbbnblaaGreatDoor
end
