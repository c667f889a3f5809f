/- Parts of a proof. -/
import Derived.Test.YtljeokninakliaaGreatDoorJModelsCrew20
import Derived.Test.YtljeokninakliaaGreatDoorJModelsCrew21
set_option linter.unusedSimpArgs false
set_option linter.unusedVariables false
section
namespace Go.Proofs.YtljeokninakliaaGreatDoor
open Go.RowKit Tryz
abbrev PM:=List (Payload × Nat)
def PM.enc (m:PM):List (List Value × Value):=m.map fun p=>(p.1.cells,.int .i64 (p.2:Int))
def PM.find (p:Payload):PM->Nat->Option (Nat × Nat)
 | [],_=>none
 |(q,c)::r,i=>if p=q then some (i,c) else PM.find p r (i+1)
def PM.cnt (m:PM) (p:Payload):Nat:=((m.find p 0).map (·.2)).getD 0
def PM.inc (m:PM) (p:Payload):PM:=match m.find p 0 with
 |some (i,c)=>m.set i (p,c+1)
 |none=>m++[(p,1)]
theorem LB (p:Payload):∀(m:PM) (i:Nat),Yl p.cells m.enc i=(PM.find p m i).map fun z=>(z.1,.int .i64 (z.2:Int))
 | [],_=>rfl
 | (q,c)::r,i=>by
  show Yl p.cells ((q.cells,_)::PM.enc r) i=_;unfold Yl PM.find;by_cases h:p=q
  . subst h;simp
  . rw[if_neg (fun e=>h (Payload.inj e)),if_neg h]
    exact LB p r (i+1)
theorem IA {p:Payload}:∀{m:PM} {i0 i c:Nat},PM.find p m i0=some (i,c)->i0<=i/\m[i-i0]? =some (p,c)
 | [],_,_,_,h=>by simp[PM.find] at h
 | (q,c')::r,i0,i,c,h=>by
  unfold PM.find at h;split at h
  . rename_i hx;cases h;subst hx;simp
  . obtain⟨h1,h2⟩:=IA h
    refine⟨by omega,?_⟩;rw[show i-i0=(i-(i0+1))+1 by omega];simpa using h2
theorem DS {p q:Payload} {c':Nat}:∀{m:PM} {i0 i c:Nat},PM.find p m i0=some (i,c)->PM.find q (m.set (i-i0) (p,c')) i0=if q=p then some (i,c') else PM.find q m i0
 | [],_,_,_,h=>by simp[PM.find] at h
 | (r,d)::m,i0,i,c,h=>by
  unfold PM.find at h;split at h
  . rename_i hx;cases h;subst hx
    simp only[Nat.sub_self,List.set_cons_zero,PM.find];split<;>rfl
  . rename_i hx
    have h1:=(IA h).1;rw[show i-i0=(i-(i0+1))+1 by omega,List.set_cons_succ];simp only[PM.find,DS (q:=q) h];by_cases hq:q=p
    . subst hq;simp[hx]
    . simp[hq]
theorem HO {p q:Payload} {c':Nat}:∀{m:PM} {i0:Nat},PM.find p m i0=none->PM.find q (m++[(p,c')]) i0=if q=p then some (i0+m.length,c') else PM.find q m i0
 | [],_,_=>by simp[PM.find]
 | (r,d)::m,i0,h=>by
  unfold PM.find at h;split at h
  . cases h
  . rename_i hx
    simp only[List.cons_append,PM.find,HO (q:=q) h,List.length_cons];by_cases hq:q=p
    . subst hq;simp[hx];omega
    . simp[hq]
theorem cnt_inc (m:PM) (p q:Payload):(m.inc p).cnt q=if q=p then m.cnt p+1 else m.cnt q:=by
 unfold PM.inc
 cases hf:PM.find p m 0 with
 |none=>
  simp only[PM.cnt,HO hf,hf];split<;>simp
 |some z=>
  obtain⟨i,c⟩:=z;have:=DS (q:=q) (c':=c+1) hf;rw[Nat.sub_zero] at this;simp only[PM.cnt,this,hf];split<;>simp
theorem payT:MapT prog 141 49 3 (.int .i64 0) Payload.ks 3 3 where
 ht:=by kernel_rfl
 hk:=by kernel_rfl
 hn:=by omega
 hm:=by omega
 hagg:=by kernel_rfl
 hwide:=by kernel_rfl
 hkt:=by kernel_rfl
 hz:=fun w=>by go_simp
 hlen:=by kernel_rfl
theorem Ia (m:PM):∀p∈m.enc,ZK Payload.ks p.1:=by
 intro p hp;obtain⟨q,_,rfl⟩:=List.mem_map.1 hp;exact q.1.shape
theorem bump (m:PM) (p:Payload) (hp:Flat Payload.ks p.cells) (b:Nat):∃(es1:List (List Value × Value)) (idx:Nat),
 (∀y:World,MBlk y b m.enc->(Instr.lookup 141 (.map (some b)) (.agg p.cells.toArray) false).run prog y= .ok (.int .i64 (m.cnt p:Int)) y)/\
 (∀y:World,MBlk y b m.enc->(Instr.mapEntry 141 (.map (some b)) (.agg p.cells.toArray)).run prog y= .ok (.tuple #[.int .i64 (m.cnt p:Int),.int .i64 idx]) (setM y b es1))/\
 (∀y:World,MBlk y b es1->(Instr.lookup 141 (.map (some b)) (.agg p.cells.toArray) false).run prog y= .ok (.int .i64 (m.cnt p:Int)) y)/\
 (∀y:World,MBlk y b es1->(Instr.entryStore 141 (.map (some b)) (.int .i64 idx) (.int .i64 ((m.cnt p:Int)+1))).run prog y= .ok () (setM y b (m.inc p).enc))/\
 (∀y:World,MBlk y b m.enc->MBlk (setM y b es1) b es1)/\(m.inc p).cnt p=m.cnt p+1:=by
 have hlk:∀(m:PM) (y:World),MBlk y b m.enc->(Instr.lookup 141 (.map (some b)) (.agg p.cells.toArray) false).run prog y= .ok (.int .i64 (m.cnt p:Int)) y:=by
  intro m y hy;rw[payT.lookup hy (Ia m) hp,LB];unfold PM.cnt;cases PM.find p m 0<;>simp
 cases hf:PM.find p m 0 with
 |none=>
  have hc:m.cnt p=0:=by simp[PM.cnt,hf]
  have hfc:Yl p.cells m.enc 0=none:=by rw[LB,hf];rfl
  have he:m.enc++[(p.cells,.int .i64 0)]=PM.enc (m++[(p,0)]):=by simp[PM.enc]
  have hl:m.enc.length=m.length:=by simp[PM.enc]
  refine⟨PM.enc (m++[(p,0)]),m.length,hlk m,fun y hy=>?_,fun y hy=>?_,fun y hy=>?_,fun y hy=>hy.set _,by rw[cnt_inc];simp⟩
  . rw[payT.entry_new hy (Ia m) hp hfc,he,hl,hc];rfl
  . rw[hlk _ y hy]
    congr 3;simp[PM.cnt,HO hf,hf]
  . rw[KV hy (xs:=p.cells) (v:=.int .i64 0) (by simp[PM.enc]),hc]
    congr 2;simp[PM.inc,hf,PM.enc]
 |some z=>
  obtain⟨i,c⟩:=z;have hc:m.cnt p=c:=by simp[PM.cnt,hf]
  have hfc:Yl p.cells m.enc 0=some (i,.int .i64 (c:Int)):=by rw[LB,hf];rfl
  have hat:=(IA hf).2;rw[Nat.sub_zero] at hat;refine⟨m.enc,i,hlk m,fun y hy=>?_,hlk m,fun y hy=>?_,fun y hy=>hy.set _,by rw[cnt_inc];simp⟩
  . rw[payT.entry_at hy (Ia m) hp hfc,hc]
    congr 1;exact(HG hy).symm
  . rw[KV hy (xs:=p.cells) (v:=.int .i64 (c:Int)) (by simp[PM.enc,hat]),hc]
    congr 2;simp[PM.inc,hf,PM.enc,List.map_set]
end Go.Proofs.YtljeokninakliaaGreatDoor
end
