/- Parts of a proof. -/
import Derived.Test.YtljeokninakliaaGreatDoorJModelsCrew1
import Derived.Maps.AppendAt
import Derived.Deep.AppendLies
set_option linter.unusedSimpArgs false
set_option linter.unusedVariables false
section
namespace Go.Proofs.YtljeokninakliaaGreatDoor
open Go.RowKit
section
variable {P:Program} (w:World)
theorem jj86 (base:Nat) (t ty e:TypeId) (i:TypeInfo) (size:Nat) (ht:P.underlying t=some (.slice e)) (hi:P.info? e=some i)
 (v:Value) (n:Nat) (xs:List Value) (hown:w.ownsRow base e size v n xs) (c:Nat):(Builtin.append_ #[t,t] ty #[v,.slice none 0 c]).run P w= .ok v w:=by
 rcases hown.2 with⟨rfl,rfl⟩|⟨g,cap,cur,rfl,_,_,hnc,_⟩
 . simp[Builtin.append_,run_underlying ht,sizeOf,typeInfo,hi,Builtin.lenOf,Builtin.firstCells]
 . simp[Builtin.append_,run_underlying ht,sizeOf,typeInfo,hi,Builtin.lenOf,Builtin.firstCells,hnc,storeCells]
theorem jj8k (base:Nat) (t ty e:TypeId) (i:TypeInfo) (z:Value) (size:Nat) (ht:P.underlying t=some (.slice e)) (hi:P.info? e=some i) (hz:i.zero=some z)
 (hsize:i.size=size) (hzs:z.cells.size=size) (hsz:0<size)
 (v:Value) (n:Nat) (xs:List Value) (hown:w.ownsRow base e size v n xs)
 (B:Nat) (A:Option Addr) (m c:Nat) (news:List Value) (hr:Sl w B size A m news) (h1:YL news=true)
 (h63:n+m<=maxLen) (hbytes:(n+m)*i.bytes<=140737488355328) (hbase:base<=w.heap.size):
 ∃v' w',(Builtin.append_ #[t,t] ty #[v,.slice A m c]).run P w= .ok v' w'/\w'.ownsRow base e size v' (n+m) (xs++news)/\w.grownBy w' v.ownBlock/\
  (v'.ownBlock=v.ownBlock\/v'.ownBlock=some w.heap.size):=by
 have hone:∀u∈news,u.oneCell'=true:=List.all_eq_true.1 h1
 cases A with
 | none=>
  have hm:m=0:=by
   rcases Nat.eq_zero_or_pos m with h0|h0
   . exact h0
   . obtain⟨b,o,h,_⟩:=hr.at_ h0;cases h
  subst hm;obtain rfl:news=[]:=List.eq_nil_of_length_eq_zero (by simpa using hr.len);exact⟨v,w,jj86 w base t ty e i size ht hi v n xs hown c,by simpa using hown,World.grownBy.refl w _,.inl rfl⟩
 | some ad=>
  have hcells:∀j u,news[j]? =some u->w.cell? (ad.add j)=some u:=by
   intro j u hu;rcases Nat.eq_zero_or_pos m with h0|h0
   . subst h0
     obtain rfl:news=[]:=List.eq_nil_of_length_eq_zero (by simpa using hr.len);simp at hu
   . obtain⟨b,o,h,_,hc⟩:=hr.at_ h0
     injection h with h;subst h;rw[Addr.add_lit];exact hc j u hu
  obtain⟨v',w',hrun,h2,h3,_,h5⟩:=run_append_own_at (P:=P) w base t ty e i z size i.bytes ht hi hz hsize rfl hzs hsz v n xs hown ad m c news hr.len hcells hone h63 hbytes hbase;exact⟨v',w',hrun,h2,h3,h5⟩
end
end Go.Proofs.YtljeokninakliaaGreatDoor
end
