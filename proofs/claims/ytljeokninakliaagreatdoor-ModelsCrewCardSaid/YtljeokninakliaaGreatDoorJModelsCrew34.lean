/- Parts of a proof. -/
import Derived.Test.YtljeokninakliaaGreatDoorJModelsCrew33
import Derived.Test.YtljeokninakliaaGreatDoorJModelsCrew16
import Derived.Test.YtljeokninakliaaGreatDoorRows
import Derived.LaidMore
set_option linter.unusedSimpArgs false
set_option linter.unusedVariables false
section
namespace Go.Proofs.YtljeokninakliaaGreatDoor
open Go.RowKit
theorem jjcy {H:Type} {enc:TypeId × Value->H} {P:Program} {w:World} {base:Nat} {spare:Nat->Bool} {held:Bool} {t e b:TypeId} {n m fuel:Nat} {cs:List Value} {rows:List (List Bool)} {ps:List MemPlace} (ht:P.underlying t=some (.array n e)) (he:P.underlying e=some (.array m b)) (hb:P.underlying b=some .bool) (hce:P.cellsOf e=m) (hcb:P.cellsOf b=1)
 (hrow:∀r∈rows,r.length=m) (h:DataW.trod enc P w base spare held fuel t cs=some (.agg (rows.map fun r=>.agg (r.map fun x=>.lit (.bool x))),ps)):
 ∀i j,i<n->j<m->cs[i*m+j]? =some (.bool ((rows.getD i []).getD j false)):=by
 intro i j hi hj;obtain⟨xs,k,rfl,hx,hl,hxl,hf⟩:=DataW.trod_array ht h;simp only[Prod.mk.injEq,DataW.agg.injEq] at hx;have hxi:i<xs.length:=by omega
 have hrl:rows.length=n:=by have:=congrArg List.length hx.1;simp at this;omega
 have h1:=hf i hi;rw[List.getElem?_eq_getElem hxi] at h1
 have hd:(xs[i]).1= .agg ((rows.getD i []).map fun x=>.lit (.bool x)):=by
  have:=congrArg (·[i]?) hx.1;simp only[List.getElem?_map,List.getElem?_eq_getElem hxi,List.getElem?_eq_getElem (show i<rows.length by omega),Option.map_some,Option.some.injEq] at this;rw[<- this];simp[List.getD,show i<rows.length by omega]
 rw[show xs[i]=((xs[i]).1,(xs[i]).2) from rfl,hd] at h1;have hlr:(rows.getD i []).length=m:=hrow _ (by simp[List.getD,show i<rows.length by omega]);generalize rows.getD i []=R at h1 hlr hd ⊢;obtain⟨ys,k2,rfl,hy,hl2,hyl,hf2⟩:=DataW.trod_array he h1;simp only[Prod.mk.injEq,DataW.agg.injEq] at hy;have h2:=hf2 j hj;have hyj:j<ys.length:=by omega
 rw[List.getElem?_eq_getElem hyj,hcb,hce] at h2;obtain⟨v,hv,hv2⟩:=DataW.trod_bool hb h2
 have hvb:v=R.getD j false:=by
  have:=congrArg (·[j]?) hy.1;simp only[List.getElem?_map,List.getElem?_eq_getElem hyj,List.getElem?_eq_getElem (show j<R.length by omega),Option.map_some,Option.some.injEq,hv2] at this;simp only[DataW.lit.injEq,Lit.bool.injEq] at this;rw[<- this];simp[List.getD,List.getElem?_eq_getElem (show j<R.length by omega)]
 have:=congrArg (·[0]?) hv;simp only[List.getElem?_take,List.getElem?_drop,Nat.mul_one,Nat.zero_lt_one,if_true,Nat.add_zero,List.getElem?_cons_zero,show j<m from hj] at this;rw[this,hvb]
theorem jja6 {w:World} {rest:List (String × DataW Unit)} (h:laidMet Tryz.prog (("sennit/modes.edges",Rows.laid_sennit_modes_edges)::rest) w):VS w (Z2 1,Za):=by
 obtain⟨ps,⟨g',t',cs,fuel,p,q,hg',ht',hvar,hd,_,_⟩,_⟩:=h;obtain rfl:=Option.some.inj ((show Tryz.prog.globalNamed "sennit/modes.edges" =some 1 by kernel_rfl).symm.trans hg');obtain rfl:=Option.some.inj ((show (Tryz.prog.globals[1]?).map (·.type)=some 198 by kernel_rfl).symm.trans ht');have hc:=jjcy (rows:=[[true,true,true,true,true],[false,true,true,true,true],[false,true,true,true,true],[false,false,true,true,true],[false,false,false,true,true]]) Tryz.underlying198 Tryz.underlying197 Tryz.underlying4 (by kernel_rfl) (by kernel_rfl) (by decide) hd;refine⟨1,_,rfl,rfl,rfl,rfl,rfl,by decide,fun j hj=>?_⟩;have hj:j<25:=hj;have h1:=hc (j / 5) (j % 5) (by omega) (by omega);have e:j / 5*5+j % 5=j:=by omega
 rw[e] at h1;have h2:=World.var?_cell (show Tryz.prog.globalNamed "sennit/modes.edges" =some 1 by kernel_rfl) hvar j;rw[<- Array.getElem?_toList,h1] at h2;refine⟨_,?_,rfl,h2⟩;clear h1 h2 hc
 match j,hj with
 |0,_=>rfl
 |1,_=>rfl
 |2,_=>rfl
 |3,_=>rfl
 |4,_=>rfl
 |5,_=>rfl
 |6,_=>rfl
 |7,_=>rfl
 |8,_=>rfl
 |9,_=>rfl
 |10,_=>rfl
 |11,_=>rfl
 |12,_=>rfl
 |13,_=>rfl
 |14,_=>rfl
 |15,_=>rfl
 |16,_=>rfl
 |17,_=>rfl
 |18,_=>rfl
 |19,_=>rfl
 |20,_=>rfl
 |21,_=>rfl
 |22,_=>rfl
 |23,_=>rfl
 |24,_=>rfl
 |n+25,h=>exact absurd h (by omega)
end Go.Proofs.YtljeokninakliaaGreatDoor
end
