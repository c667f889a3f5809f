/- Parts of a proof. -/
import Derived.WalkKit
import Derived.WalkLawsBesides
import Derived.WalkSpells
import Derived.ProofKit
import Derived.OpenShut
import Derived.ChangeOld
import Derived.Below
import Derived.Lib.Hide
import Derived.SizedLaws
import Derived.Deep.QuietTactic
import Derived.BigQuiet
set_option linter.unusedSimpArgs false
set_option linter.unusedVariables false
section
namespace Go.Proofs.YtljeokninakliaaGreatDoor
open Go.RowKit Go.WideShapes Go.ChangeShapes Go.ChangeAt
theorem jjjc {a b:Bool} (h:a=b):Ending.returned (.bool a)= .returned (.bool b):=by rw[h]
structure Sl (w:World) (B sz:Nat) (A:Option Addr) (n:Nat) (xs:List Value):Prop where
 len:xs.length=n*sz
 at_:0<n->∃b o,A=some ⟨b,o,none⟩/\b<B/\∀i u,xs[i]? =some u->w.cell? ⟨b,o+i,none⟩=some u
section
variable {w w':World} {B B' sz n:Nat} {A:Option Addr} {xs:List Value}
theorem Sl.nil:Sl w B sz A 0 []:=⟨by simp,fun h=>absurd h (by omega)⟩
theorem Sl.keep (h:Sl w B sz A n xs) (hk:∀b o,b<B->w'.cell? ⟨b,o,none⟩=w.cell? ⟨b,o,none⟩):Sl w' B sz A n xs:=
 ⟨h.len,fun hn=>by
  obtain⟨b,o,e,hb,hc⟩:=h.at_ hn
  exact⟨b,o,e,hb,fun i u hu=>(hk _ _ hb).trans (hc i u hu)⟩⟩
theorem Sl.below (h:Sl w B sz A n xs) (hb:Below B w w'):Sl w' B sz A n xs:=h.keep fun b o hp=>hb.cell (p:=⟨b,o,none⟩) hp
theorem Sl.mono (h:Sl w B sz A n xs) (hB:B<=B'):Sl w B' sz A n xs:=
 ⟨h.len,fun hn=>by
  obtain⟨b,o,e,hb,hc⟩:=h.at_ hn
  exact⟨b,o,e,by omega,hc⟩⟩
theorem Sl.one {k:Nat} (h:Sl w B 1 A n xs) (hk:k<n):∃b o u,A=some ⟨b,o,none⟩/\b<B/\xs[k]? =some u/\w.cell? ⟨b,o+k,none⟩=some u:=by
 obtain⟨b,o,e,hb,hc⟩:=h.at_ (by omega);have hl:k<xs.length:=by have:=h.len;omega
 exact⟨b,o,xs[k],e,hb,List.getElem?_eq_getElem hl,hc k _ (List.getElem?_eq_getElem hl)⟩
theorem Sl.drew (h:Sl w B sz A n xs):Sl w.drew B sz A n xs:=⟨h.len,h.at_⟩
theorem Sl.drewN (h:Sl w B sz A n xs) (m:Nat):Sl (w.drewN m) B sz A n xs:=⟨h.len,h.at_⟩
theorem jjkz (b o k:Nat):(⟨b,o,none⟩:Addr).add k=⟨b,o+k,none⟩:=Addr.add_lit b o k
theorem Sl.take (h:Sl w B sz A n xs) {k:Nat} (hk:k<=n):Sl w B sz A k (xs.take (k*sz)):=by
 have hle:k*sz<=n*sz:=Nat.mul_le_mul_right _ hk;refine⟨by simp[h.len,hle],fun h0=>?_⟩;obtain⟨b,o,e,hb,hc⟩:=h.at_ (by omega);refine⟨b,o,e,hb,fun i u hu=>hc i u ?_⟩;rw[List.getElem?_take] at hu;split at hu
 . exact hu
 . cases hu
theorem Sl.drop (h:Sl w B sz A n xs) {k cap:Nat} (hk:k<=n) (hc:n<=cap):Sl w B sz (if cap=k then A else A.map (·.add (k*sz))) (n-k) (xs.drop (k*sz)):=by
 refine⟨by simp[h.len,Nat.sub_mul],fun h0=>?_⟩;obtain⟨b,o,rfl,hb,hcell⟩:=h.at_ (by omega);rw[if_neg (by omega)];refine⟨b,o+k*sz,by simp[jjkz],hb,fun i u hu=>?_⟩;rw[List.getElem?_drop] at hu;rw[Nat.add_assoc];exact hcell _ u hu
theorem Sl.new {cs:Array Value} {t:TypeId} (h:cs.size=n*sz):Sl (w.alloc (.cells cs t)) (w.heap.size+1) sz (some ⟨w.heap.size,0,none⟩) n cs.toList:=
 ⟨by simpa using h,fun _=>⟨_,0,rfl,by omega,fun i u hu=>by
  have hb:(w.alloc (.cells cs t)).heap[w.heap.size]? =some (.cells cs t):=by show (w.heap.push _)[w.heap.size]? =_;simp
  rw[Nat.zero_add,cell_of_row _ _ i cs t (0,0) hb]
  simpa using hu⟩⟩
end
def Jt (l:List Bool):List Value:=l.map Value.bool
theorem Sl.bool {w:World} {B n:Nat} {A:Option Addr} {l:List Bool} (h:Sl w B 1 A n (Jt l)) {k:Nat} (hk:k<n):
 ∃b o x,A=some ⟨b,o,none⟩/\b<B/\l[k]? =some x/\w.cell? ⟨b,o+k,none⟩=some (.bool x):=by
 obtain⟨b,o,u,e,hb,hu,hc⟩:=h.one hk;simp only[Jt,List.getElem?_map,Option.map_eq_some_iff] at hu;obtain⟨x,hx,rfl⟩:=hu;exact⟨b,o,x,e,hb,hx,hc⟩
section
variable {H:Type} {enc:TypeId × Value->H} {P:Program}
theorem Cj (hl:laidOutB P=true) {W W':World} (hb:Below W.heap.size W W'):
 ∀{ts:List TypeId} {vs:List Value} {ds:List (DataW H)} {ps:List MemPlace},(ts.all fun t=>P.readableRec t&&decide (t<P.types.size))=true->
  DataW.TrodAll enc P W 0 (fun _=>true) true ts vs ds ps->DataW.TrodAll enc P W' 0 (fun b=>decide (b<W.heap.size)) true ts vs ds ps
 | [],[],[],_,_,h=>h
 |t::ts,v::vs,d::ds,ps,ht,h=>by
  simp only[List.all_cons,Bool.and_eq_true,decide_eq_true_eq] at ht;obtain⟨p,q,h1,h2,rfl⟩:=h;refine⟨p,q,Below.trod hl ht.1.1 ht.1.2 h1 hb ?_,Cj hl hb ht.2 h2,rfl⟩;obtain⟨m,hm⟩:=h1;exact DataW.trod_lt m _ _ _ hm
 | [],_::_,_,_,_,h=>h.elim
 |_::_,[],_,_,_,h=>h.elim
 | [],[],_::_,_,_,h=>h.elim
 |_::_,_::_,[],_,_,h=>h.elim
theorem Cf {W:World} {b:Nat} {sp:Nat->Bool} {hd:Bool}:∀{ts:List TypeId} {vs:List Value} {ds:List (DataW H)} {ps:List MemPlace},
 DataW.TrodAll enc P W b sp hd ts vs ds ps->ds.length=ts.length
 | [],[],[],_,_=>rfl
 |_::_,_::_,_::_,_,h=>by
  obtain⟨p,q,_,h2,_⟩:=h;simp[Cf h2]
 | [],_::_,_,_,h=>h.elim
 |_::_,[],_,_,h=>h.elim
 | [],[],_::_,_,h=>h.elim
 |_::_,_::_,[],_,h=>h.elim
end
end Go.Proofs.YtljeokninakliaaGreatDoor
end
