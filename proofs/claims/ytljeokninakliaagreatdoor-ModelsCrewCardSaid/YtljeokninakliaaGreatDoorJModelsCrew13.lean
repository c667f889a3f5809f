/- Parts of a proof. -/
import Derived.Test.YtljeokninakliaaGreatDoorJModelsCrew11
import Derived.Test.YtljeokninakliaaGreatDoorJModelsCrew12
import Derived.Shelf.SlIterI.Sorted
import Derived.WalkKit
set_option linter.unusedSimpArgs false
set_option linter.unusedVariables false
set_option maxRecDepth 1000000
set_option maxHeartbeats 4000000
section
namespace Go.Proofs.YtljeokninakliaaGreatDoor
open Go.RowKit Tryz Go.Shelf Go.Sort Go.Maps Go.Lib
attribute [local go_sem] Oper.semAt_some
theorem jjgn (Bs b off cap:Nat) (zs:List Int) (hlen:zs.length<=maxLen) (hreach:zs.length*8<=140737488351232) (w:World) (hBs:Bs<w.heap.size) (hb:b<w.heap.size)
 (hc:w.cell? ⟨Bs,0,none⟩=some (.slice (some ⟨b,off,none⟩) zs.length cap)) (hI:∀j,j<zs.length->w.cell? ⟨b,off+j,none⟩=some (.int .i64 (zs[j]?.getD 0))):
 Calls prog 94 #[.func (.func 112) #[] #[.pointer (some ⟨Bs,0,none⟩)]] w fun e W'=>∃v,e= .returned v/\W'.ownsRow w.heap.size 3 1 v zs.length (zs.map (Value.int .i64))/\(v= .slice none 0 0↔zs=[])/\Below w.heap.size w W':=by
 have cA:=(callsIn_wide (n:=9)).1 (jjan Fence.wide 9 trivial trivial rfl (by omega) Bs b off cap zs hlen hreach w hBs hb hc hI)
 go_enter Tryz.func94,Tryz.ntmps94
 go_wp2_with (go_at_call 113;refine cA.mono ?_;rintro e W' ⟨v,rfl,h1,h2,h3⟩)
 go_ret
 exact⟨v,rfl,h1,h2,h3⟩
theorem jjj3 (Bs b off cap:Nat) (zs:List Int) (hlen:zs.length<=maxLen) (hreach:zs.length*8<=140737488351232) (w:World) (hBs:Bs<w.heap.size) (hb:b<w.heap.size)
 (hc:w.cell? ⟨Bs,0,none⟩=some (.slice (some ⟨b,off,none⟩) zs.length cap)) (hI:∀j,j<zs.length->w.cell? ⟨b,off+j,none⟩=some (.int .i64 (zs[j]?.getD 0))) (hne:zs≠[]):
 Calls prog 83 #[.func (.func 112) #[] #[.pointer (some ⟨Bs,0,none⟩)]] w fun e W'=>∃gb cp cur,e= .returned (.slice (some ⟨gb,0,none⟩) zs.length cp)/\zs.length<=cp/\w.heap.size<=gb/\gb<W'.heap.size/\W'.heap[gb]? =some (.cells cur 3 (0,0))/\
  Holds (Value.int .i64) W' gb 0 (zs.mergeSort fun x y=>decide (x<=y)).toArray/\Below w.heap.size w W':=by
 have cC:=jjgn Bs b off cap zs hlen hreach w hBs hb hc hI
 go_enter Tryz.func83,Tryz.ntmps83
 go_wp2_with (go_at_call 94;refine cC.mono ?_;rintro e W ⟨v,rfl,hrow,hnil,hbel⟩)
 rcases hrow.2 with⟨rfl,hz⟩|⟨gb,cp,cur,rfl,hbase,hgb,r1,r2,r3,r4⟩
 . exact absurd (List.eq_nil_of_length_eq_zero hz) hne
 . have hH:Holds encZ W gb 0 zs.toArray:=holds_of_block_i hgb (by simpa using r4)
   have hgl:gb<W.heap.size:=(Array.getElem?_eq_some_iff.1 hgb).1;unfold maxLen at hlen;have cS:=Tryz.slices_Sort_int gb 0 cp zs W hH hgl (by omega)
   go_wp2_with (go_at_call 111;refine cS.mono ?_;rintro e w' ⟨rfl,nn,os,rfl⟩)
   go_ret
   have hl:(zs.mergeSort fun x y=>decide (x<=y)).length=zs.length:=List.length_mergeSort _;refine⟨gb,cp,_,rfl,r1,hbase,?_,heap_sorted_i _ hgb,holds_of_block_i (heap_sorted_i _ hgb) (take_putCells_i cur _ (by rw[hl,r3];omega)),hbel.grown (grownBy_sorted_i _) hbel.size (fun j hj=>by cases hj;exact hbase)⟩;have:=(Array.getElem?_eq_some_iff.1 (heap_sorted_i (n:=nn) (os:=os) (zs.mergeSort fun x y=>decide (x<=y)).toArray hgb)).1;exact this
theorem jjiw (b off n cap:Nat) (w:World):Calls prog 84 #[.slice (some ⟨b,off,none⟩) n cap] w fun e w'=>e= .returned (.func (.func 112) #[] #[.pointer (some ⟨w.heap.size,0,none⟩)])/\w'=w.alloc (.cells #[.slice (some ⟨b,off,none⟩) n cap] 22):=by
 go_enter Tryz.func84,Tryz.ntmps84
 go_wp2
 go_ret
 exact⟨rfl,rfl⟩
theorem jjj4 (b off cap:Nat) (zs:List Int) (hlen:zs.length<=1000000) (w:World) (hb:b<w.heap.size) (hI:∀j,j<zs.length->w.cell? ⟨b,off+j,none⟩=some (.int .i64 (zs[j]?.getD 0))) (hne:zs≠[]):
 Calls prog 45 #[.slice (some ⟨b,off,none⟩) zs.length cap] w fun e W'=>e= .returned (.bool (((Lib.compact (zs.mergeSort fun x y=>decide (x<=y))).length:Int)==(zs.length:Int)))/\Below w.heap.size w W':=by
 have hl:(zs.mergeSort fun x y=>decide (x<=y)).length=zs.length:=List.length_mergeSort _;have cV:=jjiw b off zs.length cap w;have hB1:Below w.heap.size w (w.alloc (.cells #[.slice (some ⟨b,off,none⟩) zs.length cap] 22)):=(Below.refl _ w).alloc (Nat.le_refl _) _;have cS:=jjj3 w.heap.size b off cap zs (by unfold maxLen;omega) (by omega) (w.alloc (.cells #[.slice (some ⟨b,off,none⟩) zs.length cap] 22)) (by simp) (by simp;omega) (by simp) (fun j hj=>(hB1.cell (p:=⟨b,off+j,none⟩) hb).trans (hI j hj)) hne
 go_enter Tryz.func45,Tryz.ntmps45
 go_wp2_with (first|(go_at_call 84;refine cV.mono ?_;rintro e w' ⟨rfl,rfl⟩)|(go_at_call 83;refine cS.mono ?_;rintro e W ⟨gb,cp,cur,rfl,h1,h2,h3,h4,h5,h6⟩;have cK:=Tryz.slices_Compact_int gb 0 cp (zs.mergeSort fun x y=>decide (x<=y)) W h5 (by omega) (by omega);rw[hl] at cK)|(go_at_call 85;refine cK.mono ?_;rintro e w' ⟨rfl,q,rfl⟩))
 go_ret
 refine⟨rfl,?_⟩;have hBW:Below w.heap.size w W:=hB1.trans (h6.mono (by simp));have hg:=grownBy_sorted_i (w:=W) (g:=gb) (n:=q) (os:= #[]) (Lib.compact (zs.mergeSort fun x y=>decide (x<=y))++List.replicate (zs.length-(Lib.compact (zs.mergeSort fun x y=>decide (x<=y))).length) 0).toArray;rw[grow_empty] at hg;exact hBW.grown hg hBW.size (fun j hj=>by cases hj;simp at h2;omega)
theorem jj93 (l:List Int) (hs:l.Pairwise (· <= ·)):((Lib.compact l).length=l.length)↔l.Nodup:=by
 have hlen:(Lib.compact l).length=((List.range l.length).filter (keeps l.toArray)).length:=by simp[Lib.compact,compactUpTo]
 have h1:(Lib.compact l).length=l.length↔∀j,j<l.length->keeps l.toArray j=true:=by
  rw[hlen];constructor
  . intro h j hj
    have:(List.range l.length).filter (keeps l.toArray)=List.range l.length:=by
     apply List.Sublist.eq_of_length List.filter_sublist;rw[h];simp
    exact List.filter_eq_self.1 this j (List.mem_range.2 hj)
  . intro h
    rw[List.filter_eq_self.2 (fun j hj=>h j (List.mem_range.1 hj))];simp
 rw[h1];have hget:∀j (h:j<l.length),l.toArray[j]! =l[j]:=fun j h=>by simp[h]
 constructor
 . intro h
   rw[List.Nodup,List.pairwise_iff_getElem];intro i j hi hj hij;have hle:=fun a b (ha:a<l.length) (hb:b<l.length) (hab:a<b)=>List.pairwise_iff_getElem.1 hs a b ha hb hab
   have hk:=h j hj;simp only[keeps,decide_eq_true_eq] at hk;rcases hk with hk|hk
   . omega
   . rw[hget j hj,hget (j-1) (by omega)] at hk
     have h2:=hle (j-1) j (by omega) hj (by omega);by_cases e:i=j-1
     . subst e;exact fun e=>hk e.symm
     . have h3:=hle i (j-1) hi (by omega) (by omega)
       intro e;apply hk;omega
 . intro h j hj
   simp only[keeps,decide_eq_true_eq];by_cases e:j=0
   . exact .inl e
   . right
     rw[hget j hj,hget (j-1) (by omega)];exact fun e'=>(List.pairwise_iff_getElem.1 h (j-1) j (by omega) hj (by omega)) e'.symm
theorem jjd2 (zs:List Int):(((Lib.compact (zs.mergeSort fun x y=>decide (x<=y))).length:Int)==(zs.length:Int))=decide zs.Nodup:=by
 have hl:(zs.mergeSort fun x y=>decide (x<=y)).length=zs.length:=List.length_mergeSort _
 have hs:(zs.mergeSort fun x y=>decide (x<=y)).Pairwise (· <= ·):=by
  have:=List.pairwise_mergeSort (le:=fun x y:Int=>decide (x<=y)) (fun a b c h1 h2=>by simp at *;omega) (fun a b=>by simp;omega) zs;exact this.imp (by simp)
 have hp:(zs.mergeSort fun x y=>decide (x<=y)).Perm zs:=List.mergeSort_perm _ _;have:=jj93 _ hs;rw[hl,hp.nodup_iff] at this;by_cases h:zs.Nodup
 . rw[this.2 h];simp[h]
 . have h2:(Lib.compact (zs.mergeSort fun x y=>decide (x<=y))).length≠zs.length:=fun e=>h (this.1 e)
   simp[h];omega
end Go.Proofs.YtljeokninakliaaGreatDoor
end
