/- Parts, one behind the other. Parts of a proof. -/
import Derived.Test.YtljeokninakliaaGreatDoorJModelsCrew26
import Derived.Test.YtljeokninakliaaGreatDoorJModelsCrew27
import Derived.Test.YtljeokninakliaaGreatDoorJModelsCrew4
import Derived.Deep.QuietTactic
import Derived.BigRegion
set_option linter.unusedSimpArgs false
set_option linter.unusedVariables false
set_option maxRecDepth 1000000
set_option maxHeartbeats 4000000
section
namespace Go.Proofs.YtljeokninakliaaGreatDoor
open Go.RowKit Tryz
@[go_sem] theorem GA (w:World) (b:Nat) (es:List (List Value × Value)):MBlk w.drew b es↔MBlk w b es:=Iff.rfl
structure Uf where
 m:PM
 out:Said
def YM (a:Int) (s:Uf) (h:Held):Option Uf:=
 if h.is&&h.cell.report.is&&decide (h.cell.report.at_=a) then
  let m':=s.m.inc h.cell.report.p
  if m'.cnt h.cell.report.p=2 then (if s.out.is then none else some ⟨m',⟨true,a,h.cell.report.p⟩⟩) else some ⟨m',s.out⟩
 else some s
def YB (a:Int) (l:List Held):Option Uf:=l.foldlM (YM a) ⟨[],Said.zero⟩
def Y3 (a:Int) (l:List Held):Said:=((YB a l).map (·.out)).getD Said.zero
theorem Pm {a:Int} {l:List Held} {k:Nat} {x:Held} {s:Uf} (hx:l[k]? =some x) (h:YB a (l.take k)=some s):YB a (l.take (k+1))=YM a s x:=by
 unfold YB at h ⊢;rw[List.take_add_one,hx,List.foldlM_append,h];simp
theorem Ht {a:Int} {l:List Held} {k M:Nat} (h:YB a (l.take k)=none) (hk:k<=M):YB a (l.take M)=none:=by
 unfold YB at h ⊢;rw[show l.take M=l.take k++(l.take M).drop k by rw[show l.take k=(l.take M).take k by rw[List.take_take,Nat.min_eq_left hk],List.take_append_drop],List.foldlM_append,h];rfl
theorem Lw {q:IntKind} {n:Int} (h:(Lit.int q n).wf=true):B9 (some q) (.int q n):=⟨n,rfl,h⟩
theorem Payload.ok_flatd {x:Payload} (h:x.Ok):Flat Payload.ks x.cells:=by
 obtain⟨h0,h1,h2,h3⟩:=h;refine⟨rfl,fun i k hk=>?_⟩
 match i,hk with
 |0,hk=>obtain rfl:=Option.some.inj hk.symm;exact⟨_,rfl,Lw (by unfold Lit.wf;rw[Bool.and_eq_true,decide_eq_true_iff,decide_eq_true_iff,show IntKind.min _=0 from rfl];first|(rw[show IntKind.max .u8=255 from rfl];omega)|(rw[show IntKind.max .u32=4294967295 from rfl];omega))⟩
 |1,hk=>obtain rfl:=Option.some.inj hk.symm;exact⟨_,rfl,Lw (by unfold Lit.wf;rw[Bool.and_eq_true,decide_eq_true_iff,decide_eq_true_iff,show IntKind.min _=0 from rfl];first|(rw[show IntKind.max .u8=255 from rfl];omega)|(rw[show IntKind.max .u32=4294967295 from rfl];omega))⟩
 |2,hk=>obtain rfl:=Option.some.inj hk.symm;exact⟨_,rfl,Lw (by unfold Lit.wf;rw[Bool.and_eq_true,decide_eq_true_iff,decide_eq_true_iff,show IntKind.min _=0 from rfl];first|(rw[show IntKind.max .u8=255 from rfl];omega)|(rw[show IntKind.max .u32=4294967295 from rfl];omega))⟩
 |3,hk=>obtain rfl:=Option.some.inj hk.symm;exact⟨_,rfl,Lw (by unfold Lit.wf;rw[Bool.and_eq_true,decide_eq_true_iff,decide_eq_true_iff,show IntKind.min _=0 from rfl];first|(rw[show IntKind.max .u8=255 from rfl];omega)|(rw[show IntKind.max .u32=4294967295 from rfl];omega))⟩
 |i+4,hk=>simp[Payload.ks] at hk
theorem CI {w:World} {b b':Nat} {t:TypeId} {es:List (List Value × Value)} (h:MBlk w b es) (hne:b'≠b) (c:List Value):MBlk (setB w b' t c) b es:=by
 unfold MBlk at h ⊢;simp[setB,hne,h]
theorem jja9 (a :Int) (A:Option Addr) (n cap M:Nat) (l:List Held) (w:World) (hM:M<=n) (hnc:n<=cap) (hn:n<=maxLen) (hok:∀h∈l,h.Ok) (hl:Sl w w.heap.size 56 A n (l.flatMap Held.cells)) (ha:X5 a=true) (nn:Int) (hnn:min nn n=M) (h4:4<=nn) (h16:nn<=16):
 Calls prog 28 #[.int .i64 nn,.slice A n cap,.int .i64 a] w fun e w'=>e= .returned (.agg (Y3 a (l.take M)).cells.toArray)/\Below w.heap.size w w':=by
 unfold maxLen at hn
 go_enter Tryz.func28,Tryz.ntmps28
 go_wp2_with (go_at_call 66;refine(L6 _ _).mono ?_;rintro e w' ⟨rfl,rfl⟩)
 . obtain rfl : M=n:=by omega
   go_loopw [32] (fun i wr=>∃(k:Nat) (s:Uf),k<=M/\i= .int .i64 k/\(∀q,s.m.cnt q<=k)/\YB a (l.take k)=some s/\Below w.heap.size w wr/\w.heap.size+3<=wr.heap.size/\MBlk wr (w.heap.size+1) s.m.enc/\Blk wr (w.heap.size+1+1) 51 s.out.cells/\Blk wr w.heap.size 51 Said.zero.cells) (fun i _=>M-(intOf i).toNat)
   case atStart=>
    refine⟨0,⟨[],Said.zero⟩,Nat.zero_le _,rfl,fun q=>Nat.le_refl 0,rfl,by (repeat' (first|exact WO _ _|assumption|refine TA ?_|refine RJ _ ?_|refine Wp _ (by first|omega|(simp[YH,YE]<;>omega)) ?_|refine UB (by first|omega|(simp[YH,YE]<;>omega)) ?_|refine RH (by first|omega|(simp[YH,YE]<;>omega)) ?_|refine Wn (by first|omega|(simp[YH,YE]<;>omega)) ?_)),by simp,?_,?_,?_⟩
    . have:=(MBlk.new (w.alloc (.cells Said.zero.cells.toArray 51))).alloc (.cells Said.zero.cells.toArray 51)
      rwa[show (w.alloc (.cells Said.zero.cells.toArray 51)).heap.size=w.heap.size+1 by simp] at this
    . have:=Blk.new ((w.alloc (.cells Said.zero.cells.toArray 51)).alloc (.map #[] 0)) 51 Said.zero.cells
      rwa[show ((w.alloc (.cells Said.zero.cells.toArray 51)).alloc (.map #[] 0)).heap.size=w.heap.size+1+1 by simp] at this
    . exact((Blk.new w 51 Said.zero.cells).alloc _).alloc _
   case round =>
    obtain⟨k,s,hk,rfl,hcnt,hrun,hbel,hsz,hmb,hbo,hbr⟩:=hrel;by_cases hlt:k<M
    . obtain ⟨b,o,x,rfl,hb,hx,hg⟩:=(hl.below hbel).elem Held.len (by omega) hlt
      have hgo:grab wr (w.heap.size+1+1) 0 6=some s.out.cells:=by rw[hbo.grab,if_pos (by rw[Said.len];omega),Ty _ _ (Said.len _)]
      have hs2:w.heap.size+1+1<wr.heap.size:=by omega
      have hs1:w.heap.size<wr.heap.size:=by omega
      cases hx1:x.is
      . go_wp2
        exact⟨⟨k+1,s,by omega,by simp,fun q=>by have:=hcnt q;omega,(Pm hx hrun).trans (by simp[YM,hx1]),by (repeat' (first|exact WO _ _|assumption|refine TA ?_|refine RJ _ ?_|refine Wp _ (by first|omega|(simp[YH,YE]<;>omega)) ?_|refine UB (by first|omega|(simp[YH,YE]<;>omega)) ?_|refine RH (by first|omega|(simp[YH,YE]<;>omega)) ?_|refine Wn (by first|omega|(simp[YH,YE]<;>omega)) ?_)),by simp;omega,(hmb.alloc _).alloc _,(hbo.alloc _).alloc _,(hbr.alloc _).alloc _⟩,by simp[intOf];omega⟩
      . cases hx2:x.cell.report.is
        . go_wp2
          exact⟨⟨k+1,s,by omega,by simp,fun q=>by have:=hcnt q;omega,(Pm hx hrun).trans (by simp[YM,hx1,hx2]),by (repeat' (first|exact WO _ _|assumption|refine TA ?_|refine RJ _ ?_|refine Wp _ (by first|omega|(simp[YH,YE]<;>omega)) ?_|refine UB (by first|omega|(simp[YH,YE]<;>omega)) ?_|refine RH (by first|omega|(simp[YH,YE]<;>omega)) ?_|refine Wn (by first|omega|(simp[YH,YE]<;>omega)) ?_)),by simp;omega,(hmb.alloc _).alloc _,(hbo.alloc _).alloc _,(hbr.alloc _).alloc _⟩,by simp[intOf];omega⟩
        . by_cases hx3:x.cell.report.at_=a
          . go_wp2
            generalize hW:(wr.alloc (.cells x.cells.toArray 62)).alloc (.cells x.cell.report.cells.toArray 51)=W1;have hm1:MBlk W1 (w.heap.size+1) s.m.enc:=hW ▸ (hmb.alloc _).alloc _;have hr1:Blk W1 (wr.heap.size+1) 51 x.cell.report.cells:=by subst hW;have:=Blk.new (wr.alloc (.cells x.cells.toArray 62)) 51 x.cell.report.cells;rwa[show (wr.alloc (.cells x.cells.toArray 62)).heap.size=wr.heap.size+1 by simp] at this
            have hg1:grab W1 (wr.heap.size+1) 2 4=some x.cell.report.p.cells:=by rw[hr1.grab,if_pos (by rw[Said.len];omega)];rfl
            have ho1:Blk W1 (w.heap.size+1+1) 51 s.out.cells:=hW ▸ (hbo.alloc _).alloc _;have hz1:Blk W1 w.heap.size 51 Said.zero.cells:=hW ▸ (hbr.alloc _).alloc _;have hb1:Below w.heap.size w W1:=by subst hW;(repeat' (first|exact WO _ _|assumption|refine TA ?_|refine RJ _ ?_|refine Wp _ (by first|omega|(simp[YH,YE]<;>omega)) ?_|refine UB (by first|omega|(simp[YH,YE]<;>omega)) ?_|refine RH (by first|omega|(simp[YH,YE]<;>omega)) ?_|refine Wn (by first|omega|(simp[YH,YE]<;>omega)) ?_))
            have hsz1:w.heap.size+3<=W1.heap.size:=by subst hW;simp;omega
            have hpf:Flat Payload.ks x.cell.report.p.cells:=Payload.ok_flatd (hok x (List.mem_of_getElem? hx)).2.2.1.2;have L3:=(bump (s.m.inc x.cell.report.p) x.cell.report.p hpf (w.heap.size+1)).choose_spec.choose_spec.1;obtain⟨es1,idx,H1,H2,H3,H4,H5,H6⟩:=bump s.m x.cell.report.p hpf (w.heap.size+1);have hcb:=hcnt x.cell.report.p;have hinc:=H6;have hci0:((s.m.cnt x.cell.report.p:Nat):Int)<=k:=by omega
            have hci1:(0:Int)<=((s.m.cnt x.cell.report.p:Nat):Int):=by omega
            rw[H6] at L3;rw[show ((s.m.cnt x.cell.report.p+1:Nat):Int)=((s.m.cnt x.cell.report.p:Nat):Int)+1 by omega] at L3;clear hinc H6 hcb;obtain⟨c,hcc⟩:∃c:Int,((s.m.cnt x.cell.report.p:Nat):Int)=c:=⟨_,rfl⟩
            rw[hcc] at hci0 hci1 L3;simp only[hcc] at H1 H2 H3 H4;have HC:=Lib.hid hcc;clear hcc;have hwr:wrap64 (c+1)=c+1:=by unfold RowKit.wrap64;omega
            clear hci0 hci1;have hm2:MBlk W1.drew (w.heap.size+1) s.m.enc:=hm1;have a1:=H1 W1 hm1;have a2:=H1 W1.drew hm2;have b1:=H2 W1 hm1;have b2:=H2 W1.drew hm2;have c1:=H3 _ (H5 W1 hm1);have c2:=H3 _ (H5 W1.drew hm2);have c3:=H3 (setM W1 (w.heap.size+1) es1).drew (H5 W1 hm1);have d1:=H4 _ (H5 W1 hm1);have d2:=H4 _ (H5 W1.drew hm2);have d3:=H4 (setM W1 (w.heap.size+1) es1).drew (H5 W1 hm1);clear H1 H2 H3 H4 H5
            go_region
            rw[Lg];have hm3:=hm2.set (s.m.inc x.cell.report.p).enc;have hr3:=(show Blk W1.drew (wr.heap.size+1) 51 x.cell.report.cells from hr1).setM (b':=w.heap.size+1) (by omega) (s.m.inc x.cell.report.p).enc;have ho3:=(show Blk W1.drew (w.heap.size+1+1) 51 s.out.cells from ho1).setM (b':=w.heap.size+1) (by omega) (s.m.inc x.cell.report.p).enc;have hz3:=(show Blk W1.drew w.heap.size 51 Said.zero.cells from hz1).setM (b':=w.heap.size+1) (by omega) (s.m.inc x.cell.report.p).enc;have hb3:Below w.heap.size w (setM W1.drew (w.heap.size+1) (s.m.inc x.cell.report.p).enc):=(TA hb1).trans (Ld (by omega));have hsz3:w.heap.size+3<=(setM W1.drew (w.heap.size+1) (s.m.inc x.cell.report.p).enc).heap.size:=by rw[Lf];exact hsz1
            clear a1 a2 b1 b2 c1 c2 c3 d1 d2 d3 hm1 hm2 hr1 ho1 hz1 hb1 hsz1 hg1 hW;generalize setM W1.drew (w.heap.size+1) (s.m.inc x.cell.report.p).enc=W2 at hm3 hr3 ho3 hz3 hb3 hsz3 ⊢;have hl3:=L3 _ hm3;clear L3;have hg3:grab W2 (wr.heap.size+1) 2 4=some x.cell.report.p.cells:=by rw[hr3.grab,if_pos (by rw[Said.len];omega)];rfl
            have hcl:W2.cell? ⟨w.heap.size+1+1,0,none⟩=some (.bool s.out.is):=(ho3.cell 0).trans rfl;have hpo:putOk W2 (w.heap.size+1+1) 0 6=true:=by rw[ho3.putOk,Said.len];rfl
            have hpu:∀v:Said,put W2 (w.heap.size+1+1) 0 v.cells=setB W2 (w.heap.size+1+1) 51 v.cells:=fun v=>by rw[ho3.put,U7 _ _ (by rw[Said.len,Said.len])]
            have hpo0:putOk W2 w.heap.size 0 6=true:=by rw[hz3.putOk,Said.len];rfl
            have hpu0:∀v:Said,put W2 w.heap.size 0 v.cells=setB W2 w.heap.size 51 v.cells:=fun v=>by rw[hz3.put,U7 _ _ (by rw[Said.len,Said.len])]
            have hci:∀q,(s.m.inc x.cell.report.p).cnt q<=k+1:=by
             intro q;rw[cnt_inc];have h1:=hcnt q;have h2:=hcnt x.cell.report.p;split<;>omega
            have hce:(s.m.inc x.cell.report.p).cnt x.cell.report.p=2↔c+1=2:=by
             rw[cnt_inc,if_pos rfl];have:=HC.out;omega
            have HE:=Lib.hid hce;have HI:=Lib.hid hci;clear hce hci;by_cases hc2:c+1=2
            . cases ho:s.out.is
              . have hst:YB a (l.take (k+1))=some ⟨s.m.inc x.cell.report.p,⟨true,a,x.cell.report.p⟩⟩:=(Pm hx hrun).trans (by simp[YM,hx1,hx2,hx3,HE.out.2 hc2,ho])
                have HS:=Lib.hid hst;clear hst
                go_wp2
                exact⟨⟨k+1,_,by omega,by simp,HI.out,HS.out,UB (by omega) hb3,by rw[YH];exact hsz3,CI hm3 (by omega) _,ho3.same _,hz3.other (by omega) _⟩,by simp[intOf];omega⟩
              . have hst:YB a (l.take (k+1))=none:=(Pm hx hrun).trans (by simp[YM,hx1,hx2,hx3,HE.out.2 hc2,ho])
                have HS:=Lib.hid (Ht (M:=M) hst (by omega));clear hst;have hs3:w.heap.size<W2.heap.size:=by omega
                go_wp2
                refine bodyPost_ret (Ri rfl (k:=6) (by kernel_rfl) rfl (by go_simp;rfl)) rfl ⟨Rh ?_,?_⟩
                . simp[Y3,HS.out]
                . exact UB (by omega) hb3
            . have hst:YB a (l.take (k+1))=some ⟨s.m.inc x.cell.report.p,s.out⟩:=(Pm hx hrun).trans (by simp[YM,hx1,hx2,hx3,mt HE.out.1 hc2])
              have HS:=Lib.hid hst;clear hst
              go_wp2
              exact⟨⟨k+1,_,by omega,by simp,HI.out,HS.out,hb3,hsz3,hm3,ho3,hz3⟩,by simp[intOf];omega⟩
          . go_wp2
            exact⟨⟨k+1,s,by omega,by simp,fun q=>by have:=hcnt q;omega,(Pm hx hrun).trans (by simp[YM,hx1,hx2,hx3]),by (repeat' (first|exact WO _ _|assumption|refine TA ?_|refine RJ _ ?_|refine Wp _ (by first|omega|(simp[YH,YE]<;>omega)) ?_|refine UB (by first|omega|(simp[YH,YE]<;>omega)) ?_|refine RH (by first|omega|(simp[YH,YE]<;>omega)) ?_|refine Wn (by first|omega|(simp[YH,YE]<;>omega)) ?_)),by simp;omega,(hmb.alloc _).alloc _,(hbo.alloc _).alloc _,(hbr.alloc _).alloc _⟩,by simp[intOf];omega⟩
    . obtain rfl:k=M:=by omega
      have hgo:grab wr (w.heap.size+1+1) 0 6=some s.out.cells:=by rw[hbo.grab,if_pos (by rw[Said.len];omega),Ty _ _ (Said.len _)]
      have hpr:putOk wr w.heap.size 0 6=true:=by rw[hbr.putOk,Said.len];rfl
      have hpp:put wr w.heap.size 0 s.out.cells=setB wr w.heap.size 51 s.out.cells:=by rw[hbr.put,U7 _ _ (by rw[Said.len,Said.len])]
      have hb0:w.heap.size<wr.heap.size:=by omega
      go_wp2
      refine bodyPost_ret (Ri rfl (k:=6) (by kernel_rfl) rfl (by go_simp;rfl)) rfl ⟨Rh ?_,?_⟩
      . simp[Y3,hrun]
      . exact UB (Nat.le_refl _) hbel
 . obtain rfl : nn=(M:Int):=by omega
   go_loopw [32] (fun i wr=>∃(k:Nat) (s:Uf),k<=M/\i= .int .i64 k/\(∀q,s.m.cnt q<=k)/\YB a (l.take k)=some s/\Below w.heap.size w wr/\w.heap.size+3<=wr.heap.size/\MBlk wr (w.heap.size+1) s.m.enc/\Blk wr (w.heap.size+1+1) 51 s.out.cells/\Blk wr w.heap.size 51 Said.zero.cells) (fun i _=>M-(intOf i).toNat)
   case atStart=>
    refine⟨0,⟨[],Said.zero⟩,Nat.zero_le _,rfl,fun q=>Nat.le_refl 0,rfl,by (repeat' (first|exact WO _ _|assumption|refine TA ?_|refine RJ _ ?_|refine Wp _ (by first|omega|(simp[YH,YE]<;>omega)) ?_|refine UB (by first|omega|(simp[YH,YE]<;>omega)) ?_|refine RH (by first|omega|(simp[YH,YE]<;>omega)) ?_|refine Wn (by first|omega|(simp[YH,YE]<;>omega)) ?_)),by simp,?_,?_,?_⟩
    . have:=(MBlk.new (w.alloc (.cells Said.zero.cells.toArray 51))).alloc (.cells Said.zero.cells.toArray 51)
      rwa[show (w.alloc (.cells Said.zero.cells.toArray 51)).heap.size=w.heap.size+1 by simp] at this
    . have:=Blk.new ((w.alloc (.cells Said.zero.cells.toArray 51)).alloc (.map #[] 0)) 51 Said.zero.cells
      rwa[show ((w.alloc (.cells Said.zero.cells.toArray 51)).alloc (.map #[] 0)).heap.size=w.heap.size+1+1 by simp] at this
    . exact((Blk.new w 51 Said.zero.cells).alloc _).alloc _
   case round =>
    obtain⟨k,s,hk,rfl,hcnt,hrun,hbel,hsz,hmb,hbo,hbr⟩:=hrel;by_cases hlt:k<M
    . obtain ⟨b,o,x,rfl,hb,hx,hg⟩:=(hl.below hbel).elem Held.len (by omega) (show k<n by omega)
      have hgo:grab wr (w.heap.size+1+1) 0 6=some s.out.cells:=by rw[hbo.grab,if_pos (by rw[Said.len];omega),Ty _ _ (Said.len _)]
      have hs2:w.heap.size+1+1<wr.heap.size:=by omega
      have hs1:w.heap.size<wr.heap.size:=by omega
      cases hx1:x.is
      . go_wp2
        exact⟨⟨k+1,s,by omega,by simp,fun q=>by have:=hcnt q;omega,(Pm hx hrun).trans (by simp[YM,hx1]),by (repeat' (first|exact WO _ _|assumption|refine TA ?_|refine RJ _ ?_|refine Wp _ (by first|omega|(simp[YH,YE]<;>omega)) ?_|refine UB (by first|omega|(simp[YH,YE]<;>omega)) ?_|refine RH (by first|omega|(simp[YH,YE]<;>omega)) ?_|refine Wn (by first|omega|(simp[YH,YE]<;>omega)) ?_)),by simp;omega,(hmb.alloc _).alloc _,(hbo.alloc _).alloc _,(hbr.alloc _).alloc _⟩,by simp[intOf];omega⟩
      . cases hx2:x.cell.report.is
        . go_wp2
          exact⟨⟨k+1,s,by omega,by simp,fun q=>by have:=hcnt q;omega,(Pm hx hrun).trans (by simp[YM,hx1,hx2]),by (repeat' (first|exact WO _ _|assumption|refine TA ?_|refine RJ _ ?_|refine Wp _ (by first|omega|(simp[YH,YE]<;>omega)) ?_|refine UB (by first|omega|(simp[YH,YE]<;>omega)) ?_|refine RH (by first|omega|(simp[YH,YE]<;>omega)) ?_|refine Wn (by first|omega|(simp[YH,YE]<;>omega)) ?_)),by simp;omega,(hmb.alloc _).alloc _,(hbo.alloc _).alloc _,(hbr.alloc _).alloc _⟩,by simp[intOf];omega⟩
        . by_cases hx3:x.cell.report.at_=a
          . go_wp2
            generalize hW:(wr.alloc (.cells x.cells.toArray 62)).alloc (.cells x.cell.report.cells.toArray 51)=W1;have hm1:MBlk W1 (w.heap.size+1) s.m.enc:=hW ▸ (hmb.alloc _).alloc _;have hr1:Blk W1 (wr.heap.size+1) 51 x.cell.report.cells:=by subst hW;have:=Blk.new (wr.alloc (.cells x.cells.toArray 62)) 51 x.cell.report.cells;rwa[show (wr.alloc (.cells x.cells.toArray 62)).heap.size=wr.heap.size+1 by simp] at this
            have hg1:grab W1 (wr.heap.size+1) 2 4=some x.cell.report.p.cells:=by rw[hr1.grab,if_pos (by rw[Said.len];omega)];rfl
            have ho1:Blk W1 (w.heap.size+1+1) 51 s.out.cells:=hW ▸ (hbo.alloc _).alloc _;have hz1:Blk W1 w.heap.size 51 Said.zero.cells:=hW ▸ (hbr.alloc _).alloc _;have hb1:Below w.heap.size w W1:=by subst hW;(repeat' (first|exact WO _ _|assumption|refine TA ?_|refine RJ _ ?_|refine Wp _ (by first|omega|(simp[YH,YE]<;>omega)) ?_|refine UB (by first|omega|(simp[YH,YE]<;>omega)) ?_|refine RH (by first|omega|(simp[YH,YE]<;>omega)) ?_|refine Wn (by first|omega|(simp[YH,YE]<;>omega)) ?_))
            have hsz1:w.heap.size+3<=W1.heap.size:=by subst hW;simp;omega
            have hpf:Flat Payload.ks x.cell.report.p.cells:=Payload.ok_flatd (hok x (List.mem_of_getElem? hx)).2.2.1.2;have L3:=(bump (s.m.inc x.cell.report.p) x.cell.report.p hpf (w.heap.size+1)).choose_spec.choose_spec.1;obtain⟨es1,idx,H1,H2,H3,H4,H5,H6⟩:=bump s.m x.cell.report.p hpf (w.heap.size+1);have hcb:=hcnt x.cell.report.p;have hinc:=H6;have hci0:((s.m.cnt x.cell.report.p:Nat):Int)<=k:=by omega
            have hci1:(0:Int)<=((s.m.cnt x.cell.report.p:Nat):Int):=by omega
            rw[H6] at L3;rw[show ((s.m.cnt x.cell.report.p+1:Nat):Int)=((s.m.cnt x.cell.report.p:Nat):Int)+1 by omega] at L3;clear hinc H6 hcb;obtain⟨c,hcc⟩:∃c:Int,((s.m.cnt x.cell.report.p:Nat):Int)=c:=⟨_,rfl⟩
            rw[hcc] at hci0 hci1 L3;simp only[hcc] at H1 H2 H3 H4;have HC:=Lib.hid hcc;clear hcc;have hwr:wrap64 (c+1)=c+1:=by unfold RowKit.wrap64;omega
            clear hci0 hci1;have hm2:MBlk W1.drew (w.heap.size+1) s.m.enc:=hm1;have a1:=H1 W1 hm1;have a2:=H1 W1.drew hm2;have b1:=H2 W1 hm1;have b2:=H2 W1.drew hm2;have c1:=H3 _ (H5 W1 hm1);have c2:=H3 _ (H5 W1.drew hm2);have c3:=H3 (setM W1 (w.heap.size+1) es1).drew (H5 W1 hm1);have d1:=H4 _ (H5 W1 hm1);have d2:=H4 _ (H5 W1.drew hm2);have d3:=H4 (setM W1 (w.heap.size+1) es1).drew (H5 W1 hm1);clear H1 H2 H3 H4 H5
            go_region
            rw[Lg];have hm3:=hm2.set (s.m.inc x.cell.report.p).enc;have hr3:=(show Blk W1.drew (wr.heap.size+1) 51 x.cell.report.cells from hr1).setM (b':=w.heap.size+1) (by omega) (s.m.inc x.cell.report.p).enc;have ho3:=(show Blk W1.drew (w.heap.size+1+1) 51 s.out.cells from ho1).setM (b':=w.heap.size+1) (by omega) (s.m.inc x.cell.report.p).enc;have hz3:=(show Blk W1.drew w.heap.size 51 Said.zero.cells from hz1).setM (b':=w.heap.size+1) (by omega) (s.m.inc x.cell.report.p).enc;have hb3:Below w.heap.size w (setM W1.drew (w.heap.size+1) (s.m.inc x.cell.report.p).enc):=(TA hb1).trans (Ld (by omega));have hsz3:w.heap.size+3<=(setM W1.drew (w.heap.size+1) (s.m.inc x.cell.report.p).enc).heap.size:=by rw[Lf];exact hsz1
            clear a1 a2 b1 b2 c1 c2 c3 d1 d2 d3 hm1 hm2 hr1 ho1 hz1 hb1 hsz1 hg1 hW;generalize setM W1.drew (w.heap.size+1) (s.m.inc x.cell.report.p).enc=W2 at hm3 hr3 ho3 hz3 hb3 hsz3 ⊢;have hl3:=L3 _ hm3;clear L3;have hg3:grab W2 (wr.heap.size+1) 2 4=some x.cell.report.p.cells:=by rw[hr3.grab,if_pos (by rw[Said.len];omega)];rfl
            have hcl:W2.cell? ⟨w.heap.size+1+1,0,none⟩=some (.bool s.out.is):=(ho3.cell 0).trans rfl;have hpo:putOk W2 (w.heap.size+1+1) 0 6=true:=by rw[ho3.putOk,Said.len];rfl
            have hpu:∀v:Said,put W2 (w.heap.size+1+1) 0 v.cells=setB W2 (w.heap.size+1+1) 51 v.cells:=fun v=>by rw[ho3.put,U7 _ _ (by rw[Said.len,Said.len])]
            have hpo0:putOk W2 w.heap.size 0 6=true:=by rw[hz3.putOk,Said.len];rfl
            have hpu0:∀v:Said,put W2 w.heap.size 0 v.cells=setB W2 w.heap.size 51 v.cells:=fun v=>by rw[hz3.put,U7 _ _ (by rw[Said.len,Said.len])]
            have hci:∀q,(s.m.inc x.cell.report.p).cnt q<=k+1:=by
             intro q;rw[cnt_inc];have h1:=hcnt q;have h2:=hcnt x.cell.report.p;split<;>omega
            have hce:(s.m.inc x.cell.report.p).cnt x.cell.report.p=2↔c+1=2:=by
             rw[cnt_inc,if_pos rfl];have:=HC.out;omega
            have HE:=Lib.hid hce;have HI:=Lib.hid hci;clear hce hci;by_cases hc2:c+1=2
            . cases ho:s.out.is
              . have hst:YB a (l.take (k+1))=some ⟨s.m.inc x.cell.report.p,⟨true,a,x.cell.report.p⟩⟩:=(Pm hx hrun).trans (by simp[YM,hx1,hx2,hx3,HE.out.2 hc2,ho])
                have HS:=Lib.hid hst;clear hst
                go_wp2
                exact⟨⟨k+1,_,by omega,by simp,HI.out,HS.out,UB (by omega) hb3,by rw[YH];exact hsz3,CI hm3 (by omega) _,ho3.same _,hz3.other (by omega) _⟩,by simp[intOf];omega⟩
              . have hst:YB a (l.take (k+1))=none:=(Pm hx hrun).trans (by simp[YM,hx1,hx2,hx3,HE.out.2 hc2,ho])
                have HS:=Lib.hid (Ht (M:=M) hst (by omega));clear hst;have hs3:w.heap.size<W2.heap.size:=by omega
                go_wp2
                refine bodyPost_ret (Ri rfl (k:=6) (by kernel_rfl) rfl (by go_simp;rfl)) rfl ⟨Rh ?_,?_⟩
                . simp[Y3,HS.out]
                . exact UB (by omega) hb3
            . have hst:YB a (l.take (k+1))=some ⟨s.m.inc x.cell.report.p,s.out⟩:=(Pm hx hrun).trans (by simp[YM,hx1,hx2,hx3,mt HE.out.1 hc2])
              have HS:=Lib.hid hst;clear hst
              go_wp2
              exact⟨⟨k+1,_,by omega,by simp,HI.out,HS.out,hb3,hsz3,hm3,ho3,hz3⟩,by simp[intOf];omega⟩
          . go_wp2
            exact⟨⟨k+1,s,by omega,by simp,fun q=>by have:=hcnt q;omega,(Pm hx hrun).trans (by simp[YM,hx1,hx2,hx3]),by (repeat' (first|exact WO _ _|assumption|refine TA ?_|refine RJ _ ?_|refine Wp _ (by first|omega|(simp[YH,YE]<;>omega)) ?_|refine UB (by first|omega|(simp[YH,YE]<;>omega)) ?_|refine RH (by first|omega|(simp[YH,YE]<;>omega)) ?_|refine Wn (by first|omega|(simp[YH,YE]<;>omega)) ?_)),by simp;omega,(hmb.alloc _).alloc _,(hbo.alloc _).alloc _,(hbr.alloc _).alloc _⟩,by simp[intOf];omega⟩
    . obtain rfl:k=M:=by omega
      have hgo:grab wr (w.heap.size+1+1) 0 6=some s.out.cells:=by rw[hbo.grab,if_pos (by rw[Said.len];omega),Ty _ _ (Said.len _)]
      have hpr:putOk wr w.heap.size 0 6=true:=by rw[hbr.putOk,Said.len];rfl
      have hpp:put wr w.heap.size 0 s.out.cells=setB wr w.heap.size 51 s.out.cells:=by rw[hbr.put,U7 _ _ (by rw[Said.len,Said.len])]
      have hb0:w.heap.size<wr.heap.size:=by omega
      go_wp2
      refine bodyPost_ret (Ri rfl (k:=6) (by kernel_rfl) rfl (by go_simp;rfl)) rfl ⟨Rh ?_,?_⟩
      . simp[Y3,hrun]
      . exact UB (Nat.le_refl _) hbel
def Xe (nn:Int) (l:List Held) (a:Int):Said:=if 4<=nn/\nn<=16/\X5 a=true then Y3 a (l.take nn.toNat) else Said.zero
theorem jj6m (nn a:Int) (A:Option Addr) (n cap:Nat) (l:List Held) (w:World) (hnc:n<=cap) (hn:n<=maxLen) (hlen:l.length=n) (hok:∀h∈l,h.Ok) (hl:Sl w w.heap.size 56 A n (l.flatMap Held.cells)):
 Calls prog 28 #[.int .i64 nn,.slice A n cap,.int .i64 a] w fun e w'=>e= .returned (.agg (Xe nn l a).cells.toArray)/\Below w.heap.size w w':=by
 by_cases hc:4<=nn/\nn<=16/\X5 a=true
 . obtain⟨h4,h16,ha⟩:=hc
   have e:Xe nn l a=Y3 a (l.take (min nn n).toNat):=by
    unfold Xe;rw[if_pos ⟨h4,h16,ha⟩];by_cases hle:nn<=n
    . rw[Int.min_eq_left hle]
    . rw[Int.min_eq_right (by omega),List.take_of_length_le (by omega),List.take_of_length_le (by omega)]
   rw[e];exact jja9 a A n cap (min nn n).toNat l w (by omega) hnc hn hok hl ha nn (by omega) h4 h16
 . have e:Xe nn l a=Said.zero:=by unfold Xe;rw[if_neg hc]
   rw[e];have hc2:¬(4<=nn/\nn<=16/\X5 a=true):=hc;have HC:=Lib.hid hc2;clear hc hc2 e
   go_enter Tryz.func28,Tryz.ntmps28
   cases ha:X5 a
   . go_wp2_with (go_at_call 66;refine(L6 _ _).mono ?_;rintro e w' ⟨rfl,rfl⟩)
     all_goals exact bodyPost_ret (Ri rfl (k:=6) (by kernel_rfl) rfl (by first|(go_simp;done)|(go_simp;rfl))) rfl ⟨Rh rfl,by (repeat' (first|exact WO _ _|assumption|refine TA ?_|refine RJ _ ?_|refine Wp _ (by first|omega|(simp[YH,YE]<;>omega)) ?_|refine UB (by first|omega|(simp[YH,YE]<;>omega)) ?_|refine RH (by first|omega|(simp[YH,YE]<;>omega)) ?_|refine Wn (by first|omega|(simp[YH,YE]<;>omega)) ?_))⟩
   . have h:nn<4\/16<nn:=Classical.byContradiction fun hh=>HC.out ⟨by omega,by omega,ha⟩
     rcases h with h|h
     . go_wp2_with (go_at_call 66;refine(L6 _ _).mono ?_;rintro e w' ⟨rfl,rfl⟩)
       all_goals first|exact bodyPost_ret (Ri rfl (k:=6) (by kernel_rfl) rfl (by first|(go_simp;done)|(go_simp;rfl))) rfl ⟨Rh rfl,by (repeat' (first|exact WO _ _|assumption|refine TA ?_|refine RJ _ ?_|refine Wp _ (by first|omega|(simp[YH,YE]<;>omega)) ?_|refine UB (by first|omega|(simp[YH,YE]<;>omega)) ?_|refine RH (by first|omega|(simp[YH,YE]<;>omega)) ?_|refine Wn (by first|omega|(simp[YH,YE]<;>omega)) ?_))⟩|(exfalso;omega)
     . go_wp2_with (go_at_call 66;refine(L6 _ _).mono ?_;rintro e w' ⟨rfl,rfl⟩)
       all_goals first|exact bodyPost_ret (Ri rfl (k:=6) (by kernel_rfl) rfl (by first|(go_simp;done)|(go_simp;rfl))) rfl ⟨Rh rfl,by (repeat' (first|exact WO _ _|assumption|refine TA ?_|refine RJ _ ?_|refine Wp _ (by first|omega|(simp[YH,YE]<;>omega)) ?_|refine UB (by first|omega|(simp[YH,YE]<;>omega)) ?_|refine RH (by first|omega|(simp[YH,YE]<;>omega)) ?_|refine Wn (by first|omega|(simp[YH,YE]<;>omega)) ?_))⟩|(exfalso;omega)
abbrev RP:=Bool × Said
def Vl (a:Int) (h:RP):Bool:=h.1&&(h.2.is&&(h.2.at_==a))
def Ws (a:Int) (R:List RP) (i:Nat):List Payload:=((R.take i).filter (Vl a)).map (·.2.p)
def Hc (L:List Payload):List Payload:=L.filter fun p=>decide (2<=L.count p)
def dl (a:Int) (L:List Payload):Said:=
 if Hc L=[] then Said.zero else if ((Hc L).all fun p=>decide (p=(Hc L).getD 0 Payload.zero))=true then⟨true,a,(Hc L).getD 0 Payload.zero⟩ else Said.zero
def PO (nn:Int) (R:List RP) (a:Int):Said:=if 4<=nn/\nn<=16/\X5 a=true then dl a (Ws a R nn.toNat) else Said.zero
def Zk (L:List Payload) (p:Payload):Prop:=2<=L.count p
theorem LR (L:List Payload) (p:Payload):p∈Hc L↔Zk L p:=by
 unfold Hc Zk;rw[List.mem_filter,decide_eq_true_eq];exact⟨fun h=>h.2,fun h=>⟨List.count_pos_iff.1 (by omega),h⟩⟩
theorem ER (a:Int) (L:List Payload):(∃p,Zk L p/\(∀q,Zk L q->q=p)/\dl a L=⟨true,a,p⟩)\/((¬∃p,Zk L p/\∀q,Zk L q->q=p)/\dl a L=Said.zero):=by
 unfold dl
 cases hF:Hc L with
 |nil=>
  refine .inr ⟨fun⟨p,h,_⟩=>?_,by simp⟩;rw[<- LR,hF] at h;cases h
 |cons p r=>
  have hp:Zk L p:=by rw[<- LR,hF];simp
  by_cases hs:((p::r).all fun x=>decide (x=(p::r).getD 0 Payload.zero))=true
  . refine .inl ⟨p,hp,fun q hq=>?_,by rw[if_neg (by simp),if_pos hs];rfl⟩
    rw[<- LR,hF] at hq;have:=List.all_eq_true.1 hs q hq;simpa using this
  . refine .inr ⟨fun⟨q,h,hu⟩=>hs ?_,by rw[if_neg (by simp),if_neg hs]⟩
    refine List.all_eq_true.2 fun x hx=>?_
    rw[<- hF,LR] at hx;simp[hu x hx,hu p hp]
theorem JI {a:Int} {L:List Payload} {p:Payload} (h:Zk L p) (hu:∀q,Zk L q->q=p):dl a L=⟨true,a,p⟩:=by
 rcases ER a L with⟨q,h1,h2,h3⟩|⟨h1,_⟩
 . rw[h3,h2 p h]
 . exact absurd ⟨p,h,hu⟩ h1
theorem IC {a:Int} {L:List Payload} (h:¬∃p,Zk L p/\∀q,Zk L q->q=p):dl a L=Said.zero:=by
 rcases ER a L with⟨q,h1,h2,h3⟩|⟨_,h1⟩
 . exact absurd ⟨q,h1,h2⟩ h
 . exact h1
def rp (h:Held):RP:=(h.is,h.cell.report)
theorem EJ (a:Int) (l:List Held) (i:Nat):Ws a (l.map rp) i=((l.take i).filter fun h=>h.is&&h.cell.report.is&&decide (h.cell.report.at_=a)).map (·.cell.report.p):=by
 have e:((fun h:Held=>h.is&&h.cell.report.is&&decide (h.cell.report.at_=a)))=Vl a ∘ rp:=by
  funext h;simp only[Vl,rp,Function.comp,Bool.and_assoc];rfl
 rw[Ws,<- List.map_take,List.filter_map,List.map_map,e];rfl
def H0 (a:Int) (L:List Payload) (s:Uf):Prop:=
 (∀p,s.m.cnt p=L.count p)/\((s.out=Said.zero/\∀p,¬Zk L p)\/∃p,s.out=⟨true,a,p⟩/\Zk L p/\∀q,Zk L q->q=p)
def BJ (a:Int) (L:List Payload):Option Uf->Prop
 |some s=>H0 a L s
 |none=>∃p q,Zk L p/\Zk L q/\p≠q
theorem Dl (a:Int) (l:List Held):∀i,i<=l.length->BJ a (Ws a (l.map rp) i) (YB a (l.take i))
 |0,_=>⟨fun p=>by simp[Ws,PM.cnt,PM.find],.inl ⟨rfl,fun p=>by simp[Ws,Zk]⟩⟩
 | i + 1,h=>by
  have ih:=Dl a l i (by omega);have hx:l[i]? =some l[i]:=List.getElem?_eq_getElem (by omega)
  have hs:Ws a (l.map rp) (i+1)=Ws a (l.map rp) i++if l[i].is&&l[i].cell.report.is&&decide (l[i].cell.report.at_=a) then[l[i].cell.report.p] else[]:=by
   rw[EJ,EJ,List.take_succ_eq_append_getElem (by omega),List.filter_append,List.map_append];congr 1;by_cases hh:(l[i].is&&l[i].cell.report.is&&decide (l[i].cell.report.at_=a))=true
   . rw[if_pos hh,List.filter_cons,if_pos hh];rfl
   . rw[if_neg hh,List.filter_cons,if_neg hh];rfl
  cases hr:YB a (l.take i) with
  |none=>
   rw[Ht hr (by omega)];rw[hr] at ih;obtain⟨p,q,h1,h2,h3⟩:=ih;refine⟨p,q,?_,?_,h3⟩<;>rw[hs,Zk,List.count_append]<;>simp only[Zk] at h1 h2<;>omega
  | some s=>
   rw[Pm hx hr];rw[hr] at ih;obtain⟨hc,ho⟩:=ih;generalize Ws a (l.map rp) i=L at hs hc ho;generalize l[i]=x at hs;rw[hs];unfold YM;by_cases hh:(x.is&&x.cell.report.is&&decide (x.cell.report.at_=a))=true
   . rw [if_pos hh]
     simp only[hh,if_true];generalize x.cell.report.p=p
     have hcnt:∀q,(L++[p]).count q=L.count q+if q=p then 1 else 0:=fun q=>by
      rw[List.count_append,List.count_singleton];by_cases e:q=p
      . simp[e]
      . have:¬p=q:=fun h=>e h.symm
        simp[e,this]
     have hm:∀q,(s.m.inc p).cnt q=(L++[p]).count q:=fun q=>by
      rw[cnt_inc,hcnt,hc];by_cases e:q=p
      . simp[e,hc]
      . simp[e,hc]
     have hp2:(L++[p]).count p=L.count p+1:=by rw[hcnt];simp
     have hne:∀q,q≠p->(Zk (L++[p]) q↔Zk L q):=fun q hq=>by simp[Zk,hcnt,hq]
     have hmono:∀q,Zk L q->Zk (L++[p]) q:=fun q hq=>by
      have:=hcnt q;simp only[Zk] at hq ⊢;omega
     by_cases h2:(s.m.inc p).cnt p=2
     . rw[if_pos h2]
       rw[hm,hp2] at h2;have ht:Zk (L++[p]) p:=by simp only[Zk,hp2];omega
       have hnp:¬Zk L p:=by simp only[Zk];omega
       rcases ho with⟨h3,h4⟩|⟨q,h3,h4,h5⟩
       . rw[h3]
         refine⟨hm,.inr ⟨p,rfl,ht,fun q hq=>?_⟩⟩;by_cases e:q=p
         . exact e
         . exact absurd ((hne q e).1 hq) (h4 q)
       . rw[h3]
         refine⟨p,q,ht,hmono q h4,fun e=>?_⟩;subst e;exact hnp h4
     . rw[if_neg h2]
       rw[hm,hp2] at h2
       have hiff:∀q,Zk (L++[p]) q↔Zk L q:=fun q=>by
        by_cases e:q=p
        . subst e;simp only[Zk,hp2];omega
        . exact hne q e
       refine⟨hm,?_⟩;rcases ho with⟨h3,h4⟩|⟨q,h3,h4,h5⟩
       . exact .inl ⟨h3,fun q hq=>h4 q ((hiff q).1 hq)⟩
       . exact .inr ⟨q,h3,(hiff q).2 h4,fun r hr=>h5 r ((hiff r).1 hr)⟩
   . rw[if_neg hh]
     simp only[hh,if_false,List.append_nil];exact⟨hc,ho⟩
theorem jjcd (a:Int) (l:List Held):Y3 a l=dl a (Ws a (l.map rp) l.length):=by
 have h:=Dl a l l.length (Nat.le_refl _);rw[List.take_length] at h;unfold Y3
 cases hr:YB a l with
 |none=>
  rw[hr] at h;obtain⟨p,q,h1,h2,h3⟩:=h;rw[IC fun⟨r,_,hu⟩=>h3 ((hu p h1).trans (hu q h2).symm)];rfl
 |some s=>
  rw[hr] at h;obtain⟨_,⟨h3,h4⟩|⟨p,h3,h4,h5⟩⟩:=h
  . rw[IC fun⟨r,h,_⟩=>h4 r h]
    simp[h3]
  . rw[JI h4 h5]
    simp[h3]
theorem jjaa (nn:Int) (l:List Held) (a:Int):Xe nn l a=PO nn (l.map rp) a:=by
 unfold Xe PO;by_cases h:4<=nn/\nn<=16/\X5 a=true
 . rw[if_pos h,if_pos h,jjcd]
   congr 1;simp only[Ws,List.map_take,List.length_take];congr 2;rw[List.take_take];by_cases hle:nn.toNat<=l.length
   . rw[show min (min nn.toNat l.length) nn.toNat=nn.toNat by omega]
   . rw[List.take_of_length_le (by simp;omega),List.take_of_length_le (by simp;omega)]
 . rw[if_neg h,if_neg h]
def OA (b:Nat) (y:RP) (t:Nat->Bool) (a:Int) (p:Payload) (i:Nat):RP:=if i=b then y else (true,if t i=true then⟨true,a,p⟩ else Said.zero)
def QQ (b:Nat) (t:Nat->Bool):Nat->Nat
 |0=>0
 |k+1=>QQ b t k+if k≠b/\t k=true then 1 else 0
def Mi (b:Nat) (y:RP) (t:Nat->Bool) (a:Int) (p:Payload) (k:Nat):List Payload:=(((List.range k).map (OA b y t a p)).filter (Vl a)).map (·.2.p)
theorem C1 (a:Int):Vl a (true,Said.zero)=false:=rfl
theorem C0 (a:Int) (p:Payload):Vl a (true,⟨true,a,p⟩)=true:=by simp[Vl]
theorem jjja (b:Nat) (y:RP) (t:Nat->Bool) (a:Int) (p:Payload) (k:Nat):Mi b y t a p (k+1)=Mi b y t a p k++if Vl a (OA b y t a p k)=true then[(OA b y t a p k).2.p] else[]:=by
 unfold Mi;rw[List.range_succ,List.map_append,List.filter_append,List.map_append];congr 1;by_cases h:Vl a (OA b y t a p k)=true
 . simp[h]
 . simp[h]
theorem D4 (b:Nat) (y:RP) (t:Nat->Bool) (a:Int) (p x:Payload):∀k,(Mi b y t a p k).count x=(if x=p then QQ b t k else 0)+if b<k/\Vl a y=true/\y.2.p=x then 1 else 0
 |0=>by simp[Mi,QQ]
 | k + 1=>by
  rw[jjja,List.count_append,D4 b y t a p x k];by_cases hb:k=b
  . subst hb
    have e:OA k y t a p k=y:=by simp[OA]
    rw[e];have e2:QQ k t (k+1)=QQ k t k:=by simp[QQ]
    rw[e2];simp only[Nat.lt_irrefl,false_and,if_false,Nat.add_zero,Nat.lt_succ_self,true_and];congr 1;by_cases h1:Vl a y=true
    . rw[if_pos h1]
      by_cases h2:y.2.p=x
      . rw[if_pos ⟨h1,h2⟩,h2];simp
      . rw[if_neg (fun h=>h2 h.2),List.count_cons]
        simp[h2]
    . rw[if_neg h1,if_neg (fun h=>h1 h.1)];rfl
  . have e:OA b y t a p k=(true,if t k=true then⟨true,a,p⟩ else Said.zero):=by simp[OA,hb]
    rw[e];have hbk:(b<k+1)↔b<k:=by omega
    simp only[hbk,QQ]
    cases ht:t k with
    |false=>
     simp only[Bool.false_eq_true,if_false,C1,and_false,Nat.add_zero,List.count_nil]
    |true=>
     simp only[if_true,C0,and_true];rw[if_pos hb,List.count_cons,List.count_nil];by_cases hx:x=p
     . subst hx
       simp only[if_true,beq_self_eq_true];omega
     . have:¬p=x:=fun h=>hx h.symm
       simp only[if_neg hx,beq_iff_eq,this,if_false];omega
theorem Ej {b n:Nat} {y:RP} {t:Nat->Bool} {a:Int} {p:Payload} (hb:b<n) (h4:4<=n) (h16:n<=16) (ha:X5 a=true) {d:Said} (hd:PO (n:Int) ((List.range n).map (OA b y t a p)) a=d):
 (d=⟨true,a,p⟩/\(1<=QQ b t n)/\(QQ b t n=1->Vl a y=true/\y.2.p=p))\/(d=Said.zero/\QQ b t n<2/\(QQ b t n=1->¬(Vl a y=true/\y.2.p=p))):=by
 have e:d=dl a (Mi b y t a p n):=by
  rw[<- hd];unfold PO;rw[if_pos ⟨by omega,by omega,ha⟩];unfold Ws Mi;rw[List.take_of_length_le (by simp)]
 have hc:=fun x=>D4 b y t a p x n
 have hu:∀q,Zk (Mi b y t a p n) q->q=p:=fun q hq=>by
  unfold Zk at hq;rw[hc] at hq;by_cases h:q=p
  . exact h
  . rw[if_neg h] at hq
    split at hq<;>omega
 by_cases hp:Zk (Mi b y t a p n) p
 . left
   refine⟨by rw[e,JI hp hu],?_⟩;unfold Zk at hp;rw[hc,if_pos rfl] at hp;by_cases h:b<n/\Vl a y=true/\y.2.p=p
   . rw[if_pos h] at hp
     exact⟨by omega,fun _=>h.2⟩
   . rw[if_neg h] at hp
     exact⟨by omega,fun h1=>by omega⟩
 . right
   refine⟨by rw[e,IC fun⟨q,h1,_⟩=>hp (hu q h1 ▸ h1)],?_⟩;unfold Zk at hp;rw[hc,if_pos rfl] at hp;by_cases h:b<n/\Vl a y=true/\y.2.p=p
   . rw[if_pos h] at hp
     exact⟨by omega,fun h1=>by omega⟩
   . rw[if_neg h] at hp
     exact⟨by omega,fun _ h2=>h ⟨hb,h2⟩⟩
end Go.Proofs.YtljeokninakliaaGreatDoor
end
