/- Parts, one behind the other. Parts of a proof. -/
import Derived.Test.YtljeokninakliaaGreatDoorJModelsCrew16
import Derived.Test.YtljeokninakliaaGreatDoorJModelsCrew24
import Derived.Deep.QuietTactic
import Derived.BigRegion
set_option linter.unusedSimpArgs false
set_option linter.unusedVariables false
set_option maxRecDepth 1000000
set_option maxHeartbeats 4000000
section
namespace Go.Proofs.YtljeokninakliaaGreatDoor
open Go.RowKit Tryz Go.MapKept
theorem Kn:MapT prog 138 32 3 (.int .i64 0) View.ks 9 9 where
 ht:=by kernel_rfl
 hk:=by kernel_rfl
 hn:=by omega
 hm:=by omega
 hagg:=by kernel_rfl
 hwide:=by kernel_rfl
 hkt:=by kernel_rfl
 hz:=fun w=>by go_simp
 hlen:=by kernel_rfl
theorem fld0 (z:Int) (u1 u2 u3 u4 u5 u6 u7 u8:Value) (w:World):(Instr.field 25 (.agg #[.int .i64 z,u1,u2,u3,u4,u5,u6,u7,u8]) 0).run prog w= .ok (.int .i64 z) w:=by kernel_rfl
attribute [go_sem high] fld0
def PS (l:List Held) (k:Nat):List AC:=(l.getD k Held.zero).cells.map .v
theorem EI (x:Held):PC (x.cells.map .v)=x.cell.view.cells.map .v:=by
 simp[PC,Held.cells,Cell.cells,Said.cells,Payload.cells,View.cells,List.take_of_length_le]
theorem jjqj (x:Held):cut x.cells 14 42=x.cell.view.cells:=by
 simp[cut,Held.cells,Cell.cells,Said.cells,Payload.cells,View.cells,List.take_of_length_le]
theorem Lz {x:Held} {wr wg:World} (hbg:Below (wr.alloc (Obj.cells x.cells.toArray 62)).heap.size (wr.alloc (Obj.cells x.cells.toArray 62)) wg):Blk wg wr.heap.size 62 x.cells/\wg.cell? ⟨wr.heap.size,0,none⟩=some (.bool x.is)/\grab wg wr.heap.size 14 42=some x.cell.view.cells/\wr.heap.size+1<=wg.heap.size:=by
 have hH:=(Blk.new wr 62 x.cells).below hbg (by simp);refine⟨hH,(hH.cell 0).trans rfl,?_,?_⟩
 . rw[hH.grab,if_pos (by rw[Held.len];omega),jjqj]
 . have:=hbg.size
   simp at this;omega
theorem DK {y:View} {wg wm:World} (hbm:Below (wg.alloc (Obj.cells y.cells.toArray 32)).heap.size (wg.alloc (Obj.cells y.cells.toArray 32)) wm):Blk wm wg.heap.size 32 y.cells/\wg.heap.size+1<=wm.heap.size:=by
 refine⟨(Blk.new wg 32 y.cells).below hbm (by simp),?_⟩;have:=hbm.size;simp at this;omega
theorem Qu {y:View} {w:World} {b:Nat} (h:Blk w b 32 y.cells):grab w b 0 42=some y.cells/\putOk w b 0 42=true/\∀v:View,put w b 0 v.cells=setB w b 32 v.cells:=by
 refine⟨?_,?_,fun v=>?_⟩
 . rw[h.grab,if_pos (by rw[View.len];omega),Ty _ _ (View.len _)]
 . rw[h.putOk,View.len];rfl
 . rw[h.put,U7 _ _ (by rw[View.len,View.len])]
theorem J4 (x:Held):Zz ((x.cells.map AC.v).getD 0 ZV)=x.is:=rfl
theorem jjgu (c:Cfg) (nq:Nat) (fq:Nat->Int) (N:Nat) (hN:c.nodes=(N:Int)) (h0:Zq c nq≠0) (hgv:WN c nq=true) (w:World) (β:Nm) (a:Addr) (hr:Rel (ZG w) β (mS++Xg c nq fq) w) (ha:γ1 β (.c (.ptr 5 0 0))=some (.pointer (some a))) (hβ:∀id,1000<=id->id<ZR->β id=none)
 (A:Option Addr) (n cap:Nat) (l:List Held) (hn:n<=1000000) (hnt:V5 (Zx (XQ c nq fq) (ZX (Xr c nq fq)) (min n N) (PS l))=true) (hlen:l.length=n) (hok:∀h∈l,h.Ok) (hl:Sl w w.heap.size 56 A n (l.flatMap Held.cells)):
 Calls prog 27 #[.pointer (some a),.slice A n cap] w fun e w'=>(∃x:View,e= .returned (.agg x.cells.toArray)/\x.cells.map AC.v=Uh (XQ c nq fq) (ZX (Xr c nq fq)) (min n N) (PS l))/\Below w.heap.size w w':=by
 have c1:∀w1,Below w.heap.size w w1->Calls prog 18 #[.pointer (some a)] w1 fun e w'=>e= .returned (.int .i64 (Zq c nq))/\Below w1.heap.size w1 w':=fun w1 hb=>
  Ig LC (args:=[.c (.ptr 5 0 0)]) (mem:=mS++Xg c nq fq) (r:=i64 (Zq c nq)) (ob:=[Zf c nq fq,true]) (by kernel_rfl) (by simp[ZZ,Yb,YN,Yi,Ya,XZ,Y0]) (β:=β) (vs:=[.pointer (some a)]) (LO hr hb (NI c nq fq)) (by simp only[γt,ha]) rfl rfl
 have c2:∀w1,Below w.heap.size w w1->Calls prog 24 #[.pointer (some a)] w1 fun e w'=>e= .returned (.agg (OR c nq fq).cells.toArray)/\Below w1.heap.size w1 w':=fun w1 hb=>by
  rw[CM];exact Ig Fr (args:=[.c (.ptr 5 0 0)]) (mem:=mS++Xg c nq fq) (r:=.agg (ZX (Xr c nq fq))) (ob:=[Zf c nq fq,true]) (by kernel_rfl) (by simp[ZZ,Yb,YN,Yi,Ya,XZ,Y0]) (β:=β) (vs:=[.pointer (some a)]) (LO hr hb (NI c nq fq)) (by simp only[γt,ha]) rfl (by simp only[γ,γ1,ZX,V3])
 have c3:∀w1,Below w.heap.size w w1->Calls prog 21 #[.pointer (some a)] w1 fun e w'=>(∃u1 u2 u3 u4 u5 u6 u7 u8,e= .returned (.agg #[.int .i64 c.nodes,u1,u2,u3,u4,u5,u6,u7,u8]))/\Below w1.heap.size w1 w':=fun w1 hb=>
  jjch c nq fq hgv (LO hr hb (NI c nq fq)) ha hβ
 have c4:∀(x:View) w1,Below w.heap.size w w1->Calls prog 6 #[.pointer (some a),.agg x.cells.toArray] w1 fun e w'=>e= .returned (.bool (XQ c nq fq (x.cells.map .v)))/\Below w1.heap.size w1 w':=fun x w1 hb=>
  jjgp c nq fq x (LO hr hb (NI c nq fq)) ha
 have efst:ZX (Xr c nq fq)=(OR c nq fq).cells.map .v:=by rw[CM]
 have hfst:=jjne c nq fq;rw[efst] at hnt ⊢;rw[hN] at c3;generalize Zq c nq=rr at c1 h0;generalize OR c nq fq=fx at c2 hfst hnt ⊢;generalize XQ c nq fq=may at c4 hnt ⊢;clear hr ha hβ hgv efst hN;have hnt:=of_decide_eq_true hnt
 go_enter Tryz.func27,Tryz.ntmps27
 go_wp2_with (first
  |(go_at_call 18;refine(c1 _ (by (repeat' (first|exact WO _ _|assumption|refine TA ?_|refine RJ _ ?_|refine Wp _ (by first|omega|(simp[YH,YE]<;>omega)) ?_|refine UB (by first|omega|(simp[YH,YE]<;>omega)) ?_|refine RH (by first|omega|(simp[YH,YE]<;>omega)) ?_|refine Wn (by first|omega|(simp[YH,YE]<;>omega)) ?_)))).mono ?_;rintro e w1 ⟨rfl,hb1⟩)
  |(go_at_call 24;refine(c2 _ ((Wp _ (Nat.le_refl _) (WO _ _)).trans (hb1.mono (by simp)))).mono ?_;rintro e w2 ⟨rfl,hb2⟩))
 have hz0:w.heap.size<w1.heap.size:=Nat.lt_of_lt_of_le (by simp) hb1.size;have hz1:w.heap.size<w2.heap.size:=Nat.lt_of_lt_of_le hz0 hb2.size;have hb:Below w.heap.size w w2:=((Wp _ (Nat.le_refl _) (WO _ _)).trans (hb1.mono (by simp))).trans (hb2.mono (by omega));have hv0:Blk w2 w.heap.size 32 View.zero.cells:=((Blk.new w 32 View.zero.cells).below hb1 (by simp)).below hb2 hz0;obtain⟨W,hW⟩:∃W,((w2.alloc (Obj.cells fx.cells.toArray 32)).alloc (Obj.map #[] 0))=W:=⟨_,rfl⟩
 have hm:MBlk W (w2.heap.size+1) []:=by
  subst hW;have:=MBlk.new (w2.alloc (Obj.cells fx.cells.toArray 32))
  rwa[show (w2.alloc (Obj.cells fx.cells.toArray 32)).heap.size=w2.heap.size+1 by simp] at this
 have hbu:Blk W w2.heap.size 32 fx.cells:=by
  subst hW;exact(Blk.new w2 32 fx.cells).alloc _
 have hv1:Blk W w.heap.size 32 View.zero.cells:=by subst hW;exact(hv0.alloc _).alloc _
 have hbW:Below w.heap.size w W:=by subst hW;exact Wp _ (by simp;omega) (Wp _ (by omega) hb)
 have hsW:w2.heap.size+1<W.heap.size:=by subst hW;simp
 rw[hW];clear hW hb1 hb2 hb hv0 c1;generalize w2.heap.size=bb at *
 go_loopw [22] (fun i wr=>∃(k:Nat) (m:KM),k<=n/\i= .int .i64 k/\KInv m (Zx may (fx.cells.map .v) (min k N) (PS l))/\Below w.heap.size w wr/\bb+1<wr.heap.size/\MBlk wr (bb+1) m.enc/\Blk wr bb 32 fx.cells/\Blk wr w.heap.size 32 View.zero.cells) (fun i _=>n-(intOf i).toNat)
 case atStart=>exact⟨0,[],Nat.zero_le _,rfl,by rw[Nat.zero_min];exact KInv.nil,hbW,hsW,hm,hbu,hv1⟩
 case round=>
  obtain⟨k,m,hk,rfl,hkv,hbel,hsz,hmb,hbb,hb0⟩:=hrel;by_cases hlt:k<n
  . obtain ⟨b,o,x,rfl,hb,hx,hg⟩:=(hl.below hbel).elem Held.len (by omega) hlt
    by_cases hkN:N<=k
    . have d1:((N:Int)<=(k:Int))=True:=eq_true (by omega)
      go_wp2_with (first|(go_at_call 21;refine(c3 _ (by (repeat' (first|exact WO _ _|assumption|refine TA ?_|refine RJ _ ?_|refine Wp _ (by first|omega|(simp[YH,YE]<;>omega)) ?_|refine UB (by first|omega|(simp[YH,YE]<;>omega)) ?_|refine RH (by first|omega|(simp[YH,YE]<;>omega)) ?_|refine Wn (by first|omega|(simp[YH,YE]<;>omega)) ?_)))).mono ?_;rintro e wg ⟨⟨z1,z2,z3,z4,z5,z6,z7,z8,rfl⟩,hbg⟩;obtain⟨hH,hci,hgv,hsg⟩:=Lz hbg))
      have hbg':Below (wr.heap.size+1) (wr.alloc (Obj.cells x.cells.toArray 62)) wg:=by simpa using hbg
      refine⟨⟨k+1,m,by omega,by simp,?_,(Wp _ hbel.size hbel).trans (hbg'.mono (by have:=hbel.size;omega)),by omega,(hmb.alloc _).below hbg' (by omega),(hbb.alloc _).below hbg' (by omega),(hb0.alloc _).below hbg' (by omega)⟩,by simp[intOf];omega⟩;rw[show min (k+1) N=min k N by omega];exact hkv
    . have d1:((N:Int)<=(k:Int))=False:=eq_false (by omega)
      have hmin:min (k+1) N=k+1:=by omega
      have hmin0:min k N=k:=by omega
      rw[hmin0] at hkv;have hgx:PS l k=x.cells.map .v:=by unfold PS;rw[List.getD,hx];rfl
      have hvs:=Hn may (fx.cells.map .v) k (PS l);rw[hgx] at hvs;cases hx1:x.is
      . go_wp2_with (first|(go_at_call 21;refine(c3 _ (by (repeat' (first|exact WO _ _|assumption|refine TA ?_|refine RJ _ ?_|refine Wp _ (by first|omega|(simp[YH,YE]<;>omega)) ?_|refine UB (by first|omega|(simp[YH,YE]<;>omega)) ?_|refine RH (by first|omega|(simp[YH,YE]<;>omega)) ?_|refine Wn (by first|omega|(simp[YH,YE]<;>omega)) ?_)))).mono ?_;rintro e wg ⟨⟨z1,z2,z3,z4,z5,z6,z7,z8,rfl⟩,hbg⟩;obtain⟨hH,hci,hgv,hsg⟩:=Lz hbg))
        have hbg':Below (wr.heap.size+1) (wr.alloc (Obj.cells x.cells.toArray 62)) wg:=by simpa using hbg
        refine⟨⟨k+1,m,by omega,by simp,?_,(Wp _ hbel.size hbel).trans (hbg'.mono (by have:=hbel.size;omega)),by omega,(hmb.alloc _).below hbg' (by omega),(hbb.alloc _).below hbg' (by omega),(hb0.alloc _).below hbg' (by omega)⟩,by simp[intOf];omega⟩;have:Yf may (fx.cells.map .v) (x.cells.map .v)=none:=by unfold Yf;rw[J4,hx1]
        rw[hmin,hvs,this];simpa using hkv
      . have hxo:x.cell.view.Ok:=(hok x (List.mem_of_getElem? hx)).2.2.2
        have hcl:∀q,m.cnt q<=k:=fun q=>by
         by_cases hq:q∈m.map (·.1)
         . obtain⟨z,hz,rfl⟩:=hkv.ok q hq
           rw[hkv.cnt z hz];exact Nat.le_trans (jjoa _ _) (CT may _ k _)
         . rw[KM.cnt_not hq];omega
        have hkS:∀q∈m.map (·.1),ZK View.ks q:=fun q hq=>by
         obtain⟨z,hz,rfl⟩:=hkv.ok q hq;exact z.shape
        have hwl:w.heap.size<=wr.heap.size:=hbel.size;cases hmy:may (x.cell.view.cells.map .v)
        . go_wp2_with (first
           |(go_at_call 21;refine(c3 _ (by (repeat' (first|exact WO _ _|assumption|refine TA ?_|refine RJ _ ?_|refine Wp _ (by first|omega|(simp[YH,YE]<;>omega)) ?_|refine UB (by first|omega|(simp[YH,YE]<;>omega)) ?_|refine RH (by first|omega|(simp[YH,YE]<;>omega)) ?_|refine Wn (by first|omega|(simp[YH,YE]<;>omega)) ?_)))).mono ?_;rintro e wg ⟨⟨z1,z2,z3,z4,z5,z6,z7,z8,rfl⟩,hbg⟩;obtain⟨hH,hci,hgv,hsg⟩:=Lz hbg)
           |(go_at_call 6;refine(c4 x.cell.view _ (Wp _ (by have:=hbel.size;omega) ((Wp _ hbel.size hbel).trans (hbg.mono (by have:=hbel.size;simp;omega))))).mono ?_;rintro e wm ⟨rfl,hbm⟩;obtain⟨hBv,hsm⟩:=DK hbm)
           |(go_at_call 24;refine(c2 _ ((Wp _ (by omega) ((Wp _ hbel.size hbel).trans (hbg.mono (by simp;omega)))).trans (hbm.mono (by simp;omega)))).mono ?_;rintro e wf ⟨rfl,hbf⟩;obtain⟨hgb,hpo,hpu⟩:=Qu (hBv.below hbf (by omega))))
          have hbg':Below (wr.heap.size+1) (wr.alloc (Obj.cells x.cells.toArray 62)) wg:=by simpa using hbg
          have hbm':Below (wg.heap.size+1) (wg.alloc (Obj.cells x.cell.view.cells.toArray 32)) wm:=by simpa using hbm
          have hsf:=hbf.size;obtain⟨W1,hW1⟩:∃W1,setB wf wg.heap.size 32 fx.cells=W1:=⟨_,rfl⟩
          have hB1:Blk W1 wg.heap.size 32 fx.cells:=hW1 ▸ (hBv.below hbf (by omega)).same fx.cells;have hM1:MBlk W1 (bb+1) m.enc:=hW1 ▸ Dd (((((hmb.alloc _).below hbg' (by omega)).alloc _).below hbm' (by omega)).below hbf (by omega)) (by omega) _;have hb1:Blk W1 bb 32 fx.cells:=hW1 ▸ (((((hbb.alloc _).below hbg' (by omega)).alloc _).below hbm' (by omega)).below hbf (by omega)).other (by omega) _;have h01:Blk W1 w.heap.size 32 View.zero.cells:=hW1 ▸ (((((hb0.alloc _).below hbg' (by omega)).alloc _).below hbm' (by omega)).below hbf (by omega)).other (by omega) _;have hbl1:Below w.heap.size w W1:=hW1 ▸ UB (by omega) (((Wp _ (by omega) ((Wp _ hbel.size hbel).trans (hbg'.mono (by omega)))).trans (hbm'.mono (by omega))).trans (hbf.mono (by omega)));have hs1:wg.heap.size+1<=W1.heap.size:=by rw[<- hW1,YH];omega
          rw[hW1];have hhv:Yf may (fx.cells.map .v) (x.cells.map .v)=some (fx.cells.map .v):=by unfold Yf;rw[J4,hx1,EI,hmy]
          obtain⟨y,hyd⟩:∃y:View,y=fx:=⟨_,rfl⟩
          have hyo:y.Ok:=hyd ▸ hfst;rw[show some (List.map AC.v fx.cells)=some (List.map AC.v y.cells) by rw[hyd]] at hhv;rw[show Blk W1 wg.heap.size 32 fx.cells=Blk W1 wg.heap.size 32 y.cells by rw[hyd]] at hB1;clear hW1 hyd hgb hpo hpu hBv hsf hbf hbm hbm' hbg hbg' hH hci hgv hsm hmy;have hpf:Flat View.ks y.cells:=View.ok_flat hyo;obtain⟨es1,idx,H1,H2,H3,H4,H5⟩:=KM.bump Kn m hkS y.cells hpf (bb+1);have hci0:=hcl y.cells;obtain⟨cc,hcc⟩:∃cc:Int,((m.cnt y.cells:Nat):Int)=cc:=⟨_,rfl⟩
          rw[hcc] at H1 H2 H4 H5;have hwr:wrap64 (cc+1)=cc+1:=by unfold RowKit.wrap64;omega
          clear hcc hci0;have hm2:MBlk W1.drew (bb+1) m.enc:=hM1;have hgb:=(Qu hB1).1;have a1:=H4 W1 hM1;have a2:=H4 W1.drew hm2;have b1:=H1 W1 hM1;have b2:=H1 W1.drew hm2;have q1:=H5 _ (H3 W1 hM1);have q2:=H5 _ (H3 W1.drew hm2);have q3:=H5 (setM W1 (bb+1) es1).drew (H3 W1 hM1);have e1:=H2 _ (H3 W1 hM1);have e2:=H2 _ (H3 W1.drew hm2);have e3:=H2 (setM W1 (bb+1) es1).drew (H3 W1 hM1);clear H1 H2 H3 H4 H5
          go_region
          rw[Lg]
          go_wp2
          exact⟨⟨k+1,m.inc y.cells,by omega,by simp,by rw[hmin,hvs,hhv];exact hkv.inc hyo,(TA hbl1).trans (Ld (by omega)),by rw[Lf];show bb+1<W1.heap.size;omega,hm2.set _,(show Blk W1.drew bb 32 fx.cells from hb1).setM (by omega) _,(show Blk W1.drew w.heap.size 32 View.zero.cells from h01).setM (by omega) _⟩,by simp[intOf];omega⟩
        . go_wp2_with (first
           |(go_at_call 21;refine(c3 _ (by (repeat' (first|exact WO _ _|assumption|refine TA ?_|refine RJ _ ?_|refine Wp _ (by first|omega|(simp[YH,YE]<;>omega)) ?_|refine UB (by first|omega|(simp[YH,YE]<;>omega)) ?_|refine RH (by first|omega|(simp[YH,YE]<;>omega)) ?_|refine Wn (by first|omega|(simp[YH,YE]<;>omega)) ?_)))).mono ?_;rintro e wg ⟨⟨z1,z2,z3,z4,z5,z6,z7,z8,rfl⟩,hbg⟩;obtain⟨hH,hci,hgv,hsg⟩:=Lz hbg)
           |(go_at_call 6;refine(c4 x.cell.view _ (Wp _ (by have:=hbel.size;omega) ((Wp _ hbel.size hbel).trans (hbg.mono (by have:=hbel.size;simp;omega))))).mono ?_;rintro e wm ⟨rfl,hbm⟩;obtain⟨hBv,hsm⟩:=DK hbm;have hgb:=(Qu hBv).1))
          have hbg':Below (wr.heap.size+1) (wr.alloc (Obj.cells x.cells.toArray 62)) wg:=by simpa using hbg
          have hbm':Below (wg.heap.size+1) (wg.alloc (Obj.cells x.cell.view.cells.toArray 32)) wm:=by simpa using hbm
          have hM1:MBlk wm (bb+1) m.enc:=((((hmb.alloc _).below hbg' (by omega)).alloc _).below hbm' (by omega))
          have hb1:Blk wm bb 32 fx.cells:=((((hbb.alloc _).below hbg' (by omega)).alloc _).below hbm' (by omega))
          have h01:Blk wm w.heap.size 32 View.zero.cells:=((((hb0.alloc _).below hbg' (by omega)).alloc _).below hbm' (by omega))
          have hbl1:Below w.heap.size w wm:=((Wp _ (by omega) ((Wp _ hbel.size hbel).trans (hbg'.mono (by omega)))).trans (hbm'.mono (by omega)))
          have hs1:wg.heap.size+1<=wm.heap.size:=hsm;have hhv:Yf may (fx.cells.map .v) (x.cells.map .v)=some (x.cell.view.cells.map .v):=by unfold Yf;rw[J4,hx1,EI,hmy]
          have hB1:=hBv;clear hgb hBv hbm hbm' hbg hbg' hH hci hgv hsm hmy;generalize x.cell.view=y at *;have hyo:=hxo;generalize wm=W1 at *;have hpf:Flat View.ks y.cells:=View.ok_flat hyo;obtain⟨es1,idx,H1,H2,H3,H4,H5⟩:=KM.bump Kn m hkS y.cells hpf (bb+1);have hci0:=hcl y.cells;obtain⟨cc,hcc⟩:∃cc:Int,((m.cnt y.cells:Nat):Int)=cc:=⟨_,rfl⟩
          rw[hcc] at H1 H2 H4 H5;have hwr:wrap64 (cc+1)=cc+1:=by unfold RowKit.wrap64;omega
          clear hcc hci0;have hm2:MBlk W1.drew (bb+1) m.enc:=hM1;have hgb:=(Qu hB1).1;have a1:=H4 W1 hM1;have a2:=H4 W1.drew hm2;have b1:=H1 W1 hM1;have b2:=H1 W1.drew hm2;have q1:=H5 _ (H3 W1 hM1);have q2:=H5 _ (H3 W1.drew hm2);have q3:=H5 (setM W1 (bb+1) es1).drew (H3 W1 hM1);have e1:=H2 _ (H3 W1 hM1);have e2:=H2 _ (H3 W1.drew hm2);have e3:=H2 (setM W1 (bb+1) es1).drew (H3 W1 hM1);clear H1 H2 H3 H4 H5
          go_region
          rw[Lg]
          go_wp2
          exact⟨⟨k+1,m.inc y.cells,by omega,by simp,by rw[hmin,hvs,hhv];exact hkv.inc hyo,(TA hbl1).trans (Ld (by omega)),by rw[Lf];show bb+1<W1.heap.size;omega,hm2.set _,(show Blk W1.drew bb 32 fx.cells from hb1).setM (by omega) _,(show Blk W1.drew w.heap.size 32 View.zero.cells from h01).setM (by omega) _⟩,by simp[intOf];omega⟩
  . obtain rfl:k=n:=by omega
    obtain⟨vs,hvs⟩:∃vs,Zx may (fx.cells.map .v) (min k N) (PS l)=vs:=⟨_,rfl⟩
    have hbase:Uh may (fx.cells.map .v) (min k N) (PS l)=Ui WK (fx.cells.map .v) vs:=by unfold Uh;rw[hvs]
    rw[hvs] at hkv hnt
    have hvok:∀v∈vs,Ww v:=fun v hv=>by
     obtain⟨q,rfl⟩:=hkv.val v hv;obtain⟨z,hz,rfl⟩:=hkv.ok q ((hkv.mem q).2 hv);exact Hv _
    have hvl:vs.length<=1000000:=by rw[<- hvs];exact Nat.le_trans (CT may _ _ _) (by omega)
    have hrg:=run_range_map (P:=prog) wr 138 32 3 (bb+1) (ZF 0 m.enc).toArray m.enc.length (by kernel_rfl) hmb;have hwl:w.heap.size<=wr.heap.size:=hbel.size;obtain⟨bi,hbi⟩:∃bi,wr.heap.size=bi:=⟨_,rfl⟩
    have hit:IBlk (wr.alloc (.mapIter (some (bb+1)) m.enc.length #[] m.enc.length)) bi (bb+1) m.enc.length #[] m.enc.length:=hbi ▸ IBlk.new wr (bb+1) m.enc.length m.enc.length #[];have hsz1:(wr.alloc (.mapIter (some (bb+1)) m.enc.length #[] m.enc.length)).heap.size=bi+1:=by rw[<- hbi];simp
    rw[hbi] at hrg hsz hwl;clear hvs hm hbu hsW hv1 hbW hl hlen hok c3 c4 c2
    go_wp2
    go_loopw [10] (fun i wr2=>∃(seen:Array Nat) (best:View) (s:Nat),i= .int .i64 s/\Best (fx.cells.map .v) (Yj WK vs) (QS m seen) (best.cells.map .v) s/\Below w.heap.size w wr2/\bi+1<=wr2.heap.size/\IBlk wr2 bi (bb+1) m.enc.length seen m.enc.length/\MBlk wr2 (bb+1) m.enc/\Blk wr2 bb 32 best.cells/\Blk wr2 w.heap.size 32 View.zero.cells) (fun _ wr2=>(leftOf (ZF 0 m.enc).toArray (wr2.iterSeen bi)).size)
    case atStart=>exact⟨#[],fx,0,rfl,Best.zero fun v=>jjfn m v,Wp _ (by omega) hbel,by omega,hit,hmb.alloc _,hbb.alloc _,hb0.alloc _⟩
    case round=>
     obtain⟨seen,best,s,rfl,hbe,hbel2,hsz2,hib,hmb2,hbb2,hb02⟩:=hrel
     have hold:∀x∈(ZF 0 m.enc).toArray.toList,x.born<m.enc.length:=fun x hx=>by
      obtain⟨i,hi,e,_⟩:=E5 m.enc x hx;omega
     rcases jj9l (P:=prog) wr bi (bb+1) m.enc.length m.enc.length seen (ZF 0 m.enc).toArray m.enc.length hib hmb2 hold (Nat.le_refl _) with⟨hl0,hnx⟩|⟨e,he,w3,hw3,hnx⟩
     . obtain⟨hgb,hpo,hpu⟩:=Qu hb02
       have hgb2:=(Qu hbb2).1;have hw0:w.heap.size<wr.heap.size:=by omega
       go_wp2
       refine bodyPost_ret (Ri rfl (k:=42) (by kernel_rfl) rfl (by first|(go_simp;done)|(go_simp;rw[(hb02.same best.cells).grab,if_pos (by rw[View.len];omega),Ty _ _ (View.len _)]))) rfl ⟨⟨best,Rh rfl,?_⟩,?_⟩
       . exact jjky Sd (fun a c h1 h2 h3=>(Qy (hvok a h1) (hvok c h2)).1 (hnt a h1 c h2 h3)) (hbe.congr (jjiv hkv hl0))
       . exact UB (Nat.le_refl _) hbel2
     . obtain⟨he1,he2⟩:=mem_left he
       obtain⟨i,hi,hbn,p,hp1,hp2,hp3⟩:=E5 m.enc e he1
       obtain⟨⟨q,cn⟩,hq1,hq2⟩:∃z,m[i]? =some z/\p=(z.1,.int .i64 (z.2:Int)):=by
        have:=hp1;simp only[KM.enc,List.getElem?_map,Option.map_eq_some_iff] at this;obtain⟨z,hz1,hz2⟩:=this;exact⟨z,hz1,hz2.symm⟩
       subst hq2;obtain⟨y,hyo,rfl,hcn,hym⟩:=hkv.at_ hq1;have ek:e.key= .agg y.cells.toArray:=hp2;have ev:e.val= .int .i64 (cn:Int):=hp3;have hent0:=fun W4 h1 h2=>jj9o (P:=prog) W4 bi (bb+1) m.enc.length seen (ZF 0 m.enc).toArray m.enc.length e h1 h2 he1 (jjf4 m.enc)
       have hshr:=left_shrinks (ZF 0 m.enc).toArray seen e he;rw[ek,ev,hbn] at hnx hent0;rw[hbn] at hshr;have hpos:0<Yj WK vs (y.cells.map .v):=E2 Sd hym
       have hB:cn≠s:=fun hs=>by
        rcases hbe with⟨_,_,h0⟩|⟨⟨j,q,c',g1,g2,g3⟩,g4,_⟩
        . omega
        . obtain⟨_,_,rfl,_,g5⟩:=hkv.at_ g2
          rw[<- g3] at g5;have hq:=(Qy (hvok _ g5) (hvok _ hym)).1 (hnt _ g5 _ hym (by omega));rw[g3] at hq;have hq:=Ll hq;have hj:j=i:=(List.getElem?_inj (by have:=(List.getElem?_eq_some_iff.1 g2).1;simpa using this) hkv.nd).1 (by rw[List.getElem?_map,List.getElem?_map,g2,hq1,Option.map_some,Option.map_some,hq]);rw[hj,<- hbn] at g1;rw[g1] at he2;cases he2
       have hstep:=hbe.step (y.cells.map .v) hpos;have hvis:∀v,(QS m seen v\/v=y.cells.map AC.v)↔QS m (seen.push i) v:=fun v=>(jjfm m seen i hq1 v).symm
       have hstep:=hstep.congr hvis;unfold TS at hstep;simp only[<- hcn] at hstep;have hib3:IBlk w3 bi (bb+1) m.enc.length seen m.enc.length:=by rcases hw3 with rfl|rfl<;>exact hib
       have hmb3:MBlk w3 (bb+1) m.enc:=by rcases hw3 with rfl|rfl<;>exact hmb2
       have hbb3:Blk w3 bb 32 best.cells:=by rcases hw3 with rfl|rfl<;>exact hbb2
       have hb03:Blk w3 w.heap.size 32 View.zero.cells:=by rcases hw3 with rfl|rfl<;>exact hb02
       have hbel3:Below w.heap.size w w3:=by
        rcases hw3 with rfl|rfl
        . exact hbel2
        . exact TA hbel2
       have hsz3:bi+1<=w3.heap.size:=by rcases hw3 with rfl|rfl<;>exact hsz2
       have hI4:=hib3.set (seen.push i) m.enc.length;have hM4:=hmb3.setI (b':=bi) (by omega) (bb+1) m.enc.length (seen.push i) m.enc.length;have hb4:=hbb3.setI (b':=bi) (by omega) (bb+1) m.enc.length (seen.push i) m.enc.length;have h04:=hb03.setI (b':=bi) (by omega) (bb+1) m.enc.length (seen.push i) m.enc.length;have hbl4:Below w.heap.size w (setI w3 bi (bb+1) m.enc.length (seen.push i) m.enc.length):=hbel3.trans (jjf7 _ _ _ _ (by omega));have hs4:bi+1<=(setI w3 bi (bb+1) m.enc.length (seen.push i) m.enc.length).heap.size:=by rw[jjft];exact hsz3
       generalize setI w3 bi (bb+1) m.enc.length (seen.push i) m.enc.length=W4 at hnx hI4 hM4 hb4 h04 hbl4 hs4;have hent:=hent0 W4 hI4 hM4;have hseen:wr.iterSeen bi=seen:=hib.seen;have hY5:Blk (W4.alloc (Obj.cells y.cells.toArray 32)) W4.heap.size 32 y.cells:=Blk.new _ _ _;obtain⟨hg5,hpo5,hpu5⟩:=Qu (hb4.alloc (Obj.cells y.cells.toArray 32));have hsl:(W4.alloc (Obj.cells y.cells.toArray 32)).heap.size=W4.heap.size+1:=by simp
       clear hent0 hib3 hmb3 hbb3 hb03 hbel3 hsz3 hib hmb2 hbb2 hb02 hbel2 hsz2 hw3 he he1 he2 hp1 hp2 hp3 ek ev hvis hbe hbn;by_cases hA:s<cn
       . have d1:((s:Int)<(cn:Int))=True:=eq_true (by omega)
         rw[if_pos hA] at hstep
         go_wp2
         have hI5:=(hI4.alloc (Obj.cells y.cells.toArray 32)).setB (b':=bb) (by omega) 32 y.cells;exact⟨⟨seen.push i,y,cn,by rw[hcn],hstep,UB (by omega) (Wp _ (by omega) hbl4),by rw[YH,hsl];omega,hI5,Dd (hM4.alloc _) (by omega) _,(hb4.alloc _).same _,(h04.alloc _).other (by omega) _⟩,by rw[hI5.seen,hseen];exact hshr⟩
       . have d1:((s:Int)<(cn:Int))=False:=eq_false (by omega)
         have d2:((cn:Int)=(s:Int))=False:=eq_false (by omega);rw[if_neg hA] at hstep
         go_wp2
         have hI5:=hI4.alloc (Obj.cells y.cells.toArray 32);exact⟨⟨seen.push i,best,s,rfl,hstep,Wp _ (by omega) hbl4,by rw[hsl];omega,hI5,hM4.alloc _,hb4.alloc _,h04.alloc _⟩,by rw[hI5.seen,hseen];exact hshr⟩
end Go.Proofs.YtljeokninakliaaGreatDoor
end
section
namespace Go.Proofs.YtljeokninakliaaGreatDoor
open Go.RowKit Tryz
theorem DQ:∀(l:List Held) (i:Nat) (h:i / 56<l.length),(l.flatMap Held.cells)[i]? =(l[i / 56]).cells[i % 56]?
 | [],i,h=>absurd h (by simp)
 |y::r,i,h=>by
  rw[List.flatMap_cons];by_cases hlt:i<56
  . rw[List.getElem?_append_left (by rw[Held.len];exact hlt)]
    have e:i / 56=0:=by omega
    simp only[e,List.getElem_cons_zero,show i % 56=i by omega]
  . rw[List.getElem?_append_right (by rw[Held.len];omega),Held.len]
    have e:i / 56=(i-56) / 56+1:=by omega
    have h':(i-56) / 56<r.length:=by simp only[List.length_cons] at h;omega
    rw[DQ r (i-56) h'];simp only[e,List.getElem_cons_succ,show (i-56) % 56=i % 56 by omega]
theorem Ds {C:Ctx} {β:Nm} {w:World} {L:Loc} {x:ABlk} {f:Nat->List AC} {q n:Nat} (hk:YV C β w L x) (hc:x.cs= .arr q f) (h56:x.sz=56) (hnq:n<=q) (hn:L.nil=false) {l:List Held} (h1:l.length=n) (h3:∀i (hi:i<l.length),f i=(l[i]).cells.map .v):
 Sl w w.heap.size 56 (some ⟨L.b,L.o,none⟩) n (l.flatMap Held.cells):=by
 have hlen:(l.flatMap Held.cells).length=n*56:=by
  subst h1;clear h3 hnq
  induction l with
  |nil=>rfl
  |cons y r ih=>simp only[List.flatMap_cons,List.length_append,ih,Held.len,List.length_cons];omega
 refine⟨hlen,fun _=>⟨L.b,L.o,rfl,hk.lt hn,fun i u hu=>?_⟩⟩;have hi:i<n*56:=by rw[<- hlen];exact(List.getElem?_eq_some_iff.1 hu).1
 have hd:i / 56<l.length:=by omega
 have hm:i % 56<56:=Nat.mod_lt _ (by omega);have hcell:(l[i / 56]).cells[i % 56]? =some u:=by rw[<- hu];exact(DQ l i hd).symm
 obtain⟨_,v,g1,g2,g3⟩:=hk.cells (i / 56) (i % 56) (by simp only[ABlk.inb,hc,h56];simp;omega);rw[hc] at g1;simp only[Cs.get] at g1;rw[h3 _ hd] at g1;simp only[List.getD,List.getElem?_map,hcell,Option.map_some,Option.getD_some,γc,Option.some.injEq] at g1;subst g1;rw[hk.sz,h56] at g3;rw[<- g3];congr 2;omega
structure NetHS where
 c:Cfg
 nq:Nat
 fq:Nat->Int
 n:Nat
 f:Nat->List AC
def O2 (ty:Nat):Rd NetHS where
 dec:=fun xs m=>
  match xs with
  | [.c (.ptr id 0 0),.c (.sl id2 0 0 n cp)]=>
   match ZY m id,ZY m id2,WG mS m with
   |some ⟨_,_,_,_,.lit l⟩,some ⟨_,_,_,sz,.arr q F⟩,true=>match TE l m,cp with|some (c,nq,fq,b),none=>some (⟨c,nq,fq,n,F⟩,b&&(decide (n<=q)&&(Nat.beq sz 56&&YS n F)))|_,_=>none
   |_,_,_=>none
  |_=>none
 args:=fun s=>[.c (.ptr 5 0 0),.c (.sl 6 0 0 s.n none)]
 mem:=fun s=>mS++Xg s.c s.nq s.fq++[(6,Um ty s.n s.f)]
 ok :=by
  intro C β m m2 w xs s vs hs hr hd hv;split at hd
  . rename_i id id2 n cp
    split at hd
    . rename_i o1 r1' t1 s1 l o2 r2' t2 sz q F hlk hlk2 hg
      split at hd
      . rename_i c nq fq b hc
        simp only[Option.some.injEq,Prod.mk.injEq,Bool.and_eq_true,decide_eq_true_eq] at hd;obtain⟨rfl,rfl,h1,h2,h3⟩:=hd;obtain rfl:=Nat.eq_of_beq_eq_true h2;simp only[γt] at hv;split at hv
        . rename_i v0 us hv0 hus
          cases hv;split at hus
          . rename_i v1 us1 hv1 hus1
            cases hus1;cases hus;obtain⟨β1,q1,q2,q3,q4⟩:=D7 (G:=mS) (by kernel_rfl) hs hr hlk rfl hc hg hv0;obtain⟨L,hL,r1⟩:=C6 hr (hs _ _ hlk2) h1 h3 ty q1 q4 (id0:=6) (q3 6 (by omega) (by unfold ZR;omega)) (W8 (by unfold ZR;omega));refine⟨_,r1,?_,fun id' h1 h2=>?_⟩
            . have e1:γc (ZU β1 6 L) (.sl 6 0 0 n none)=some v1:=jjq1 hL hv1 (by simp[ZU])
              have e2:γc (ZU β1 6 L) (.ptr 5 0 0)=some v0:=by
               have:(ZU β1 6 L) 5=β1 5:=by unfold ZU;rw[if_neg (by omega)]
               simp only[γc,this] at q2 ⊢;exact q2
              simp only[γt,γ1,e2,e1]
            . unfold ZU
              rw[if_neg (by omega)];exact q3 id' (by omega) h2
          . cases hus
        . cases hv
      . cases hd
    . cases hd
  . cases hd
theorem jjet {S:Type} {P:Program} {f:FuncId} (rd:Rd S) {R:S->AV} {pre:S->Bool} (hf:∃(fn:Func) (c:Code),P.funcs[f]? =some fn/\fn.body=some c) (hres:∀s,XV (R s)=true)
 (run:∀s,pre s=true->∀(w:World) (β:Nm) (vs:List Value),Rel (ZG w) β (rd.mem s) w->γt β (rd.args s)=some vs->(∀id,1000<=id->id<ZR->β id=none)->Calls P f vs.toArray w fun e w'=>∃v,e= .returned v/\γ β (R s)=some v/\Below w.heap.size w w'):ZA P f (Y9 rd R pre):=by
 refine⟨hf,fun C β m m2 w args ib r news k' ob vs hct ho hs hr hfree hlim hv=>?_⟩;unfold Y9 at hct;split at hct
 . rename_i s b hd
   simp only[Option.some.injEq,Prod.mk.injEq] at hct;obtain⟨rfl,rfl,rfl,rfl⟩:=hct;simp only[ZZ,List.forall_mem_cons] at ho;obtain⟨rfl,o2,_⟩:=ho;obtain⟨β1,q1,q2,q3⟩:=rd.ok hs hr hd hv;refine(run s o2 w β1 vs q1 q2 q3).mono ?_;rintro e w' ⟨u,rfl,hu,hb⟩;exact⟨β,u,rfl,Ext.refl _,fun _ _=>rfl,HK (hres s) _ _ _ hu,by rw[List.append_nil];exact hr.below hb⟩
 . cases hct
theorem jj9d {may:List AC->Bool} {fst:List AC} {n:Nat} {F G:Nat->List AC} (h:∀k,k<n->F k=G k):Zx may fst n F=Zx may fst n G:=by
 unfold Zx
 induction n with
 |zero=>rfl
 |succ n ih=>
  rw[List.range_succ,List.filterMap_append,List.filterMap_append,ih fun k hk=>h k (by omega)];simp only[List.filterMap_cons,List.filterMap_nil,h n (by omega)]
def OG (c:Cfg) (nq:Nat) (fq:Nat->Int) (n:Nat) (F:Nat->List AC):Vw:=Zi (Uh (XQ c nq fq) (ZX (Xr c nq fq)) (min n c.nodes.toNat) F)
def bsR:NetHS->AV:=fun s=>.agg (ZX (OG s.c s.nq s.fq s.n s.f))
def GC:NetHS->Bool:=fun s=>decide (Zq s.c s.nq≠0)&&(WN s.c s.nq&&(decide (0<=s.c.nodes)&&(decide (s.n<=1000000)&&(YS s.n s.f&&V5 (Zx (XQ s.c s.nq s.fq) (ZX (Xr s.c s.nq s.fq)) (min s.n s.c.nodes.toNat) s.f)))))
def Qe:Yk:=Y9 (O2 62) bsR GC
theorem jjgf {n:Nat} {F:Nat->List AC} (h:YS n F=true):∃l:List Held,l.length=n/\(∀x∈l,x.Ok)/\∀k,k<n->F k=PS l k:=by
 have key:∀j,j<=n->∃l:List Held,l.length=j/\(∀x∈l,x.Ok)/\∀k,k<j->F k=PS l k:=by
  intro j
  induction j with
  |zero=>exact fun _=>⟨[],rfl,by simp,fun k hk=>by omega⟩
  |succ j ih=>
   intro hj;obtain⟨l,h1,h2,h3⟩:=ih (by omega);obtain⟨us,hu,hfl⟩:=Nz (Ln h (show j<n by omega));obtain⟨y,hy,rfl⟩:=Held.of_flat hfl;refine⟨l++[y],by simp[h1],fun x hx=>?_,fun k hk=>?_⟩
   . rcases List.mem_append.1 hx with e|e
     . exact h2 x e
     . rw[List.mem_singleton.1 e];exact hy
   . by_cases hkj:k<j
     . rw[h3 k hkj]
       unfold PS;rw[List.getD,List.getD,List.getElem?_append_left (by omega)]
     . obtain rfl:k=j:=by omega
       rw[hu];unfold PS;rw[List.getD,List.getElem?_append_right (by omega),h1];simp
 exact key n (Nat.le_refl _)
theorem EU:ZA prog 27 Qe:=by
 refine jjet (O2 62) ⟨_,_,Tryz.func27,rfl⟩ (fun s=>jjg6 _) fun s hs w β vs hr hv hβ=>?_
 obtain⟨c,nq,fq,n,F⟩:=s;simp only[GC,Bool.and_eq_true,decide_eq_true_eq] at hs;obtain⟨h0,hg,hnn,hn,hF,hnt⟩:=hs;obtain⟨N,hN⟩:=Int.eq_ofNat_of_zero_le hnn;obtain⟨v1,u1,rfl,e1,h1⟩:=Ea hv;obtain⟨v2,u2,rfl,e2,h2⟩:=Ea h1;cases h2
 have ha:∃a,v1= .pointer (some a):=by
  simp only[γ1,γc] at e1;split at e1
  . rename_i a _;exact⟨a,(Option.some.inj e1).symm⟩
  . cases e1
 obtain⟨a,rfl⟩:=ha
 have hr':Rel (ZG w) β (mS++Xg c nq fq) w:=by
  have h:=hr.ro (m:=mS++Xg c nq fq) (fun id x h=>by
   show ZY (mS++Xg c nq fq++[(6,Um 62 n F)]) id=some x
   rw[TV,h])
  rwa[NI] at h
 obtain⟨l,hl1,hl2,hl3⟩:=jjgf hF;have hlk:ZY (mS++Xg c nq fq++[(6,Um 62 n F)]) 6=some (Um 62 n F):=by kernel_rfl
 obtain⟨L,hL,hk⟩:=hr.blk 6 _ hlk
 have hsl:∃A cap,v2= .slice A n cap/\Sl w w.heap.size 56 A n (l.flatMap Held.cells):=by
  simp only[γ1,γc,hL] at e2
  cases hn0:L.nil with
  |true=>
   rw[hn0] at e2;simp only[if_true] at e2;split at e2
   . rename_i h0'
     obtain⟨h01,h02⟩:=h0';cases e2;subst h01;obtain rfl:=List.length_eq_zero_iff.1 hl1;exact⟨none,_,rfl,Sl.nil⟩
   . cases e2
  |false=>
   rw[hn0] at e2;simp only[Bool.false_eq_true,if_false,Nat.zero_mul,Nat.add_zero,Option.some.injEq] at e2;refine⟨_,_,e2.symm,Ds hk rfl rfl (Nat.le_refl _) hn0 hl1 fun i hi=>?_⟩;obtain⟨_,_,_,e⟩:=NJ (Ln hF (show i<n by omega));show YC (Ul (F i))=_;rw[e,hl3 i (by omega)];unfold PS;simp[List.getD,hi]
 obtain⟨A,cap,rfl,hsl⟩:=hsl;have hvs:Zx (XQ c nq fq) (ZX (Xr c nq fq)) (min n N) F=Zx (XQ c nq fq) (ZX (Xr c nq fq)) (min n N) (PS l):=jj9d fun k hk=>hl3 k (by omega)
 have hnt:V5 (Zx (XQ c nq fq) (ZX (Xr c nq fq)) (min n N) F)=true:=by rw[hN] at hnt;exact hnt
 rw[hvs] at hnt;refine(jjgu c nq fq N hN h0 hg w β a hr' e1 hβ A n cap l hn hnt hl1 hl2 hsl).mono ?_;rintro e w' ⟨⟨x,rfl,hx⟩,hb⟩;refine⟨_,rfl,?_,hb⟩
 have hbs:OG c nq fq n F=Zi (x.cells.map .v):=by
  unfold OG;rw[hx,hN];congr 1;exact congrArg (Ui WK (ZX (Xr c nq fq))) hvs
 have e:ZX (T4 x)=x.cells.map .v:=by show (T4 x).cells.map AC.v=_;rw[Qp]
 show γ β (.agg (ZX (OG c nq fq n F)))=_;rw[hbs,<- e,show ZX (Zi (ZX (T4 x)))=ZX (T4 x) from rfl];simp only[γ,γ1,ZX,V3,Qp]
theorem jjn7 {l:List AC} (h:Zn Held.ks l=true):∃v:Vw,v.Ok/\PC l=ZX v/\ZX (Ul l).u=PC l:=by
 obtain⟨x,hx,e1,e2⟩:=NJ h;refine⟨T4 x.cell.view,F4 hx.2.2.2,by rw[e1];rfl,?_⟩;have:PC (YC (Ul l))=ZX (Ul l).u:=rfl;rw[<- this,e2]
theorem Iy (c:Cfg) (nq:Nat) (fq:Nat->Int):Ww (ZX (Xr c nq fq)):=⟨_,rfl⟩
theorem HX {may:List AC->Bool} {fst:List AC} (hf:Ww fst) {n N:Nat} {F:Nat->List AC} (hF:YS n F=true) (hN:N<=n):∀x∈Zx may fst N F,Ww x:=
 jjfo hf fun k hk=>by
  obtain⟨v,h1,h2,_⟩:=jjn7 (Ln hF (show k<n by omega));exact⟨v,h2⟩
theorem jjoj {may:List AC->Bool} {fst:List AC} (hf:Ww fst) {n N:Nat} {F:Nat->List AC} (hF:YS n F=true) (hN:N<=n):Ww (Uh may fst N F):=by
 rcases jjgv Sd (first:=fst) (Zx may fst N F) with h|h
 . unfold Uh;rw[h];exact hf
 . exact HX hf hF hN _ h
theorem Bf (c:Cfg) (nq:Nat) (fq:Nat->Int) {n:Nat} {F:Nat->List AC} (hF:YS n F=true):ZX (OG c nq fq n F)=Uh (XQ c nq fq) (ZX (Xr c nq fq)) (min n c.nodes.toNat) F:=by
 obtain⟨v,hv⟩:=jjoj (may:=XQ c nq fq) (Iy c nq fq) hF (Nat.min_le_left n c.nodes.toNat);unfold OG;rw[hv];rfl
theorem IF {may:List AC->Bool} {fst:List AC} {u:List AC} (hu:may u=true) {b:Nat} {F:Nat->List AC}:∀{n:Nat},(∀k,k<n->k≠b->Zz ((F k).getD 0 ZV)=true/\PC (F k)=u)->n<=Yj WK (Zx may fst n F) u+(if b<n then 1 else 0)
 |0,_=>by omega
 | n + 1,h=>by
  have ih:=IF hu (fst:=fst) (n:=n) (b:=b) (F:=F) fun k hk=>h k (by omega)
  rw[Hn];by_cases hb:n=b
  . subst hb
    rw[if_pos (by omega)];rw[if_neg (by omega)] at ih
    cases hh:Yf may fst (F n) with
    |none=>simpa using ih
    |some x=>
     show n+1<=Yj WK (Zx may fst n F++[x]) u+1;rw[Np];omega
  . obtain⟨h1,h2⟩:=h n (by omega) hb
    have hh:Yf may fst (F n)=some u:=by unfold Yf;rw[h1,h2,hu]
    rw[hh];show n+1<=Yj WK (Zx may fst n F++[u]) u+_;rw[Np,Sd];by_cases h3:b<n
    . rw[if_pos h3] at ih
      rw[if_pos (by omega)];show n+1<=Yj WK (Zx may fst n F) u+1+1;omega
    . rw[if_neg h3] at ih
      rw[if_neg (by omega)];show n+1<=Yj WK (Zx may fst n F) u+1+0;omega
theorem IE {may:List AC->Bool} {fst:List AC} {u x:List AC} (hu:may u=true) (hux:WK u x=false) {b:Nat} {F:Nat->List AC}:∀{n:Nat},(∀k,k<n->k≠b->Zz ((F k).getD 0 ZV)=true/\PC (F k)=u)->Yj WK (Zx may fst n F) x<=(if b<n then 1 else 0)
 |0,_=>Nat.zero_le _
 | n + 1,h=>by
  have ih:=IE hu hux (fst:=fst) (n:=n) (b:=b) (F:=F) fun k hk=>h k (by omega)
  rw[Hn];by_cases hb:n=b
  . subst hb
    rw[if_pos (by omega)];rw[if_neg (by omega)] at ih
    cases hh:Yf may fst (F n) with
    |none=>simp;omega
    |some y=>
     show Yj WK (Zx may fst n F++[y]) x<=1;rw[Np];cases WK y x
     . show Yj WK (Zx may fst n F) x+0<=1
       omega
     . show Yj WK (Zx may fst n F) x+1<=1
       omega
  . obtain⟨h1,h2⟩:=h n (by omega) hb
    have hh:Yf may fst (F n)=some u:=by unfold Yf;rw[h1,h2,hu]
    rw[hh];show Yj WK (Zx may fst n F++[u]) x<=_;rw[Np,hux];show Yj WK (Zx may fst n F) x+0<=_;by_cases h3:b<n
    . rw[if_pos h3] at ih
      rw[if_pos (by omega)];omega
    . rw[if_neg h3] at ih
      omega
theorem jjf9 {may:List AC->Bool} {fst u:List AC} (hf:Ww fst) (hu:may u=true) (huo:Ww u) {b N:Nat} {F:Nat->List AC} (hF:YS N F=true) (hN:4<=N) (h:∀k,k<N->k≠b->Zz ((F k).getD 0 ZV)=true/\PC (F k)=u):Uh may fst N F=u:=by
 have hv:=IF hu (fst:=fst) h;have ok:=HX (may:=may) hf hF (Nat.le_refl N);refine jjfa Sd (fun x hx hne=>?_) ?_
 . have hux:WK u x=false:=by
    cases he:WK u x with
    |false=>rfl
    |true=>exact absurd ((Qy huo (ok x hx)).1 he).symm hne
   have:=IE hu hux (fst:=fst) h;split at hv<;>split at this<;>omega
 . have hpos:0<Yj WK (Zx may fst N F) u:=by split at hv<;>omega
   obtain⟨y,hy⟩:=List.exists_mem_of_length_pos hpos;obtain⟨h1,h2⟩:=List.mem_filter.1 hy;rw[<- (Qy (ok y h1) huo).1 h2];exact h1
theorem jjgx {may:List AC->Bool} {fst u:List AC} (hf:Ww fst) (hu:may u=true) (huo:Ww u) {b N:Nat} {F:Nat->List AC} (hF:YS N F=true) (hN:4<=N) (h:∀k,k<N->k≠b->Zz ((F k).getD 0 ZV)=true/\PC (F k)=u):V5 (Zx may fst N F)=true:=by
 have hv:=IF hu (fst:=fst) h;have hx:∀x,WK u x=false->Yj WK (Zx may fst N F) x<=1:=fun x e=>by have:=IE hu e (fst:=fst) h;split at this<;>omega
 have hb:∀x,WK u x=false->x∈Zx may fst N F->Yf may fst (F b)=some x:=fun x e hm=>by
  obtain⟨k,hk,g⟩:=List.mem_filterMap.1 hm;by_cases hkb:k=b
  . rw[<- hkb];exact g
  . obtain⟨h1,h2⟩:=h k (by simpa using hk) hkb
    have hh:Yf may fst (F k)=some u:=by unfold Yf;rw[h1,h2,hu]
    rw[hh] at g;cases g;rw[Sd] at e;cases e
 have ok:=HX (may:=may) hf hF (Nat.le_refl N);refine decide_eq_true fun x h1 y h2 hc=>?_
 cases ex:WK u x with
 |true=>
  obtain rfl:=(Qy huo (ok x h1)).1 ex
  cases ey:WK u y with
  |true=>rfl
  |false=>have:=hx y ey;split at hv<;>omega
 | false=>
  cases ey:WK u y with
  |true=>
   obtain rfl:=(Qy huo (ok y h2)).1 ey;have:=hx x ex;split at hv<;>omega
  |false=>
   have g:=hb y ey h2;rw[hb x ex h1] at g;cases g;exact Sd _
end Go.Proofs.YtljeokninakliaaGreatDoor
end
