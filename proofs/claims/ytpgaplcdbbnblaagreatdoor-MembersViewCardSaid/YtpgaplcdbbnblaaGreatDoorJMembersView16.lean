/- Parts, one behind the other. members.Round: its loop's rounds as the evaluator runs them, pair by pair. Printed by wip/gen_rd.py. -/
import Derived.Test.YtpgaplcdbbnblaaGreatDoorJMembersView15
import Derived.Test.YtpgaplcdbbnblaaGreatDoorJMembersView10
set_option linter.unusedSimpArgs false
set_option linter.unusedVariables false
/- members.Round: its loop's rounds as the evaluator runs them, pair by pair. Printed by wip/gen_rd.py. -/
section
namespace Go.Proofs.YtpgaplcdbbnblaaGreatDoor
open Go.RowKit
theorem mr4 (c:Cfg) (u v:Vw) (Q:VC→Prop) (H:let zz0:=(rdC c);let zz1:=[some (lkA (List.zip rdH (mrV c 4)) 3),some (lkA (List.zip rdH (mrV c 4)) 4),some (lkA (List.zip rdH (mrV c 4)) 5),some (lkA (List.zip rdH (mrV c 4)) 11),some (AV.c (AC.v (Value.int IntKind.i64 (Int.ofNat 5))))];let zz2:=[AV.c (AC.v (Value.int IntKind.u16 (Vw.score u 4)))];let zz3:=[some (ABlk.mk true false 32 0 (Cs.lit (vwL (updV 4 (Vw.inn u 4) (Int.ofNat 0) (upZ (Vw.good u 4)) (rewZ (Vw.score u 4)) false u)))),some (ABlk.mk true false 32 0 (Cs.lit (vwL v))),some zz0];let zz4:=[some (ABlk.mk true false 32 0 (Cs.lit (vwL (updV 4 (Vw.inn u 4) (upZ (Vw.miss u 4)) (Int.ofNat 0) (penZ (Vw.score u 4)) false u)))),some (ABlk.mk true false 32 0 (Cs.lit (vwL v))),some zz0];let zz5:=(IntKind.wrap IntKind.i64 (upZ (Vw.good u 4))≥Cfg.good c);let zz6:=(IntKind.wrap IntKind.i64 (upZ (Vw.miss u 4))≥Cfg.miss c);let zz7:=[AV.c (AC.v (Value.int IntKind.u8 (Vw.good u 4)))];let zz8:=[AV.c (AC.v (Value.int IntKind.u8 (Vw.miss u 4)))];let zz9:=[some (ABlk.mk true false 32 0 (Cs.lit (vwL (updV 4 true (Int.ofNat 0) (upZ (Vw.good u 4)) (rewZ (Vw.score u 4)) false u)))),some (ABlk.mk true false 32 0 (Cs.lit (vwL v))),some zz0];let zz10:=[some (ABlk.mk true false 32 0 (Cs.lit (vwL (updV 4 true (upZ (Vw.miss u 4)) (Int.ofNat 0) (penZ (Vw.score u 4)) false u)))),some (ABlk.mk true false 32 0 (Cs.lit (vwL v))),some zz0];let zt:List Bool→List Bool:=fun l=>true::true::true::true::true::true::true::true::l;let zq0:List Bool:=[true,true,true,decide (Int.ofNat 4<Int.ofNat (c.np))==true];let zq1:List Bool:=zt (true::true::((scP .u16 zz2)::true::true::true::true::(scP .u8 zz7)::true::true::true::(Vw.got u 4==true)::zq0));let zq2:List Bool:=true::true::true::true::true::(Vw.inn u 4==true)::zq1;let zq3:List Bool:=true::true::true::(decide (Int.ofNat 0≥c.miss)==false)::zq2;let zq4:List Bool:=true::true::true::true::true::((!Vw.inn u 4)==true)::zq3;let zq5:List Bool:=true::true::true::(Vw.inn u 4==false)::zq1;let zq6:List Bool:=true::true::true::true::true::((!Vw.inn u 4)==true)::zq5;let zq7:List Bool:=zt (true::true::((scP .u16 zz2)::true::true::true::true::(scP .u8 zz8)::true::true::true::(Vw.got u 4==false)::zq0));let zq8:List Bool:=true::true::true::true::true::(Vw.inn u 4==true)::zq7;let zq9:List Bool:=true::true::true::(decide zz6==false)::zq8;let zq10:List Bool:=true::true::true::true::true::((!Vw.inn u 4)==true)::zq9;let zq11:List Bool:=true::true::true::(Vw.inn u 4==false)::zq7;let zq12:List Bool:=true::true::true::true::true::((!Vw.inn u 4)==true)::zq11;(((Vw.got u 4)=true→(((Vw.inn u 4)=true→(((decide (Int.ofNat 0≥c.miss))=true→Q (Exit.normal,zz1,[some (ABlk.mk true false 32 0 (Cs.lit (vwL (updV 4 false (Int.ofNat 0) (upZ (Vw.good u 4)) (rewZ (Vw.score u 4)) false u)))),some (ABlk.mk true false 32 0 (Cs.lit (vwL v))),some zz0],99,1370000000000000000000000000000000000000017,(true::true::true::true::(decide (Int.ofNat 0≥c.miss)==true)::zq2),[]))∧((decide (Int.ofNat 0≥c.miss))=false→(((!Vw.inn u 4)=true→(((decide zz5)=true→Q (Exit.normal,zz1,zz9,99,1530000000000000000000000000000000000000017,(true::true::true::true::(decide zz5==true)::zq4),[]))∧((decide zz5)=false→Q (Exit.normal,zz1,zz3,99,1530000000000000000000000000000000000000013,(true::true::(decide zz5==false)::zq4),[]))))∧((!Vw.inn u 4)=false→Q (Exit.normal,zz1,zz3,99,1530000000000000000000000000000000000000013,(true::true::((!Vw.inn u 4)==false)::zq3),[]))))))∧((Vw.inn u 4)=false→(((!Vw.inn u 4)=true→(((decide zz5)=true→Q (Exit.normal,zz1,zz9,99,1530000000000000000000000000000000000000017,(true::true::true::true::(decide zz5==true)::zq6),[]))∧((decide zz5)=false→Q (Exit.normal,zz1,zz3,99,1530000000000000000000000000000000000000013,(true::true::(decide zz5==false)::zq6),[]))))∧((!Vw.inn u 4)=false→Q (Exit.normal,zz1,zz3,99,1530000000000000000000000000000000000000013,(true::true::((!Vw.inn u 4)==false)::zq5),[]))))))∧((Vw.got u 4)=false→(((Vw.inn u 4)=true→(((decide zz6)=true→Q (Exit.normal,zz1,[some (ABlk.mk true false 32 0 (Cs.lit (vwL (updV 4 false (upZ (Vw.miss u 4)) (Int.ofNat 0) (penZ (Vw.score u 4)) false u)))),some (ABlk.mk true false 32 0 (Cs.lit (vwL v))),some zz0],99,1370000000000000000000000000000000000000017,(true::true::true::true::(decide zz6==true)::zq8),[]))∧((decide zz6)=false→(((!Vw.inn u 4)=true→(((decide (Int.ofNat 0≥c.good))=true→Q (Exit.normal,zz1,zz10,99,1530000000000000000000000000000000000000017,(true::true::true::true::(decide (Int.ofNat 0≥c.good)==true)::zq10),[]))∧((decide (Int.ofNat 0≥c.good))=false→Q (Exit.normal,zz1,zz4,99,1530000000000000000000000000000000000000013,(true::true::(decide (Int.ofNat 0≥c.good)==false)::zq10),[]))))∧((!Vw.inn u 4)=false→Q (Exit.normal,zz1,zz4,99,1530000000000000000000000000000000000000013,(true::true::((!Vw.inn u 4)==false)::zq9),[]))))))∧((Vw.inn u 4)=false→(((!Vw.inn u 4)=true→(((decide (Int.ofNat 0≥c.good))=true→Q (Exit.normal,zz1,zz10,99,1530000000000000000000000000000000000000017,(true::true::true::true::(decide (Int.ofNat 0≥c.good)==true)::zq12),[]))∧((decide (Int.ofNat 0≥c.good))=false→Q (Exit.normal,zz1,zz4,99,1530000000000000000000000000000000000000013,(true::true::(decide (Int.ofNat 0≥c.good)==false)::zq12),[]))))∧((!Vw.inn u 4)=false→Q (Exit.normal,zz1,zz4,99,1530000000000000000000000000000000000000013,(true::true::((!Vw.inn u 4)==false)::zq11),[])))))))):
 ∃p r,mrR Tryz.prog c u v 4 p=some r∧Q r:=
 two H
 (fun g1=>two g1
  (fun g2=>two g2
   (fun g3=>⟨pD 11 59062,_,by kernel_rfl,g3⟩)
   (fun g3=>two g3
    (fun g4=>two g4
     (fun g5=>⟨pD 20 1162556725,_,by kernel_rfl,g5⟩)
     (fun g5=>⟨pD 20 2324818192,_,by kernel_rfl,g5⟩))
    (fun g4=>⟨pD 20 472405,_,by kernel_rfl,g4⟩)))
  (fun g2=>two g2
   (fun g3=>two g3
    (fun g4=>⟨pD 20 1162438636,_,by kernel_rfl,g4⟩)
    (fun g4=>⟨pD 20 2324700103,_,by kernel_rfl,g4⟩))
   (fun g3=>⟨pD 20 354316,_,by kernel_rfl,g3⟩)))
 (fun g1=>two g1
  (fun g2=>two g2
   (fun g3=>⟨pD 11 59065,_,by kernel_rfl,g3⟩)
   (fun g3=>two g3
    (fun g4=>two g4
     (fun g5=>⟨pD 20 1162556728,_,by kernel_rfl,g5⟩)
     (fun g5=>⟨pD 20 2324818195,_,by kernel_rfl,g5⟩))
    (fun g4=>⟨pD 20 472408,_,by kernel_rfl,g4⟩)))
  (fun g2=>two g2
   (fun g3=>two g3
    (fun g4=>⟨pD 20 1162438639,_,by kernel_rfl,g4⟩)
    (fun g4=>⟨pD 20 2324700106,_,by kernel_rfl,g4⟩))
   (fun g3=>⟨pD 20 354319,_,by kernel_rfl,g3⟩)))
theorem mr5 (c:Cfg) (u v:Vw) (Q:VC→Prop) (H:let zz0:=(rdC c);let zz1:=[some (lkA (List.zip rdH (mrV c 5)) 3),some (lkA (List.zip rdH (mrV c 5)) 4),some (lkA (List.zip rdH (mrV c 5)) 5),some (lkA (List.zip rdH (mrV c 5)) 11),some (AV.c (AC.v (Value.int IntKind.i64 (Int.ofNat 6))))];let zz2:=[AV.c (AC.v (Value.int IntKind.u16 (Vw.score u 5)))];let zz3:=[some (ABlk.mk true false 32 0 (Cs.lit (vwL (updV 5 (Vw.inn u 5) (Int.ofNat 0) (upZ (Vw.good u 5)) (rewZ (Vw.score u 5)) false u)))),some (ABlk.mk true false 32 0 (Cs.lit (vwL v))),some zz0];let zz4:=[some (ABlk.mk true false 32 0 (Cs.lit (vwL (updV 5 (Vw.inn u 5) (upZ (Vw.miss u 5)) (Int.ofNat 0) (penZ (Vw.score u 5)) false u)))),some (ABlk.mk true false 32 0 (Cs.lit (vwL v))),some zz0];let zz5:=(IntKind.wrap IntKind.i64 (upZ (Vw.good u 5))≥Cfg.good c);let zz6:=(IntKind.wrap IntKind.i64 (upZ (Vw.miss u 5))≥Cfg.miss c);let zz7:=[AV.c (AC.v (Value.int IntKind.u8 (Vw.good u 5)))];let zz8:=[AV.c (AC.v (Value.int IntKind.u8 (Vw.miss u 5)))];let zz9:=[some (ABlk.mk true false 32 0 (Cs.lit (vwL (updV 5 true (Int.ofNat 0) (upZ (Vw.good u 5)) (rewZ (Vw.score u 5)) false u)))),some (ABlk.mk true false 32 0 (Cs.lit (vwL v))),some zz0];let zz10:=[some (ABlk.mk true false 32 0 (Cs.lit (vwL (updV 5 true (upZ (Vw.miss u 5)) (Int.ofNat 0) (penZ (Vw.score u 5)) false u)))),some (ABlk.mk true false 32 0 (Cs.lit (vwL v))),some zz0];let zt:List Bool→List Bool:=fun l=>true::true::true::true::true::true::true::true::l;let zq0:List Bool:=[true,true,true,decide (Int.ofNat 5<Int.ofNat (c.np))==true];let zq1:List Bool:=zt (true::true::((scP .u16 zz2)::true::true::true::true::(scP .u8 zz7)::true::true::true::(Vw.got u 5==true)::zq0));let zq2:List Bool:=true::true::true::true::true::(Vw.inn u 5==true)::zq1;let zq3:List Bool:=true::true::true::(decide (Int.ofNat 0≥c.miss)==false)::zq2;let zq4:List Bool:=true::true::true::true::true::((!Vw.inn u 5)==true)::zq3;let zq5:List Bool:=true::true::true::(Vw.inn u 5==false)::zq1;let zq6:List Bool:=true::true::true::true::true::((!Vw.inn u 5)==true)::zq5;let zq7:List Bool:=zt (true::true::((scP .u16 zz2)::true::true::true::true::(scP .u8 zz8)::true::true::true::(Vw.got u 5==false)::zq0));let zq8:List Bool:=true::true::true::true::true::(Vw.inn u 5==true)::zq7;let zq9:List Bool:=true::true::true::(decide zz6==false)::zq8;let zq10:List Bool:=true::true::true::true::true::((!Vw.inn u 5)==true)::zq9;let zq11:List Bool:=true::true::true::(Vw.inn u 5==false)::zq7;let zq12:List Bool:=true::true::true::true::true::((!Vw.inn u 5)==true)::zq11;(((Vw.got u 5)=true→(((Vw.inn u 5)=true→(((decide (Int.ofNat 0≥c.miss))=true→Q (Exit.normal,zz1,[some (ABlk.mk true false 32 0 (Cs.lit (vwL (updV 5 false (Int.ofNat 0) (upZ (Vw.good u 5)) (rewZ (Vw.score u 5)) false u)))),some (ABlk.mk true false 32 0 (Cs.lit (vwL v))),some zz0],99,1370000000000000000000000000000000000000017,(true::true::true::true::(decide (Int.ofNat 0≥c.miss)==true)::zq2),[]))∧((decide (Int.ofNat 0≥c.miss))=false→(((!Vw.inn u 5)=true→(((decide zz5)=true→Q (Exit.normal,zz1,zz9,99,1530000000000000000000000000000000000000017,(true::true::true::true::(decide zz5==true)::zq4),[]))∧((decide zz5)=false→Q (Exit.normal,zz1,zz3,99,1530000000000000000000000000000000000000013,(true::true::(decide zz5==false)::zq4),[]))))∧((!Vw.inn u 5)=false→Q (Exit.normal,zz1,zz3,99,1530000000000000000000000000000000000000013,(true::true::((!Vw.inn u 5)==false)::zq3),[]))))))∧((Vw.inn u 5)=false→(((!Vw.inn u 5)=true→(((decide zz5)=true→Q (Exit.normal,zz1,zz9,99,1530000000000000000000000000000000000000017,(true::true::true::true::(decide zz5==true)::zq6),[]))∧((decide zz5)=false→Q (Exit.normal,zz1,zz3,99,1530000000000000000000000000000000000000013,(true::true::(decide zz5==false)::zq6),[]))))∧((!Vw.inn u 5)=false→Q (Exit.normal,zz1,zz3,99,1530000000000000000000000000000000000000013,(true::true::((!Vw.inn u 5)==false)::zq5),[]))))))∧((Vw.got u 5)=false→(((Vw.inn u 5)=true→(((decide zz6)=true→Q (Exit.normal,zz1,[some (ABlk.mk true false 32 0 (Cs.lit (vwL (updV 5 false (upZ (Vw.miss u 5)) (Int.ofNat 0) (penZ (Vw.score u 5)) false u)))),some (ABlk.mk true false 32 0 (Cs.lit (vwL v))),some zz0],99,1370000000000000000000000000000000000000017,(true::true::true::true::(decide zz6==true)::zq8),[]))∧((decide zz6)=false→(((!Vw.inn u 5)=true→(((decide (Int.ofNat 0≥c.good))=true→Q (Exit.normal,zz1,zz10,99,1530000000000000000000000000000000000000017,(true::true::true::true::(decide (Int.ofNat 0≥c.good)==true)::zq10),[]))∧((decide (Int.ofNat 0≥c.good))=false→Q (Exit.normal,zz1,zz4,99,1530000000000000000000000000000000000000013,(true::true::(decide (Int.ofNat 0≥c.good)==false)::zq10),[]))))∧((!Vw.inn u 5)=false→Q (Exit.normal,zz1,zz4,99,1530000000000000000000000000000000000000013,(true::true::((!Vw.inn u 5)==false)::zq9),[]))))))∧((Vw.inn u 5)=false→(((!Vw.inn u 5)=true→(((decide (Int.ofNat 0≥c.good))=true→Q (Exit.normal,zz1,zz10,99,1530000000000000000000000000000000000000017,(true::true::true::true::(decide (Int.ofNat 0≥c.good)==true)::zq12),[]))∧((decide (Int.ofNat 0≥c.good))=false→Q (Exit.normal,zz1,zz4,99,1530000000000000000000000000000000000000013,(true::true::(decide (Int.ofNat 0≥c.good)==false)::zq12),[]))))∧((!Vw.inn u 5)=false→Q (Exit.normal,zz1,zz4,99,1530000000000000000000000000000000000000013,(true::true::((!Vw.inn u 5)==false)::zq11),[])))))))):
 ∃p r,mrR Tryz.prog c u v 5 p=some r∧Q r:=
 two H
 (fun g1=>two g1
  (fun g2=>two g2
   (fun g3=>⟨pD 11 59062,_,by kernel_rfl,g3⟩)
   (fun g3=>two g3
    (fun g4=>two g4
     (fun g5=>⟨pD 20 1162556725,_,by kernel_rfl,g5⟩)
     (fun g5=>⟨pD 20 2324818192,_,by kernel_rfl,g5⟩))
    (fun g4=>⟨pD 20 472405,_,by kernel_rfl,g4⟩)))
  (fun g2=>two g2
   (fun g3=>two g3
    (fun g4=>⟨pD 20 1162438636,_,by kernel_rfl,g4⟩)
    (fun g4=>⟨pD 20 2324700103,_,by kernel_rfl,g4⟩))
   (fun g3=>⟨pD 20 354316,_,by kernel_rfl,g3⟩)))
 (fun g1=>two g1
  (fun g2=>two g2
   (fun g3=>⟨pD 11 59065,_,by kernel_rfl,g3⟩)
   (fun g3=>two g3
    (fun g4=>two g4
     (fun g5=>⟨pD 20 1162556728,_,by kernel_rfl,g5⟩)
     (fun g5=>⟨pD 20 2324818195,_,by kernel_rfl,g5⟩))
    (fun g4=>⟨pD 20 472408,_,by kernel_rfl,g4⟩)))
  (fun g2=>two g2
   (fun g3=>two g3
    (fun g4=>⟨pD 20 1162438639,_,by kernel_rfl,g4⟩)
    (fun g4=>⟨pD 20 2324700106,_,by kernel_rfl,g4⟩))
   (fun g3=>⟨pD 20 354319,_,by kernel_rfl,g3⟩)))
theorem mr6 (c:Cfg) (u v:Vw) (Q:VC→Prop) (H:let zz0:=(rdC c);let zz1:=[some (lkA (List.zip rdH (mrV c 6)) 3),some (lkA (List.zip rdH (mrV c 6)) 4),some (lkA (List.zip rdH (mrV c 6)) 5),some (lkA (List.zip rdH (mrV c 6)) 11),some (AV.c (AC.v (Value.int IntKind.i64 (Int.ofNat 7))))];let zz2:=[AV.c (AC.v (Value.int IntKind.u16 (Vw.score u 6)))];let zz3:=[some (ABlk.mk true false 32 0 (Cs.lit (vwL (updV 6 (Vw.inn u 6) (Int.ofNat 0) (upZ (Vw.good u 6)) (rewZ (Vw.score u 6)) false u)))),some (ABlk.mk true false 32 0 (Cs.lit (vwL v))),some zz0];let zz4:=[some (ABlk.mk true false 32 0 (Cs.lit (vwL (updV 6 (Vw.inn u 6) (upZ (Vw.miss u 6)) (Int.ofNat 0) (penZ (Vw.score u 6)) false u)))),some (ABlk.mk true false 32 0 (Cs.lit (vwL v))),some zz0];let zz5:=(IntKind.wrap IntKind.i64 (upZ (Vw.good u 6))≥Cfg.good c);let zz6:=(IntKind.wrap IntKind.i64 (upZ (Vw.miss u 6))≥Cfg.miss c);let zz7:=[AV.c (AC.v (Value.int IntKind.u8 (Vw.good u 6)))];let zz8:=[AV.c (AC.v (Value.int IntKind.u8 (Vw.miss u 6)))];let zz9:=[some (ABlk.mk true false 32 0 (Cs.lit (vwL (updV 6 true (Int.ofNat 0) (upZ (Vw.good u 6)) (rewZ (Vw.score u 6)) false u)))),some (ABlk.mk true false 32 0 (Cs.lit (vwL v))),some zz0];let zz10:=[some (ABlk.mk true false 32 0 (Cs.lit (vwL (updV 6 true (upZ (Vw.miss u 6)) (Int.ofNat 0) (penZ (Vw.score u 6)) false u)))),some (ABlk.mk true false 32 0 (Cs.lit (vwL v))),some zz0];let zt:List Bool→List Bool:=fun l=>true::true::true::true::true::true::true::true::l;let zq0:List Bool:=[true,true,true,decide (Int.ofNat 6<Int.ofNat (c.np))==true];let zq1:List Bool:=zt (true::true::((scP .u16 zz2)::true::true::true::true::(scP .u8 zz7)::true::true::true::(Vw.got u 6==true)::zq0));let zq2:List Bool:=true::true::true::true::true::(Vw.inn u 6==true)::zq1;let zq3:List Bool:=true::true::true::(decide (Int.ofNat 0≥c.miss)==false)::zq2;let zq4:List Bool:=true::true::true::true::true::((!Vw.inn u 6)==true)::zq3;let zq5:List Bool:=true::true::true::(Vw.inn u 6==false)::zq1;let zq6:List Bool:=true::true::true::true::true::((!Vw.inn u 6)==true)::zq5;let zq7:List Bool:=zt (true::true::((scP .u16 zz2)::true::true::true::true::(scP .u8 zz8)::true::true::true::(Vw.got u 6==false)::zq0));let zq8:List Bool:=true::true::true::true::true::(Vw.inn u 6==true)::zq7;let zq9:List Bool:=true::true::true::(decide zz6==false)::zq8;let zq10:List Bool:=true::true::true::true::true::((!Vw.inn u 6)==true)::zq9;let zq11:List Bool:=true::true::true::(Vw.inn u 6==false)::zq7;let zq12:List Bool:=true::true::true::true::true::((!Vw.inn u 6)==true)::zq11;(((Vw.got u 6)=true→(((Vw.inn u 6)=true→(((decide (Int.ofNat 0≥c.miss))=true→Q (Exit.normal,zz1,[some (ABlk.mk true false 32 0 (Cs.lit (vwL (updV 6 false (Int.ofNat 0) (upZ (Vw.good u 6)) (rewZ (Vw.score u 6)) false u)))),some (ABlk.mk true false 32 0 (Cs.lit (vwL v))),some zz0],99,1370000000000000000000000000000000000000017,(true::true::true::true::(decide (Int.ofNat 0≥c.miss)==true)::zq2),[]))∧((decide (Int.ofNat 0≥c.miss))=false→(((!Vw.inn u 6)=true→(((decide zz5)=true→Q (Exit.normal,zz1,zz9,99,1530000000000000000000000000000000000000017,(true::true::true::true::(decide zz5==true)::zq4),[]))∧((decide zz5)=false→Q (Exit.normal,zz1,zz3,99,1530000000000000000000000000000000000000013,(true::true::(decide zz5==false)::zq4),[]))))∧((!Vw.inn u 6)=false→Q (Exit.normal,zz1,zz3,99,1530000000000000000000000000000000000000013,(true::true::((!Vw.inn u 6)==false)::zq3),[]))))))∧((Vw.inn u 6)=false→(((!Vw.inn u 6)=true→(((decide zz5)=true→Q (Exit.normal,zz1,zz9,99,1530000000000000000000000000000000000000017,(true::true::true::true::(decide zz5==true)::zq6),[]))∧((decide zz5)=false→Q (Exit.normal,zz1,zz3,99,1530000000000000000000000000000000000000013,(true::true::(decide zz5==false)::zq6),[]))))∧((!Vw.inn u 6)=false→Q (Exit.normal,zz1,zz3,99,1530000000000000000000000000000000000000013,(true::true::((!Vw.inn u 6)==false)::zq5),[]))))))∧((Vw.got u 6)=false→(((Vw.inn u 6)=true→(((decide zz6)=true→Q (Exit.normal,zz1,[some (ABlk.mk true false 32 0 (Cs.lit (vwL (updV 6 false (upZ (Vw.miss u 6)) (Int.ofNat 0) (penZ (Vw.score u 6)) false u)))),some (ABlk.mk true false 32 0 (Cs.lit (vwL v))),some zz0],99,1370000000000000000000000000000000000000017,(true::true::true::true::(decide zz6==true)::zq8),[]))∧((decide zz6)=false→(((!Vw.inn u 6)=true→(((decide (Int.ofNat 0≥c.good))=true→Q (Exit.normal,zz1,zz10,99,1530000000000000000000000000000000000000017,(true::true::true::true::(decide (Int.ofNat 0≥c.good)==true)::zq10),[]))∧((decide (Int.ofNat 0≥c.good))=false→Q (Exit.normal,zz1,zz4,99,1530000000000000000000000000000000000000013,(true::true::(decide (Int.ofNat 0≥c.good)==false)::zq10),[]))))∧((!Vw.inn u 6)=false→Q (Exit.normal,zz1,zz4,99,1530000000000000000000000000000000000000013,(true::true::((!Vw.inn u 6)==false)::zq9),[]))))))∧((Vw.inn u 6)=false→(((!Vw.inn u 6)=true→(((decide (Int.ofNat 0≥c.good))=true→Q (Exit.normal,zz1,zz10,99,1530000000000000000000000000000000000000017,(true::true::true::true::(decide (Int.ofNat 0≥c.good)==true)::zq12),[]))∧((decide (Int.ofNat 0≥c.good))=false→Q (Exit.normal,zz1,zz4,99,1530000000000000000000000000000000000000013,(true::true::(decide (Int.ofNat 0≥c.good)==false)::zq12),[]))))∧((!Vw.inn u 6)=false→Q (Exit.normal,zz1,zz4,99,1530000000000000000000000000000000000000013,(true::true::((!Vw.inn u 6)==false)::zq11),[])))))))):
 ∃p r,mrR Tryz.prog c u v 6 p=some r∧Q r:=
 two H
 (fun g1=>two g1
  (fun g2=>two g2
   (fun g3=>⟨pD 11 59062,_,by kernel_rfl,g3⟩)
   (fun g3=>two g3
    (fun g4=>two g4
     (fun g5=>⟨pD 20 1162556725,_,by kernel_rfl,g5⟩)
     (fun g5=>⟨pD 20 2324818192,_,by kernel_rfl,g5⟩))
    (fun g4=>⟨pD 20 472405,_,by kernel_rfl,g4⟩)))
  (fun g2=>two g2
   (fun g3=>two g3
    (fun g4=>⟨pD 20 1162438636,_,by kernel_rfl,g4⟩)
    (fun g4=>⟨pD 20 2324700103,_,by kernel_rfl,g4⟩))
   (fun g3=>⟨pD 20 354316,_,by kernel_rfl,g3⟩)))
 (fun g1=>two g1
  (fun g2=>two g2
   (fun g3=>⟨pD 11 59065,_,by kernel_rfl,g3⟩)
   (fun g3=>two g3
    (fun g4=>two g4
     (fun g5=>⟨pD 20 1162556728,_,by kernel_rfl,g5⟩)
     (fun g5=>⟨pD 20 2324818195,_,by kernel_rfl,g5⟩))
    (fun g4=>⟨pD 20 472408,_,by kernel_rfl,g4⟩)))
  (fun g2=>two g2
   (fun g3=>two g3
    (fun g4=>⟨pD 20 1162438639,_,by kernel_rfl,g4⟩)
    (fun g4=>⟨pD 20 2324700106,_,by kernel_rfl,g4⟩))
   (fun g3=>⟨pD 20 354319,_,by kernel_rfl,g3⟩)))
theorem mr7 (c:Cfg) (u v:Vw) (Q:VC→Prop) (H:let zz0:=(rdC c);let zz1:=[some (lkA (List.zip rdH (mrV c 7)) 3),some (lkA (List.zip rdH (mrV c 7)) 4),some (lkA (List.zip rdH (mrV c 7)) 5),some (lkA (List.zip rdH (mrV c 7)) 11),some (AV.c (AC.v (Value.int IntKind.i64 (Int.ofNat 8))))];let zz2:=[AV.c (AC.v (Value.int IntKind.u16 (Vw.score u 7)))];let zz3:=[some (ABlk.mk true false 32 0 (Cs.lit (vwL (updV 7 (Vw.inn u 7) (Int.ofNat 0) (upZ (Vw.good u 7)) (rewZ (Vw.score u 7)) false u)))),some (ABlk.mk true false 32 0 (Cs.lit (vwL v))),some zz0];let zz4:=[some (ABlk.mk true false 32 0 (Cs.lit (vwL (updV 7 (Vw.inn u 7) (upZ (Vw.miss u 7)) (Int.ofNat 0) (penZ (Vw.score u 7)) false u)))),some (ABlk.mk true false 32 0 (Cs.lit (vwL v))),some zz0];let zz5:=(IntKind.wrap IntKind.i64 (upZ (Vw.good u 7))≥Cfg.good c);let zz6:=(IntKind.wrap IntKind.i64 (upZ (Vw.miss u 7))≥Cfg.miss c);let zz7:=[AV.c (AC.v (Value.int IntKind.u8 (Vw.good u 7)))];let zz8:=[AV.c (AC.v (Value.int IntKind.u8 (Vw.miss u 7)))];let zz9:=[some (ABlk.mk true false 32 0 (Cs.lit (vwL (updV 7 true (Int.ofNat 0) (upZ (Vw.good u 7)) (rewZ (Vw.score u 7)) false u)))),some (ABlk.mk true false 32 0 (Cs.lit (vwL v))),some zz0];let zz10:=[some (ABlk.mk true false 32 0 (Cs.lit (vwL (updV 7 true (upZ (Vw.miss u 7)) (Int.ofNat 0) (penZ (Vw.score u 7)) false u)))),some (ABlk.mk true false 32 0 (Cs.lit (vwL v))),some zz0];let zt:List Bool→List Bool:=fun l=>true::true::true::true::true::true::true::true::l;let zq0:List Bool:=[true,true,true,decide (Int.ofNat 7<Int.ofNat (c.np))==true];let zq1:List Bool:=zt (true::true::((scP .u16 zz2)::true::true::true::true::(scP .u8 zz7)::true::true::true::(Vw.got u 7==true)::zq0));let zq2:List Bool:=true::true::true::true::true::(Vw.inn u 7==true)::zq1;let zq3:List Bool:=true::true::true::(decide (Int.ofNat 0≥c.miss)==false)::zq2;let zq4:List Bool:=true::true::true::true::true::((!Vw.inn u 7)==true)::zq3;let zq5:List Bool:=true::true::true::(Vw.inn u 7==false)::zq1;let zq6:List Bool:=true::true::true::true::true::((!Vw.inn u 7)==true)::zq5;let zq7:List Bool:=zt (true::true::((scP .u16 zz2)::true::true::true::true::(scP .u8 zz8)::true::true::true::(Vw.got u 7==false)::zq0));let zq8:List Bool:=true::true::true::true::true::(Vw.inn u 7==true)::zq7;let zq9:List Bool:=true::true::true::(decide zz6==false)::zq8;let zq10:List Bool:=true::true::true::true::true::((!Vw.inn u 7)==true)::zq9;let zq11:List Bool:=true::true::true::(Vw.inn u 7==false)::zq7;let zq12:List Bool:=true::true::true::true::true::((!Vw.inn u 7)==true)::zq11;(((Vw.got u 7)=true→(((Vw.inn u 7)=true→(((decide (Int.ofNat 0≥c.miss))=true→Q (Exit.normal,zz1,[some (ABlk.mk true false 32 0 (Cs.lit (vwL (updV 7 false (Int.ofNat 0) (upZ (Vw.good u 7)) (rewZ (Vw.score u 7)) false u)))),some (ABlk.mk true false 32 0 (Cs.lit (vwL v))),some zz0],99,1370000000000000000000000000000000000000017,(true::true::true::true::(decide (Int.ofNat 0≥c.miss)==true)::zq2),[]))∧((decide (Int.ofNat 0≥c.miss))=false→(((!Vw.inn u 7)=true→(((decide zz5)=true→Q (Exit.normal,zz1,zz9,99,1530000000000000000000000000000000000000017,(true::true::true::true::(decide zz5==true)::zq4),[]))∧((decide zz5)=false→Q (Exit.normal,zz1,zz3,99,1530000000000000000000000000000000000000013,(true::true::(decide zz5==false)::zq4),[]))))∧((!Vw.inn u 7)=false→Q (Exit.normal,zz1,zz3,99,1530000000000000000000000000000000000000013,(true::true::((!Vw.inn u 7)==false)::zq3),[]))))))∧((Vw.inn u 7)=false→(((!Vw.inn u 7)=true→(((decide zz5)=true→Q (Exit.normal,zz1,zz9,99,1530000000000000000000000000000000000000017,(true::true::true::true::(decide zz5==true)::zq6),[]))∧((decide zz5)=false→Q (Exit.normal,zz1,zz3,99,1530000000000000000000000000000000000000013,(true::true::(decide zz5==false)::zq6),[]))))∧((!Vw.inn u 7)=false→Q (Exit.normal,zz1,zz3,99,1530000000000000000000000000000000000000013,(true::true::((!Vw.inn u 7)==false)::zq5),[]))))))∧((Vw.got u 7)=false→(((Vw.inn u 7)=true→(((decide zz6)=true→Q (Exit.normal,zz1,[some (ABlk.mk true false 32 0 (Cs.lit (vwL (updV 7 false (upZ (Vw.miss u 7)) (Int.ofNat 0) (penZ (Vw.score u 7)) false u)))),some (ABlk.mk true false 32 0 (Cs.lit (vwL v))),some zz0],99,1370000000000000000000000000000000000000017,(true::true::true::true::(decide zz6==true)::zq8),[]))∧((decide zz6)=false→(((!Vw.inn u 7)=true→(((decide (Int.ofNat 0≥c.good))=true→Q (Exit.normal,zz1,zz10,99,1530000000000000000000000000000000000000017,(true::true::true::true::(decide (Int.ofNat 0≥c.good)==true)::zq10),[]))∧((decide (Int.ofNat 0≥c.good))=false→Q (Exit.normal,zz1,zz4,99,1530000000000000000000000000000000000000013,(true::true::(decide (Int.ofNat 0≥c.good)==false)::zq10),[]))))∧((!Vw.inn u 7)=false→Q (Exit.normal,zz1,zz4,99,1530000000000000000000000000000000000000013,(true::true::((!Vw.inn u 7)==false)::zq9),[]))))))∧((Vw.inn u 7)=false→(((!Vw.inn u 7)=true→(((decide (Int.ofNat 0≥c.good))=true→Q (Exit.normal,zz1,zz10,99,1530000000000000000000000000000000000000017,(true::true::true::true::(decide (Int.ofNat 0≥c.good)==true)::zq12),[]))∧((decide (Int.ofNat 0≥c.good))=false→Q (Exit.normal,zz1,zz4,99,1530000000000000000000000000000000000000013,(true::true::(decide (Int.ofNat 0≥c.good)==false)::zq12),[]))))∧((!Vw.inn u 7)=false→Q (Exit.normal,zz1,zz4,99,1530000000000000000000000000000000000000013,(true::true::((!Vw.inn u 7)==false)::zq11),[])))))))):
 ∃p r,mrR Tryz.prog c u v 7 p=some r∧Q r:=
 two H
 (fun g1=>two g1
  (fun g2=>two g2
   (fun g3=>⟨pD 11 59062,_,by kernel_rfl,g3⟩)
   (fun g3=>two g3
    (fun g4=>two g4
     (fun g5=>⟨pD 20 1162556725,_,by kernel_rfl,g5⟩)
     (fun g5=>⟨pD 20 2324818192,_,by kernel_rfl,g5⟩))
    (fun g4=>⟨pD 20 472405,_,by kernel_rfl,g4⟩)))
  (fun g2=>two g2
   (fun g3=>two g3
    (fun g4=>⟨pD 20 1162438636,_,by kernel_rfl,g4⟩)
    (fun g4=>⟨pD 20 2324700103,_,by kernel_rfl,g4⟩))
   (fun g3=>⟨pD 20 354316,_,by kernel_rfl,g3⟩)))
 (fun g1=>two g1
  (fun g2=>two g2
   (fun g3=>⟨pD 11 59065,_,by kernel_rfl,g3⟩)
   (fun g3=>two g3
    (fun g4=>two g4
     (fun g5=>⟨pD 20 1162556728,_,by kernel_rfl,g5⟩)
     (fun g5=>⟨pD 20 2324818195,_,by kernel_rfl,g5⟩))
    (fun g4=>⟨pD 20 472408,_,by kernel_rfl,g4⟩)))
  (fun g2=>two g2
   (fun g3=>two g3
    (fun g4=>⟨pD 20 1162438639,_,by kernel_rfl,g4⟩)
    (fun g4=>⟨pD 20 2324700106,_,by kernel_rfl,g4⟩))
   (fun g3=>⟨pD 20 354319,_,by kernel_rfl,g3⟩)))
end Go.Proofs.YtpgaplcdbbnblaaGreatDoor
end
/- members.Round: what each round of its loop comes to. Printed by wip/gen_rd.py. -/
section
namespace Go.Proofs.YtpgaplcdbbnblaaGreatDoor
open Go.RowKit
theorem rnd_step {k:Nat} {ms go:Int} {v u:Vw} (hu:rndV ⟨k,ms,go⟩ v=u) {a:Bool} {m x s:Int} (h1:rIn ⟨k+1,ms,go⟩ k (v.inn k) (v.got k) (v.miss k) (v.good k)=a:=by first|(simp_all[rIn,rMi,rGo,rSc,rndV];done)|(simp_all[rIn,rMi,rGo,rSc,rndV];omega)|fail) (h2:rMi ⟨k+1,ms,go⟩ k (v.got k) (v.miss k)=m:=by first|(simp_all[rIn,rMi,rGo,rSc,rndV];done)|(simp_all[rIn,rMi,rGo,rSc,rndV];omega)|fail) (h3:rGo ⟨k+1,ms,go⟩ k (v.got k) (v.good k)=x:=by first|(simp_all[rIn,rMi,rGo,rSc,rndV];done)|(simp_all[rIn,rMi,rGo,rSc,rndV];omega)|fail) (h4:rSc ⟨k+1,ms,go⟩ k (v.got k) (v.score k)=s:=by first|(simp_all[rIn,rMi,rGo,rSc,rndV];done)|(simp_all[rIn,rMi,rGo,rSc,rndV];omega)|fail):
 rndV ⟨k+1,ms,go⟩ v=updV k a m x s false u:=by
 subst hu h1 h2 h3 h4
 unfold rndV updV
 have e:∀i,i≠k→(i<k+1↔i<k):=fun i h=>by omega
 simp only[Vw.mk.injEq,and_true]
 refine⟨?_,?_,?_,?_,?_⟩<;>(funext i;by_cases hi:i=k)
 all_goals (first|(subst hi;simp;done)|(subst hi;simp[rGt];done)|(have e2:=e i hi;by_cases hk:i<k<;>simp[hi,rIn,rMi,rGo,rSc,rGt,hk,e2]))
def PosV (v:Vw):Prop:=∀i,i<8→0≤v.miss i∧0≤v.good i∧0≤v.score i
theorem upZ_wrap {z:Int} (h:0≤z):IntKind.wrap .i64 (upZ z)=upZ z:=wrap_nat _ (by unfold upZ;omega) (by unfold upZ;omega)
def RdNx (c:Cfg) (v w:Vw) (k:Nat) (r:VC):Prop:=
 allT r.2.2.2.2.2.1∧r.2.2.2.2.2.2=[]∧r.2.2.2.2.1≤100000000000000000000000000000000000000000000000000∧r.2.2.2.1=99∧r.1= .normal∧r.2.1=(mrV c (k+1)).map some∧r.2.2.1=[some (vwB (rndV ⟨k+1,c.miss,c.good⟩ v)),some (vwB w),some (rdC c)]
set_option maxRecDepth 100000 in
theorem rd_st0 (c:Cfg) (v w:Vw) (hk:0<c.np) (hp:PosV v):∃p r,mrR Tryz.prog c (rndV ⟨0,c.miss,c.good⟩ v) w 0 p=some r∧RdNx c v w 0 r:=by
 obtain⟨p1,p2,p3⟩:=hp 0 (by omega)
 obtain⟨u,hu⟩:∃u,rndV ⟨0,c.miss,c.good⟩ v=u:=⟨_,rfl⟩
 have e1:u.inn 0=v.inn 0:=by rw[← hu];rfl
 have e2:u.got 0=v.got 0:=by rw[← hu];rfl
 have e3:u.miss 0=v.miss 0:=by rw[← hu];rfl
 have e4:u.good 0=v.good 0:=by rw[← hu];rfl
 have e5:u.score 0=v.score 0:=by rw[← hu];rfl
 have w1:=upZ_wrap p1
 have w2:=upZ_wrap p2
 rw[hu]
 refine mr0 c u w _ ?_
 simp only[e1,e2,e3,e4,e5,w1,w2]
 (repeat' (first|refine⟨fun h=>?_,fun h=>?_⟩|fail))
 all_goals (first|(exfalso;simp_all;done)|skip)
 all_goals (refine⟨?_,rfl,by dsimp only;omega,rfl,rfl,rfl,?_⟩)
 all_goals first
  |(rw[rnd_step (k:=0) (ms:=c.miss) (go:=c.good) (v:=v) (u:=u) hu (a:=true) (m:=0) (x:=upZ (v.good 0)) (s:=rewZ (v.score 0))];rfl)
  |(rw[rnd_step (k:=0) (ms:=c.miss) (go:=c.good) (v:=v) (u:=u) hu (a:=true) (m:=upZ (v.miss 0)) (x:=0) (s:=penZ (v.score 0))];rfl)
  |(rw[rnd_step (k:=0) (ms:=c.miss) (go:=c.good) (v:=v) (u:=u) hu (a:=false) (m:=0) (x:=upZ (v.good 0)) (s:=rewZ (v.score 0))];rfl)
  |(rw[rnd_step (k:=0) (ms:=c.miss) (go:=c.good) (v:=v) (u:=u) hu (a:=false) (m:=upZ (v.miss 0)) (x:=0) (s:=penZ (v.score 0))];rfl)
  |(rw[rnd_step (k:=0) (ms:=c.miss) (go:=c.good) (v:=v) (u:=u) hu (a:=v.inn 0) (m:=0) (x:=upZ (v.good 0)) (s:=rewZ (v.score 0))];rfl)
  |(rw[rnd_step (k:=0) (ms:=c.miss) (go:=c.good) (v:=v) (u:=u) hu (a:=v.inn 0) (m:=upZ (v.miss 0)) (x:=0) (s:=penZ (v.score 0))];rfl)
  |(simp_all[allT,scP];done)
  |(simp_all[allT,scP];omega)
set_option maxRecDepth 100000 in
theorem rd_st1 (c:Cfg) (v w:Vw) (hk:1<c.np) (hp:PosV v):∃p r,mrR Tryz.prog c (rndV ⟨1,c.miss,c.good⟩ v) w 1 p=some r∧RdNx c v w 1 r:=by
 obtain⟨p1,p2,p3⟩:=hp 1 (by omega)
 obtain⟨u,hu⟩:∃u,rndV ⟨1,c.miss,c.good⟩ v=u:=⟨_,rfl⟩
 have e1:u.inn 1=v.inn 1:=by rw[← hu];rfl
 have e2:u.got 1=v.got 1:=by rw[← hu];rfl
 have e3:u.miss 1=v.miss 1:=by rw[← hu];rfl
 have e4:u.good 1=v.good 1:=by rw[← hu];rfl
 have e5:u.score 1=v.score 1:=by rw[← hu];rfl
 have w1:=upZ_wrap p1
 have w2:=upZ_wrap p2
 rw[hu]
 refine mr1 c u w _ ?_
 simp only[e1,e2,e3,e4,e5,w1,w2]
 (repeat' (first|refine⟨fun h=>?_,fun h=>?_⟩|fail))
 all_goals (first|(exfalso;simp_all;done)|skip)
 all_goals (refine⟨?_,rfl,by dsimp only;omega,rfl,rfl,rfl,?_⟩)
 all_goals first
  |(rw[rnd_step (k:=1) (ms:=c.miss) (go:=c.good) (v:=v) (u:=u) hu (a:=true) (m:=0) (x:=upZ (v.good 1)) (s:=rewZ (v.score 1))];rfl)
  |(rw[rnd_step (k:=1) (ms:=c.miss) (go:=c.good) (v:=v) (u:=u) hu (a:=true) (m:=upZ (v.miss 1)) (x:=0) (s:=penZ (v.score 1))];rfl)
  |(rw[rnd_step (k:=1) (ms:=c.miss) (go:=c.good) (v:=v) (u:=u) hu (a:=false) (m:=0) (x:=upZ (v.good 1)) (s:=rewZ (v.score 1))];rfl)
  |(rw[rnd_step (k:=1) (ms:=c.miss) (go:=c.good) (v:=v) (u:=u) hu (a:=false) (m:=upZ (v.miss 1)) (x:=0) (s:=penZ (v.score 1))];rfl)
  |(rw[rnd_step (k:=1) (ms:=c.miss) (go:=c.good) (v:=v) (u:=u) hu (a:=v.inn 1) (m:=0) (x:=upZ (v.good 1)) (s:=rewZ (v.score 1))];rfl)
  |(rw[rnd_step (k:=1) (ms:=c.miss) (go:=c.good) (v:=v) (u:=u) hu (a:=v.inn 1) (m:=upZ (v.miss 1)) (x:=0) (s:=penZ (v.score 1))];rfl)
  |(simp_all[allT,scP];done)
  |(simp_all[allT,scP];omega)
set_option maxRecDepth 100000 in
theorem rd_st2 (c:Cfg) (v w:Vw) (hk:2<c.np) (hp:PosV v):∃p r,mrR Tryz.prog c (rndV ⟨2,c.miss,c.good⟩ v) w 2 p=some r∧RdNx c v w 2 r:=by
 obtain⟨p1,p2,p3⟩:=hp 2 (by omega)
 obtain⟨u,hu⟩:∃u,rndV ⟨2,c.miss,c.good⟩ v=u:=⟨_,rfl⟩
 have e1:u.inn 2=v.inn 2:=by rw[← hu];rfl
 have e2:u.got 2=v.got 2:=by rw[← hu];rfl
 have e3:u.miss 2=v.miss 2:=by rw[← hu];rfl
 have e4:u.good 2=v.good 2:=by rw[← hu];rfl
 have e5:u.score 2=v.score 2:=by rw[← hu];rfl
 have w1:=upZ_wrap p1
 have w2:=upZ_wrap p2
 rw[hu]
 refine mr2 c u w _ ?_
 simp only[e1,e2,e3,e4,e5,w1,w2]
 (repeat' (first|refine⟨fun h=>?_,fun h=>?_⟩|fail))
 all_goals (first|(exfalso;simp_all;done)|skip)
 all_goals (refine⟨?_,rfl,by dsimp only;omega,rfl,rfl,rfl,?_⟩)
 all_goals first
  |(rw[rnd_step (k:=2) (ms:=c.miss) (go:=c.good) (v:=v) (u:=u) hu (a:=true) (m:=0) (x:=upZ (v.good 2)) (s:=rewZ (v.score 2))];rfl)
  |(rw[rnd_step (k:=2) (ms:=c.miss) (go:=c.good) (v:=v) (u:=u) hu (a:=true) (m:=upZ (v.miss 2)) (x:=0) (s:=penZ (v.score 2))];rfl)
  |(rw[rnd_step (k:=2) (ms:=c.miss) (go:=c.good) (v:=v) (u:=u) hu (a:=false) (m:=0) (x:=upZ (v.good 2)) (s:=rewZ (v.score 2))];rfl)
  |(rw[rnd_step (k:=2) (ms:=c.miss) (go:=c.good) (v:=v) (u:=u) hu (a:=false) (m:=upZ (v.miss 2)) (x:=0) (s:=penZ (v.score 2))];rfl)
  |(rw[rnd_step (k:=2) (ms:=c.miss) (go:=c.good) (v:=v) (u:=u) hu (a:=v.inn 2) (m:=0) (x:=upZ (v.good 2)) (s:=rewZ (v.score 2))];rfl)
  |(rw[rnd_step (k:=2) (ms:=c.miss) (go:=c.good) (v:=v) (u:=u) hu (a:=v.inn 2) (m:=upZ (v.miss 2)) (x:=0) (s:=penZ (v.score 2))];rfl)
  |(simp_all[allT,scP];done)
  |(simp_all[allT,scP];omega)
set_option maxRecDepth 100000 in
theorem rd_st3 (c:Cfg) (v w:Vw) (hk:3<c.np) (hp:PosV v):∃p r,mrR Tryz.prog c (rndV ⟨3,c.miss,c.good⟩ v) w 3 p=some r∧RdNx c v w 3 r:=by
 obtain⟨p1,p2,p3⟩:=hp 3 (by omega)
 obtain⟨u,hu⟩:∃u,rndV ⟨3,c.miss,c.good⟩ v=u:=⟨_,rfl⟩
 have e1:u.inn 3=v.inn 3:=by rw[← hu];rfl
 have e2:u.got 3=v.got 3:=by rw[← hu];rfl
 have e3:u.miss 3=v.miss 3:=by rw[← hu];rfl
 have e4:u.good 3=v.good 3:=by rw[← hu];rfl
 have e5:u.score 3=v.score 3:=by rw[← hu];rfl
 have w1:=upZ_wrap p1
 have w2:=upZ_wrap p2
 rw[hu]
 refine mr3 c u w _ ?_
 simp only[e1,e2,e3,e4,e5,w1,w2]
 (repeat' (first|refine⟨fun h=>?_,fun h=>?_⟩|fail))
 all_goals (first|(exfalso;simp_all;done)|skip)
 all_goals (refine⟨?_,rfl,by dsimp only;omega,rfl,rfl,rfl,?_⟩)
 all_goals first
  |(rw[rnd_step (k:=3) (ms:=c.miss) (go:=c.good) (v:=v) (u:=u) hu (a:=true) (m:=0) (x:=upZ (v.good 3)) (s:=rewZ (v.score 3))];rfl)
  |(rw[rnd_step (k:=3) (ms:=c.miss) (go:=c.good) (v:=v) (u:=u) hu (a:=true) (m:=upZ (v.miss 3)) (x:=0) (s:=penZ (v.score 3))];rfl)
  |(rw[rnd_step (k:=3) (ms:=c.miss) (go:=c.good) (v:=v) (u:=u) hu (a:=false) (m:=0) (x:=upZ (v.good 3)) (s:=rewZ (v.score 3))];rfl)
  |(rw[rnd_step (k:=3) (ms:=c.miss) (go:=c.good) (v:=v) (u:=u) hu (a:=false) (m:=upZ (v.miss 3)) (x:=0) (s:=penZ (v.score 3))];rfl)
  |(rw[rnd_step (k:=3) (ms:=c.miss) (go:=c.good) (v:=v) (u:=u) hu (a:=v.inn 3) (m:=0) (x:=upZ (v.good 3)) (s:=rewZ (v.score 3))];rfl)
  |(rw[rnd_step (k:=3) (ms:=c.miss) (go:=c.good) (v:=v) (u:=u) hu (a:=v.inn 3) (m:=upZ (v.miss 3)) (x:=0) (s:=penZ (v.score 3))];rfl)
  |(simp_all[allT,scP];done)
  |(simp_all[allT,scP];omega)
set_option maxRecDepth 100000 in
theorem rd_st4 (c:Cfg) (v w:Vw) (hk:4<c.np) (hp:PosV v):∃p r,mrR Tryz.prog c (rndV ⟨4,c.miss,c.good⟩ v) w 4 p=some r∧RdNx c v w 4 r:=by
 obtain⟨p1,p2,p3⟩:=hp 4 (by omega)
 obtain⟨u,hu⟩:∃u,rndV ⟨4,c.miss,c.good⟩ v=u:=⟨_,rfl⟩
 have e1:u.inn 4=v.inn 4:=by rw[← hu];rfl
 have e2:u.got 4=v.got 4:=by rw[← hu];rfl
 have e3:u.miss 4=v.miss 4:=by rw[← hu];rfl
 have e4:u.good 4=v.good 4:=by rw[← hu];rfl
 have e5:u.score 4=v.score 4:=by rw[← hu];rfl
 have w1:=upZ_wrap p1
 have w2:=upZ_wrap p2
 rw[hu]
 refine mr4 c u w _ ?_
 simp only[e1,e2,e3,e4,e5,w1,w2]
 (repeat' (first|refine⟨fun h=>?_,fun h=>?_⟩|fail))
 all_goals (first|(exfalso;simp_all;done)|skip)
 all_goals (refine⟨?_,rfl,by dsimp only;omega,rfl,rfl,rfl,?_⟩)
 all_goals first
  |(rw[rnd_step (k:=4) (ms:=c.miss) (go:=c.good) (v:=v) (u:=u) hu (a:=true) (m:=0) (x:=upZ (v.good 4)) (s:=rewZ (v.score 4))];rfl)
  |(rw[rnd_step (k:=4) (ms:=c.miss) (go:=c.good) (v:=v) (u:=u) hu (a:=true) (m:=upZ (v.miss 4)) (x:=0) (s:=penZ (v.score 4))];rfl)
  |(rw[rnd_step (k:=4) (ms:=c.miss) (go:=c.good) (v:=v) (u:=u) hu (a:=false) (m:=0) (x:=upZ (v.good 4)) (s:=rewZ (v.score 4))];rfl)
  |(rw[rnd_step (k:=4) (ms:=c.miss) (go:=c.good) (v:=v) (u:=u) hu (a:=false) (m:=upZ (v.miss 4)) (x:=0) (s:=penZ (v.score 4))];rfl)
  |(rw[rnd_step (k:=4) (ms:=c.miss) (go:=c.good) (v:=v) (u:=u) hu (a:=v.inn 4) (m:=0) (x:=upZ (v.good 4)) (s:=rewZ (v.score 4))];rfl)
  |(rw[rnd_step (k:=4) (ms:=c.miss) (go:=c.good) (v:=v) (u:=u) hu (a:=v.inn 4) (m:=upZ (v.miss 4)) (x:=0) (s:=penZ (v.score 4))];rfl)
  |(simp_all[allT,scP];done)
  |(simp_all[allT,scP];omega)
set_option maxRecDepth 100000 in
theorem rd_st5 (c:Cfg) (v w:Vw) (hk:5<c.np) (hp:PosV v):∃p r,mrR Tryz.prog c (rndV ⟨5,c.miss,c.good⟩ v) w 5 p=some r∧RdNx c v w 5 r:=by
 obtain⟨p1,p2,p3⟩:=hp 5 (by omega)
 obtain⟨u,hu⟩:∃u,rndV ⟨5,c.miss,c.good⟩ v=u:=⟨_,rfl⟩
 have e1:u.inn 5=v.inn 5:=by rw[← hu];rfl
 have e2:u.got 5=v.got 5:=by rw[← hu];rfl
 have e3:u.miss 5=v.miss 5:=by rw[← hu];rfl
 have e4:u.good 5=v.good 5:=by rw[← hu];rfl
 have e5:u.score 5=v.score 5:=by rw[← hu];rfl
 have w1:=upZ_wrap p1
 have w2:=upZ_wrap p2
 rw[hu]
 refine mr5 c u w _ ?_
 simp only[e1,e2,e3,e4,e5,w1,w2]
 (repeat' (first|refine⟨fun h=>?_,fun h=>?_⟩|fail))
 all_goals (first|(exfalso;simp_all;done)|skip)
 all_goals (refine⟨?_,rfl,by dsimp only;omega,rfl,rfl,rfl,?_⟩)
 all_goals first
  |(rw[rnd_step (k:=5) (ms:=c.miss) (go:=c.good) (v:=v) (u:=u) hu (a:=true) (m:=0) (x:=upZ (v.good 5)) (s:=rewZ (v.score 5))];rfl)
  |(rw[rnd_step (k:=5) (ms:=c.miss) (go:=c.good) (v:=v) (u:=u) hu (a:=true) (m:=upZ (v.miss 5)) (x:=0) (s:=penZ (v.score 5))];rfl)
  |(rw[rnd_step (k:=5) (ms:=c.miss) (go:=c.good) (v:=v) (u:=u) hu (a:=false) (m:=0) (x:=upZ (v.good 5)) (s:=rewZ (v.score 5))];rfl)
  |(rw[rnd_step (k:=5) (ms:=c.miss) (go:=c.good) (v:=v) (u:=u) hu (a:=false) (m:=upZ (v.miss 5)) (x:=0) (s:=penZ (v.score 5))];rfl)
  |(rw[rnd_step (k:=5) (ms:=c.miss) (go:=c.good) (v:=v) (u:=u) hu (a:=v.inn 5) (m:=0) (x:=upZ (v.good 5)) (s:=rewZ (v.score 5))];rfl)
  |(rw[rnd_step (k:=5) (ms:=c.miss) (go:=c.good) (v:=v) (u:=u) hu (a:=v.inn 5) (m:=upZ (v.miss 5)) (x:=0) (s:=penZ (v.score 5))];rfl)
  |(simp_all[allT,scP];done)
  |(simp_all[allT,scP];omega)
set_option maxRecDepth 100000 in
theorem rd_st6 (c:Cfg) (v w:Vw) (hk:6<c.np) (hp:PosV v):∃p r,mrR Tryz.prog c (rndV ⟨6,c.miss,c.good⟩ v) w 6 p=some r∧RdNx c v w 6 r:=by
 obtain⟨p1,p2,p3⟩:=hp 6 (by omega)
 obtain⟨u,hu⟩:∃u,rndV ⟨6,c.miss,c.good⟩ v=u:=⟨_,rfl⟩
 have e1:u.inn 6=v.inn 6:=by rw[← hu];rfl
 have e2:u.got 6=v.got 6:=by rw[← hu];rfl
 have e3:u.miss 6=v.miss 6:=by rw[← hu];rfl
 have e4:u.good 6=v.good 6:=by rw[← hu];rfl
 have e5:u.score 6=v.score 6:=by rw[← hu];rfl
 have w1:=upZ_wrap p1
 have w2:=upZ_wrap p2
 rw[hu]
 refine mr6 c u w _ ?_
 simp only[e1,e2,e3,e4,e5,w1,w2]
 (repeat' (first|refine⟨fun h=>?_,fun h=>?_⟩|fail))
 all_goals (first|(exfalso;simp_all;done)|skip)
 all_goals (refine⟨?_,rfl,by dsimp only;omega,rfl,rfl,rfl,?_⟩)
 all_goals first
  |(rw[rnd_step (k:=6) (ms:=c.miss) (go:=c.good) (v:=v) (u:=u) hu (a:=true) (m:=0) (x:=upZ (v.good 6)) (s:=rewZ (v.score 6))];rfl)
  |(rw[rnd_step (k:=6) (ms:=c.miss) (go:=c.good) (v:=v) (u:=u) hu (a:=true) (m:=upZ (v.miss 6)) (x:=0) (s:=penZ (v.score 6))];rfl)
  |(rw[rnd_step (k:=6) (ms:=c.miss) (go:=c.good) (v:=v) (u:=u) hu (a:=false) (m:=0) (x:=upZ (v.good 6)) (s:=rewZ (v.score 6))];rfl)
  |(rw[rnd_step (k:=6) (ms:=c.miss) (go:=c.good) (v:=v) (u:=u) hu (a:=false) (m:=upZ (v.miss 6)) (x:=0) (s:=penZ (v.score 6))];rfl)
  |(rw[rnd_step (k:=6) (ms:=c.miss) (go:=c.good) (v:=v) (u:=u) hu (a:=v.inn 6) (m:=0) (x:=upZ (v.good 6)) (s:=rewZ (v.score 6))];rfl)
  |(rw[rnd_step (k:=6) (ms:=c.miss) (go:=c.good) (v:=v) (u:=u) hu (a:=v.inn 6) (m:=upZ (v.miss 6)) (x:=0) (s:=penZ (v.score 6))];rfl)
  |(simp_all[allT,scP];done)
  |(simp_all[allT,scP];omega)
set_option maxRecDepth 100000 in
theorem rd_st7 (c:Cfg) (v w:Vw) (hk:7<c.np) (hp:PosV v):∃p r,mrR Tryz.prog c (rndV ⟨7,c.miss,c.good⟩ v) w 7 p=some r∧RdNx c v w 7 r:=by
 obtain⟨p1,p2,p3⟩:=hp 7 (by omega)
 obtain⟨u,hu⟩:∃u,rndV ⟨7,c.miss,c.good⟩ v=u:=⟨_,rfl⟩
 have e1:u.inn 7=v.inn 7:=by rw[← hu];rfl
 have e2:u.got 7=v.got 7:=by rw[← hu];rfl
 have e3:u.miss 7=v.miss 7:=by rw[← hu];rfl
 have e4:u.good 7=v.good 7:=by rw[← hu];rfl
 have e5:u.score 7=v.score 7:=by rw[← hu];rfl
 have w1:=upZ_wrap p1
 have w2:=upZ_wrap p2
 rw[hu]
 refine mr7 c u w _ ?_
 simp only[e1,e2,e3,e4,e5,w1,w2]
 (repeat' (first|refine⟨fun h=>?_,fun h=>?_⟩|fail))
 all_goals (first|(exfalso;simp_all;done)|skip)
 all_goals (refine⟨?_,rfl,by dsimp only;omega,rfl,rfl,rfl,?_⟩)
 all_goals first
  |(rw[rnd_step (k:=7) (ms:=c.miss) (go:=c.good) (v:=v) (u:=u) hu (a:=true) (m:=0) (x:=upZ (v.good 7)) (s:=rewZ (v.score 7))];rfl)
  |(rw[rnd_step (k:=7) (ms:=c.miss) (go:=c.good) (v:=v) (u:=u) hu (a:=true) (m:=upZ (v.miss 7)) (x:=0) (s:=penZ (v.score 7))];rfl)
  |(rw[rnd_step (k:=7) (ms:=c.miss) (go:=c.good) (v:=v) (u:=u) hu (a:=false) (m:=0) (x:=upZ (v.good 7)) (s:=rewZ (v.score 7))];rfl)
  |(rw[rnd_step (k:=7) (ms:=c.miss) (go:=c.good) (v:=v) (u:=u) hu (a:=false) (m:=upZ (v.miss 7)) (x:=0) (s:=penZ (v.score 7))];rfl)
  |(rw[rnd_step (k:=7) (ms:=c.miss) (go:=c.good) (v:=v) (u:=u) hu (a:=v.inn 7) (m:=0) (x:=upZ (v.good 7)) (s:=rewZ (v.score 7))];rfl)
  |(rw[rnd_step (k:=7) (ms:=c.miss) (go:=c.good) (v:=v) (u:=u) hu (a:=v.inn 7) (m:=upZ (v.miss 7)) (x:=0) (s:=penZ (v.score 7))];rfl)
  |(simp_all[allT,scP];done)
  |(simp_all[allT,scP];omega)
end Go.Proofs.YtpgaplcdbbnblaaGreatDoor
end
/- sennitref22.Round: its loop's rounds as the evaluator runs them, pair by pair. Printed by wip/gen_rv.py. -/
section
namespace Go.Proofs.YtpgaplcdbbnblaaGreatDoor
open Go.RowKit
def ctsRv:List (FuncId × CtF):=[(78,ctScB .u8 upZ),(80,ctScB .u16 penZ),(79,ctScB .u16 rewZ)]
theorem ctsRv_ok:∀f g,(f,g)∈ctsRv→CtOk Tryz.prog f g:=by
 intro f g h
 simp only[ctsRv,List.mem_cons,Prod.mk.injEq,List.not_mem_nil,or_false] at h
 rcases h with⟨rfl,rfl⟩|⟨rfl,rfl⟩|⟨rfl,rfl⟩
 · exact ct_rup
 · exact ct_rpen
 · exact ct_rrew
def ENrv (P:Program):Env:=⟨P,ctsRv⟩
theorem hENrv:EnvOk (ENrv Tryz.prog):=envOk ctsRv_ok (by kernel_rfl) (by kernel_rfl)
abbrev rvH:List Nat:=[2,3,4,5]
abbrev rvI:List Nat:=[1000,1001,1002]
abbrev rvV (k:Nat):List AV:=[.c (.ptr 1000 0 0),.c (.ptr 1001 0 0),.c (.ptr 1002 0 0),i64 (Int.ofNat k)]
def rvR (P:Program) (c:Cfg) (u:Vw) (k:Nat) (path:List Dec):Option VC:=
 view (rvH++[]) rvI (fC (ENrv P) 100 (loopAt P 26 0) 1000000000000000000000000000000000000000000 10000000000000000000000000000000000000000 (stH 93 rvH rvI (rvV k) [cfgB c,vwB u,vwB vw0] path []))
theorem rv0 (c:Cfg) (u:Vw) (Q:VC→Prop) (H:let zz0:=(vwB vw0);let zz1:=(cfgB c);let zz2:=[some (lkA (List.zip rvH (rvV 0)) 2),some (lkA (List.zip rvH (rvV 0)) 3),some (lkA (List.zip rvH (rvV 0)) 4),some (AV.c (AC.v (Value.int IntKind.i64 (Int.ofNat 1))))];let zz3:=[AV.c (AC.v (Value.int IntKind.u16 (Vw.score u 0)))];let zz4:=(IntKind.wrap IntKind.i64 (upZ (Vw.good u 0))≥Cfg.good c);let zz5:=[some zz1,some (ABlk.mk true false 32 0 (Cs.lit (vwL (updV 0 (Vw.inn u 0) (Int.ofNat 0) (upZ (Vw.good u 0)) (rewZ (Vw.score u 0)) false u)))),some zz0];let zz6:=[some zz1,some (ABlk.mk true false 32 0 (Cs.lit (vwL (updV 0 (Vw.inn u 0) (upZ (Vw.miss u 0)) (Int.ofNat 0) (penZ (Vw.score u 0)) false u)))),some zz0];let zz7:=(IntKind.wrap IntKind.i64 (upZ (Vw.miss u 0))≥Cfg.miss c);let zz8:=[AV.c (AC.v (Value.int IntKind.u8 (Vw.good u 0)))];let zz9:=[AV.c (AC.v (Value.int IntKind.u8 (Vw.miss u 0)))];let zz10:=[some zz1,some (ABlk.mk true false 32 0 (Cs.lit (vwL (updV 0 true (Int.ofNat 0) (upZ (Vw.good u 0)) (rewZ (Vw.score u 0)) false u)))),some zz0];let zz11:=[some zz1,some (ABlk.mk true false 32 0 (Cs.lit (vwL (updV 0 true (upZ (Vw.miss u 0)) (Int.ofNat 0) (penZ (Vw.score u 0)) false u)))),some zz0];let zq0:List Bool:=[true,true,true,true,true,true,decide (Int.ofNat 0 < ↑(c.np))==true,true];let zq1:List Bool:=true::true::true::(scPB .u16 zz3)::true::true::true::true::true::true::(scPB .u8 zz8)::true::true::true::true::true::(Vw.got u 0==true)::zq0;let zq2:List Bool:=true::true::true::true::true::(Vw.inn u 0==true)::zq1;let zq3:List Bool:=true::true::(decide (Int.ofNat 0≥c.miss)==true)::zq2;let zq4:List Bool:=true::true::true::true::true::((!Vw.inn u 0)==true)::zq3;let zq5:List Bool:=(decide (Int.ofNat 0≥c.miss)==false)::zq2;let zq6:List Bool:=true::true::true::true::true::((!Vw.inn u 0)==true)::zq5;let zq7:List Bool:=(Vw.inn u 0==false)::zq1;let zq8:List Bool:=true::true::true::true::true::((!Vw.inn u 0)==true)::zq7;let zq9:List Bool:=true::true::true::(scPB .u16 zz3)::true::true::true::true::true::true::(scPB .u8 zz9)::true::true::true::true::true::(Vw.got u 0==false)::zq0;let zq10:List Bool:=true::true::true::true::true::(Vw.inn u 0==true)::zq9;let zq11:List Bool:=true::true::(decide zz7==true)::zq10;let zq12:List Bool:=true::true::true::true::true::((!Vw.inn u 0)==true)::zq11;let zq13:List Bool:=(decide zz7==false)::zq10;let zq14:List Bool:=true::true::true::true::true::((!Vw.inn u 0)==true)::zq13;let zq15:List Bool:=(Vw.inn u 0==false)::zq9;let zq16:List Bool:=true::true::true::true::true::((!Vw.inn u 0)==true)::zq15;(((Vw.got u 0)=true→(((Vw.inn u 0)=true→(((decide (Int.ofNat 0≥c.miss))=true→(((!Vw.inn u 0)=true→(((decide zz4)=true→Q (Exit.normal,zz2,zz10,93,1230000000000000000000000000000000000000049,(true::true::true::true::(decide zz4==true)::zq4),[]))∧((decide zz4)=false→Q (Exit.normal,zz2,[some zz1,some (ABlk.mk true false 32 0 (Cs.lit (vwL (updV 0 false (Int.ofNat 0) (upZ (Vw.good u 0)) (rewZ (Vw.score u 0)) false u)))),some zz0],93,1230000000000000000000000000000000000000045,(true::true::(decide zz4==false)::zq4),[]))))∧((!Vw.inn u 0)=false→Q (Exit.normal,zz2,[some zz1,some (ABlk.mk true false 32 0 (Cs.lit (vwL (updV 0 false (Int.ofNat 0) (upZ (Vw.good u 0)) (rewZ (Vw.score u 0)) false u)))),some zz0],93,1230000000000000000000000000000000000000045,(true::true::((!Vw.inn u 0)==false)::zq3),[]))))∧((decide (Int.ofNat 0≥c.miss))=false→(((!Vw.inn u 0)=true→(((decide zz4)=true→Q (Exit.normal,zz2,zz10,93,1230000000000000000000000000000000000000045,(true::true::true::true::(decide zz4==true)::zq6),[]))∧((decide zz4)=false→Q (Exit.normal,zz2,zz5,93,1230000000000000000000000000000000000000041,(true::true::(decide zz4==false)::zq6),[]))))∧((!Vw.inn u 0)=false→Q (Exit.normal,zz2,zz5,93,1230000000000000000000000000000000000000041,(true::true::((!Vw.inn u 0)==false)::zq5),[]))))))∧((Vw.inn u 0)=false→(((!Vw.inn u 0)=true→(((decide zz4)=true→Q (Exit.normal,zz2,zz10,93,1230000000000000000000000000000000000000045,(true::true::true::true::(decide zz4==true)::zq8),[]))∧((decide zz4)=false→Q (Exit.normal,zz2,zz5,93,1230000000000000000000000000000000000000041,(true::true::(decide zz4==false)::zq8),[]))))∧((!Vw.inn u 0)=false→Q (Exit.normal,zz2,zz5,93,1230000000000000000000000000000000000000041,(true::true::((!Vw.inn u 0)==false)::zq7),[]))))))∧((Vw.got u 0)=false→(((Vw.inn u 0)=true→(((decide zz7)=true→(((!Vw.inn u 0)=true→(((decide (Int.ofNat 0≥c.good))=true→Q (Exit.normal,zz2,zz11,93,1230000000000000000000000000000000000000049,(true::true::true::true::(decide (Int.ofNat 0≥c.good)==true)::zq12),[]))∧((decide (Int.ofNat 0≥c.good))=false→Q (Exit.normal,zz2,[some zz1,some (ABlk.mk true false 32 0 (Cs.lit (vwL (updV 0 false (upZ (Vw.miss u 0)) (Int.ofNat 0) (penZ (Vw.score u 0)) false u)))),some zz0],93,1230000000000000000000000000000000000000045,(true::true::(decide (Int.ofNat 0≥c.good)==false)::zq12),[]))))∧((!Vw.inn u 0)=false→Q (Exit.normal,zz2,[some zz1,some (ABlk.mk true false 32 0 (Cs.lit (vwL (updV 0 false (upZ (Vw.miss u 0)) (Int.ofNat 0) (penZ (Vw.score u 0)) false u)))),some zz0],93,1230000000000000000000000000000000000000045,(true::true::((!Vw.inn u 0)==false)::zq11),[]))))∧((decide zz7)=false→(((!Vw.inn u 0)=true→(((decide (Int.ofNat 0≥c.good))=true→Q (Exit.normal,zz2,zz11,93,1230000000000000000000000000000000000000045,(true::true::true::true::(decide (Int.ofNat 0≥c.good)==true)::zq14),[]))∧((decide (Int.ofNat 0≥c.good))=false→Q (Exit.normal,zz2,zz6,93,1230000000000000000000000000000000000000041,(true::true::(decide (Int.ofNat 0≥c.good)==false)::zq14),[]))))∧((!Vw.inn u 0)=false→Q (Exit.normal,zz2,zz6,93,1230000000000000000000000000000000000000041,(true::true::((!Vw.inn u 0)==false)::zq13),[]))))))∧((Vw.inn u 0)=false→(((!Vw.inn u 0)=true→(((decide (Int.ofNat 0≥c.good))=true→Q (Exit.normal,zz2,zz11,93,1230000000000000000000000000000000000000045,(true::true::true::true::(decide (Int.ofNat 0≥c.good)==true)::zq16),[]))∧((decide (Int.ofNat 0≥c.good))=false→Q (Exit.normal,zz2,zz6,93,1230000000000000000000000000000000000000041,(true::true::(decide (Int.ofNat 0≥c.good)==false)::zq16),[]))))∧((!Vw.inn u 0)=false→Q (Exit.normal,zz2,zz6,93,1230000000000000000000000000000000000000041,(true::true::((!Vw.inn u 0)==false)::zq15),[])))))))):
 ∃p r,rvR Tryz.prog c u 0 p=some r∧Q r:=
 two H
 (fun g1=>two g1
  (fun g2=>two g2
   (fun g3=>two g3
    (fun g4=>two g4
     (fun g5=>⟨pD 20 1162497676,_,by kernel_rfl,g5⟩)
     (fun g5=>⟨pD 20 2324759143,_,by kernel_rfl,g5⟩))
    (fun g4=>⟨pD 20 413356,_,by kernel_rfl,g4⟩))
   (fun g3=>two g3
    (fun g4=>two g4
     (fun g5=>⟨pD 20 1162556725,_,by kernel_rfl,g5⟩)
     (fun g5=>⟨pD 20 2324818192,_,by kernel_rfl,g5⟩))
    (fun g4=>⟨pD 20 472405,_,by kernel_rfl,g4⟩)))
  (fun g2=>two g2
   (fun g3=>two g3
    (fun g4=>⟨pD 20 1162438636,_,by kernel_rfl,g4⟩)
    (fun g4=>⟨pD 20 2324700103,_,by kernel_rfl,g4⟩))
   (fun g3=>⟨pD 20 354316,_,by kernel_rfl,g3⟩)))
 (fun g1=>two g1
  (fun g2=>two g2
   (fun g3=>two g3
    (fun g4=>two g4
     (fun g5=>⟨pD 20 1162497679,_,by kernel_rfl,g5⟩)
     (fun g5=>⟨pD 20 2324759146,_,by kernel_rfl,g5⟩))
    (fun g4=>⟨pD 20 413359,_,by kernel_rfl,g4⟩))
   (fun g3=>two g3
    (fun g4=>two g4
     (fun g5=>⟨pD 20 1162556728,_,by kernel_rfl,g5⟩)
     (fun g5=>⟨pD 20 2324818195,_,by kernel_rfl,g5⟩))
    (fun g4=>⟨pD 20 472408,_,by kernel_rfl,g4⟩)))
  (fun g2=>two g2
   (fun g3=>two g3
    (fun g4=>⟨pD 20 1162438639,_,by kernel_rfl,g4⟩)
    (fun g4=>⟨pD 20 2324700106,_,by kernel_rfl,g4⟩))
   (fun g3=>⟨pD 20 354319,_,by kernel_rfl,g3⟩)))
theorem rv1 (c:Cfg) (u:Vw) (Q:VC→Prop) (H:let zz0:=(vwB vw0);let zz1:=(cfgB c);let zz2:=[some (lkA (List.zip rvH (rvV 1)) 2),some (lkA (List.zip rvH (rvV 1)) 3),some (lkA (List.zip rvH (rvV 1)) 4),some (AV.c (AC.v (Value.int IntKind.i64 (Int.ofNat 2))))];let zz3:=[AV.c (AC.v (Value.int IntKind.u16 (Vw.score u 1)))];let zz4:=(IntKind.wrap IntKind.i64 (upZ (Vw.good u 1))≥Cfg.good c);let zz5:=[some zz1,some (ABlk.mk true false 32 0 (Cs.lit (vwL (updV 1 (Vw.inn u 1) (Int.ofNat 0) (upZ (Vw.good u 1)) (rewZ (Vw.score u 1)) false u)))),some zz0];let zz6:=[some zz1,some (ABlk.mk true false 32 0 (Cs.lit (vwL (updV 1 (Vw.inn u 1) (upZ (Vw.miss u 1)) (Int.ofNat 0) (penZ (Vw.score u 1)) false u)))),some zz0];let zz7:=(IntKind.wrap IntKind.i64 (upZ (Vw.miss u 1))≥Cfg.miss c);let zz8:=[AV.c (AC.v (Value.int IntKind.u8 (Vw.good u 1)))];let zz9:=[AV.c (AC.v (Value.int IntKind.u8 (Vw.miss u 1)))];let zz10:=[some zz1,some (ABlk.mk true false 32 0 (Cs.lit (vwL (updV 1 true (Int.ofNat 0) (upZ (Vw.good u 1)) (rewZ (Vw.score u 1)) false u)))),some zz0];let zz11:=[some zz1,some (ABlk.mk true false 32 0 (Cs.lit (vwL (updV 1 true (upZ (Vw.miss u 1)) (Int.ofNat 0) (penZ (Vw.score u 1)) false u)))),some zz0];let zq0:List Bool:=[true,true,true,true,true,true,decide (Int.ofNat 1 < ↑(c.np))==true,true];let zq1:List Bool:=true::true::true::(scPB .u16 zz3)::true::true::true::true::true::true::(scPB .u8 zz8)::true::true::true::true::true::(Vw.got u 1==true)::zq0;let zq2:List Bool:=true::true::true::true::true::(Vw.inn u 1==true)::zq1;let zq3:List Bool:=true::true::(decide (Int.ofNat 0≥c.miss)==true)::zq2;let zq4:List Bool:=true::true::true::true::true::((!Vw.inn u 1)==true)::zq3;let zq5:List Bool:=(decide (Int.ofNat 0≥c.miss)==false)::zq2;let zq6:List Bool:=true::true::true::true::true::((!Vw.inn u 1)==true)::zq5;let zq7:List Bool:=(Vw.inn u 1==false)::zq1;let zq8:List Bool:=true::true::true::true::true::((!Vw.inn u 1)==true)::zq7;let zq9:List Bool:=true::true::true::(scPB .u16 zz3)::true::true::true::true::true::true::(scPB .u8 zz9)::true::true::true::true::true::(Vw.got u 1==false)::zq0;let zq10:List Bool:=true::true::true::true::true::(Vw.inn u 1==true)::zq9;let zq11:List Bool:=true::true::(decide zz7==true)::zq10;let zq12:List Bool:=true::true::true::true::true::((!Vw.inn u 1)==true)::zq11;let zq13:List Bool:=(decide zz7==false)::zq10;let zq14:List Bool:=true::true::true::true::true::((!Vw.inn u 1)==true)::zq13;let zq15:List Bool:=(Vw.inn u 1==false)::zq9;let zq16:List Bool:=true::true::true::true::true::((!Vw.inn u 1)==true)::zq15;(((Vw.got u 1)=true→(((Vw.inn u 1)=true→(((decide (Int.ofNat 0≥c.miss))=true→(((!Vw.inn u 1)=true→(((decide zz4)=true→Q (Exit.normal,zz2,zz10,93,1230000000000000000000000000000000000000049,(true::true::true::true::(decide zz4==true)::zq4),[]))∧((decide zz4)=false→Q (Exit.normal,zz2,[some zz1,some (ABlk.mk true false 32 0 (Cs.lit (vwL (updV 1 false (Int.ofNat 0) (upZ (Vw.good u 1)) (rewZ (Vw.score u 1)) false u)))),some zz0],93,1230000000000000000000000000000000000000045,(true::true::(decide zz4==false)::zq4),[]))))∧((!Vw.inn u 1)=false→Q (Exit.normal,zz2,[some zz1,some (ABlk.mk true false 32 0 (Cs.lit (vwL (updV 1 false (Int.ofNat 0) (upZ (Vw.good u 1)) (rewZ (Vw.score u 1)) false u)))),some zz0],93,1230000000000000000000000000000000000000045,(true::true::((!Vw.inn u 1)==false)::zq3),[]))))∧((decide (Int.ofNat 0≥c.miss))=false→(((!Vw.inn u 1)=true→(((decide zz4)=true→Q (Exit.normal,zz2,zz10,93,1230000000000000000000000000000000000000045,(true::true::true::true::(decide zz4==true)::zq6),[]))∧((decide zz4)=false→Q (Exit.normal,zz2,zz5,93,1230000000000000000000000000000000000000041,(true::true::(decide zz4==false)::zq6),[]))))∧((!Vw.inn u 1)=false→Q (Exit.normal,zz2,zz5,93,1230000000000000000000000000000000000000041,(true::true::((!Vw.inn u 1)==false)::zq5),[]))))))∧((Vw.inn u 1)=false→(((!Vw.inn u 1)=true→(((decide zz4)=true→Q (Exit.normal,zz2,zz10,93,1230000000000000000000000000000000000000045,(true::true::true::true::(decide zz4==true)::zq8),[]))∧((decide zz4)=false→Q (Exit.normal,zz2,zz5,93,1230000000000000000000000000000000000000041,(true::true::(decide zz4==false)::zq8),[]))))∧((!Vw.inn u 1)=false→Q (Exit.normal,zz2,zz5,93,1230000000000000000000000000000000000000041,(true::true::((!Vw.inn u 1)==false)::zq7),[]))))))∧((Vw.got u 1)=false→(((Vw.inn u 1)=true→(((decide zz7)=true→(((!Vw.inn u 1)=true→(((decide (Int.ofNat 0≥c.good))=true→Q (Exit.normal,zz2,zz11,93,1230000000000000000000000000000000000000049,(true::true::true::true::(decide (Int.ofNat 0≥c.good)==true)::zq12),[]))∧((decide (Int.ofNat 0≥c.good))=false→Q (Exit.normal,zz2,[some zz1,some (ABlk.mk true false 32 0 (Cs.lit (vwL (updV 1 false (upZ (Vw.miss u 1)) (Int.ofNat 0) (penZ (Vw.score u 1)) false u)))),some zz0],93,1230000000000000000000000000000000000000045,(true::true::(decide (Int.ofNat 0≥c.good)==false)::zq12),[]))))∧((!Vw.inn u 1)=false→Q (Exit.normal,zz2,[some zz1,some (ABlk.mk true false 32 0 (Cs.lit (vwL (updV 1 false (upZ (Vw.miss u 1)) (Int.ofNat 0) (penZ (Vw.score u 1)) false u)))),some zz0],93,1230000000000000000000000000000000000000045,(true::true::((!Vw.inn u 1)==false)::zq11),[]))))∧((decide zz7)=false→(((!Vw.inn u 1)=true→(((decide (Int.ofNat 0≥c.good))=true→Q (Exit.normal,zz2,zz11,93,1230000000000000000000000000000000000000045,(true::true::true::true::(decide (Int.ofNat 0≥c.good)==true)::zq14),[]))∧((decide (Int.ofNat 0≥c.good))=false→Q (Exit.normal,zz2,zz6,93,1230000000000000000000000000000000000000041,(true::true::(decide (Int.ofNat 0≥c.good)==false)::zq14),[]))))∧((!Vw.inn u 1)=false→Q (Exit.normal,zz2,zz6,93,1230000000000000000000000000000000000000041,(true::true::((!Vw.inn u 1)==false)::zq13),[]))))))∧((Vw.inn u 1)=false→(((!Vw.inn u 1)=true→(((decide (Int.ofNat 0≥c.good))=true→Q (Exit.normal,zz2,zz11,93,1230000000000000000000000000000000000000045,(true::true::true::true::(decide (Int.ofNat 0≥c.good)==true)::zq16),[]))∧((decide (Int.ofNat 0≥c.good))=false→Q (Exit.normal,zz2,zz6,93,1230000000000000000000000000000000000000041,(true::true::(decide (Int.ofNat 0≥c.good)==false)::zq16),[]))))∧((!Vw.inn u 1)=false→Q (Exit.normal,zz2,zz6,93,1230000000000000000000000000000000000000041,(true::true::((!Vw.inn u 1)==false)::zq15),[])))))))):
 ∃p r,rvR Tryz.prog c u 1 p=some r∧Q r:=
 two H
 (fun g1=>two g1
  (fun g2=>two g2
   (fun g3=>two g3
    (fun g4=>two g4
     (fun g5=>⟨pD 20 1162497676,_,by kernel_rfl,g5⟩)
     (fun g5=>⟨pD 20 2324759143,_,by kernel_rfl,g5⟩))
    (fun g4=>⟨pD 20 413356,_,by kernel_rfl,g4⟩))
   (fun g3=>two g3
    (fun g4=>two g4
     (fun g5=>⟨pD 20 1162556725,_,by kernel_rfl,g5⟩)
     (fun g5=>⟨pD 20 2324818192,_,by kernel_rfl,g5⟩))
    (fun g4=>⟨pD 20 472405,_,by kernel_rfl,g4⟩)))
  (fun g2=>two g2
   (fun g3=>two g3
    (fun g4=>⟨pD 20 1162438636,_,by kernel_rfl,g4⟩)
    (fun g4=>⟨pD 20 2324700103,_,by kernel_rfl,g4⟩))
   (fun g3=>⟨pD 20 354316,_,by kernel_rfl,g3⟩)))
 (fun g1=>two g1
  (fun g2=>two g2
   (fun g3=>two g3
    (fun g4=>two g4
     (fun g5=>⟨pD 20 1162497679,_,by kernel_rfl,g5⟩)
     (fun g5=>⟨pD 20 2324759146,_,by kernel_rfl,g5⟩))
    (fun g4=>⟨pD 20 413359,_,by kernel_rfl,g4⟩))
   (fun g3=>two g3
    (fun g4=>two g4
     (fun g5=>⟨pD 20 1162556728,_,by kernel_rfl,g5⟩)
     (fun g5=>⟨pD 20 2324818195,_,by kernel_rfl,g5⟩))
    (fun g4=>⟨pD 20 472408,_,by kernel_rfl,g4⟩)))
  (fun g2=>two g2
   (fun g3=>two g3
    (fun g4=>⟨pD 20 1162438639,_,by kernel_rfl,g4⟩)
    (fun g4=>⟨pD 20 2324700106,_,by kernel_rfl,g4⟩))
   (fun g3=>⟨pD 20 354319,_,by kernel_rfl,g3⟩)))
theorem rv2 (c:Cfg) (u:Vw) (Q:VC→Prop) (H:let zz0:=(vwB vw0);let zz1:=(cfgB c);let zz2:=[some (lkA (List.zip rvH (rvV 2)) 2),some (lkA (List.zip rvH (rvV 2)) 3),some (lkA (List.zip rvH (rvV 2)) 4),some (AV.c (AC.v (Value.int IntKind.i64 (Int.ofNat 3))))];let zz3:=[AV.c (AC.v (Value.int IntKind.u16 (Vw.score u 2)))];let zz4:=(IntKind.wrap IntKind.i64 (upZ (Vw.good u 2))≥Cfg.good c);let zz5:=[some zz1,some (ABlk.mk true false 32 0 (Cs.lit (vwL (updV 2 (Vw.inn u 2) (Int.ofNat 0) (upZ (Vw.good u 2)) (rewZ (Vw.score u 2)) false u)))),some zz0];let zz6:=[some zz1,some (ABlk.mk true false 32 0 (Cs.lit (vwL (updV 2 (Vw.inn u 2) (upZ (Vw.miss u 2)) (Int.ofNat 0) (penZ (Vw.score u 2)) false u)))),some zz0];let zz7:=(IntKind.wrap IntKind.i64 (upZ (Vw.miss u 2))≥Cfg.miss c);let zz8:=[AV.c (AC.v (Value.int IntKind.u8 (Vw.good u 2)))];let zz9:=[AV.c (AC.v (Value.int IntKind.u8 (Vw.miss u 2)))];let zz10:=[some zz1,some (ABlk.mk true false 32 0 (Cs.lit (vwL (updV 2 true (Int.ofNat 0) (upZ (Vw.good u 2)) (rewZ (Vw.score u 2)) false u)))),some zz0];let zz11:=[some zz1,some (ABlk.mk true false 32 0 (Cs.lit (vwL (updV 2 true (upZ (Vw.miss u 2)) (Int.ofNat 0) (penZ (Vw.score u 2)) false u)))),some zz0];let zq0:List Bool:=[true,true,true,true,true,true,decide (Int.ofNat 2 < ↑(c.np))==true,true];let zq1:List Bool:=true::true::true::(scPB .u16 zz3)::true::true::true::true::true::true::(scPB .u8 zz8)::true::true::true::true::true::(Vw.got u 2==true)::zq0;let zq2:List Bool:=true::true::true::true::true::(Vw.inn u 2==true)::zq1;let zq3:List Bool:=true::true::(decide (Int.ofNat 0≥c.miss)==true)::zq2;let zq4:List Bool:=true::true::true::true::true::((!Vw.inn u 2)==true)::zq3;let zq5:List Bool:=(decide (Int.ofNat 0≥c.miss)==false)::zq2;let zq6:List Bool:=true::true::true::true::true::((!Vw.inn u 2)==true)::zq5;let zq7:List Bool:=(Vw.inn u 2==false)::zq1;let zq8:List Bool:=true::true::true::true::true::((!Vw.inn u 2)==true)::zq7;let zq9:List Bool:=true::true::true::(scPB .u16 zz3)::true::true::true::true::true::true::(scPB .u8 zz9)::true::true::true::true::true::(Vw.got u 2==false)::zq0;let zq10:List Bool:=true::true::true::true::true::(Vw.inn u 2==true)::zq9;let zq11:List Bool:=true::true::(decide zz7==true)::zq10;let zq12:List Bool:=true::true::true::true::true::((!Vw.inn u 2)==true)::zq11;let zq13:List Bool:=(decide zz7==false)::zq10;let zq14:List Bool:=true::true::true::true::true::((!Vw.inn u 2)==true)::zq13;let zq15:List Bool:=(Vw.inn u 2==false)::zq9;let zq16:List Bool:=true::true::true::true::true::((!Vw.inn u 2)==true)::zq15;(((Vw.got u 2)=true→(((Vw.inn u 2)=true→(((decide (Int.ofNat 0≥c.miss))=true→(((!Vw.inn u 2)=true→(((decide zz4)=true→Q (Exit.normal,zz2,zz10,93,1230000000000000000000000000000000000000049,(true::true::true::true::(decide zz4==true)::zq4),[]))∧((decide zz4)=false→Q (Exit.normal,zz2,[some zz1,some (ABlk.mk true false 32 0 (Cs.lit (vwL (updV 2 false (Int.ofNat 0) (upZ (Vw.good u 2)) (rewZ (Vw.score u 2)) false u)))),some zz0],93,1230000000000000000000000000000000000000045,(true::true::(decide zz4==false)::zq4),[]))))∧((!Vw.inn u 2)=false→Q (Exit.normal,zz2,[some zz1,some (ABlk.mk true false 32 0 (Cs.lit (vwL (updV 2 false (Int.ofNat 0) (upZ (Vw.good u 2)) (rewZ (Vw.score u 2)) false u)))),some zz0],93,1230000000000000000000000000000000000000045,(true::true::((!Vw.inn u 2)==false)::zq3),[]))))∧((decide (Int.ofNat 0≥c.miss))=false→(((!Vw.inn u 2)=true→(((decide zz4)=true→Q (Exit.normal,zz2,zz10,93,1230000000000000000000000000000000000000045,(true::true::true::true::(decide zz4==true)::zq6),[]))∧((decide zz4)=false→Q (Exit.normal,zz2,zz5,93,1230000000000000000000000000000000000000041,(true::true::(decide zz4==false)::zq6),[]))))∧((!Vw.inn u 2)=false→Q (Exit.normal,zz2,zz5,93,1230000000000000000000000000000000000000041,(true::true::((!Vw.inn u 2)==false)::zq5),[]))))))∧((Vw.inn u 2)=false→(((!Vw.inn u 2)=true→(((decide zz4)=true→Q (Exit.normal,zz2,zz10,93,1230000000000000000000000000000000000000045,(true::true::true::true::(decide zz4==true)::zq8),[]))∧((decide zz4)=false→Q (Exit.normal,zz2,zz5,93,1230000000000000000000000000000000000000041,(true::true::(decide zz4==false)::zq8),[]))))∧((!Vw.inn u 2)=false→Q (Exit.normal,zz2,zz5,93,1230000000000000000000000000000000000000041,(true::true::((!Vw.inn u 2)==false)::zq7),[]))))))∧((Vw.got u 2)=false→(((Vw.inn u 2)=true→(((decide zz7)=true→(((!Vw.inn u 2)=true→(((decide (Int.ofNat 0≥c.good))=true→Q (Exit.normal,zz2,zz11,93,1230000000000000000000000000000000000000049,(true::true::true::true::(decide (Int.ofNat 0≥c.good)==true)::zq12),[]))∧((decide (Int.ofNat 0≥c.good))=false→Q (Exit.normal,zz2,[some zz1,some (ABlk.mk true false 32 0 (Cs.lit (vwL (updV 2 false (upZ (Vw.miss u 2)) (Int.ofNat 0) (penZ (Vw.score u 2)) false u)))),some zz0],93,1230000000000000000000000000000000000000045,(true::true::(decide (Int.ofNat 0≥c.good)==false)::zq12),[]))))∧((!Vw.inn u 2)=false→Q (Exit.normal,zz2,[some zz1,some (ABlk.mk true false 32 0 (Cs.lit (vwL (updV 2 false (upZ (Vw.miss u 2)) (Int.ofNat 0) (penZ (Vw.score u 2)) false u)))),some zz0],93,1230000000000000000000000000000000000000045,(true::true::((!Vw.inn u 2)==false)::zq11),[]))))∧((decide zz7)=false→(((!Vw.inn u 2)=true→(((decide (Int.ofNat 0≥c.good))=true→Q (Exit.normal,zz2,zz11,93,1230000000000000000000000000000000000000045,(true::true::true::true::(decide (Int.ofNat 0≥c.good)==true)::zq14),[]))∧((decide (Int.ofNat 0≥c.good))=false→Q (Exit.normal,zz2,zz6,93,1230000000000000000000000000000000000000041,(true::true::(decide (Int.ofNat 0≥c.good)==false)::zq14),[]))))∧((!Vw.inn u 2)=false→Q (Exit.normal,zz2,zz6,93,1230000000000000000000000000000000000000041,(true::true::((!Vw.inn u 2)==false)::zq13),[]))))))∧((Vw.inn u 2)=false→(((!Vw.inn u 2)=true→(((decide (Int.ofNat 0≥c.good))=true→Q (Exit.normal,zz2,zz11,93,1230000000000000000000000000000000000000045,(true::true::true::true::(decide (Int.ofNat 0≥c.good)==true)::zq16),[]))∧((decide (Int.ofNat 0≥c.good))=false→Q (Exit.normal,zz2,zz6,93,1230000000000000000000000000000000000000041,(true::true::(decide (Int.ofNat 0≥c.good)==false)::zq16),[]))))∧((!Vw.inn u 2)=false→Q (Exit.normal,zz2,zz6,93,1230000000000000000000000000000000000000041,(true::true::((!Vw.inn u 2)==false)::zq15),[])))))))):
 ∃p r,rvR Tryz.prog c u 2 p=some r∧Q r:=
 two H
 (fun g1=>two g1
  (fun g2=>two g2
   (fun g3=>two g3
    (fun g4=>two g4
     (fun g5=>⟨pD 20 1162497676,_,by kernel_rfl,g5⟩)
     (fun g5=>⟨pD 20 2324759143,_,by kernel_rfl,g5⟩))
    (fun g4=>⟨pD 20 413356,_,by kernel_rfl,g4⟩))
   (fun g3=>two g3
    (fun g4=>two g4
     (fun g5=>⟨pD 20 1162556725,_,by kernel_rfl,g5⟩)
     (fun g5=>⟨pD 20 2324818192,_,by kernel_rfl,g5⟩))
    (fun g4=>⟨pD 20 472405,_,by kernel_rfl,g4⟩)))
  (fun g2=>two g2
   (fun g3=>two g3
    (fun g4=>⟨pD 20 1162438636,_,by kernel_rfl,g4⟩)
    (fun g4=>⟨pD 20 2324700103,_,by kernel_rfl,g4⟩))
   (fun g3=>⟨pD 20 354316,_,by kernel_rfl,g3⟩)))
 (fun g1=>two g1
  (fun g2=>two g2
   (fun g3=>two g3
    (fun g4=>two g4
     (fun g5=>⟨pD 20 1162497679,_,by kernel_rfl,g5⟩)
     (fun g5=>⟨pD 20 2324759146,_,by kernel_rfl,g5⟩))
    (fun g4=>⟨pD 20 413359,_,by kernel_rfl,g4⟩))
   (fun g3=>two g3
    (fun g4=>two g4
     (fun g5=>⟨pD 20 1162556728,_,by kernel_rfl,g5⟩)
     (fun g5=>⟨pD 20 2324818195,_,by kernel_rfl,g5⟩))
    (fun g4=>⟨pD 20 472408,_,by kernel_rfl,g4⟩)))
  (fun g2=>two g2
   (fun g3=>two g3
    (fun g4=>⟨pD 20 1162438639,_,by kernel_rfl,g4⟩)
    (fun g4=>⟨pD 20 2324700106,_,by kernel_rfl,g4⟩))
   (fun g3=>⟨pD 20 354319,_,by kernel_rfl,g3⟩)))
theorem rv3 (c:Cfg) (u:Vw) (Q:VC→Prop) (H:let zz0:=(vwB vw0);let zz1:=(cfgB c);let zz2:=[some (lkA (List.zip rvH (rvV 3)) 2),some (lkA (List.zip rvH (rvV 3)) 3),some (lkA (List.zip rvH (rvV 3)) 4),some (AV.c (AC.v (Value.int IntKind.i64 (Int.ofNat 4))))];let zz3:=[AV.c (AC.v (Value.int IntKind.u16 (Vw.score u 3)))];let zz4:=(IntKind.wrap IntKind.i64 (upZ (Vw.good u 3))≥Cfg.good c);let zz5:=[some zz1,some (ABlk.mk true false 32 0 (Cs.lit (vwL (updV 3 (Vw.inn u 3) (Int.ofNat 0) (upZ (Vw.good u 3)) (rewZ (Vw.score u 3)) false u)))),some zz0];let zz6:=[some zz1,some (ABlk.mk true false 32 0 (Cs.lit (vwL (updV 3 (Vw.inn u 3) (upZ (Vw.miss u 3)) (Int.ofNat 0) (penZ (Vw.score u 3)) false u)))),some zz0];let zz7:=(IntKind.wrap IntKind.i64 (upZ (Vw.miss u 3))≥Cfg.miss c);let zz8:=[AV.c (AC.v (Value.int IntKind.u8 (Vw.good u 3)))];let zz9:=[AV.c (AC.v (Value.int IntKind.u8 (Vw.miss u 3)))];let zz10:=[some zz1,some (ABlk.mk true false 32 0 (Cs.lit (vwL (updV 3 true (Int.ofNat 0) (upZ (Vw.good u 3)) (rewZ (Vw.score u 3)) false u)))),some zz0];let zz11:=[some zz1,some (ABlk.mk true false 32 0 (Cs.lit (vwL (updV 3 true (upZ (Vw.miss u 3)) (Int.ofNat 0) (penZ (Vw.score u 3)) false u)))),some zz0];let zq0:List Bool:=[true,true,true,true,true,true,decide (Int.ofNat 3 < ↑(c.np))==true,true];let zq1:List Bool:=true::true::true::(scPB .u16 zz3)::true::true::true::true::true::true::(scPB .u8 zz8)::true::true::true::true::true::(Vw.got u 3==true)::zq0;let zq2:List Bool:=true::true::true::true::true::(Vw.inn u 3==true)::zq1;let zq3:List Bool:=true::true::(decide (Int.ofNat 0≥c.miss)==true)::zq2;let zq4:List Bool:=true::true::true::true::true::((!Vw.inn u 3)==true)::zq3;let zq5:List Bool:=(decide (Int.ofNat 0≥c.miss)==false)::zq2;let zq6:List Bool:=true::true::true::true::true::((!Vw.inn u 3)==true)::zq5;let zq7:List Bool:=(Vw.inn u 3==false)::zq1;let zq8:List Bool:=true::true::true::true::true::((!Vw.inn u 3)==true)::zq7;let zq9:List Bool:=true::true::true::(scPB .u16 zz3)::true::true::true::true::true::true::(scPB .u8 zz9)::true::true::true::true::true::(Vw.got u 3==false)::zq0;let zq10:List Bool:=true::true::true::true::true::(Vw.inn u 3==true)::zq9;let zq11:List Bool:=true::true::(decide zz7==true)::zq10;let zq12:List Bool:=true::true::true::true::true::((!Vw.inn u 3)==true)::zq11;let zq13:List Bool:=(decide zz7==false)::zq10;let zq14:List Bool:=true::true::true::true::true::((!Vw.inn u 3)==true)::zq13;let zq15:List Bool:=(Vw.inn u 3==false)::zq9;let zq16:List Bool:=true::true::true::true::true::((!Vw.inn u 3)==true)::zq15;(((Vw.got u 3)=true→(((Vw.inn u 3)=true→(((decide (Int.ofNat 0≥c.miss))=true→(((!Vw.inn u 3)=true→(((decide zz4)=true→Q (Exit.normal,zz2,zz10,93,1230000000000000000000000000000000000000049,(true::true::true::true::(decide zz4==true)::zq4),[]))∧((decide zz4)=false→Q (Exit.normal,zz2,[some zz1,some (ABlk.mk true false 32 0 (Cs.lit (vwL (updV 3 false (Int.ofNat 0) (upZ (Vw.good u 3)) (rewZ (Vw.score u 3)) false u)))),some zz0],93,1230000000000000000000000000000000000000045,(true::true::(decide zz4==false)::zq4),[]))))∧((!Vw.inn u 3)=false→Q (Exit.normal,zz2,[some zz1,some (ABlk.mk true false 32 0 (Cs.lit (vwL (updV 3 false (Int.ofNat 0) (upZ (Vw.good u 3)) (rewZ (Vw.score u 3)) false u)))),some zz0],93,1230000000000000000000000000000000000000045,(true::true::((!Vw.inn u 3)==false)::zq3),[]))))∧((decide (Int.ofNat 0≥c.miss))=false→(((!Vw.inn u 3)=true→(((decide zz4)=true→Q (Exit.normal,zz2,zz10,93,1230000000000000000000000000000000000000045,(true::true::true::true::(decide zz4==true)::zq6),[]))∧((decide zz4)=false→Q (Exit.normal,zz2,zz5,93,1230000000000000000000000000000000000000041,(true::true::(decide zz4==false)::zq6),[]))))∧((!Vw.inn u 3)=false→Q (Exit.normal,zz2,zz5,93,1230000000000000000000000000000000000000041,(true::true::((!Vw.inn u 3)==false)::zq5),[]))))))∧((Vw.inn u 3)=false→(((!Vw.inn u 3)=true→(((decide zz4)=true→Q (Exit.normal,zz2,zz10,93,1230000000000000000000000000000000000000045,(true::true::true::true::(decide zz4==true)::zq8),[]))∧((decide zz4)=false→Q (Exit.normal,zz2,zz5,93,1230000000000000000000000000000000000000041,(true::true::(decide zz4==false)::zq8),[]))))∧((!Vw.inn u 3)=false→Q (Exit.normal,zz2,zz5,93,1230000000000000000000000000000000000000041,(true::true::((!Vw.inn u 3)==false)::zq7),[]))))))∧((Vw.got u 3)=false→(((Vw.inn u 3)=true→(((decide zz7)=true→(((!Vw.inn u 3)=true→(((decide (Int.ofNat 0≥c.good))=true→Q (Exit.normal,zz2,zz11,93,1230000000000000000000000000000000000000049,(true::true::true::true::(decide (Int.ofNat 0≥c.good)==true)::zq12),[]))∧((decide (Int.ofNat 0≥c.good))=false→Q (Exit.normal,zz2,[some zz1,some (ABlk.mk true false 32 0 (Cs.lit (vwL (updV 3 false (upZ (Vw.miss u 3)) (Int.ofNat 0) (penZ (Vw.score u 3)) false u)))),some zz0],93,1230000000000000000000000000000000000000045,(true::true::(decide (Int.ofNat 0≥c.good)==false)::zq12),[]))))∧((!Vw.inn u 3)=false→Q (Exit.normal,zz2,[some zz1,some (ABlk.mk true false 32 0 (Cs.lit (vwL (updV 3 false (upZ (Vw.miss u 3)) (Int.ofNat 0) (penZ (Vw.score u 3)) false u)))),some zz0],93,1230000000000000000000000000000000000000045,(true::true::((!Vw.inn u 3)==false)::zq11),[]))))∧((decide zz7)=false→(((!Vw.inn u 3)=true→(((decide (Int.ofNat 0≥c.good))=true→Q (Exit.normal,zz2,zz11,93,1230000000000000000000000000000000000000045,(true::true::true::true::(decide (Int.ofNat 0≥c.good)==true)::zq14),[]))∧((decide (Int.ofNat 0≥c.good))=false→Q (Exit.normal,zz2,zz6,93,1230000000000000000000000000000000000000041,(true::true::(decide (Int.ofNat 0≥c.good)==false)::zq14),[]))))∧((!Vw.inn u 3)=false→Q (Exit.normal,zz2,zz6,93,1230000000000000000000000000000000000000041,(true::true::((!Vw.inn u 3)==false)::zq13),[]))))))∧((Vw.inn u 3)=false→(((!Vw.inn u 3)=true→(((decide (Int.ofNat 0≥c.good))=true→Q (Exit.normal,zz2,zz11,93,1230000000000000000000000000000000000000045,(true::true::true::true::(decide (Int.ofNat 0≥c.good)==true)::zq16),[]))∧((decide (Int.ofNat 0≥c.good))=false→Q (Exit.normal,zz2,zz6,93,1230000000000000000000000000000000000000041,(true::true::(decide (Int.ofNat 0≥c.good)==false)::zq16),[]))))∧((!Vw.inn u 3)=false→Q (Exit.normal,zz2,zz6,93,1230000000000000000000000000000000000000041,(true::true::((!Vw.inn u 3)==false)::zq15),[])))))))):
 ∃p r,rvR Tryz.prog c u 3 p=some r∧Q r:=
 two H
 (fun g1=>two g1
  (fun g2=>two g2
   (fun g3=>two g3
    (fun g4=>two g4
     (fun g5=>⟨pD 20 1162497676,_,by kernel_rfl,g5⟩)
     (fun g5=>⟨pD 20 2324759143,_,by kernel_rfl,g5⟩))
    (fun g4=>⟨pD 20 413356,_,by kernel_rfl,g4⟩))
   (fun g3=>two g3
    (fun g4=>two g4
     (fun g5=>⟨pD 20 1162556725,_,by kernel_rfl,g5⟩)
     (fun g5=>⟨pD 20 2324818192,_,by kernel_rfl,g5⟩))
    (fun g4=>⟨pD 20 472405,_,by kernel_rfl,g4⟩)))
  (fun g2=>two g2
   (fun g3=>two g3
    (fun g4=>⟨pD 20 1162438636,_,by kernel_rfl,g4⟩)
    (fun g4=>⟨pD 20 2324700103,_,by kernel_rfl,g4⟩))
   (fun g3=>⟨pD 20 354316,_,by kernel_rfl,g3⟩)))
 (fun g1=>two g1
  (fun g2=>two g2
   (fun g3=>two g3
    (fun g4=>two g4
     (fun g5=>⟨pD 20 1162497679,_,by kernel_rfl,g5⟩)
     (fun g5=>⟨pD 20 2324759146,_,by kernel_rfl,g5⟩))
    (fun g4=>⟨pD 20 413359,_,by kernel_rfl,g4⟩))
   (fun g3=>two g3
    (fun g4=>two g4
     (fun g5=>⟨pD 20 1162556728,_,by kernel_rfl,g5⟩)
     (fun g5=>⟨pD 20 2324818195,_,by kernel_rfl,g5⟩))
    (fun g4=>⟨pD 20 472408,_,by kernel_rfl,g4⟩)))
  (fun g2=>two g2
   (fun g3=>two g3
    (fun g4=>⟨pD 20 1162438639,_,by kernel_rfl,g4⟩)
    (fun g4=>⟨pD 20 2324700106,_,by kernel_rfl,g4⟩))
   (fun g3=>⟨pD 20 354319,_,by kernel_rfl,g3⟩)))
theorem rvX (c:Cfg) (u:Vw) (k:Nat) (Q:VC→Prop) (H:Q (Exit.exit 0,[some (lkA (List.zip rvH (rvV k)) 2),some (lkA (List.zip rvH (rvV k)) 3),some (lkA (List.zip rvH (rvV k)) 4),some (lkA (List.zip rvH (rvV k)) 5)],[some (ABlk.mk true false 25 0 (Cs.lit [.v (.int .i64 (c.nodes)),AC.sl 0 0 0 (c.np) none,AC.sl 1 0 0 (c.ns) none,.v (.int .i64 (c.long)),AC.sl 2 0 0 (c.nb) none,AC.sl 3 0 0 (c.nt) none,.v (.int .i64 (c.miss)),.v (.int .i64 (c.good)),.v (.int .i64 (c.fresh))])),some (ABlk.mk true false 32 0 (Cs.lit (vwL u))),some (ABlk.mk true false 32 0 (Cs.lit [.v (.bool false),.v (.bool false),.v (.bool false),.v (.bool false),.v (.bool false),.v (.bool false),.v (.bool false),.v (.bool false),.v (.int .u8 (Int.ofNat 0)),.v (.int .u8 (Int.ofNat 0)),.v (.int .u8 (Int.ofNat 0)),.v (.int .u8 (Int.ofNat 0)),.v (.int .u8 (Int.ofNat 0)),.v (.int .u8 (Int.ofNat 0)),.v (.int .u8 (Int.ofNat 0)),.v (.int .u8 (Int.ofNat 0)),.v (.int .u8 (Int.ofNat 0)),.v (.int .u8 (Int.ofNat 0)),.v (.int .u8 (Int.ofNat 0)),.v (.int .u8 (Int.ofNat 0)),.v (.int .u8 (Int.ofNat 0)),.v (.int .u8 (Int.ofNat 0)),.v (.int .u8 (Int.ofNat 0)),.v (.int .u8 (Int.ofNat 0)),.v (.int .u16 (Int.ofNat 0)),.v (.int .u16 (Int.ofNat 0)),.v (.int .u16 (Int.ofNat 0)),.v (.int .u16 (Int.ofNat 0)),.v (.int .u16 (Int.ofNat 0)),.v (.int .u16 (Int.ofNat 0)),.v (.int .u16 (Int.ofNat 0)),.v (.int .u16 (Int.ofNat 0)),.v (.bool false),.v (.bool false),.v (.bool false),.v (.bool false),.v (.bool false),.v (.bool false),.v (.bool false),.v (.bool false),.v (.int .i8 (Int.ofNat 0)),.v (.int .u8 (Int.ofNat 0))]))],93,1000000000000000000000000000000000000000005,[decide (Int.ofNat k < ↑(c.np))==false,true],[])):
 ∃p r,rvR Tryz.prog c u k p=some r∧Q r:=
 ⟨pD 1 2,_,by kernel_rfl,H⟩
end Go.Proofs.YtpgaplcdbbnblaaGreatDoor
end
/- sennitref22.Round: its loop's rounds as the evaluator runs them, pair by pair. Printed by wip/gen_rv.py. -/
section
namespace Go.Proofs.YtpgaplcdbbnblaaGreatDoor
open Go.RowKit
theorem rv4 (c:Cfg) (u:Vw) (Q:VC→Prop) (H:let zz0:=(vwB vw0);let zz1:=(cfgB c);let zz2:=[some (lkA (List.zip rvH (rvV 4)) 2),some (lkA (List.zip rvH (rvV 4)) 3),some (lkA (List.zip rvH (rvV 4)) 4),some (AV.c (AC.v (Value.int IntKind.i64 (Int.ofNat 5))))];let zz3:=[AV.c (AC.v (Value.int IntKind.u16 (Vw.score u 4)))];let zz4:=(IntKind.wrap IntKind.i64 (upZ (Vw.good u 4))≥Cfg.good c);let zz5:=[some zz1,some (ABlk.mk true false 32 0 (Cs.lit (vwL (updV 4 (Vw.inn u 4) (Int.ofNat 0) (upZ (Vw.good u 4)) (rewZ (Vw.score u 4)) false u)))),some zz0];let zz6:=[some zz1,some (ABlk.mk true false 32 0 (Cs.lit (vwL (updV 4 (Vw.inn u 4) (upZ (Vw.miss u 4)) (Int.ofNat 0) (penZ (Vw.score u 4)) false u)))),some zz0];let zz7:=(IntKind.wrap IntKind.i64 (upZ (Vw.miss u 4))≥Cfg.miss c);let zz8:=[AV.c (AC.v (Value.int IntKind.u8 (Vw.good u 4)))];let zz9:=[AV.c (AC.v (Value.int IntKind.u8 (Vw.miss u 4)))];let zz10:=[some zz1,some (ABlk.mk true false 32 0 (Cs.lit (vwL (updV 4 true (Int.ofNat 0) (upZ (Vw.good u 4)) (rewZ (Vw.score u 4)) false u)))),some zz0];let zz11:=[some zz1,some (ABlk.mk true false 32 0 (Cs.lit (vwL (updV 4 true (upZ (Vw.miss u 4)) (Int.ofNat 0) (penZ (Vw.score u 4)) false u)))),some zz0];let zq0:List Bool:=[true,true,true,true,true,true,decide (Int.ofNat 4 < ↑(c.np))==true,true];let zq1:List Bool:=true::true::true::(scPB .u16 zz3)::true::true::true::true::true::true::(scPB .u8 zz8)::true::true::true::true::true::(Vw.got u 4==true)::zq0;let zq2:List Bool:=true::true::true::true::true::(Vw.inn u 4==true)::zq1;let zq3:List Bool:=true::true::(decide (Int.ofNat 0≥c.miss)==true)::zq2;let zq4:List Bool:=true::true::true::true::true::((!Vw.inn u 4)==true)::zq3;let zq5:List Bool:=(decide (Int.ofNat 0≥c.miss)==false)::zq2;let zq6:List Bool:=true::true::true::true::true::((!Vw.inn u 4)==true)::zq5;let zq7:List Bool:=(Vw.inn u 4==false)::zq1;let zq8:List Bool:=true::true::true::true::true::((!Vw.inn u 4)==true)::zq7;let zq9:List Bool:=true::true::true::(scPB .u16 zz3)::true::true::true::true::true::true::(scPB .u8 zz9)::true::true::true::true::true::(Vw.got u 4==false)::zq0;let zq10:List Bool:=true::true::true::true::true::(Vw.inn u 4==true)::zq9;let zq11:List Bool:=true::true::(decide zz7==true)::zq10;let zq12:List Bool:=true::true::true::true::true::((!Vw.inn u 4)==true)::zq11;let zq13:List Bool:=(decide zz7==false)::zq10;let zq14:List Bool:=true::true::true::true::true::((!Vw.inn u 4)==true)::zq13;let zq15:List Bool:=(Vw.inn u 4==false)::zq9;let zq16:List Bool:=true::true::true::true::true::((!Vw.inn u 4)==true)::zq15;(((Vw.got u 4)=true→(((Vw.inn u 4)=true→(((decide (Int.ofNat 0≥c.miss))=true→(((!Vw.inn u 4)=true→(((decide zz4)=true→Q (Exit.normal,zz2,zz10,93,1230000000000000000000000000000000000000049,(true::true::true::true::(decide zz4==true)::zq4),[]))∧((decide zz4)=false→Q (Exit.normal,zz2,[some zz1,some (ABlk.mk true false 32 0 (Cs.lit (vwL (updV 4 false (Int.ofNat 0) (upZ (Vw.good u 4)) (rewZ (Vw.score u 4)) false u)))),some zz0],93,1230000000000000000000000000000000000000045,(true::true::(decide zz4==false)::zq4),[]))))∧((!Vw.inn u 4)=false→Q (Exit.normal,zz2,[some zz1,some (ABlk.mk true false 32 0 (Cs.lit (vwL (updV 4 false (Int.ofNat 0) (upZ (Vw.good u 4)) (rewZ (Vw.score u 4)) false u)))),some zz0],93,1230000000000000000000000000000000000000045,(true::true::((!Vw.inn u 4)==false)::zq3),[]))))∧((decide (Int.ofNat 0≥c.miss))=false→(((!Vw.inn u 4)=true→(((decide zz4)=true→Q (Exit.normal,zz2,zz10,93,1230000000000000000000000000000000000000045,(true::true::true::true::(decide zz4==true)::zq6),[]))∧((decide zz4)=false→Q (Exit.normal,zz2,zz5,93,1230000000000000000000000000000000000000041,(true::true::(decide zz4==false)::zq6),[]))))∧((!Vw.inn u 4)=false→Q (Exit.normal,zz2,zz5,93,1230000000000000000000000000000000000000041,(true::true::((!Vw.inn u 4)==false)::zq5),[]))))))∧((Vw.inn u 4)=false→(((!Vw.inn u 4)=true→(((decide zz4)=true→Q (Exit.normal,zz2,zz10,93,1230000000000000000000000000000000000000045,(true::true::true::true::(decide zz4==true)::zq8),[]))∧((decide zz4)=false→Q (Exit.normal,zz2,zz5,93,1230000000000000000000000000000000000000041,(true::true::(decide zz4==false)::zq8),[]))))∧((!Vw.inn u 4)=false→Q (Exit.normal,zz2,zz5,93,1230000000000000000000000000000000000000041,(true::true::((!Vw.inn u 4)==false)::zq7),[]))))))∧((Vw.got u 4)=false→(((Vw.inn u 4)=true→(((decide zz7)=true→(((!Vw.inn u 4)=true→(((decide (Int.ofNat 0≥c.good))=true→Q (Exit.normal,zz2,zz11,93,1230000000000000000000000000000000000000049,(true::true::true::true::(decide (Int.ofNat 0≥c.good)==true)::zq12),[]))∧((decide (Int.ofNat 0≥c.good))=false→Q (Exit.normal,zz2,[some zz1,some (ABlk.mk true false 32 0 (Cs.lit (vwL (updV 4 false (upZ (Vw.miss u 4)) (Int.ofNat 0) (penZ (Vw.score u 4)) false u)))),some zz0],93,1230000000000000000000000000000000000000045,(true::true::(decide (Int.ofNat 0≥c.good)==false)::zq12),[]))))∧((!Vw.inn u 4)=false→Q (Exit.normal,zz2,[some zz1,some (ABlk.mk true false 32 0 (Cs.lit (vwL (updV 4 false (upZ (Vw.miss u 4)) (Int.ofNat 0) (penZ (Vw.score u 4)) false u)))),some zz0],93,1230000000000000000000000000000000000000045,(true::true::((!Vw.inn u 4)==false)::zq11),[]))))∧((decide zz7)=false→(((!Vw.inn u 4)=true→(((decide (Int.ofNat 0≥c.good))=true→Q (Exit.normal,zz2,zz11,93,1230000000000000000000000000000000000000045,(true::true::true::true::(decide (Int.ofNat 0≥c.good)==true)::zq14),[]))∧((decide (Int.ofNat 0≥c.good))=false→Q (Exit.normal,zz2,zz6,93,1230000000000000000000000000000000000000041,(true::true::(decide (Int.ofNat 0≥c.good)==false)::zq14),[]))))∧((!Vw.inn u 4)=false→Q (Exit.normal,zz2,zz6,93,1230000000000000000000000000000000000000041,(true::true::((!Vw.inn u 4)==false)::zq13),[]))))))∧((Vw.inn u 4)=false→(((!Vw.inn u 4)=true→(((decide (Int.ofNat 0≥c.good))=true→Q (Exit.normal,zz2,zz11,93,1230000000000000000000000000000000000000045,(true::true::true::true::(decide (Int.ofNat 0≥c.good)==true)::zq16),[]))∧((decide (Int.ofNat 0≥c.good))=false→Q (Exit.normal,zz2,zz6,93,1230000000000000000000000000000000000000041,(true::true::(decide (Int.ofNat 0≥c.good)==false)::zq16),[]))))∧((!Vw.inn u 4)=false→Q (Exit.normal,zz2,zz6,93,1230000000000000000000000000000000000000041,(true::true::((!Vw.inn u 4)==false)::zq15),[])))))))):
 ∃p r,rvR Tryz.prog c u 4 p=some r∧Q r:=
 two H
 (fun g1=>two g1
  (fun g2=>two g2
   (fun g3=>two g3
    (fun g4=>two g4
     (fun g5=>⟨pD 20 1162497676,_,by kernel_rfl,g5⟩)
     (fun g5=>⟨pD 20 2324759143,_,by kernel_rfl,g5⟩))
    (fun g4=>⟨pD 20 413356,_,by kernel_rfl,g4⟩))
   (fun g3=>two g3
    (fun g4=>two g4
     (fun g5=>⟨pD 20 1162556725,_,by kernel_rfl,g5⟩)
     (fun g5=>⟨pD 20 2324818192,_,by kernel_rfl,g5⟩))
    (fun g4=>⟨pD 20 472405,_,by kernel_rfl,g4⟩)))
  (fun g2=>two g2
   (fun g3=>two g3
    (fun g4=>⟨pD 20 1162438636,_,by kernel_rfl,g4⟩)
    (fun g4=>⟨pD 20 2324700103,_,by kernel_rfl,g4⟩))
   (fun g3=>⟨pD 20 354316,_,by kernel_rfl,g3⟩)))
 (fun g1=>two g1
  (fun g2=>two g2
   (fun g3=>two g3
    (fun g4=>two g4
     (fun g5=>⟨pD 20 1162497679,_,by kernel_rfl,g5⟩)
     (fun g5=>⟨pD 20 2324759146,_,by kernel_rfl,g5⟩))
    (fun g4=>⟨pD 20 413359,_,by kernel_rfl,g4⟩))
   (fun g3=>two g3
    (fun g4=>two g4
     (fun g5=>⟨pD 20 1162556728,_,by kernel_rfl,g5⟩)
     (fun g5=>⟨pD 20 2324818195,_,by kernel_rfl,g5⟩))
    (fun g4=>⟨pD 20 472408,_,by kernel_rfl,g4⟩)))
  (fun g2=>two g2
   (fun g3=>two g3
    (fun g4=>⟨pD 20 1162438639,_,by kernel_rfl,g4⟩)
    (fun g4=>⟨pD 20 2324700106,_,by kernel_rfl,g4⟩))
   (fun g3=>⟨pD 20 354319,_,by kernel_rfl,g3⟩)))
theorem rv5 (c:Cfg) (u:Vw) (Q:VC→Prop) (H:let zz0:=(vwB vw0);let zz1:=(cfgB c);let zz2:=[some (lkA (List.zip rvH (rvV 5)) 2),some (lkA (List.zip rvH (rvV 5)) 3),some (lkA (List.zip rvH (rvV 5)) 4),some (AV.c (AC.v (Value.int IntKind.i64 (Int.ofNat 6))))];let zz3:=[AV.c (AC.v (Value.int IntKind.u16 (Vw.score u 5)))];let zz4:=(IntKind.wrap IntKind.i64 (upZ (Vw.good u 5))≥Cfg.good c);let zz5:=[some zz1,some (ABlk.mk true false 32 0 (Cs.lit (vwL (updV 5 (Vw.inn u 5) (Int.ofNat 0) (upZ (Vw.good u 5)) (rewZ (Vw.score u 5)) false u)))),some zz0];let zz6:=[some zz1,some (ABlk.mk true false 32 0 (Cs.lit (vwL (updV 5 (Vw.inn u 5) (upZ (Vw.miss u 5)) (Int.ofNat 0) (penZ (Vw.score u 5)) false u)))),some zz0];let zz7:=(IntKind.wrap IntKind.i64 (upZ (Vw.miss u 5))≥Cfg.miss c);let zz8:=[AV.c (AC.v (Value.int IntKind.u8 (Vw.good u 5)))];let zz9:=[AV.c (AC.v (Value.int IntKind.u8 (Vw.miss u 5)))];let zz10:=[some zz1,some (ABlk.mk true false 32 0 (Cs.lit (vwL (updV 5 true (Int.ofNat 0) (upZ (Vw.good u 5)) (rewZ (Vw.score u 5)) false u)))),some zz0];let zz11:=[some zz1,some (ABlk.mk true false 32 0 (Cs.lit (vwL (updV 5 true (upZ (Vw.miss u 5)) (Int.ofNat 0) (penZ (Vw.score u 5)) false u)))),some zz0];let zq0:List Bool:=[true,true,true,true,true,true,decide (Int.ofNat 5 < ↑(c.np))==true,true];let zq1:List Bool:=true::true::true::(scPB .u16 zz3)::true::true::true::true::true::true::(scPB .u8 zz8)::true::true::true::true::true::(Vw.got u 5==true)::zq0;let zq2:List Bool:=true::true::true::true::true::(Vw.inn u 5==true)::zq1;let zq3:List Bool:=true::true::(decide (Int.ofNat 0≥c.miss)==true)::zq2;let zq4:List Bool:=true::true::true::true::true::((!Vw.inn u 5)==true)::zq3;let zq5:List Bool:=(decide (Int.ofNat 0≥c.miss)==false)::zq2;let zq6:List Bool:=true::true::true::true::true::((!Vw.inn u 5)==true)::zq5;let zq7:List Bool:=(Vw.inn u 5==false)::zq1;let zq8:List Bool:=true::true::true::true::true::((!Vw.inn u 5)==true)::zq7;let zq9:List Bool:=true::true::true::(scPB .u16 zz3)::true::true::true::true::true::true::(scPB .u8 zz9)::true::true::true::true::true::(Vw.got u 5==false)::zq0;let zq10:List Bool:=true::true::true::true::true::(Vw.inn u 5==true)::zq9;let zq11:List Bool:=true::true::(decide zz7==true)::zq10;let zq12:List Bool:=true::true::true::true::true::((!Vw.inn u 5)==true)::zq11;let zq13:List Bool:=(decide zz7==false)::zq10;let zq14:List Bool:=true::true::true::true::true::((!Vw.inn u 5)==true)::zq13;let zq15:List Bool:=(Vw.inn u 5==false)::zq9;let zq16:List Bool:=true::true::true::true::true::((!Vw.inn u 5)==true)::zq15;(((Vw.got u 5)=true→(((Vw.inn u 5)=true→(((decide (Int.ofNat 0≥c.miss))=true→(((!Vw.inn u 5)=true→(((decide zz4)=true→Q (Exit.normal,zz2,zz10,93,1230000000000000000000000000000000000000049,(true::true::true::true::(decide zz4==true)::zq4),[]))∧((decide zz4)=false→Q (Exit.normal,zz2,[some zz1,some (ABlk.mk true false 32 0 (Cs.lit (vwL (updV 5 false (Int.ofNat 0) (upZ (Vw.good u 5)) (rewZ (Vw.score u 5)) false u)))),some zz0],93,1230000000000000000000000000000000000000045,(true::true::(decide zz4==false)::zq4),[]))))∧((!Vw.inn u 5)=false→Q (Exit.normal,zz2,[some zz1,some (ABlk.mk true false 32 0 (Cs.lit (vwL (updV 5 false (Int.ofNat 0) (upZ (Vw.good u 5)) (rewZ (Vw.score u 5)) false u)))),some zz0],93,1230000000000000000000000000000000000000045,(true::true::((!Vw.inn u 5)==false)::zq3),[]))))∧((decide (Int.ofNat 0≥c.miss))=false→(((!Vw.inn u 5)=true→(((decide zz4)=true→Q (Exit.normal,zz2,zz10,93,1230000000000000000000000000000000000000045,(true::true::true::true::(decide zz4==true)::zq6),[]))∧((decide zz4)=false→Q (Exit.normal,zz2,zz5,93,1230000000000000000000000000000000000000041,(true::true::(decide zz4==false)::zq6),[]))))∧((!Vw.inn u 5)=false→Q (Exit.normal,zz2,zz5,93,1230000000000000000000000000000000000000041,(true::true::((!Vw.inn u 5)==false)::zq5),[]))))))∧((Vw.inn u 5)=false→(((!Vw.inn u 5)=true→(((decide zz4)=true→Q (Exit.normal,zz2,zz10,93,1230000000000000000000000000000000000000045,(true::true::true::true::(decide zz4==true)::zq8),[]))∧((decide zz4)=false→Q (Exit.normal,zz2,zz5,93,1230000000000000000000000000000000000000041,(true::true::(decide zz4==false)::zq8),[]))))∧((!Vw.inn u 5)=false→Q (Exit.normal,zz2,zz5,93,1230000000000000000000000000000000000000041,(true::true::((!Vw.inn u 5)==false)::zq7),[]))))))∧((Vw.got u 5)=false→(((Vw.inn u 5)=true→(((decide zz7)=true→(((!Vw.inn u 5)=true→(((decide (Int.ofNat 0≥c.good))=true→Q (Exit.normal,zz2,zz11,93,1230000000000000000000000000000000000000049,(true::true::true::true::(decide (Int.ofNat 0≥c.good)==true)::zq12),[]))∧((decide (Int.ofNat 0≥c.good))=false→Q (Exit.normal,zz2,[some zz1,some (ABlk.mk true false 32 0 (Cs.lit (vwL (updV 5 false (upZ (Vw.miss u 5)) (Int.ofNat 0) (penZ (Vw.score u 5)) false u)))),some zz0],93,1230000000000000000000000000000000000000045,(true::true::(decide (Int.ofNat 0≥c.good)==false)::zq12),[]))))∧((!Vw.inn u 5)=false→Q (Exit.normal,zz2,[some zz1,some (ABlk.mk true false 32 0 (Cs.lit (vwL (updV 5 false (upZ (Vw.miss u 5)) (Int.ofNat 0) (penZ (Vw.score u 5)) false u)))),some zz0],93,1230000000000000000000000000000000000000045,(true::true::((!Vw.inn u 5)==false)::zq11),[]))))∧((decide zz7)=false→(((!Vw.inn u 5)=true→(((decide (Int.ofNat 0≥c.good))=true→Q (Exit.normal,zz2,zz11,93,1230000000000000000000000000000000000000045,(true::true::true::true::(decide (Int.ofNat 0≥c.good)==true)::zq14),[]))∧((decide (Int.ofNat 0≥c.good))=false→Q (Exit.normal,zz2,zz6,93,1230000000000000000000000000000000000000041,(true::true::(decide (Int.ofNat 0≥c.good)==false)::zq14),[]))))∧((!Vw.inn u 5)=false→Q (Exit.normal,zz2,zz6,93,1230000000000000000000000000000000000000041,(true::true::((!Vw.inn u 5)==false)::zq13),[]))))))∧((Vw.inn u 5)=false→(((!Vw.inn u 5)=true→(((decide (Int.ofNat 0≥c.good))=true→Q (Exit.normal,zz2,zz11,93,1230000000000000000000000000000000000000045,(true::true::true::true::(decide (Int.ofNat 0≥c.good)==true)::zq16),[]))∧((decide (Int.ofNat 0≥c.good))=false→Q (Exit.normal,zz2,zz6,93,1230000000000000000000000000000000000000041,(true::true::(decide (Int.ofNat 0≥c.good)==false)::zq16),[]))))∧((!Vw.inn u 5)=false→Q (Exit.normal,zz2,zz6,93,1230000000000000000000000000000000000000041,(true::true::((!Vw.inn u 5)==false)::zq15),[])))))))):
 ∃p r,rvR Tryz.prog c u 5 p=some r∧Q r:=
 two H
 (fun g1=>two g1
  (fun g2=>two g2
   (fun g3=>two g3
    (fun g4=>two g4
     (fun g5=>⟨pD 20 1162497676,_,by kernel_rfl,g5⟩)
     (fun g5=>⟨pD 20 2324759143,_,by kernel_rfl,g5⟩))
    (fun g4=>⟨pD 20 413356,_,by kernel_rfl,g4⟩))
   (fun g3=>two g3
    (fun g4=>two g4
     (fun g5=>⟨pD 20 1162556725,_,by kernel_rfl,g5⟩)
     (fun g5=>⟨pD 20 2324818192,_,by kernel_rfl,g5⟩))
    (fun g4=>⟨pD 20 472405,_,by kernel_rfl,g4⟩)))
  (fun g2=>two g2
   (fun g3=>two g3
    (fun g4=>⟨pD 20 1162438636,_,by kernel_rfl,g4⟩)
    (fun g4=>⟨pD 20 2324700103,_,by kernel_rfl,g4⟩))
   (fun g3=>⟨pD 20 354316,_,by kernel_rfl,g3⟩)))
 (fun g1=>two g1
  (fun g2=>two g2
   (fun g3=>two g3
    (fun g4=>two g4
     (fun g5=>⟨pD 20 1162497679,_,by kernel_rfl,g5⟩)
     (fun g5=>⟨pD 20 2324759146,_,by kernel_rfl,g5⟩))
    (fun g4=>⟨pD 20 413359,_,by kernel_rfl,g4⟩))
   (fun g3=>two g3
    (fun g4=>two g4
     (fun g5=>⟨pD 20 1162556728,_,by kernel_rfl,g5⟩)
     (fun g5=>⟨pD 20 2324818195,_,by kernel_rfl,g5⟩))
    (fun g4=>⟨pD 20 472408,_,by kernel_rfl,g4⟩)))
  (fun g2=>two g2
   (fun g3=>two g3
    (fun g4=>⟨pD 20 1162438639,_,by kernel_rfl,g4⟩)
    (fun g4=>⟨pD 20 2324700106,_,by kernel_rfl,g4⟩))
   (fun g3=>⟨pD 20 354319,_,by kernel_rfl,g3⟩)))
theorem rv6 (c:Cfg) (u:Vw) (Q:VC→Prop) (H:let zz0:=(vwB vw0);let zz1:=(cfgB c);let zz2:=[some (lkA (List.zip rvH (rvV 6)) 2),some (lkA (List.zip rvH (rvV 6)) 3),some (lkA (List.zip rvH (rvV 6)) 4),some (AV.c (AC.v (Value.int IntKind.i64 (Int.ofNat 7))))];let zz3:=[AV.c (AC.v (Value.int IntKind.u16 (Vw.score u 6)))];let zz4:=(IntKind.wrap IntKind.i64 (upZ (Vw.good u 6))≥Cfg.good c);let zz5:=[some zz1,some (ABlk.mk true false 32 0 (Cs.lit (vwL (updV 6 (Vw.inn u 6) (Int.ofNat 0) (upZ (Vw.good u 6)) (rewZ (Vw.score u 6)) false u)))),some zz0];let zz6:=[some zz1,some (ABlk.mk true false 32 0 (Cs.lit (vwL (updV 6 (Vw.inn u 6) (upZ (Vw.miss u 6)) (Int.ofNat 0) (penZ (Vw.score u 6)) false u)))),some zz0];let zz7:=(IntKind.wrap IntKind.i64 (upZ (Vw.miss u 6))≥Cfg.miss c);let zz8:=[AV.c (AC.v (Value.int IntKind.u8 (Vw.good u 6)))];let zz9:=[AV.c (AC.v (Value.int IntKind.u8 (Vw.miss u 6)))];let zz10:=[some zz1,some (ABlk.mk true false 32 0 (Cs.lit (vwL (updV 6 true (Int.ofNat 0) (upZ (Vw.good u 6)) (rewZ (Vw.score u 6)) false u)))),some zz0];let zz11:=[some zz1,some (ABlk.mk true false 32 0 (Cs.lit (vwL (updV 6 true (upZ (Vw.miss u 6)) (Int.ofNat 0) (penZ (Vw.score u 6)) false u)))),some zz0];let zq0:List Bool:=[true,true,true,true,true,true,decide (Int.ofNat 6 < ↑(c.np))==true,true];let zq1:List Bool:=true::true::true::(scPB .u16 zz3)::true::true::true::true::true::true::(scPB .u8 zz8)::true::true::true::true::true::(Vw.got u 6==true)::zq0;let zq2:List Bool:=true::true::true::true::true::(Vw.inn u 6==true)::zq1;let zq3:List Bool:=true::true::(decide (Int.ofNat 0≥c.miss)==true)::zq2;let zq4:List Bool:=true::true::true::true::true::((!Vw.inn u 6)==true)::zq3;let zq5:List Bool:=(decide (Int.ofNat 0≥c.miss)==false)::zq2;let zq6:List Bool:=true::true::true::true::true::((!Vw.inn u 6)==true)::zq5;let zq7:List Bool:=(Vw.inn u 6==false)::zq1;let zq8:List Bool:=true::true::true::true::true::((!Vw.inn u 6)==true)::zq7;let zq9:List Bool:=true::true::true::(scPB .u16 zz3)::true::true::true::true::true::true::(scPB .u8 zz9)::true::true::true::true::true::(Vw.got u 6==false)::zq0;let zq10:List Bool:=true::true::true::true::true::(Vw.inn u 6==true)::zq9;let zq11:List Bool:=true::true::(decide zz7==true)::zq10;let zq12:List Bool:=true::true::true::true::true::((!Vw.inn u 6)==true)::zq11;let zq13:List Bool:=(decide zz7==false)::zq10;let zq14:List Bool:=true::true::true::true::true::((!Vw.inn u 6)==true)::zq13;let zq15:List Bool:=(Vw.inn u 6==false)::zq9;let zq16:List Bool:=true::true::true::true::true::((!Vw.inn u 6)==true)::zq15;(((Vw.got u 6)=true→(((Vw.inn u 6)=true→(((decide (Int.ofNat 0≥c.miss))=true→(((!Vw.inn u 6)=true→(((decide zz4)=true→Q (Exit.normal,zz2,zz10,93,1230000000000000000000000000000000000000049,(true::true::true::true::(decide zz4==true)::zq4),[]))∧((decide zz4)=false→Q (Exit.normal,zz2,[some zz1,some (ABlk.mk true false 32 0 (Cs.lit (vwL (updV 6 false (Int.ofNat 0) (upZ (Vw.good u 6)) (rewZ (Vw.score u 6)) false u)))),some zz0],93,1230000000000000000000000000000000000000045,(true::true::(decide zz4==false)::zq4),[]))))∧((!Vw.inn u 6)=false→Q (Exit.normal,zz2,[some zz1,some (ABlk.mk true false 32 0 (Cs.lit (vwL (updV 6 false (Int.ofNat 0) (upZ (Vw.good u 6)) (rewZ (Vw.score u 6)) false u)))),some zz0],93,1230000000000000000000000000000000000000045,(true::true::((!Vw.inn u 6)==false)::zq3),[]))))∧((decide (Int.ofNat 0≥c.miss))=false→(((!Vw.inn u 6)=true→(((decide zz4)=true→Q (Exit.normal,zz2,zz10,93,1230000000000000000000000000000000000000045,(true::true::true::true::(decide zz4==true)::zq6),[]))∧((decide zz4)=false→Q (Exit.normal,zz2,zz5,93,1230000000000000000000000000000000000000041,(true::true::(decide zz4==false)::zq6),[]))))∧((!Vw.inn u 6)=false→Q (Exit.normal,zz2,zz5,93,1230000000000000000000000000000000000000041,(true::true::((!Vw.inn u 6)==false)::zq5),[]))))))∧((Vw.inn u 6)=false→(((!Vw.inn u 6)=true→(((decide zz4)=true→Q (Exit.normal,zz2,zz10,93,1230000000000000000000000000000000000000045,(true::true::true::true::(decide zz4==true)::zq8),[]))∧((decide zz4)=false→Q (Exit.normal,zz2,zz5,93,1230000000000000000000000000000000000000041,(true::true::(decide zz4==false)::zq8),[]))))∧((!Vw.inn u 6)=false→Q (Exit.normal,zz2,zz5,93,1230000000000000000000000000000000000000041,(true::true::((!Vw.inn u 6)==false)::zq7),[]))))))∧((Vw.got u 6)=false→(((Vw.inn u 6)=true→(((decide zz7)=true→(((!Vw.inn u 6)=true→(((decide (Int.ofNat 0≥c.good))=true→Q (Exit.normal,zz2,zz11,93,1230000000000000000000000000000000000000049,(true::true::true::true::(decide (Int.ofNat 0≥c.good)==true)::zq12),[]))∧((decide (Int.ofNat 0≥c.good))=false→Q (Exit.normal,zz2,[some zz1,some (ABlk.mk true false 32 0 (Cs.lit (vwL (updV 6 false (upZ (Vw.miss u 6)) (Int.ofNat 0) (penZ (Vw.score u 6)) false u)))),some zz0],93,1230000000000000000000000000000000000000045,(true::true::(decide (Int.ofNat 0≥c.good)==false)::zq12),[]))))∧((!Vw.inn u 6)=false→Q (Exit.normal,zz2,[some zz1,some (ABlk.mk true false 32 0 (Cs.lit (vwL (updV 6 false (upZ (Vw.miss u 6)) (Int.ofNat 0) (penZ (Vw.score u 6)) false u)))),some zz0],93,1230000000000000000000000000000000000000045,(true::true::((!Vw.inn u 6)==false)::zq11),[]))))∧((decide zz7)=false→(((!Vw.inn u 6)=true→(((decide (Int.ofNat 0≥c.good))=true→Q (Exit.normal,zz2,zz11,93,1230000000000000000000000000000000000000045,(true::true::true::true::(decide (Int.ofNat 0≥c.good)==true)::zq14),[]))∧((decide (Int.ofNat 0≥c.good))=false→Q (Exit.normal,zz2,zz6,93,1230000000000000000000000000000000000000041,(true::true::(decide (Int.ofNat 0≥c.good)==false)::zq14),[]))))∧((!Vw.inn u 6)=false→Q (Exit.normal,zz2,zz6,93,1230000000000000000000000000000000000000041,(true::true::((!Vw.inn u 6)==false)::zq13),[]))))))∧((Vw.inn u 6)=false→(((!Vw.inn u 6)=true→(((decide (Int.ofNat 0≥c.good))=true→Q (Exit.normal,zz2,zz11,93,1230000000000000000000000000000000000000045,(true::true::true::true::(decide (Int.ofNat 0≥c.good)==true)::zq16),[]))∧((decide (Int.ofNat 0≥c.good))=false→Q (Exit.normal,zz2,zz6,93,1230000000000000000000000000000000000000041,(true::true::(decide (Int.ofNat 0≥c.good)==false)::zq16),[]))))∧((!Vw.inn u 6)=false→Q (Exit.normal,zz2,zz6,93,1230000000000000000000000000000000000000041,(true::true::((!Vw.inn u 6)==false)::zq15),[])))))))):
 ∃p r,rvR Tryz.prog c u 6 p=some r∧Q r:=
 two H
 (fun g1=>two g1
  (fun g2=>two g2
   (fun g3=>two g3
    (fun g4=>two g4
     (fun g5=>⟨pD 20 1162497676,_,by kernel_rfl,g5⟩)
     (fun g5=>⟨pD 20 2324759143,_,by kernel_rfl,g5⟩))
    (fun g4=>⟨pD 20 413356,_,by kernel_rfl,g4⟩))
   (fun g3=>two g3
    (fun g4=>two g4
     (fun g5=>⟨pD 20 1162556725,_,by kernel_rfl,g5⟩)
     (fun g5=>⟨pD 20 2324818192,_,by kernel_rfl,g5⟩))
    (fun g4=>⟨pD 20 472405,_,by kernel_rfl,g4⟩)))
  (fun g2=>two g2
   (fun g3=>two g3
    (fun g4=>⟨pD 20 1162438636,_,by kernel_rfl,g4⟩)
    (fun g4=>⟨pD 20 2324700103,_,by kernel_rfl,g4⟩))
   (fun g3=>⟨pD 20 354316,_,by kernel_rfl,g3⟩)))
 (fun g1=>two g1
  (fun g2=>two g2
   (fun g3=>two g3
    (fun g4=>two g4
     (fun g5=>⟨pD 20 1162497679,_,by kernel_rfl,g5⟩)
     (fun g5=>⟨pD 20 2324759146,_,by kernel_rfl,g5⟩))
    (fun g4=>⟨pD 20 413359,_,by kernel_rfl,g4⟩))
   (fun g3=>two g3
    (fun g4=>two g4
     (fun g5=>⟨pD 20 1162556728,_,by kernel_rfl,g5⟩)
     (fun g5=>⟨pD 20 2324818195,_,by kernel_rfl,g5⟩))
    (fun g4=>⟨pD 20 472408,_,by kernel_rfl,g4⟩)))
  (fun g2=>two g2
   (fun g3=>two g3
    (fun g4=>⟨pD 20 1162438639,_,by kernel_rfl,g4⟩)
    (fun g4=>⟨pD 20 2324700106,_,by kernel_rfl,g4⟩))
   (fun g3=>⟨pD 20 354319,_,by kernel_rfl,g3⟩)))
theorem rv7 (c:Cfg) (u:Vw) (Q:VC→Prop) (H:let zz0:=(vwB vw0);let zz1:=(cfgB c);let zz2:=[some (lkA (List.zip rvH (rvV 7)) 2),some (lkA (List.zip rvH (rvV 7)) 3),some (lkA (List.zip rvH (rvV 7)) 4),some (AV.c (AC.v (Value.int IntKind.i64 (Int.ofNat 8))))];let zz3:=[AV.c (AC.v (Value.int IntKind.u16 (Vw.score u 7)))];let zz4:=(IntKind.wrap IntKind.i64 (upZ (Vw.good u 7))≥Cfg.good c);let zz5:=[some zz1,some (ABlk.mk true false 32 0 (Cs.lit (vwL (updV 7 (Vw.inn u 7) (Int.ofNat 0) (upZ (Vw.good u 7)) (rewZ (Vw.score u 7)) false u)))),some zz0];let zz6:=[some zz1,some (ABlk.mk true false 32 0 (Cs.lit (vwL (updV 7 (Vw.inn u 7) (upZ (Vw.miss u 7)) (Int.ofNat 0) (penZ (Vw.score u 7)) false u)))),some zz0];let zz7:=(IntKind.wrap IntKind.i64 (upZ (Vw.miss u 7))≥Cfg.miss c);let zz8:=[AV.c (AC.v (Value.int IntKind.u8 (Vw.good u 7)))];let zz9:=[AV.c (AC.v (Value.int IntKind.u8 (Vw.miss u 7)))];let zz10:=[some zz1,some (ABlk.mk true false 32 0 (Cs.lit (vwL (updV 7 true (Int.ofNat 0) (upZ (Vw.good u 7)) (rewZ (Vw.score u 7)) false u)))),some zz0];let zz11:=[some zz1,some (ABlk.mk true false 32 0 (Cs.lit (vwL (updV 7 true (upZ (Vw.miss u 7)) (Int.ofNat 0) (penZ (Vw.score u 7)) false u)))),some zz0];let zq0:List Bool:=[true,true,true,true,true,true,decide (Int.ofNat 7 < ↑(c.np))==true,true];let zq1:List Bool:=true::true::true::(scPB .u16 zz3)::true::true::true::true::true::true::(scPB .u8 zz8)::true::true::true::true::true::(Vw.got u 7==true)::zq0;let zq2:List Bool:=true::true::true::true::true::(Vw.inn u 7==true)::zq1;let zq3:List Bool:=true::true::(decide (Int.ofNat 0≥c.miss)==true)::zq2;let zq4:List Bool:=true::true::true::true::true::((!Vw.inn u 7)==true)::zq3;let zq5:List Bool:=(decide (Int.ofNat 0≥c.miss)==false)::zq2;let zq6:List Bool:=true::true::true::true::true::((!Vw.inn u 7)==true)::zq5;let zq7:List Bool:=(Vw.inn u 7==false)::zq1;let zq8:List Bool:=true::true::true::true::true::((!Vw.inn u 7)==true)::zq7;let zq9:List Bool:=true::true::true::(scPB .u16 zz3)::true::true::true::true::true::true::(scPB .u8 zz9)::true::true::true::true::true::(Vw.got u 7==false)::zq0;let zq10:List Bool:=true::true::true::true::true::(Vw.inn u 7==true)::zq9;let zq11:List Bool:=true::true::(decide zz7==true)::zq10;let zq12:List Bool:=true::true::true::true::true::((!Vw.inn u 7)==true)::zq11;let zq13:List Bool:=(decide zz7==false)::zq10;let zq14:List Bool:=true::true::true::true::true::((!Vw.inn u 7)==true)::zq13;let zq15:List Bool:=(Vw.inn u 7==false)::zq9;let zq16:List Bool:=true::true::true::true::true::((!Vw.inn u 7)==true)::zq15;(((Vw.got u 7)=true→(((Vw.inn u 7)=true→(((decide (Int.ofNat 0≥c.miss))=true→(((!Vw.inn u 7)=true→(((decide zz4)=true→Q (Exit.normal,zz2,zz10,93,1230000000000000000000000000000000000000049,(true::true::true::true::(decide zz4==true)::zq4),[]))∧((decide zz4)=false→Q (Exit.normal,zz2,[some zz1,some (ABlk.mk true false 32 0 (Cs.lit (vwL (updV 7 false (Int.ofNat 0) (upZ (Vw.good u 7)) (rewZ (Vw.score u 7)) false u)))),some zz0],93,1230000000000000000000000000000000000000045,(true::true::(decide zz4==false)::zq4),[]))))∧((!Vw.inn u 7)=false→Q (Exit.normal,zz2,[some zz1,some (ABlk.mk true false 32 0 (Cs.lit (vwL (updV 7 false (Int.ofNat 0) (upZ (Vw.good u 7)) (rewZ (Vw.score u 7)) false u)))),some zz0],93,1230000000000000000000000000000000000000045,(true::true::((!Vw.inn u 7)==false)::zq3),[]))))∧((decide (Int.ofNat 0≥c.miss))=false→(((!Vw.inn u 7)=true→(((decide zz4)=true→Q (Exit.normal,zz2,zz10,93,1230000000000000000000000000000000000000045,(true::true::true::true::(decide zz4==true)::zq6),[]))∧((decide zz4)=false→Q (Exit.normal,zz2,zz5,93,1230000000000000000000000000000000000000041,(true::true::(decide zz4==false)::zq6),[]))))∧((!Vw.inn u 7)=false→Q (Exit.normal,zz2,zz5,93,1230000000000000000000000000000000000000041,(true::true::((!Vw.inn u 7)==false)::zq5),[]))))))∧((Vw.inn u 7)=false→(((!Vw.inn u 7)=true→(((decide zz4)=true→Q (Exit.normal,zz2,zz10,93,1230000000000000000000000000000000000000045,(true::true::true::true::(decide zz4==true)::zq8),[]))∧((decide zz4)=false→Q (Exit.normal,zz2,zz5,93,1230000000000000000000000000000000000000041,(true::true::(decide zz4==false)::zq8),[]))))∧((!Vw.inn u 7)=false→Q (Exit.normal,zz2,zz5,93,1230000000000000000000000000000000000000041,(true::true::((!Vw.inn u 7)==false)::zq7),[]))))))∧((Vw.got u 7)=false→(((Vw.inn u 7)=true→(((decide zz7)=true→(((!Vw.inn u 7)=true→(((decide (Int.ofNat 0≥c.good))=true→Q (Exit.normal,zz2,zz11,93,1230000000000000000000000000000000000000049,(true::true::true::true::(decide (Int.ofNat 0≥c.good)==true)::zq12),[]))∧((decide (Int.ofNat 0≥c.good))=false→Q (Exit.normal,zz2,[some zz1,some (ABlk.mk true false 32 0 (Cs.lit (vwL (updV 7 false (upZ (Vw.miss u 7)) (Int.ofNat 0) (penZ (Vw.score u 7)) false u)))),some zz0],93,1230000000000000000000000000000000000000045,(true::true::(decide (Int.ofNat 0≥c.good)==false)::zq12),[]))))∧((!Vw.inn u 7)=false→Q (Exit.normal,zz2,[some zz1,some (ABlk.mk true false 32 0 (Cs.lit (vwL (updV 7 false (upZ (Vw.miss u 7)) (Int.ofNat 0) (penZ (Vw.score u 7)) false u)))),some zz0],93,1230000000000000000000000000000000000000045,(true::true::((!Vw.inn u 7)==false)::zq11),[]))))∧((decide zz7)=false→(((!Vw.inn u 7)=true→(((decide (Int.ofNat 0≥c.good))=true→Q (Exit.normal,zz2,zz11,93,1230000000000000000000000000000000000000045,(true::true::true::true::(decide (Int.ofNat 0≥c.good)==true)::zq14),[]))∧((decide (Int.ofNat 0≥c.good))=false→Q (Exit.normal,zz2,zz6,93,1230000000000000000000000000000000000000041,(true::true::(decide (Int.ofNat 0≥c.good)==false)::zq14),[]))))∧((!Vw.inn u 7)=false→Q (Exit.normal,zz2,zz6,93,1230000000000000000000000000000000000000041,(true::true::((!Vw.inn u 7)==false)::zq13),[]))))))∧((Vw.inn u 7)=false→(((!Vw.inn u 7)=true→(((decide (Int.ofNat 0≥c.good))=true→Q (Exit.normal,zz2,zz11,93,1230000000000000000000000000000000000000045,(true::true::true::true::(decide (Int.ofNat 0≥c.good)==true)::zq16),[]))∧((decide (Int.ofNat 0≥c.good))=false→Q (Exit.normal,zz2,zz6,93,1230000000000000000000000000000000000000041,(true::true::(decide (Int.ofNat 0≥c.good)==false)::zq16),[]))))∧((!Vw.inn u 7)=false→Q (Exit.normal,zz2,zz6,93,1230000000000000000000000000000000000000041,(true::true::((!Vw.inn u 7)==false)::zq15),[])))))))):
 ∃p r,rvR Tryz.prog c u 7 p=some r∧Q r:=
 two H
 (fun g1=>two g1
  (fun g2=>two g2
   (fun g3=>two g3
    (fun g4=>two g4
     (fun g5=>⟨pD 20 1162497676,_,by kernel_rfl,g5⟩)
     (fun g5=>⟨pD 20 2324759143,_,by kernel_rfl,g5⟩))
    (fun g4=>⟨pD 20 413356,_,by kernel_rfl,g4⟩))
   (fun g3=>two g3
    (fun g4=>two g4
     (fun g5=>⟨pD 20 1162556725,_,by kernel_rfl,g5⟩)
     (fun g5=>⟨pD 20 2324818192,_,by kernel_rfl,g5⟩))
    (fun g4=>⟨pD 20 472405,_,by kernel_rfl,g4⟩)))
  (fun g2=>two g2
   (fun g3=>two g3
    (fun g4=>⟨pD 20 1162438636,_,by kernel_rfl,g4⟩)
    (fun g4=>⟨pD 20 2324700103,_,by kernel_rfl,g4⟩))
   (fun g3=>⟨pD 20 354316,_,by kernel_rfl,g3⟩)))
 (fun g1=>two g1
  (fun g2=>two g2
   (fun g3=>two g3
    (fun g4=>two g4
     (fun g5=>⟨pD 20 1162497679,_,by kernel_rfl,g5⟩)
     (fun g5=>⟨pD 20 2324759146,_,by kernel_rfl,g5⟩))
    (fun g4=>⟨pD 20 413359,_,by kernel_rfl,g4⟩))
   (fun g3=>two g3
    (fun g4=>two g4
     (fun g5=>⟨pD 20 1162556728,_,by kernel_rfl,g5⟩)
     (fun g5=>⟨pD 20 2324818195,_,by kernel_rfl,g5⟩))
    (fun g4=>⟨pD 20 472408,_,by kernel_rfl,g4⟩)))
  (fun g2=>two g2
   (fun g3=>two g3
    (fun g4=>⟨pD 20 1162438639,_,by kernel_rfl,g4⟩)
    (fun g4=>⟨pD 20 2324700106,_,by kernel_rfl,g4⟩))
   (fun g3=>⟨pD 20 354319,_,by kernel_rfl,g3⟩)))
end Go.Proofs.YtpgaplcdbbnblaaGreatDoor
end
/- sennitref22.Round: what each round of its loop comes to. Printed by wip/gen_rv.py. -/
section
namespace Go.Proofs.YtpgaplcdbbnblaaGreatDoor
open Go.RowKit
def BndV (v:Vw):Prop:=∀i,i<8→(0≤v.miss i∧v.miss i≤255)∧(0≤v.good i∧v.good i≤255)∧(0≤v.score i∧v.score i≤65535)
def RvNx (c:Cfg) (v:Vw) (k:Nat) (r:VC):Prop:=
 allT r.2.2.2.2.2.1∧r.2.2.2.2.2.2=[]∧r.2.2.2.2.1≤100000000000000000000000000000000000000000000000000∧r.2.2.2.1=93∧r.1= .normal∧r.2.1=(rvV (k+1)).map some∧r.2.2.1=[some (cfgB c),some (vwB (rndV ⟨k+1,c.miss,c.good⟩ v)),some (vwB vw0)]
set_option maxRecDepth 100000 in
theorem rv_st0 (c:Cfg) (v:Vw) (hk:0<c.np) (hp:BndV v):∃p r,rvR Tryz.prog c (rndV ⟨0,c.miss,c.good⟩ v) 0 p=some r∧RvNx c v 0 r:=by
 obtain⟨⟨p1,q1⟩,⟨p2,q2⟩,⟨p3,q3⟩⟩:=hp 0 (by omega)
 obtain⟨u,hu⟩:∃u,rndV ⟨0,c.miss,c.good⟩ v=u:=⟨_,rfl⟩
 have e1:u.inn 0=v.inn 0:=by rw[← hu];rfl
 have e2:u.got 0=v.got 0:=by rw[← hu];rfl
 have e3:u.miss 0=v.miss 0:=by rw[← hu];rfl
 have e4:u.good 0=v.good 0:=by rw[← hu];rfl
 have e5:u.score 0=v.score 0:=by rw[← hu];rfl
 have w1:=upZ_wrap p1
 have w2:=upZ_wrap p2
 rw[hu]
 refine rv0 c u _ ?_
 simp only[e1,e2,e3,e4,e5,w1,w2]
 (repeat' (first|refine⟨fun h=>?_,fun h=>?_⟩|fail))
 all_goals (first|(exfalso;simp_all;done)|skip)
 all_goals (refine⟨?_,rfl,by dsimp only;omega,rfl,rfl,rfl,?_⟩)
 all_goals first
  |(rw[rnd_step (k:=0) (ms:=c.miss) (go:=c.good) (v:=v) (u:=u) hu (a:=true) (m:=0) (x:=upZ (v.good 0)) (s:=rewZ (v.score 0))];rfl)
  |(rw[rnd_step (k:=0) (ms:=c.miss) (go:=c.good) (v:=v) (u:=u) hu (a:=true) (m:=upZ (v.miss 0)) (x:=0) (s:=penZ (v.score 0))];rfl)
  |(rw[rnd_step (k:=0) (ms:=c.miss) (go:=c.good) (v:=v) (u:=u) hu (a:=false) (m:=0) (x:=upZ (v.good 0)) (s:=rewZ (v.score 0))];rfl)
  |(rw[rnd_step (k:=0) (ms:=c.miss) (go:=c.good) (v:=v) (u:=u) hu (a:=false) (m:=upZ (v.miss 0)) (x:=0) (s:=penZ (v.score 0))];rfl)
  |(rw[rnd_step (k:=0) (ms:=c.miss) (go:=c.good) (v:=v) (u:=u) hu (a:=v.inn 0) (m:=0) (x:=upZ (v.good 0)) (s:=rewZ (v.score 0))];rfl)
  |(rw[rnd_step (k:=0) (ms:=c.miss) (go:=c.good) (v:=v) (u:=u) hu (a:=v.inn 0) (m:=upZ (v.miss 0)) (x:=0) (s:=penZ (v.score 0))];rfl)
  |(simp_all[allT,scPB];done)
  |(simp_all[allT,scPB];omega)
set_option maxRecDepth 100000 in
theorem rv_st1 (c:Cfg) (v:Vw) (hk:1<c.np) (hp:BndV v):∃p r,rvR Tryz.prog c (rndV ⟨1,c.miss,c.good⟩ v) 1 p=some r∧RvNx c v 1 r:=by
 obtain⟨⟨p1,q1⟩,⟨p2,q2⟩,⟨p3,q3⟩⟩:=hp 1 (by omega)
 obtain⟨u,hu⟩:∃u,rndV ⟨1,c.miss,c.good⟩ v=u:=⟨_,rfl⟩
 have e1:u.inn 1=v.inn 1:=by rw[← hu];rfl
 have e2:u.got 1=v.got 1:=by rw[← hu];rfl
 have e3:u.miss 1=v.miss 1:=by rw[← hu];rfl
 have e4:u.good 1=v.good 1:=by rw[← hu];rfl
 have e5:u.score 1=v.score 1:=by rw[← hu];rfl
 have w1:=upZ_wrap p1
 have w2:=upZ_wrap p2
 rw[hu]
 refine rv1 c u _ ?_
 simp only[e1,e2,e3,e4,e5,w1,w2]
 (repeat' (first|refine⟨fun h=>?_,fun h=>?_⟩|fail))
 all_goals (first|(exfalso;simp_all;done)|skip)
 all_goals (refine⟨?_,rfl,by dsimp only;omega,rfl,rfl,rfl,?_⟩)
 all_goals first
  |(rw[rnd_step (k:=1) (ms:=c.miss) (go:=c.good) (v:=v) (u:=u) hu (a:=true) (m:=0) (x:=upZ (v.good 1)) (s:=rewZ (v.score 1))];rfl)
  |(rw[rnd_step (k:=1) (ms:=c.miss) (go:=c.good) (v:=v) (u:=u) hu (a:=true) (m:=upZ (v.miss 1)) (x:=0) (s:=penZ (v.score 1))];rfl)
  |(rw[rnd_step (k:=1) (ms:=c.miss) (go:=c.good) (v:=v) (u:=u) hu (a:=false) (m:=0) (x:=upZ (v.good 1)) (s:=rewZ (v.score 1))];rfl)
  |(rw[rnd_step (k:=1) (ms:=c.miss) (go:=c.good) (v:=v) (u:=u) hu (a:=false) (m:=upZ (v.miss 1)) (x:=0) (s:=penZ (v.score 1))];rfl)
  |(rw[rnd_step (k:=1) (ms:=c.miss) (go:=c.good) (v:=v) (u:=u) hu (a:=v.inn 1) (m:=0) (x:=upZ (v.good 1)) (s:=rewZ (v.score 1))];rfl)
  |(rw[rnd_step (k:=1) (ms:=c.miss) (go:=c.good) (v:=v) (u:=u) hu (a:=v.inn 1) (m:=upZ (v.miss 1)) (x:=0) (s:=penZ (v.score 1))];rfl)
  |(simp_all[allT,scPB];done)
  |(simp_all[allT,scPB];omega)
set_option maxRecDepth 100000 in
theorem rv_st2 (c:Cfg) (v:Vw) (hk:2<c.np) (hp:BndV v):∃p r,rvR Tryz.prog c (rndV ⟨2,c.miss,c.good⟩ v) 2 p=some r∧RvNx c v 2 r:=by
 obtain⟨⟨p1,q1⟩,⟨p2,q2⟩,⟨p3,q3⟩⟩:=hp 2 (by omega)
 obtain⟨u,hu⟩:∃u,rndV ⟨2,c.miss,c.good⟩ v=u:=⟨_,rfl⟩
 have e1:u.inn 2=v.inn 2:=by rw[← hu];rfl
 have e2:u.got 2=v.got 2:=by rw[← hu];rfl
 have e3:u.miss 2=v.miss 2:=by rw[← hu];rfl
 have e4:u.good 2=v.good 2:=by rw[← hu];rfl
 have e5:u.score 2=v.score 2:=by rw[← hu];rfl
 have w1:=upZ_wrap p1
 have w2:=upZ_wrap p2
 rw[hu]
 refine rv2 c u _ ?_
 simp only[e1,e2,e3,e4,e5,w1,w2]
 (repeat' (first|refine⟨fun h=>?_,fun h=>?_⟩|fail))
 all_goals (first|(exfalso;simp_all;done)|skip)
 all_goals (refine⟨?_,rfl,by dsimp only;omega,rfl,rfl,rfl,?_⟩)
 all_goals first
  |(rw[rnd_step (k:=2) (ms:=c.miss) (go:=c.good) (v:=v) (u:=u) hu (a:=true) (m:=0) (x:=upZ (v.good 2)) (s:=rewZ (v.score 2))];rfl)
  |(rw[rnd_step (k:=2) (ms:=c.miss) (go:=c.good) (v:=v) (u:=u) hu (a:=true) (m:=upZ (v.miss 2)) (x:=0) (s:=penZ (v.score 2))];rfl)
  |(rw[rnd_step (k:=2) (ms:=c.miss) (go:=c.good) (v:=v) (u:=u) hu (a:=false) (m:=0) (x:=upZ (v.good 2)) (s:=rewZ (v.score 2))];rfl)
  |(rw[rnd_step (k:=2) (ms:=c.miss) (go:=c.good) (v:=v) (u:=u) hu (a:=false) (m:=upZ (v.miss 2)) (x:=0) (s:=penZ (v.score 2))];rfl)
  |(rw[rnd_step (k:=2) (ms:=c.miss) (go:=c.good) (v:=v) (u:=u) hu (a:=v.inn 2) (m:=0) (x:=upZ (v.good 2)) (s:=rewZ (v.score 2))];rfl)
  |(rw[rnd_step (k:=2) (ms:=c.miss) (go:=c.good) (v:=v) (u:=u) hu (a:=v.inn 2) (m:=upZ (v.miss 2)) (x:=0) (s:=penZ (v.score 2))];rfl)
  |(simp_all[allT,scPB];done)
  |(simp_all[allT,scPB];omega)
set_option maxRecDepth 100000 in
theorem rv_st3 (c:Cfg) (v:Vw) (hk:3<c.np) (hp:BndV v):∃p r,rvR Tryz.prog c (rndV ⟨3,c.miss,c.good⟩ v) 3 p=some r∧RvNx c v 3 r:=by
 obtain⟨⟨p1,q1⟩,⟨p2,q2⟩,⟨p3,q3⟩⟩:=hp 3 (by omega)
 obtain⟨u,hu⟩:∃u,rndV ⟨3,c.miss,c.good⟩ v=u:=⟨_,rfl⟩
 have e1:u.inn 3=v.inn 3:=by rw[← hu];rfl
 have e2:u.got 3=v.got 3:=by rw[← hu];rfl
 have e3:u.miss 3=v.miss 3:=by rw[← hu];rfl
 have e4:u.good 3=v.good 3:=by rw[← hu];rfl
 have e5:u.score 3=v.score 3:=by rw[← hu];rfl
 have w1:=upZ_wrap p1
 have w2:=upZ_wrap p2
 rw[hu]
 refine rv3 c u _ ?_
 simp only[e1,e2,e3,e4,e5,w1,w2]
 (repeat' (first|refine⟨fun h=>?_,fun h=>?_⟩|fail))
 all_goals (first|(exfalso;simp_all;done)|skip)
 all_goals (refine⟨?_,rfl,by dsimp only;omega,rfl,rfl,rfl,?_⟩)
 all_goals first
  |(rw[rnd_step (k:=3) (ms:=c.miss) (go:=c.good) (v:=v) (u:=u) hu (a:=true) (m:=0) (x:=upZ (v.good 3)) (s:=rewZ (v.score 3))];rfl)
  |(rw[rnd_step (k:=3) (ms:=c.miss) (go:=c.good) (v:=v) (u:=u) hu (a:=true) (m:=upZ (v.miss 3)) (x:=0) (s:=penZ (v.score 3))];rfl)
  |(rw[rnd_step (k:=3) (ms:=c.miss) (go:=c.good) (v:=v) (u:=u) hu (a:=false) (m:=0) (x:=upZ (v.good 3)) (s:=rewZ (v.score 3))];rfl)
  |(rw[rnd_step (k:=3) (ms:=c.miss) (go:=c.good) (v:=v) (u:=u) hu (a:=false) (m:=upZ (v.miss 3)) (x:=0) (s:=penZ (v.score 3))];rfl)
  |(rw[rnd_step (k:=3) (ms:=c.miss) (go:=c.good) (v:=v) (u:=u) hu (a:=v.inn 3) (m:=0) (x:=upZ (v.good 3)) (s:=rewZ (v.score 3))];rfl)
  |(rw[rnd_step (k:=3) (ms:=c.miss) (go:=c.good) (v:=v) (u:=u) hu (a:=v.inn 3) (m:=upZ (v.miss 3)) (x:=0) (s:=penZ (v.score 3))];rfl)
  |(simp_all[allT,scPB];done)
  |(simp_all[allT,scPB];omega)
set_option maxRecDepth 100000 in
theorem rv_st4 (c:Cfg) (v:Vw) (hk:4<c.np) (hp:BndV v):∃p r,rvR Tryz.prog c (rndV ⟨4,c.miss,c.good⟩ v) 4 p=some r∧RvNx c v 4 r:=by
 obtain⟨⟨p1,q1⟩,⟨p2,q2⟩,⟨p3,q3⟩⟩:=hp 4 (by omega)
 obtain⟨u,hu⟩:∃u,rndV ⟨4,c.miss,c.good⟩ v=u:=⟨_,rfl⟩
 have e1:u.inn 4=v.inn 4:=by rw[← hu];rfl
 have e2:u.got 4=v.got 4:=by rw[← hu];rfl
 have e3:u.miss 4=v.miss 4:=by rw[← hu];rfl
 have e4:u.good 4=v.good 4:=by rw[← hu];rfl
 have e5:u.score 4=v.score 4:=by rw[← hu];rfl
 have w1:=upZ_wrap p1
 have w2:=upZ_wrap p2
 rw[hu]
 refine rv4 c u _ ?_
 simp only[e1,e2,e3,e4,e5,w1,w2]
 (repeat' (first|refine⟨fun h=>?_,fun h=>?_⟩|fail))
 all_goals (first|(exfalso;simp_all;done)|skip)
 all_goals (refine⟨?_,rfl,by dsimp only;omega,rfl,rfl,rfl,?_⟩)
 all_goals first
  |(rw[rnd_step (k:=4) (ms:=c.miss) (go:=c.good) (v:=v) (u:=u) hu (a:=true) (m:=0) (x:=upZ (v.good 4)) (s:=rewZ (v.score 4))];rfl)
  |(rw[rnd_step (k:=4) (ms:=c.miss) (go:=c.good) (v:=v) (u:=u) hu (a:=true) (m:=upZ (v.miss 4)) (x:=0) (s:=penZ (v.score 4))];rfl)
  |(rw[rnd_step (k:=4) (ms:=c.miss) (go:=c.good) (v:=v) (u:=u) hu (a:=false) (m:=0) (x:=upZ (v.good 4)) (s:=rewZ (v.score 4))];rfl)
  |(rw[rnd_step (k:=4) (ms:=c.miss) (go:=c.good) (v:=v) (u:=u) hu (a:=false) (m:=upZ (v.miss 4)) (x:=0) (s:=penZ (v.score 4))];rfl)
  |(rw[rnd_step (k:=4) (ms:=c.miss) (go:=c.good) (v:=v) (u:=u) hu (a:=v.inn 4) (m:=0) (x:=upZ (v.good 4)) (s:=rewZ (v.score 4))];rfl)
  |(rw[rnd_step (k:=4) (ms:=c.miss) (go:=c.good) (v:=v) (u:=u) hu (a:=v.inn 4) (m:=upZ (v.miss 4)) (x:=0) (s:=penZ (v.score 4))];rfl)
  |(simp_all[allT,scPB];done)
  |(simp_all[allT,scPB];omega)
set_option maxRecDepth 100000 in
theorem rv_st5 (c:Cfg) (v:Vw) (hk:5<c.np) (hp:BndV v):∃p r,rvR Tryz.prog c (rndV ⟨5,c.miss,c.good⟩ v) 5 p=some r∧RvNx c v 5 r:=by
 obtain⟨⟨p1,q1⟩,⟨p2,q2⟩,⟨p3,q3⟩⟩:=hp 5 (by omega)
 obtain⟨u,hu⟩:∃u,rndV ⟨5,c.miss,c.good⟩ v=u:=⟨_,rfl⟩
 have e1:u.inn 5=v.inn 5:=by rw[← hu];rfl
 have e2:u.got 5=v.got 5:=by rw[← hu];rfl
 have e3:u.miss 5=v.miss 5:=by rw[← hu];rfl
 have e4:u.good 5=v.good 5:=by rw[← hu];rfl
 have e5:u.score 5=v.score 5:=by rw[← hu];rfl
 have w1:=upZ_wrap p1
 have w2:=upZ_wrap p2
 rw[hu]
 refine rv5 c u _ ?_
 simp only[e1,e2,e3,e4,e5,w1,w2]
 (repeat' (first|refine⟨fun h=>?_,fun h=>?_⟩|fail))
 all_goals (first|(exfalso;simp_all;done)|skip)
 all_goals (refine⟨?_,rfl,by dsimp only;omega,rfl,rfl,rfl,?_⟩)
 all_goals first
  |(rw[rnd_step (k:=5) (ms:=c.miss) (go:=c.good) (v:=v) (u:=u) hu (a:=true) (m:=0) (x:=upZ (v.good 5)) (s:=rewZ (v.score 5))];rfl)
  |(rw[rnd_step (k:=5) (ms:=c.miss) (go:=c.good) (v:=v) (u:=u) hu (a:=true) (m:=upZ (v.miss 5)) (x:=0) (s:=penZ (v.score 5))];rfl)
  |(rw[rnd_step (k:=5) (ms:=c.miss) (go:=c.good) (v:=v) (u:=u) hu (a:=false) (m:=0) (x:=upZ (v.good 5)) (s:=rewZ (v.score 5))];rfl)
  |(rw[rnd_step (k:=5) (ms:=c.miss) (go:=c.good) (v:=v) (u:=u) hu (a:=false) (m:=upZ (v.miss 5)) (x:=0) (s:=penZ (v.score 5))];rfl)
  |(rw[rnd_step (k:=5) (ms:=c.miss) (go:=c.good) (v:=v) (u:=u) hu (a:=v.inn 5) (m:=0) (x:=upZ (v.good 5)) (s:=rewZ (v.score 5))];rfl)
  |(rw[rnd_step (k:=5) (ms:=c.miss) (go:=c.good) (v:=v) (u:=u) hu (a:=v.inn 5) (m:=upZ (v.miss 5)) (x:=0) (s:=penZ (v.score 5))];rfl)
  |(simp_all[allT,scPB];done)
  |(simp_all[allT,scPB];omega)
set_option maxRecDepth 100000 in
theorem rv_st6 (c:Cfg) (v:Vw) (hk:6<c.np) (hp:BndV v):∃p r,rvR Tryz.prog c (rndV ⟨6,c.miss,c.good⟩ v) 6 p=some r∧RvNx c v 6 r:=by
 obtain⟨⟨p1,q1⟩,⟨p2,q2⟩,⟨p3,q3⟩⟩:=hp 6 (by omega)
 obtain⟨u,hu⟩:∃u,rndV ⟨6,c.miss,c.good⟩ v=u:=⟨_,rfl⟩
 have e1:u.inn 6=v.inn 6:=by rw[← hu];rfl
 have e2:u.got 6=v.got 6:=by rw[← hu];rfl
 have e3:u.miss 6=v.miss 6:=by rw[← hu];rfl
 have e4:u.good 6=v.good 6:=by rw[← hu];rfl
 have e5:u.score 6=v.score 6:=by rw[← hu];rfl
 have w1:=upZ_wrap p1
 have w2:=upZ_wrap p2
 rw[hu]
 refine rv6 c u _ ?_
 simp only[e1,e2,e3,e4,e5,w1,w2]
 (repeat' (first|refine⟨fun h=>?_,fun h=>?_⟩|fail))
 all_goals (first|(exfalso;simp_all;done)|skip)
 all_goals (refine⟨?_,rfl,by dsimp only;omega,rfl,rfl,rfl,?_⟩)
 all_goals first
  |(rw[rnd_step (k:=6) (ms:=c.miss) (go:=c.good) (v:=v) (u:=u) hu (a:=true) (m:=0) (x:=upZ (v.good 6)) (s:=rewZ (v.score 6))];rfl)
  |(rw[rnd_step (k:=6) (ms:=c.miss) (go:=c.good) (v:=v) (u:=u) hu (a:=true) (m:=upZ (v.miss 6)) (x:=0) (s:=penZ (v.score 6))];rfl)
  |(rw[rnd_step (k:=6) (ms:=c.miss) (go:=c.good) (v:=v) (u:=u) hu (a:=false) (m:=0) (x:=upZ (v.good 6)) (s:=rewZ (v.score 6))];rfl)
  |(rw[rnd_step (k:=6) (ms:=c.miss) (go:=c.good) (v:=v) (u:=u) hu (a:=false) (m:=upZ (v.miss 6)) (x:=0) (s:=penZ (v.score 6))];rfl)
  |(rw[rnd_step (k:=6) (ms:=c.miss) (go:=c.good) (v:=v) (u:=u) hu (a:=v.inn 6) (m:=0) (x:=upZ (v.good 6)) (s:=rewZ (v.score 6))];rfl)
  |(rw[rnd_step (k:=6) (ms:=c.miss) (go:=c.good) (v:=v) (u:=u) hu (a:=v.inn 6) (m:=upZ (v.miss 6)) (x:=0) (s:=penZ (v.score 6))];rfl)
  |(simp_all[allT,scPB];done)
  |(simp_all[allT,scPB];omega)
set_option maxRecDepth 100000 in
theorem rv_st7 (c:Cfg) (v:Vw) (hk:7<c.np) (hp:BndV v):∃p r,rvR Tryz.prog c (rndV ⟨7,c.miss,c.good⟩ v) 7 p=some r∧RvNx c v 7 r:=by
 obtain⟨⟨p1,q1⟩,⟨p2,q2⟩,⟨p3,q3⟩⟩:=hp 7 (by omega)
 obtain⟨u,hu⟩:∃u,rndV ⟨7,c.miss,c.good⟩ v=u:=⟨_,rfl⟩
 have e1:u.inn 7=v.inn 7:=by rw[← hu];rfl
 have e2:u.got 7=v.got 7:=by rw[← hu];rfl
 have e3:u.miss 7=v.miss 7:=by rw[← hu];rfl
 have e4:u.good 7=v.good 7:=by rw[← hu];rfl
 have e5:u.score 7=v.score 7:=by rw[← hu];rfl
 have w1:=upZ_wrap p1
 have w2:=upZ_wrap p2
 rw[hu]
 refine rv7 c u _ ?_
 simp only[e1,e2,e3,e4,e5,w1,w2]
 (repeat' (first|refine⟨fun h=>?_,fun h=>?_⟩|fail))
 all_goals (first|(exfalso;simp_all;done)|skip)
 all_goals (refine⟨?_,rfl,by dsimp only;omega,rfl,rfl,rfl,?_⟩)
 all_goals first
  |(rw[rnd_step (k:=7) (ms:=c.miss) (go:=c.good) (v:=v) (u:=u) hu (a:=true) (m:=0) (x:=upZ (v.good 7)) (s:=rewZ (v.score 7))];rfl)
  |(rw[rnd_step (k:=7) (ms:=c.miss) (go:=c.good) (v:=v) (u:=u) hu (a:=true) (m:=upZ (v.miss 7)) (x:=0) (s:=penZ (v.score 7))];rfl)
  |(rw[rnd_step (k:=7) (ms:=c.miss) (go:=c.good) (v:=v) (u:=u) hu (a:=false) (m:=0) (x:=upZ (v.good 7)) (s:=rewZ (v.score 7))];rfl)
  |(rw[rnd_step (k:=7) (ms:=c.miss) (go:=c.good) (v:=v) (u:=u) hu (a:=false) (m:=upZ (v.miss 7)) (x:=0) (s:=penZ (v.score 7))];rfl)
  |(rw[rnd_step (k:=7) (ms:=c.miss) (go:=c.good) (v:=v) (u:=u) hu (a:=v.inn 7) (m:=0) (x:=upZ (v.good 7)) (s:=rewZ (v.score 7))];rfl)
  |(rw[rnd_step (k:=7) (ms:=c.miss) (go:=c.good) (v:=v) (u:=u) hu (a:=v.inn 7) (m:=upZ (v.miss 7)) (x:=0) (s:=penZ (v.score 7))];rfl)
  |(simp_all[allT,scPB];done)
  |(simp_all[allT,scPB];omega)
end Go.Proofs.YtpgaplcdbbnblaaGreatDoor
end
/- members.Round: its contract. -/
section
namespace Go.Proofs.YtpgaplcdbbnblaaGreatDoor
open Go.RowKit
theorem rdC_low {c:Cfg} {n:Nat} (hn:1120≤n):lowB n (rdC c):=by
 have hc:∀i,i<1120→Nat.blt i n=true:=fun i h=>by rw[Nat.blt_eq];omega
 exact low_lit (by simp[lowC,hc])
theorem rd_step (c:Cfg) (v w:Vw) (h8:c.np≤8) (hp:PosV v) (k:Nat) (hk:k<c.np):∃p r,mrR Tryz.prog c (rndV ⟨k,c.miss,c.good⟩ v) w k p=some r∧RdNx c v w k r:=by
 have:k<8:=by omega
 match k,this with
 |0,_=>exact rd_st0 c v w hk hp
 |1,_=>exact rd_st1 c v w hk hp
 |2,_=>exact rd_st2 c v w hk hp
 |3,_=>exact rd_st3 c v w hk hp
 |4,_=>exact rd_st4 c v w hk hp
 |5,_=>exact rd_st5 c v w hk hp
 |6,_=>exact rd_st6 c v w hk hp
 |7,_=>exact rd_st7 c v w hk hp
theorem rnd_zero (ms go:Int) (v:Vw):rndV ⟨0,ms,go⟩ v=v:=by
 cases v
 simp[rndV,rIn,rMi,rGo,rSc,rGt]
theorem mr_sum (c:Cfg) (v w:Vw) (h8:c.np≤8) (hp:PosV v):
 LoopV Tryz.prog (loopAt Tryz.prog 22 0) rdH rdI ((mrV c 0).map some) [some (vwB v),some (vwB w),some (rdC c)] 99 1134 (mkFr 99 [(3,.c (.ptr 1000 0 0)),(4,.c (.ptr 1001 0 0))]) [(1000,vwB (rndV ⟨c.np,c.miss,c.good⟩ v)),(1001,vwB w)] 100000000000000000000000000000000000000000000000000 (.exit 0) none:=by
 have hz:=rnd_zero c.miss c.good v
 refine loop_viewE hENrd (fuel:=100) (str:=10000000000000000000000000000000000000000) (nh:=1000000000000000000000000000000000000000000) (S:=Nat) (fun k=>k≤c.np) (fun k=>c.np-k) rdH [] rdI (mrV c) (fun k=>[vwB (rndV ⟨k,c.miss,c.good⟩ v),vwB w,rdC c]) (by decide) (by decide) (by unfold lim;omega) (s0:=0) (Nat.zero_le _) (fun _=>⟨rfl,rfl⟩) (by kernel_rfl) (by rw[hz];exact BL.refl [vwB v,vwB w,rdC c]) (fun k _=>⟨rfl,?_⟩) ?_
 · intro b hb
   simp only[List.mem_cons,List.not_mem_nil,or_false] at hb
   rcases hb with rfl|rfl|rfl
   · exact vwB_low
   · exact vwB_low
   · exact rdC_low (by omega)
 intro k hk
 rcases Nat.lt_or_ge k c.np with hlt|hge
 · obtain⟨p,r,h1,a1,a2,a3,a4,a5,a6,a7⟩:=rd_step c v w h8 hp k hlt
   exact⟨p,[],r,h1,a1,a2,a3,a4,.inl ⟨a5,k+1,hlt,by show c.np-(k+1)<c.np-k;omega,by rw[a6];rfl,by rw[a7];exact BL.refl [vwB (rndV ⟨k+1,c.miss,c.good⟩ v),vwB w,rdC c]⟩⟩
 · obtain rfl:k=c.np:=by omega
   refine(?_:(∃p r,mrR Tryz.prog c (rndV ⟨c.np,c.miss,c.good⟩ v) w c.np p=some r∧_)→_) (rdE c (rndV ⟨c.np,c.miss,c.good⟩ v) w c.np (StepV 1134 100000000000000000000000000000000000000000000000000 99 rdH [] rdI (fun k=>k≤c.np) (fun k=>c.np-k) (mrV c) (fun k=>[vwB (rndV ⟨k,c.miss,c.good⟩ v),vwB w,rdC c]) (.exit 0) [(3,.c (.ptr 1000 0 0)),(4,.c (.ptr 1001 0 0))] [(1000,vwB (rndV ⟨c.np,c.miss,c.good⟩ v)),(1001,vwB w)] c.np) ?_)
   · rintro⟨p,r,h1,h2⟩
     exact⟨p,[],r,h1,h2⟩
   · refine⟨by simp[allT],rfl,by dsimp only;omega,rfl,.inr ⟨by simp,rfl,fun q hq=>?_,fun p hpp=>?_⟩⟩
     · simp only[List.mem_cons,List.not_mem_nil,or_false] at hq
       rcases hq with rfl|rfl
       · exact⟨rfl,by simp[lkA]⟩
       · exact⟨rfl,by simp[lkA]⟩
     · simp only[List.mem_cons,List.not_mem_nil,or_false] at hpp
       rcases hpp with rfl|rfl
       · exact⟨by kernel_rfl,vwB_low,_,List.mem_cons_self ..,BEq.refl _⟩
       · exact⟨by kernel_rfl,vwB_low,_,List.mem_cons_of_mem _ (List.mem_cons_self ..),BEq.refl _⟩
def posL (l:List AC):Bool:=(List.range 8).all fun i=>decide (0≤asI (l.getD (8+i) nov))&&(decide (0≤asI (l.getD (16+i) nov))&&decide (0≤asI (l.getD (24+i) nov)))
theorem posL_iff (v:Vw):posL (vwL v)=true↔PosV v:=by
 have e:∀i,i<8→asI ((vwL v).getD (8+i) nov)=v.miss i∧asI ((vwL v).getD (16+i) nov)=v.good i∧asI ((vwL v).getD (24+i) nov)=v.score i:=fun i hi=>by
  have a2:=(vw_miss v i hi).1
  have a3:=(vw_good v i hi).1
  have a4:=(vw_score v i hi).1
  simp only[Nat.mul_one,Int.ofNat_eq_natCast,Int.toNat_natCast] at a2 a3 a4
  exact⟨a2,a3,a4⟩
 unfold posL
 rw[List.all_eq_true]
 constructor
 · intro h i hi
   have h:=h i (List.mem_range.2 hi)
   obtain⟨e1,e2,e3⟩:=e i hi
   rw[e1,e2,e3] at h
   simp only[Bool.and_eq_true,decide_eq_true_eq] at h
   exact h
 · intro h i hi
   have hi:=List.mem_range.1 hi
   obtain⟨e1,e2,e3⟩:=e i hi
   rw[e1,e2,e3]
   simp only[Bool.and_eq_true,decide_eq_true_eq]
   exact h i hi
def mrndR (c:Cfg) (_:Nat) (_:Nat→Int) (l:List AC):List AV→AV
 | []=>.agg (rndL ⟨c.np,c.miss,c.good⟩ l)
 |_=>i64 0
def gvPre (c:Cfg) (nq:Nat):Bool:=decide (0<nq)&&(decide (1≤c.np∧1≤c.ns∧1≤c.nb)&&(decide (c.np≤1000)&&(decide (c.ns≤1000)&&(decide (c.nb≤1000)&&decide (c.nt≤1000)))))
def rndP (c:Cfg) (nq:Nat) (l:List AC):List AV→Bool
 | []=>decide (c.np≤8)&&(gvPre c nq&&posL l)
 |_=>false
def pX (pre:Cfg→Nat→List AC→List AV→Bool):NetS→Bool
 |⟨c,nq,_,.agg l::r⟩=>isVw l&&pre c nq l r
 |_=>false
theorem ctVwX_of {G:AMem} (hG:(G.all fun p=>Nat.ble lim p.1)=true) {E:Env} (hE:EnvOk E) {f:FuncId} {R:Cfg→Nat→(Nat→Int)→List AC→List AV→AV} {pre:Cfg→Nat→List AC→List AV→Bool} (hf:∃(fn:Func) (c:Code),E.P.funcs[f]? =some fn∧fn.body=some c) (hres:∀c nq fq v r,plainR (R c nq fq v r)=true)
 (run:∀c nq fq v r,pre c nq (vwL v) r=true→∃p lp q,viewF [] (fCallF E (fC E 300) f (.c (.ptr 5 0 0):: .agg (vwL v)::r) 1000 10000000000000000000000000000000000000000 (stA (G++netL c nq fq) p lp))=some q∧GoodF (R c nq fq (vwL v) r) q):CtOk E.P f (ctRd (netRdG G hG) (rV R) (pX pre)):=by
 refine ctRd_ofE hE (netRdG G hG) (fuel:=300) (str:=10000000000000000000000000000000000000000) hf (rV_plain hres) fun s hs=>?_
 unfold pX at hs
 split at hs
 · rename_i c nq fq l r
   rw[Bool.and_eq_true] at hs
   have e:=vw_eq hs.1
   rw[e]
   rw[e] at hs
   exact run c nq fq (vwOf l) r hs.2
 · cases hs
def ctRnd:CtF:=ctRd netRd (rV mrndR) (pX rndP)
set_option maxRecDepth 100000 in
theorem ct_rnd:CtOk Tryz.prog 22 ctRnd:=by
 refine ctVwX_of (G:=mS) (by kernel_rfl) (E:=ENrd Tryz.prog) hENrd ⟨_,_,Tryz.func22,rfl⟩ (fun c nq fq v r=>by unfold mrndR;split<;>rfl) fun c nq fq v r hr=>?_
 unfold rndP at hr
 split at hr
 · simp only[gvPre,Bool.and_eq_true,decide_eq_true_eq] at hr
   obtain⟨h8,⟨hq,g1,g2,g3,g4,g5⟩,hp⟩:=hr
   have hp:=(posL_iff v).1 hp
   refine(?_:(∃p q,vwE (ENrd Tryz.prog) 22 c nq fq v [] p [none,some (rdS (rndV ⟨c.np,c.miss,c.good⟩ v))]=some q∧GoodF (.agg (rndL ⟨c.np,c.miss,c.good⟩ (vwL v))) q)→_) (mbRdD c nq fq v (rndV ⟨c.np,c.miss,c.good⟩ v) _ ?_)
   · rintro⟨p,q,h1,h2⟩
     exact⟨p,_,q,h1,h2⟩
   · have hs:=mr_sum c v vw0 h8 hp
     refine⟨by rw[rndL_eq];rfl,(by first|(unfold lim;omega)|(dsimp only;unfold lim;omega)),?_,fun q hq=>?_⟩
     · simp[allT,cfgK_t,netK_t,intsOk_ints,stsOk_sts,intsOk_s,stsOk_s,isVw_cells,slC,slRow,inb_arr,inb_lit,Vw.len,hq]
       omega
     · rw[List.mem_singleton.1 hq]
       simp only[Nat.zero_add,Option.getD_some,Int.ofNat_eq_natCast,Int.sub_zero,Int.toNat_natCast] at hs ⊢
       exact hs
 · cases hr
end Go.Proofs.YtpgaplcdbbnblaaGreatDoor
end
/- sennitref22.Round as the evaluator runs it. -/
section
namespace Go.Proofs.YtpgaplcdbbnblaaGreatDoor
open Go.RowKit
abbrev rvO:List (Nat × AV):=[(3,.c (.ptr 1001 0 0)),(4,.c (.ptr 1002 0 0))]
abbrev rvM (u:Vw):AMem:=[(1001,vwB u),(1002,vwB vw0)]
abbrev rvS (u:Vw):LSum:=⟨rvH,rvI,mkFr 93 rvO,rvM u,100000000000000000000000000000000000000000000000000,.exit 0⟩
theorem rvD (c:Cfg) (v u:Vw) (Q:VF→Prop) (H:let zt:List Bool→List Bool:=fun l=>true::true::true::true::true::true::true::true::l;let zu:List Bool→List Bool:=fun l=>zt (zt (zt (zt l)));Q (AV.agg (vwL u),[],100000000000000000000000000000000000000000000000002,(zu (zu (zt (zt (true::true::true::true::true::true::true::[]))))),[LoopV Tryz.prog (loopAt Tryz.prog 26 0) rvH rvI [some (.c (.ptr 1000 0 0)),some (.c (.ptr 1001 0 0)),some (.c (.ptr 1002 0 0)),some (.c (.v (.int .i64 (Int.ofNat 0))))] [some (ABlk.mk true false 25 0 (Cs.lit [.v (.int .i64 (c.nodes)),AC.sl 0 0 0 (c.np) none,AC.sl 1 0 0 (c.ns) none,.v (.int .i64 (c.long)),AC.sl 2 0 0 (c.nb) none,AC.sl 3 0 0 (c.nt) none,.v (.int .i64 (c.miss)),.v (.int .i64 (c.good)),.v (.int .i64 (c.fresh))])),some (ABlk.mk true false 32 0 (Cs.lit (vwL v))),some (ABlk.mk true false 32 0 (Cs.lit [.v (.bool false),.v (.bool false),.v (.bool false),.v (.bool false),.v (.bool false),.v (.bool false),.v (.bool false),.v (.bool false),.v (.int .u8 (Int.ofNat 0)),.v (.int .u8 (Int.ofNat 0)),.v (.int .u8 (Int.ofNat 0)),.v (.int .u8 (Int.ofNat 0)),.v (.int .u8 (Int.ofNat 0)),.v (.int .u8 (Int.ofNat 0)),.v (.int .u8 (Int.ofNat 0)),.v (.int .u8 (Int.ofNat 0)),.v (.int .u8 (Int.ofNat 0)),.v (.int .u8 (Int.ofNat 0)),.v (.int .u8 (Int.ofNat 0)),.v (.int .u8 (Int.ofNat 0)),.v (.int .u8 (Int.ofNat 0)),.v (.int .u8 (Int.ofNat 0)),.v (.int .u8 (Int.ofNat 0)),.v (.int .u8 (Int.ofNat 0)),.v (.int .u16 (Int.ofNat 0)),.v (.int .u16 (Int.ofNat 0)),.v (.int .u16 (Int.ofNat 0)),.v (.int .u16 (Int.ofNat 0)),.v (.int .u16 (Int.ofNat 0)),.v (.int .u16 (Int.ofNat 0)),.v (.int .u16 (Int.ofNat 0)),.v (.int .u16 (Int.ofNat 0)),.v (.bool false),.v (.bool false),.v (.bool false),.v (.bool false),.v (.bool false),.v (.bool false),.v (.bool false),.v (.bool false),.v (.int .i8 (Int.ofNat 0)),.v (.int .u8 (Int.ofNat 0))]))] 93 1004 (mkFr 93 rvO) (rvM u) 100000000000000000000000000000000000000000000000000 (Exit.exit 0) none])):
 ∃p r,cvE (ENrv Tryz.prog) 26 c [.agg (vwL v)] p [some (rvS u)]=some r∧Q r:=
 ⟨pD 0 0,_,by kernel_rfl,H⟩
end Go.Proofs.YtpgaplcdbbnblaaGreatDoor
end
/- sennitref22.Round: its contract. -/
section
namespace Go.Proofs.YtpgaplcdbbnblaaGreatDoor
open Go.RowKit
theorem rv_step (c:Cfg) (v:Vw) (h8:c.np≤8) (hp:BndV v) (k:Nat) (hk:k<c.np):∃p r,rvR Tryz.prog c (rndV ⟨k,c.miss,c.good⟩ v) k p=some r∧RvNx c v k r:=by
 have:k<8:=by omega
 match k,this with
 |0,_=>exact rv_st0 c v hk hp
 |1,_=>exact rv_st1 c v hk hp
 |2,_=>exact rv_st2 c v hk hp
 |3,_=>exact rv_st3 c v hk hp
 |4,_=>exact rv_st4 c v hk hp
 |5,_=>exact rv_st5 c v hk hp
 |6,_=>exact rv_st6 c v hk hp
 |7,_=>exact rv_st7 c v hk hp
theorem rv_sum (c:Cfg) (v:Vw) (h8:c.np≤8) (hp:BndV v):
 LoopV Tryz.prog (loopAt Tryz.prog 26 0) rvH rvI ((rvV 0).map some) [some (cfgB c),some (vwB v),some (vwB vw0)] 93 1004 (mkFr 93 rvO) (rvM (rndV ⟨c.np,c.miss,c.good⟩ v)) 100000000000000000000000000000000000000000000000000 (.exit 0) none:=by
 have hz:=rnd_zero c.miss c.good v
 refine loop_viewE hENrv (fuel:=100) (str:=10000000000000000000000000000000000000000) (nh:=1000000000000000000000000000000000000000000) (S:=Nat) (fun k=>k≤c.np) (fun k=>c.np-k) rvH [] rvI rvV (fun k=>[cfgB c,vwB (rndV ⟨k,c.miss,c.good⟩ v),vwB vw0]) (by decide) (by decide) (by unfold lim;omega) (s0:=0) (Nat.zero_le _) (fun _=>⟨rfl,rfl⟩) (by kernel_rfl) (by rw[hz];exact BL.refl [cfgB c,vwB v,vwB vw0]) (fun k _=>⟨rfl,?_⟩) ?_
 · intro b hb
   simp only[List.mem_cons,List.not_mem_nil,or_false] at hb
   rcases hb with rfl|rfl|rfl
   · exact cfgB_low (by omega)
   · exact vwB_low
   · exact vwB_low
 intro k hk
 rcases Nat.lt_or_ge k c.np with hlt|hge
 · obtain⟨p,r,h1,a1,a2,a3,a4,a5,a6,a7⟩:=rv_step c v h8 hp k hlt
   exact⟨p,[],r,h1,a1,a2,a3,a4,.inl ⟨a5,k+1,hlt,by show c.np-(k+1)<c.np-k;omega,by rw[a6];rfl,by rw[a7];exact BL.refl [cfgB c,vwB (rndV ⟨k+1,c.miss,c.good⟩ v),vwB vw0]⟩⟩
 · obtain rfl:k=c.np:=by omega
   refine(?_:(∃p r,rvR Tryz.prog c (rndV ⟨c.np,c.miss,c.good⟩ v) c.np p=some r∧_)→_) (rvX c (rndV ⟨c.np,c.miss,c.good⟩ v) c.np (StepV 1004 100000000000000000000000000000000000000000000000000 93 rvH [] rvI (fun k=>k≤c.np) (fun k=>c.np-k) rvV (fun k=>[cfgB c,vwB (rndV ⟨k,c.miss,c.good⟩ v),vwB vw0]) (.exit 0) rvO (rvM (rndV ⟨c.np,c.miss,c.good⟩ v)) c.np) ?_)
   · rintro⟨p,r,h1,h2⟩
     exact⟨p,[],r,h1,h2⟩
   · refine⟨by simp[allT],rfl,by dsimp only;omega,rfl,.inr ⟨by simp,rfl,fun q hq=>?_,fun p hpp=>?_⟩⟩
     · simp only[List.mem_cons,List.not_mem_nil,or_false] at hq
       rcases hq with rfl|rfl
       · exact⟨rfl,by simp[lkA]⟩
       · exact⟨rfl,by simp[lkA]⟩
     · simp only[List.mem_cons,List.not_mem_nil,or_false] at hpp
       rcases hpp with rfl|rfl
       · exact⟨by kernel_rfl,vwB_low,_,.tail _ (.head _),BEq.refl _⟩
       · exact⟨by kernel_rfl,vwB_low,_,.tail _ (.tail _ (.head _)),BEq.refl _⟩
def bndL (l:List AC):Bool:=(List.range 8).all fun i=>(decide (0≤asI (l.getD (8+i) nov))&&decide (asI (l.getD (8+i) nov)≤255))&&((decide (0≤asI (l.getD (16+i) nov))&&decide (asI (l.getD (16+i) nov)≤255))&&(decide (0≤asI (l.getD (24+i) nov))&&decide (asI (l.getD (24+i) nov)≤65535)))
theorem bndL_iff (v:Vw):bndL (vwL v)=true↔BndV v:=by
 have e:∀i,i<8→asI ((vwL v).getD (8+i) nov)=v.miss i∧asI ((vwL v).getD (16+i) nov)=v.good i∧asI ((vwL v).getD (24+i) nov)=v.score i:=fun i hi=>by
  have a2:=(vw_miss v i hi).1
  have a3:=(vw_good v i hi).1
  have a4:=(vw_score v i hi).1
  simp only[Nat.mul_one,Int.ofNat_eq_natCast,Int.toNat_natCast] at a2 a3 a4
  exact⟨a2,a3,a4⟩
 unfold bndL
 rw[List.all_eq_true]
 constructor
 · intro h i hi
   have h:=h i (List.mem_range.2 hi)
   obtain⟨e1,e2,e3⟩:=e i hi
   rw[e1,e2,e3] at h
   simp only[Bool.and_eq_true,decide_eq_true_eq] at h
   exact h
 · intro h i hi
   have hi:=List.mem_range.1 hi
   obtain⟨e1,e2,e3⟩:=e i hi
   rw[e1,e2,e3]
   simp only[Bool.and_eq_true,decide_eq_true_eq]
   exact h i hi
def ctRRnd:CtF:=ctRd cfgRd (fun|⟨c,[.agg l]⟩=>.agg (rndL ⟨c.np,c.miss,c.good⟩ l)|_=>i64 0) (fun|⟨c,[.agg l]⟩=>isVw l&&(bndL l&&decide (c.np≤8))|_=>false)
set_option maxRecDepth 100000 in
theorem ct_rrnd:CtOk Tryz.prog 26 ctRRnd:=by
 refine ctRd_ofE (E:=ENrv Tryz.prog) hENrv cfgRd (fuel:=300) (str:=10000000000000000000000000000000000000000) ⟨_,_,Tryz.func26,rfl⟩ (fun s=>by split<;>rfl) fun s hs=>?_
 split at hs
 · rename_i c l
   simp only[Bool.and_eq_true,decide_eq_true_eq] at hs
   obtain⟨hl,hp,h8⟩:=hs
   have e:=vw_eq hl
   generalize vwOf l=v at e
   subst e
   have hp:=(bndL_iff v).1 hp
   refine(?_:(∃p q,cvE (ENrv Tryz.prog) 26 c [.agg (vwL v)] p [some (rvS (rndV ⟨c.np,c.miss,c.good⟩ v))]=some q∧GoodF (.agg (rndL ⟨c.np,c.miss,c.good⟩ (vwL v))) q)→_) (rvD c v (rndV ⟨c.np,c.miss,c.good⟩ v) _ ?_)
   · rintro⟨p,q,h1,h2⟩
     exact⟨p,_,q,h1,h2⟩
   · have hs:=rv_sum c v h8 hp
     refine⟨by rw[rndL_eq],(by first|(unfold lim;omega)|(dsimp only;unfold lim;omega)),by simp[allT,cfgK_t,netK_t,intsOk_ints,stsOk_sts,intsOk_s,stsOk_s,inb_lit,Vw.len],fun q hq=>?_⟩
     rw[List.mem_singleton.1 hq]
     exact hs
 · cases hs
end Go.Proofs.YtpgaplcdbbnblaaGreatDoor
end
/- sennitref22: May's loop, list's loop as the evaluator runs them. -/
section
namespace Go.Proofs.YtpgaplcdbbnblaaGreatDoor
open Go.RowKit
abbrev rmH:List Nat:=[2,3,5]
abbrev rmI:List Nat:=[1000,1001]
abbrev rmV (k:Nat):List AV:=[.c (.ptr 1000 0 0),.c (.ptr 1001 0 0),i64 (Int.ofNat k)]
abbrev rmO:List (Nat × AV):=[(2,.c (.ptr 1000 0 0)),(3,.c (.ptr 1001 0 0))]
abbrev rmM (c:Cfg) (v:Vw):AMem:=[(1000,cfgB c),(1001,vwB v)]
def rmR (P:Program) (c:Cfg) (v:Vw) (k:Nat) (path:List Dec):Option VC:=
 view (rmH++[4]) rmI (fC (E1 P) 100 (loopAt P 24 0) 1000000000000000000000000000000000000000000 10000000000000000000000000000000000000000 (stH 84 rmH rmI (rmV k) [cfgB c,vwB v] path []))
theorem rmT (c:Cfg) (v:Vw) (k:Nat) (Q:VC→Prop) (H:let zz0:=[some (cfgB c),some (ABlk.mk true false 32 0 (Cs.lit (vwL v)))];let zz1:=(List.getD (vwL v) (8+Int.toNat (Int.ofNat k)*1) nov);let zz2:=(List.getD (vwL v) (16+Int.toNat (Int.ofNat k)*1) nov);let zz3:=[some (lkA (List.zip rmH (rmV k)) 2),some (lkA (List.zip rmH (rmV k)) 3),some (lkA (List.zip rmH (rmV k)) 5),some (AV.c (AC.v (Value.bool false)))];let zz4:=(List.getD (vwL v) (24+Int.toNat (Int.ofNat k)*1) nov);let zz5:=(List.getD (vwL v) (0+Int.toNat (Int.ofNat k)*1) nov);let zz6:=(List.getD (vwL v) (32+Int.toNat (Int.ofNat k)*1) nov);let zz7:=[some (lkA (List.zip rmH (rmV k)) 2),some (lkA (List.zip rmH (rmV k)) 3),some (AV.c (AC.v (Value.int IntKind.i64 (IntKind.wrap IntKind.i64 (Int.ofNat k+Int.ofNat 1))))),some (lkA (List.zip rmH (rmV k)) 4)];let zq0:List Bool:=[true,decide (Int.ofNat k<Int.ofNat 8)==true];let zq1:List Bool:=(ABlk.inb (ABlk.mk true false 32 0 (Cs.lit (vwL v))) 0 (0+Int.toNat (Int.ofNat k)*1+1))::(okl Kd.b zz5)::(decide (Int.ofNat 0≤Int.ofNat k∧Int.ofNat k<Int.ofNat 8))::(decide (Int.ofNat k≥ ↑(c.np))==true)::zq0;let zq2:List Bool:=(ABlk.inb (ABlk.mk true false 32 0 (Cs.lit (vwL v))) 0 (32+Int.toNat (Int.ofNat k)*1+1))::(okl Kd.b zz6)::(decide (Int.ofNat 0≤Int.ofNat k∧Int.ofNat k<Int.ofNat 8))::(asB zz5==false)::zq1;let zq3:List Bool:=(ABlk.inb (ABlk.mk true false 32 0 (Cs.lit (vwL v))) 0 (8+Int.toNat (Int.ofNat k)*1+1))::(okl (Kd.i .u8) zz1)::(decide (Int.ofNat 0≤Int.ofNat k∧Int.ofNat k<Int.ofNat 8))::(asB zz6==false)::zq2;let zq4:List Bool:=(ABlk.inb (ABlk.mk true false 32 0 (Cs.lit (vwL v))) 0 (16+Int.toNat (Int.ofNat k)*1+1))::(okl (Kd.i .u8) zz2)::(decide (Int.ofNat 0≤Int.ofNat k∧Int.ofNat k<Int.ofNat 8))::(decide (asI zz1>Int.ofNat 0)==false)::zq3;let zq5:List Bool:=(ABlk.inb (ABlk.mk true false 32 0 (Cs.lit (vwL v))) 0 (24+Int.toNat (Int.ofNat k)*1+1))::(okl (Kd.i .u16) zz4)::(decide (Int.ofNat 0≤Int.ofNat k∧Int.ofNat k<Int.ofNat 8))::(decide (asI zz2>Int.ofNat 0)==false)::zq4;let zq6:List Bool:=(ABlk.inb (ABlk.mk true false 32 0 (Cs.lit (vwL v))) 0 (8+Int.toNat (Int.ofNat k)*1+1))::(okl (Kd.i .u8) zz1)::(decide (Int.ofNat 0≤Int.ofNat k∧Int.ofNat k<Int.ofNat 8))::(decide (asI zz4>Int.ofNat 0)==false)::zq5;let zq7:List Bool:=(ABlk.inb (ABlk.mk true false 32 0 (Cs.lit (vwL v))) 0 (16+Int.toNat (Int.ofNat k)*1+1))::(okl (Kd.i .u8) zz2)::(decide (Int.ofNat 0≤Int.ofNat k∧Int.ofNat k<Int.ofNat 8))::(decide (asI zz1>Int.ofNat 100)==false)::zq6;let zq8:List Bool:=(ABlk.inb (ABlk.mk true false 32 0 (Cs.lit (vwL v))) 0 (24+Int.toNat (Int.ofNat k)*1+1))::(okl (Kd.i .u16) zz4)::(decide (Int.ofNat 0≤Int.ofNat k∧Int.ofNat k<Int.ofNat 8))::(decide (asI zz2>Int.ofNat 100)==false)::zq7;let zq9:List Bool:=(ABlk.inb (ABlk.mk true false 32 0 (Cs.lit (vwL v))) 0 (8+Int.toNat (Int.ofNat k)*1+1))::(okl (Kd.i .u8) zz1)::(decide (Int.ofNat 0≤Int.ofNat k∧Int.ofNat k<Int.ofNat 8))::(decide (Int.ofNat k≥ ↑(c.np))==false)::zq0;let zq10:List Bool:=(ABlk.inb (ABlk.mk true false 32 0 (Cs.lit (vwL v))) 0 (16+Int.toNat (Int.ofNat k)*1+1))::(okl (Kd.i .u8) zz2)::(decide (Int.ofNat 0≤Int.ofNat k∧Int.ofNat k<Int.ofNat 8))::(decide (asI zz1>Int.ofNat 100)==false)::zq9;let zq11:List Bool:=(ABlk.inb (ABlk.mk true false 32 0 (Cs.lit (vwL v))) 0 (24+Int.toNat (Int.ofNat k)*1+1))::(okl (Kd.i .u16) zz4)::(decide (Int.ofNat 0≤Int.ofNat k∧Int.ofNat k<Int.ofNat 8))::(decide (asI zz2>Int.ofNat 100)==false)::zq10;(((decide (Int.ofNat k<Int.ofNat 8))=true→(((decide (Int.ofNat k≥ ↑(c.np)))=true→(((asB zz5)=true→Q (Exit.ret,zz3,zz0,84,1000000000000000000000000000000000000000022,((asB zz5==true)::zq1),[]))∧((asB zz5)=false→(((asB zz6)=true→Q (Exit.ret,zz3,zz0,84,1000000000000000000000000000000000000000026,((asB zz6==true)::zq2),[]))∧((asB zz6)=false→(((decide (asI zz1>Int.ofNat 0))=true→Q (Exit.ret,zz3,zz0,84,1000000000000000000000000000000000000000031,((decide (asI zz1>Int.ofNat 0)==true)::zq3),[]))∧((decide (asI zz1>Int.ofNat 0))=false→(((decide (asI zz2>Int.ofNat 0))=true→Q (Exit.ret,zz3,zz0,84,1000000000000000000000000000000000000000036,((decide (asI zz2>Int.ofNat 0)==true)::zq4),[]))∧((decide (asI zz2>Int.ofNat 0))=false→(((decide (asI zz4>Int.ofNat 0))=true→Q (Exit.ret,zz3,zz0,84,1000000000000000000000000000000000000000041,((decide (asI zz4>Int.ofNat 0)==true)::zq5),[]))∧((decide (asI zz4>Int.ofNat 0))=false→(((decide (asI zz1>Int.ofNat 100))=true→Q (Exit.ret,zz3,zz0,84,1000000000000000000000000000000000000000050,((decide (asI zz1>Int.ofNat 100)==true)::zq6),[]))∧((decide (asI zz1>Int.ofNat 100))=false→(((decide (asI zz2>Int.ofNat 100))=true→Q (Exit.ret,zz3,zz0,84,1000000000000000000000000000000000000000055,((decide (asI zz2>Int.ofNat 100)==true)::zq7),[]))∧((decide (asI zz2>Int.ofNat 100))=false→(((decide (asI zz4>Int.ofNat 1000))=true→Q (Exit.ret,zz3,zz0,84,1000000000000000000000000000000000000000060,((decide (asI zz4>Int.ofNat 1000)==true)::zq8),[]))∧((decide (asI zz4>Int.ofNat 1000))=false→Q (Exit.normal,zz7,zz0,84,1000000000000000000000000000000000000000062,((decide (asI zz4>Int.ofNat 1000)==false)::zq8),[]))))))))))))))))))∧((decide (Int.ofNat k≥ ↑(c.np)))=false→(((decide (asI zz1>Int.ofNat 100))=true→Q (Exit.ret,zz3,zz0,84,1000000000000000000000000000000000000000019,((decide (asI zz1>Int.ofNat 100)==true)::zq9),[]))∧((decide (asI zz1>Int.ofNat 100))=false→(((decide (asI zz2>Int.ofNat 100))=true→Q (Exit.ret,zz3,zz0,84,1000000000000000000000000000000000000000024,((decide (asI zz2>Int.ofNat 100)==true)::zq10),[]))∧((decide (asI zz2>Int.ofNat 100))=false→(((decide (asI zz4>Int.ofNat 1000))=true→Q (Exit.ret,zz3,zz0,84,1000000000000000000000000000000000000000029,((decide (asI zz4>Int.ofNat 1000)==true)::zq11),[]))∧((decide (asI zz4>Int.ofNat 1000))=false→Q (Exit.normal,zz7,zz0,84,1000000000000000000000000000000000000000031,((decide (asI zz4>Int.ofNat 1000)==false)::zq11),[]))))))))))∧((decide (Int.ofNat k<Int.ofNat 8))=false→Q (Exit.exit 0,[some (lkA (List.zip rmH (rmV k)) 2),some (lkA (List.zip rmH (rmV k)) 3),some (lkA (List.zip rmH (rmV k)) 5),some (lkA (List.zip rmH (rmV k)) 4)],zz0,84,1000000000000000000000000000000000000000002,[decide (Int.ofNat k<Int.ofNat 8)==false],[])))):
 ∃p r,rmR Tryz.prog c v k p=some r∧Q r:=
 two H
 (fun g1 =>two g1
  (fun g2 =>two g2
   (fun g3=>⟨pD 33 733,_,by kernel_rfl,g3⟩)
   (fun g3=>two g3
    (fun g4=>⟨pD 33 532903,_,by kernel_rfl,g4⟩)
    (fun g4=>two g4
     (fun g5=>⟨pD 33 1163325811,_,by kernel_rfl,g5⟩)
     (fun g5=>two g5
      (fun g6=>⟨pD 33 2544191415607,_,by kernel_rfl,g6⟩)
      (fun g6=>two g6
       (fun g7=>⟨pD 33 1858106246095777,_,by kernel_rfl,g7⟩)
       (fun g7=>two g7
        (fun g8=>⟨pD 44 9270187001503141,_,by kernel_rfl,g8⟩)
        (fun g8=>two g8
         (fun g9=>⟨pD 44 1365680965241050753,_,by kernel_rfl,g9⟩)
         (fun g9=>two g9
          (fun g10=>⟨pD 44 330973500077451120469,_,by kernel_rfl,g10⟩)
          (fun g10=>⟨pD 44 659230467471988198096,_,by kernel_rfl,g10⟩)))))))))
  (fun g2=>two g2
   (fun g3=>⟨pD 25 4782976,_,by kernel_rfl,g3⟩)
   (fun g3=>two g3
    (fun g4=>⟨pD 25 1171827412,_,by kernel_rfl,g4⟩)
    (fun g4=>two g4
     (fun g5=>⟨pD 25 284763625360,_,by kernel_rfl,g5⟩)
     (fun g5=>⟨pD 25 567193161841,_,by kernel_rfl,g5⟩)))))
 (fun g1=>⟨pD 1 2,_,by kernel_rfl,g1⟩)
theorem rmN (c:Cfg) (v:Vw) (Q:VF→Prop) (H:Q (.c (.v (.bool false)),[],100000000000000000000000000000000000000000000000000,[],[LoopV Tryz.prog (loopAt Tryz.prog 24 0) rmH rmI [some (.c (.ptr 1000 0 0)),some (.c (.ptr 1001 0 0)),some (.c (.v (.int .i64 (Int.ofNat 0))))] [some (ABlk.mk true false 25 0 (Cs.lit [.v (.int .i64 (c.nodes)),AC.sl 0 0 0 (c.np) none,AC.sl 1 0 0 (c.ns) none,.v (.int .i64 (c.long)),AC.sl 2 0 0 (c.nb) none,AC.sl 3 0 0 (c.nt) none,.v (.int .i64 (c.miss)),.v (.int .i64 (c.good)),.v (.int .i64 (c.fresh))])),some (ABlk.mk true false 32 0 (Cs.lit (vwL v)))] 84 1004 (mkFr 84 [(4,bo false)]) [] 100000000000000000000000000000000000000000000000000 Exit.ret none])):
 ∃p r,cvE (E1 Tryz.prog) 24 c [.agg (vwL v)] p [some ⟨rmH,rmI,mkFr 84 [(4,bo false)],[],100000000000000000000000000000000000000000000000000,.ret⟩]=some r∧Q r:=
 ⟨pD 0 0,_,by kernel_rfl,H⟩
theorem rmY (c:Cfg) (v:Vw) (Q:VF→Prop) (H:let zz0:=[LoopV Tryz.prog (loopAt Tryz.prog 24 0) rmH rmI [some (AV.c (AC.ptr 1000 0 0)),some (AV.c (AC.ptr 1001 0 0)),some (AV.c (AC.v (Value.int IntKind.i64 (Int.ofNat 0))))] [some (cfgB c),some (ABlk.mk true false 32 0 (Cs.lit (vwL v)))] 84 1004 (mkFr 84 rmO) (rmM c v) 100000000000000000000000000000000000000000000000000 (Exit.exit 0) none];(((decide (Vw.command v≥Int.negSucc 0))=true→(((decide (IntKind.wrap .i64 (Vw.command v) < ↑(c.np)))=true→Q (.c (.v (.bool (decide (Vw.mode v≤Int.ofNat 4)))),[],100000000000000000000000000000000000000000000000018,[true,true,decide (IntKind.wrap .i64 (Vw.command v) < ↑(c.np))==true,true,true,true,decide (Vw.command v≥Int.negSucc 0)==true,true,true],zz0))∧((decide (IntKind.wrap .i64 (Vw.command v) < ↑(c.np)))=false→Q (.c (.v (.bool false)),[],100000000000000000000000000000000000000000000000015,[decide (IntKind.wrap .i64 (Vw.command v) < ↑(c.np))==false,true,true,true,decide (Vw.command v≥Int.negSucc 0)==true,true,true],zz0))))∧((decide (Vw.command v≥Int.negSucc 0))=false→Q (.c (.v (.bool false)),[],100000000000000000000000000000000000000000000000008,[decide (Vw.command v≥Int.negSucc 0)==false,true,true],zz0)))):
 ∃p r,cvE (E1 Tryz.prog) 24 c [.agg (vwL v)] p [some ⟨rmH,rmI,mkFr 84 rmO,rmM c v,100000000000000000000000000000000000000000000000000,.exit 0⟩]=some r∧Q r:=
 two H
 (fun g1=>two g1
  (fun g2=>⟨pD 10 2188,_,by kernel_rfl,g2⟩)
  (fun g2=>⟨pD 10 4375,_,by kernel_rfl,g2⟩))
 (fun g1=>⟨pD 10 2,_,by kernel_rfl,g1⟩)
abbrev rlK (v:Vw) (k:Nat):ABlk:=wBlk 3 1 (5*k) fun j=>[.int .i64 (keyF (vwL v) j)]
abbrev rlV (k:Nat):List AV:=[.c (.ptr 1000 0 0),i64 (Int.ofNat k)]
abbrev rlG:Nat:=1004
def rlR (P:Program) (v:Vw) (k:Nat) (path:List Dec):Option VC:=
 view ([3]++[1,4]) ([rlG,1190000000000000000000000000000000000000012,1190000000000000000000000000000000000000013,1190000000000000000000000000000000000000014]++[1000]) (fC (E1 P) 100 (loopAt P 70 0) 1000000000000000000000000000000000000000000 10000000000000000000000000000000000000000 ⟨mkFr 48 ((3,.c (.sl rlG 0 0 (5*k) none))::[1,4].zip (rlV k)),(rlG,rlK v k)::[1000].zip [vwB v],0,0,false,path,[],[],[],none,[]⟩)
theorem rlT (v:Vw) (k:Nat) (Q:VC→Prop) (H:let zz0:=(List.getD (vwL v) (32+Int.toNat (Int.ofNat k)*1) nov);let zz1:=(List.getD (vwL v) (0+Int.toNat (Int.ofNat k)*1) nov);let zz2:=((3,AV.c (AC.sl rlG 0 0 (5*k) none))::List.zip [1,4] (rlV k));let zz3:=(List.getD (vwL v) (16+Int.toNat (Int.ofNat k)*1) nov);let zz4:=(List.getD (vwL v) (24+Int.toNat (Int.ofNat k)*1) nov);let zz5:=(List.getD (vwL v) (8+Int.toNat (Int.ofNat k)*1) nov);let zz6:=(AV.c (AC.v (Value.int IntKind.i64 (IntKind.wrap IntKind.i64 (Int.ofNat k+Int.ofNat 1)))));let zq0:List Bool:=[ABlk.inb (ABlk.mk true false 32 0 (Cs.lit (vwL v))) 0 (0+Int.toNat (Int.ofNat k)*1+1),okl Kd.b zz1,decide (Int.ofNat 0≤Int.ofNat k∧Int.ofNat k<Int.ofNat 8),decide (Int.ofNat k<Int.ofNat 8)==true];let zq1:List Bool:=(ABlk.inb (ABlk.mk true false 32 0 (Cs.lit (vwL v))) 0 (32+Int.toNat (Int.ofNat k)*1+1))::(okl Kd.b zz0)::(decide (Int.ofNat 0≤Int.ofNat k∧Int.ofNat k<Int.ofNat 8))::(asB zz1==true)::zq0;let zq2:List Bool:=(ABlk.inb (ABlk.mk true false 32 0 (Cs.lit (vwL v))) 0 (32+Int.toNat (Int.ofNat k)*1+1))::(okl Kd.b zz0)::(decide (Int.ofNat 0≤Int.ofNat k∧Int.ofNat k<Int.ofNat 8))::(asB zz1==false)::zq0;(((decide (Int.ofNat k<Int.ofNat 8))=true→(((asB zz1)=true→(((asB zz0)=true→Q (Exit.normal,[some (.c (.sl 1190000000000000000000000000000000000000014 0 0 (5*k+5) none)),some (lkA zz2 1),some zz6],[none,none,none,some (ABlk.mk true true 3 1 (Cs.arr (5*k+5) fun i=>if i<5*k then List.map AC.v ((fun j=>[Value.int .i64 (keyF (vwL v) j)]) i) else elt (ABlk.mk true false 3 0 (Cs.lit [.v (.int .i64 (Int.ofNat 1)),.v (.int .i64 (Int.ofNat 1)),.v (.int .i64 (IntKind.wrap .i64 (asI zz5))),.v (.int .i64 (IntKind.wrap .i64 (asI zz3))),.v (.int .i64 (IntKind.wrap .i64 (asI zz4)))])) 0 0 1 (i-5*k))),some (ABlk.mk true false 32 0 (Cs.lit (vwL v)))],48,1190000000000000000000000000000000000000019,(true::true::(decide (5*k≤5*k))::(decide ((5*k+5)*8≤140737488355328))::(ABlk.inb (ABlk.mk true false 32 0 (Cs.lit (vwL v))) 0 (24+Int.toNat (Int.ofNat k)*1+1))::(okl (Kd.i .u16) zz4)::(decide (Int.ofNat 0≤Int.ofNat k∧Int.ofNat k<Int.ofNat 8))::(ABlk.inb (ABlk.mk true false 32 0 (Cs.lit (vwL v))) 0 (16+Int.toNat (Int.ofNat k)*1+1))::(okl (Kd.i .u8) zz3)::(decide (Int.ofNat 0≤Int.ofNat k∧Int.ofNat k<Int.ofNat 8))::(ABlk.inb (ABlk.mk true false 32 0 (Cs.lit (vwL v))) 0 (8+Int.toNat (Int.ofNat k)*1+1))::(okl (Kd.i .u8) zz5)::(decide (Int.ofNat 0≤Int.ofNat k∧Int.ofNat k<Int.ofNat 8))::(asB zz0==true)::zq1),[]))∧((asB zz0)=false→Q (Exit.normal,[some (.c (.sl 1190000000000000000000000000000000000000013 0 0 (5*k+5) none)),some (lkA zz2 1),some zz6],[none,none,some (ABlk.mk true true 3 1 (Cs.arr (5*k+5) fun i=>if i<5*k then List.map AC.v ((fun j=>[Value.int .i64 (keyF (vwL v) j)]) i) else elt (ABlk.mk true false 3 0 (Cs.lit [.v (.int .i64 (Int.ofNat 1)),.v (.int .i64 (Int.ofNat 0)),.v (.int .i64 (IntKind.wrap .i64 (asI zz5))),.v (.int .i64 (IntKind.wrap .i64 (asI zz3))),.v (.int .i64 (IntKind.wrap .i64 (asI zz4)))])) 0 0 1 (i-5*k))),none,some (ABlk.mk true false 32 0 (Cs.lit (vwL v)))],48,1190000000000000000000000000000000000000018,(true::true::(decide (5*k≤5*k))::(decide ((5*k+5)*8≤140737488355328))::(ABlk.inb (ABlk.mk true false 32 0 (Cs.lit (vwL v))) 0 (24+Int.toNat (Int.ofNat k)*1+1))::(okl (Kd.i .u16) zz4)::(decide (Int.ofNat 0≤Int.ofNat k∧Int.ofNat k<Int.ofNat 8))::(ABlk.inb (ABlk.mk true false 32 0 (Cs.lit (vwL v))) 0 (16+Int.toNat (Int.ofNat k)*1+1))::(okl (Kd.i .u8) zz3)::(decide (Int.ofNat 0≤Int.ofNat k∧Int.ofNat k<Int.ofNat 8))::(ABlk.inb (ABlk.mk true false 32 0 (Cs.lit (vwL v))) 0 (8+Int.toNat (Int.ofNat k)*1+1))::(okl (Kd.i .u8) zz5)::(decide (Int.ofNat 0≤Int.ofNat k∧Int.ofNat k<Int.ofNat 8))::(asB zz0==false)::zq1),[]))))∧((asB zz1)=false→(((asB zz0)=true→Q (Exit.normal,[some (.c (.sl 1190000000000000000000000000000000000000013 0 0 (5*k+5) none)),some (lkA zz2 1),some zz6],[none,none,some (ABlk.mk true true 3 1 (Cs.arr (5*k+5) fun i=>if i<5*k then List.map AC.v ((fun j=>[Value.int .i64 (keyF (vwL v) j)]) i) else elt (ABlk.mk true false 3 0 (Cs.lit [.v (.int .i64 (Int.ofNat 0)),.v (.int .i64 (Int.ofNat 1)),.v (.int .i64 (IntKind.wrap .i64 (asI zz5))),.v (.int .i64 (IntKind.wrap .i64 (asI zz3))),.v (.int .i64 (IntKind.wrap .i64 (asI zz4)))])) 0 0 1 (i-5*k))),none,some (ABlk.mk true false 32 0 (Cs.lit (vwL v)))],48,1190000000000000000000000000000000000000018,(true::true::(decide (5*k≤5*k))::(decide ((5*k+5)*8≤140737488355328))::(ABlk.inb (ABlk.mk true false 32 0 (Cs.lit (vwL v))) 0 (24+Int.toNat (Int.ofNat k)*1+1))::(okl (Kd.i .u16) zz4)::(decide (Int.ofNat 0≤Int.ofNat k∧Int.ofNat k<Int.ofNat 8))::(ABlk.inb (ABlk.mk true false 32 0 (Cs.lit (vwL v))) 0 (16+Int.toNat (Int.ofNat k)*1+1))::(okl (Kd.i .u8) zz3)::(decide (Int.ofNat 0≤Int.ofNat k∧Int.ofNat k<Int.ofNat 8))::(ABlk.inb (ABlk.mk true false 32 0 (Cs.lit (vwL v))) 0 (8+Int.toNat (Int.ofNat k)*1+1))::(okl (Kd.i .u8) zz5)::(decide (Int.ofNat 0≤Int.ofNat k∧Int.ofNat k<Int.ofNat 8))::(asB zz0==true)::zq2),[]))∧((asB zz0)=false→Q (Exit.normal,[some (.c (.sl 1190000000000000000000000000000000000000012 0 0 (5*k+5) none)),some (lkA zz2 1),some zz6],[none,some (ABlk.mk true true 3 1 (Cs.arr (5*k+5) fun i=>if i<5*k then List.map AC.v ((fun j=>[Value.int .i64 (keyF (vwL v) j)]) i) else elt (ABlk.mk true false 3 0 (Cs.lit [.v (.int .i64 (Int.ofNat 0)),.v (.int .i64 (Int.ofNat 0)),.v (.int .i64 (IntKind.wrap .i64 (asI zz5))),.v (.int .i64 (IntKind.wrap .i64 (asI zz3))),.v (.int .i64 (IntKind.wrap .i64 (asI zz4)))])) 0 0 1 (i-5*k))),none,none,some (ABlk.mk true false 32 0 (Cs.lit (vwL v)))],48,1190000000000000000000000000000000000000017,(true::true::(decide (5*k≤5*k))::(decide ((5*k+5)*8≤140737488355328))::(ABlk.inb (ABlk.mk true false 32 0 (Cs.lit (vwL v))) 0 (24+Int.toNat (Int.ofNat k)*1+1))::(okl (Kd.i .u16) zz4)::(decide (Int.ofNat 0≤Int.ofNat k∧Int.ofNat k<Int.ofNat 8))::(ABlk.inb (ABlk.mk true false 32 0 (Cs.lit (vwL v))) 0 (16+Int.toNat (Int.ofNat k)*1+1))::(okl (Kd.i .u8) zz3)::(decide (Int.ofNat 0≤Int.ofNat k∧Int.ofNat k<Int.ofNat 8))::(ABlk.inb (ABlk.mk true false 32 0 (Cs.lit (vwL v))) 0 (8+Int.toNat (Int.ofNat k)*1+1))::(okl (Kd.i .u8) zz5)::(decide (Int.ofNat 0≤Int.ofNat k∧Int.ofNat k<Int.ofNat 8))::(asB zz0==false)::zq2),[]))))))∧((decide (Int.ofNat k<Int.ofNat 8))=false→Q (Exit.exit 0,[some (lkA zz2 3),some (lkA zz2 1),some (lkA zz2 4)],[some (ABlk.mk true true 3 1 (Cs.arr (5*k) fun k=>List.map AC.v ((fun j=>[Value.int .i64 (keyF (vwL v) j)]) k))),none,none,none,some (ABlk.mk true false 32 0 (Cs.lit (vwL v)))],48,1000000000000000000000000000000000000000002,[decide (Int.ofNat k<Int.ofNat 8)==false],[])))):
 ∃p r,rlR Tryz.prog v k p=some r∧Q r:=
 two H
 (fun g1=>two g1
  (fun g2=>two g2
   (fun g3=>⟨pD 3 13,_,by kernel_rfl,g3⟩)
   (fun g3=>⟨pD 3 22,_,by kernel_rfl,g3⟩))
  (fun g2=>two g2
   (fun g3=>⟨pD 3 16,_,by kernel_rfl,g3⟩)
   (fun g3=>⟨pD 3 25,_,by kernel_rfl,g3⟩)))
 (fun g1=>⟨pD 1 2,_,by kernel_rfl,g1⟩)
end Go.Proofs.YtpgaplcdbbnblaaGreatDoor
end
/- What a net answers, Round, as the evaluator runs it. -/
section
namespace Go.Proofs.YtpgaplcdbbnblaaGreatDoor
open Go.RowKit
theorem nRound (c:Cfg) (nq:Nat) (fq:Nat→Int) (Q:VF→Prop) (H:(((!decide (↑nq>Int.ofNat 0))=true→Q (.c (.v (.int .i64 (Int.ofNat 0))),[],1016,[(!decide (↑nq>Int.ofNat 0))==true,true],[]))∧((!decide (↑nq>Int.ofNat 0))=false→Q (.c (.v (.int .i64 (IntKind.wrap .i64 (↑(c.ns)*c.long)))),[],130000000000000000000000000000000000001015,[true,true,true,(!decide (↑nq>Int.ofNat 0))==false,true],[])))):
 ∃p r,netR Tryz.prog 72 c nq fq [] p=some r∧Q r:=
 two H
 (fun g1=>⟨pD 7 729,_,by kernel_rfl,g1⟩)
 (fun g1=>⟨pD 7 1458,_,by kernel_rfl,g1⟩)
end Go.Proofs.YtpgaplcdbbnblaaGreatDoor
end
/- Contract of what a net answers: Round. -/
section
namespace Go.Proofs.YtpgaplcdbbnblaaGreatDoor
open Go.RowKit
theorem ct_round:CtOk Tryz.prog 72 (ctNet (fun c nq _ _=>i64 (roundN c nq)) fun c nq fq zs=>true&&decide (zs.length=0)):=by
 refine ctNet_of ⟨_,_,Tryz.func72,rfl⟩ (fun c nq fq zs=>plain_i64 _) 0 fun c nq fq zs _ hz=>?_
 obtain rfl:=List.length_eq_zero_iff.1 hz
 refine(?_:(∃p r,netR Tryz.prog 72 c nq fq [] p=some r∧(r.1=i64 (roundN c nq)∧r.2.2.1≤lim∧allT r.2.2.2.1∧∀q∈r.2.2.2.2,q))→_) (nRound c nq fq _ ?_)
 · rintro⟨p,r,h1,h2⟩
   exact⟨E1 Tryz.prog,300,10000000000000000000000000000000000000000,rfl,hE1,p,[],r,h1,h2⟩
 · refine⟨fun h=>?_,fun h=>?_⟩
   · refine⟨?_,(by first|(unfold lim;omega)|(dsimp only;unfold lim;omega)),?_,by simp⟩
     · show i64 _=i64 _
       simp at h
       simp[roundN,h]
     · simp at h
       simp[allT,h]
   · refine⟨?_,(by first|(unfold lim;omega)|(dsimp only;unfold lim;omega)),?_,by simp⟩
     · show i64 _=i64 _
       simp at h
       unfold roundN
       rw[if_neg (by omega)]
     · simp at h
       simp[allT]
       omega
end Go.Proofs.YtpgaplcdbbnblaaGreatDoor
end
/- members.May as the evaluator runs it. -/
section
namespace Go.Proofs.YtpgaplcdbbnblaaGreatDoor
open Go.RowKit
def ctsMy:List (FuncId × CtF):=[(71,ctFirst),(72,ctRoundN),(73,ctEmpty)]
theorem ctsMy_ok:∀f g,(f,g)∈ctsMy→CtOk Tryz.prog f g:=by
 intro f g h
 simp only[ctsMy,List.mem_cons,Prod.mk.injEq,List.not_mem_nil,or_false] at h
 rcases h with⟨rfl,rfl⟩|⟨rfl,rfl⟩|⟨rfl,rfl⟩
 · exact ct_first
 · exact ct_round
 · exact ct_empty
def ENmy (P:Program):Env:=⟨P,ctsMy⟩
theorem hENmy:EnvOk (ENmy Tryz.prog):=envOk ctsMy_ok (by kernel_rfl) (by kernel_rfl)
abbrev myH:List Nat:=[0,3,32]
abbrev myI:List Nat:=netIds++[1000]
abbrev myV (k:Nat):List AV:=[.c (.ptr 5 0 0),.c (.ptr 1000 0 0),i64 (Int.ofNat k)]
def myRn (P:Program) (c:Cfg) (nq:Nat) (fq:Nat→Int) (v:Vw) (k:Nat) (path:List Dec):Option VC:=
 view (myH++[4]) myI (fC (ENmy P) 100 (loopAt P 20 0) 1000000000000000000000000000000000000000000 10000000000000000000000000000000000000000 (stH 67 myH myI (myV k) (netBk c nq fq++[vwB v]) path []))
theorem mbMy (c:Cfg) (nq:Nat) (fq:Nat→Int) (v:Vw) (k:Nat) (Q:VC→Prop) (H:let zz0:=[some (ABlk.mk false false 131 0 (Cs.lit [AC.v (Value.int IntKind.i64 (Int.ofNat 1)),AC.v (Value.int IntKind.i64 (Int.negSucc 0))])),some (ABlk.mk false false 3 1 (Cs.arr (Cfg.np c) fun k=>List.map AC.v ((fun i=>[Value.int IntKind.i64 (Cfg.fp c i)]) k))),some (ABlk.mk false false 3 1 (Cs.arr (Cfg.ns c) fun k=>List.map AC.v ((fun i=>[Value.int IntKind.i64 (Cfg.fs c i)]) k))),some (ABlk.mk false false 3 1 (Cs.arr (Cfg.nb c) fun k=>List.map AC.v ((fun i=>[Value.int IntKind.i64 (Cfg.fb c i)]) k))),some (ABlk.mk false false 161 3 (Cs.arr (Cfg.nt c) fun k=>List.map AC.v ((fun i=>[Value.int IntKind.i64 (Station.node (Cfg.ft c i)),Value.int IntKind.u32 (Station.safe (Cfg.ft c i)),Value.int IntKind.i64 (Station.hold (Cfg.ft c i))]) k))),some (ABlk.mk false false 3 1 (Cs.arr nq fun k=>List.map AC.v ((fun i=>[Value.int IntKind.i64 (fq i)]) k))),some (ABlk.mk false false 77 0 (Cs.lit [AC.v (Value.int IntKind.i64 (Cfg.nodes c)),AC.sl 0 0 0 (Cfg.np c) none,AC.sl 1 0 0 (Cfg.ns c) none,AC.v (Value.int IntKind.i64 (Cfg.long c)),AC.sl 2 0 0 (Cfg.nb c) none,AC.sl 3 0 0 (Cfg.nt c) none,AC.v (Value.int IntKind.i64 (Cfg.miss c)),AC.v (Value.int IntKind.i64 (Cfg.good c)),AC.v (Value.int IntKind.i64 (Cfg.fresh c)),AC.sl 4 0 0 nq none])),some (ABlk.mk true false 32 0 (Cs.lit (vwL v)))];let zz1:=(List.getD (vwL v) (8+Int.toNat (Int.ofNat k)*1) nov);let zz2:=[some (lkA (List.zip myH (myV k)) 0),some (lkA (List.zip myH (myV k)) 3),some (lkA (List.zip myH (myV k)) 32),some (AV.c (AC.v (Value.bool false)))];let zz3:=(List.getD (vwL v) (16+Int.toNat (Int.ofNat k)*1) nov);let zz4:=(List.getD (vwL v) (24+Int.toNat (Int.ofNat k)*1) nov);let zz5:=[AV.agg (vwL v),AV.c (AC.v (Value.int IntKind.i64 (Int.ofNat k)))];let zz6:=[some (lkA (List.zip myH (myV k)) 0),some (lkA (List.zip myH (myV k)) 3),some (AV.c (AC.v (Value.int IntKind.i64 (IntKind.wrap IntKind.i64 (Int.ofNat k+Int.ofNat 1))))),some (lkA (List.zip myH (myV k)) 4)];let zt:List Bool→List Bool:=fun l=>true::true::true::true::true::true::true::true::l;let zu:List Bool→List Bool:=fun l=>zt (zt (zt (zt l)));let zq0:List Bool:=[netK c nq fq,true,decide (Int.ofNat k<Int.ofNat 8)==true];let zq1:List Bool:=true::(vwPP emPr zz5)::(zu (zt (true::true::true::((decide (headN c nq fq (Int.ofNat k)<Int.ofNat 0)==true)::zq0))));let zq2:List Bool:=(ABlk.inb (ABlk.mk true false 32 0 (Cs.lit (vwL v))) 0 (8+Int.toNat (Int.ofNat k)*1+1))::(okl (Kd.i .u8) zz1)::(decide (Int.ofNat 0≤Int.ofNat k∧Int.ofNat k<Int.ofNat 8))::((!emB (vwL v) (Int.ofNat k))==false)::zq1;let zq3:List Bool:=(ABlk.inb (ABlk.mk true false 32 0 (Cs.lit (vwL v))) 0 (16+Int.toNat (Int.ofNat k)*1+1))::(okl (Kd.i .u8) zz3)::(decide (Int.ofNat 0≤Int.ofNat k∧Int.ofNat k<Int.ofNat 8))::(decide (asI zz1>Int.ofNat 100)==false)::zq2;let zq4:List Bool:=(ABlk.inb (ABlk.mk true false 32 0 (Cs.lit (vwL v))) 0 (24+Int.toNat (Int.ofNat k)*1+1))::(okl (Kd.i .u16) zz4)::(decide (Int.ofNat 0≤Int.ofNat k∧Int.ofNat k<Int.ofNat 8))::(decide (asI zz3>Int.ofNat 100)==false)::zq3;let zq5:List Bool:=(ABlk.inb (ABlk.mk true false 32 0 (Cs.lit (vwL v))) 0 (8+Int.toNat (Int.ofNat k)*1+1))::(okl (Kd.i .u8) zz1)::(decide (Int.ofNat 0≤Int.ofNat k∧Int.ofNat k<Int.ofNat 8))::(decide (headN c nq fq (Int.ofNat k)<Int.ofNat 0)==false)::zq0;let zq6:List Bool:=(ABlk.inb (ABlk.mk true false 32 0 (Cs.lit (vwL v))) 0 (16+Int.toNat (Int.ofNat k)*1+1))::(okl (Kd.i .u8) zz3)::(decide (Int.ofNat 0≤Int.ofNat k∧Int.ofNat k<Int.ofNat 8))::(decide (asI zz1>Int.ofNat 100)==false)::zq5;let zq7:List Bool:=(ABlk.inb (ABlk.mk true false 32 0 (Cs.lit (vwL v))) 0 (24+Int.toNat (Int.ofNat k)*1+1))::(okl (Kd.i .u16) zz4)::(decide (Int.ofNat 0≤Int.ofNat k∧Int.ofNat k<Int.ofNat 8))::(decide (asI zz3>Int.ofNat 100)==false)::zq6;(((decide (Int.ofNat k<Int.ofNat 8))=true→(((decide (headN c nq fq (Int.ofNat k)<Int.ofNat 0))=true→(((!emB (vwL v) (Int.ofNat k))=true→Q (Exit.ret,zz2,zz0,67,1000000000000000000000000000000000000000013,(((!emB (vwL v) (Int.ofNat k))==true)::zq1),[]))∧((!emB (vwL v) (Int.ofNat k))=false→(((decide (asI zz1>Int.ofNat 100))=true→Q (Exit.ret,zz2,zz0,67,1000000000000000000000000000000000000000023,((decide (asI zz1>Int.ofNat 100)==true)::zq2),[]))∧((decide (asI zz1>Int.ofNat 100))=false→(((decide (asI zz3>Int.ofNat 100))=true→Q (Exit.ret,zz2,zz0,67,1000000000000000000000000000000000000000028,((decide (asI zz3>Int.ofNat 100)==true)::zq3),[]))∧((decide (asI zz3>Int.ofNat 100))=false→(((decide (asI zz4>Int.ofNat 1000))=true→Q (Exit.ret,zz2,zz0,67,1000000000000000000000000000000000000000033,((decide (asI zz4>Int.ofNat 1000)==true)::zq4),[]))∧((decide (asI zz4>Int.ofNat 1000))=false→Q (Exit.normal,zz6,zz0,67,1000000000000000000000000000000000000000034,((decide (asI zz4>Int.ofNat 1000)==false)::zq4),[]))))))))))∧((decide (headN c nq fq (Int.ofNat k)<Int.ofNat 0))=false→(((decide (asI zz1>Int.ofNat 100))=true→Q (Exit.ret,zz2,zz0,67,1000000000000000000000000000000000000000020,((decide (asI zz1>Int.ofNat 100)==true)::zq5),[]))∧((decide (asI zz1>Int.ofNat 100))=false→(((decide (asI zz3>Int.ofNat 100))=true→Q (Exit.ret,zz2,zz0,67,1000000000000000000000000000000000000000025,((decide (asI zz3>Int.ofNat 100)==true)::zq6),[]))∧((decide (asI zz3>Int.ofNat 100))=false→(((decide (asI zz4>Int.ofNat 1000))=true→Q (Exit.ret,zz2,zz0,67,1000000000000000000000000000000000000000030,((decide (asI zz4>Int.ofNat 1000)==true)::zq7),[]))∧((decide (asI zz4>Int.ofNat 1000))=false→Q (Exit.normal,zz6,zz0,67,1000000000000000000000000000000000000000031,((decide (asI zz4>Int.ofNat 1000)==false)::zq7),[]))))))))))∧((decide (Int.ofNat k<Int.ofNat 8))=false→Q (Exit.exit 0,[some (lkA (List.zip myH (myV k)) 0),some (lkA (List.zip myH (myV k)) 3),some (lkA (List.zip myH (myV k)) 32),some (lkA (List.zip myH (myV k)) 4)],zz0,67,1000000000000000000000000000000000000000001,[decide (Int.ofNat k<Int.ofNat 8)==false],[])))):
 ∃p r,myRn Tryz.prog c nq fq v k p=some r∧Q r:=
 two H
 (fun g1=>two g1
  (fun g2=>two g2
   (fun g3=>⟨pD 6 247,_,by kernel_rfl,g3⟩)
   (fun g3=>two g3
    (fun g4=>⟨pD 17 1219,_,by kernel_rfl,g4⟩)
    (fun g4=>two g4
     (fun g5=>⟨pD 17 179095,_,by kernel_rfl,g5⟩)
     (fun g5=>two g5
      (fun g6=>⟨pD 17 43402963,_,by kernel_rfl,g6⟩)
      (fun g6=>⟨pD 17 86449684,_,by kernel_rfl,g6⟩)))))
  (fun g2=>two g2
   (fun g3=>⟨pD 17 736,_,by kernel_rfl,g3⟩)
   (fun g3=>two g3
    (fun g4=>⟨pD 17 178612,_,by kernel_rfl,g4⟩)
    (fun g4=>two g4
     (fun g5=>⟨pD 17 43402480,_,by kernel_rfl,g5⟩)
     (fun g5=>⟨pD 17 86449201,_,by kernel_rfl,g5⟩)))))
 (fun g1=>⟨pD 1 2,_,by kernel_rfl,g1⟩)
theorem mbMyN (c:Cfg) (nq:Nat) (fq:Nat→Int) (v:Vw) (Q:VF→Prop) (H:let zz0:=[some (ABlk.mk false false 131 0 (Cs.lit [AC.v (Value.int IntKind.i64 (Int.ofNat 1)),AC.v (Value.int IntKind.i64 (Int.negSucc 0))])),some (ABlk.mk false false 3 1 (Cs.arr (Cfg.np c) fun k=>List.map AC.v ((fun i=>[Value.int IntKind.i64 (Cfg.fp c i)]) k))),some (ABlk.mk false false 3 1 (Cs.arr (Cfg.ns c) fun k=>List.map AC.v ((fun i=>[Value.int IntKind.i64 (Cfg.fs c i)]) k))),some (ABlk.mk false false 3 1 (Cs.arr (Cfg.nb c) fun k=>List.map AC.v ((fun i=>[Value.int IntKind.i64 (Cfg.fb c i)]) k))),some (ABlk.mk false false 161 3 (Cs.arr (Cfg.nt c) fun k=>List.map AC.v ((fun i=>[Value.int IntKind.i64 (Station.node (Cfg.ft c i)),Value.int IntKind.u32 (Station.safe (Cfg.ft c i)),Value.int IntKind.i64 (Station.hold (Cfg.ft c i))]) k))),some (ABlk.mk false false 3 1 (Cs.arr nq fun k=>List.map AC.v ((fun i=>[Value.int IntKind.i64 (fq i)]) k))),some (ABlk.mk false false 77 0 (Cs.lit [AC.v (Value.int IntKind.i64 (Cfg.nodes c)),AC.sl 0 0 0 (Cfg.np c) none,AC.sl 1 0 0 (Cfg.ns c) none,AC.v (Value.int IntKind.i64 (Cfg.long c)),AC.sl 2 0 0 (Cfg.nb c) none,AC.sl 3 0 0 (Cfg.nt c) none,AC.v (Value.int IntKind.i64 (Cfg.miss c)),AC.v (Value.int IntKind.i64 (Cfg.good c)),AC.v (Value.int IntKind.i64 (Cfg.fresh c)),AC.sl 4 0 0 nq none])),some (ABlk.mk true false 32 0 (Cs.lit (vwL v)))];let zz1:=(headN c nq fq (IntKind.wrap IntKind.i64 (Vw.command v))<Int.ofNat 0);let zq0:List Bool:=[netK c nq fq,true];let zq1:List Bool:=true::true::((roundN c nq==Int.ofNat 0)==false)::zq0;let zq2:List Bool:=true::true::(decide (Vw.command v<Int.negSucc 0)==false)::zq1;let zq3:List Bool:=(netK c nq fq)::true::true::true::(decide (Vw.command v≥Int.ofNat 0)==true)::zq2;let zq4:List Bool:=true::true::(decide zz1==false)::zq3;let zq5:List Bool:=true::true::(decide (Vw.command v≥Int.ofNat 0)==false)::zq2;(((roundN c nq==Int.ofNat 0)=true→Q (.c (.v (.bool false)),[],1011,(((roundN c nq==Int.ofNat 0)==true)::zq0),[]))∧((roundN c nq==Int.ofNat 0)=false→(((decide (Vw.command v<Int.negSucc 0))=true→Q (.c (.v (.bool false)),[],1014,((decide (Vw.command v<Int.negSucc 0)==true)::zq1),[]))∧((decide (Vw.command v<Int.negSucc 0))=false→(((decide (Vw.command v≥Int.ofNat 0))=true→(((decide zz1)=true→Q (.c (.v (.bool false)),[],1024,((decide zz1==true)::zq3),[]))∧((decide zz1)=false→(((decide (Vw.mode v>Int.ofNat 4))=true→Q (.c (.v (.bool false)),[],1027,((decide (Vw.mode v>Int.ofNat 4)==true)::zq4),[]))∧((decide (Vw.mode v>Int.ofNat 4))=false→Q (.c (.v (.bool false)),[],100000000000000000000000000000000000000000000000000,((decide (Vw.mode v>Int.ofNat 4)==false)::zq4),[LoopV Tryz.prog (loopAt Tryz.prog 20 0) myH myI [some (.c (.ptr 5 0 0)),some (.c (.ptr 1000 0 0)),some (.c (.v (.int .i64 (Int.ofNat 0))))] zz0 67 1027 (mkFr 67 [(4,bo false)]) [] 100000000000000000000000000000000000000000000000000 Exit.ret none]))))))∧((decide (Vw.command v≥Int.ofNat 0))=false→(((decide (Vw.mode v>Int.ofNat 4))=true→Q (.c (.v (.bool false)),[],1022,((decide (Vw.mode v>Int.ofNat 4)==true)::zq5),[]))∧((decide (Vw.mode v>Int.ofNat 4))=false→Q (.c (.v (.bool false)),[],100000000000000000000000000000000000000000000000000,((decide (Vw.mode v>Int.ofNat 4)==false)::zq5),[LoopV Tryz.prog (loopAt Tryz.prog 20 0) myH myI [some (.c (.ptr 5 0 0)),some (.c (.ptr 1000 0 0)),some (.c (.v (.int .i64 (Int.ofNat 0))))] zz0 67 1022 (mkFr 67 [(4,bo false)]) [] 100000000000000000000000000000000000000000000000000 Exit.ret none])))))))))):
 ∃p r,vwE (ENmy Tryz.prog) 20 c nq fq v [] p [some ⟨myH,myI,mkFr 67 [(4,bo false)],[],100000000000000000000000000000000000000000000000000,.ret⟩]=some r∧Q r:=
 two H
 (fun g1=>⟨pD 12 1,_,by kernel_rfl,g1⟩)
 (fun g1=>two g1
  (fun g2=>⟨pD 12 29,_,by kernel_rfl,g2⟩)
  (fun g2=>two g2
   (fun g3=>two g3
    (fun g4=>⟨pD 18 4785212,_,by kernel_rfl,g4⟩)
    (fun g4=>two g4
     (fun g5=>⟨pD 18 138708344,_,by kernel_rfl,g5⟩)
     (fun g5=>⟨pD 18 267848507,_,by kernel_rfl,g5⟩)))
   (fun g3=>two g3
    (fun g4=>⟨pD 18 129144593,_,by kernel_rfl,g4⟩)
    (fun g4=>⟨pD 18 258284756,_,by kernel_rfl,g4⟩))))
theorem mbMyY (c:Cfg) (nq:Nat) (fq:Nat→Int) (v:Vw) (Q:VF→Prop) (H:let zz0:=[some (ABlk.mk false false 131 0 (Cs.lit [AC.v (Value.int IntKind.i64 (Int.ofNat 1)),AC.v (Value.int IntKind.i64 (Int.negSucc 0))])),some (ABlk.mk false false 3 1 (Cs.arr (Cfg.np c) fun k=>List.map AC.v ((fun i=>[Value.int IntKind.i64 (Cfg.fp c i)]) k))),some (ABlk.mk false false 3 1 (Cs.arr (Cfg.ns c) fun k=>List.map AC.v ((fun i=>[Value.int IntKind.i64 (Cfg.fs c i)]) k))),some (ABlk.mk false false 3 1 (Cs.arr (Cfg.nb c) fun k=>List.map AC.v ((fun i=>[Value.int IntKind.i64 (Cfg.fb c i)]) k))),some (ABlk.mk false false 161 3 (Cs.arr (Cfg.nt c) fun k=>List.map AC.v ((fun i=>[Value.int IntKind.i64 (Station.node (Cfg.ft c i)),Value.int IntKind.u32 (Station.safe (Cfg.ft c i)),Value.int IntKind.i64 (Station.hold (Cfg.ft c i))]) k))),some (ABlk.mk false false 3 1 (Cs.arr nq fun k=>List.map AC.v ((fun i=>[Value.int IntKind.i64 (fq i)]) k))),some (ABlk.mk false false 77 0 (Cs.lit [AC.v (Value.int IntKind.i64 (Cfg.nodes c)),AC.sl 0 0 0 (Cfg.np c) none,AC.sl 1 0 0 (Cfg.ns c) none,AC.v (Value.int IntKind.i64 (Cfg.long c)),AC.sl 2 0 0 (Cfg.nb c) none,AC.sl 3 0 0 (Cfg.nt c) none,AC.v (Value.int IntKind.i64 (Cfg.miss c)),AC.v (Value.int IntKind.i64 (Cfg.good c)),AC.v (Value.int IntKind.i64 (Cfg.fresh c)),AC.sl 4 0 0 nq none])),some (ABlk.mk true false 32 0 (Cs.lit (vwL v)))];let zz1:=(headN c nq fq (IntKind.wrap IntKind.i64 (Vw.command v))<Int.ofNat 0);let zq0:List Bool:=[netK c nq fq,true];let zq1:List Bool:=true::true::((roundN c nq==Int.ofNat 0)==false)::zq0;let zq2:List Bool:=true::true::(decide (Vw.command v<Int.negSucc 0)==false)::zq1;let zq3:List Bool:=(netK c nq fq)::true::true::true::(decide (Vw.command v≥Int.ofNat 0)==true)::zq2;let zq4:List Bool:=true::true::(decide zz1==false)::zq3;let zq5:List Bool:=true::true::(decide (Vw.command v≥Int.ofNat 0)==false)::zq2;(((roundN c nq==Int.ofNat 0)=true→Q (.c (.v (.bool false)),[],1011,(((roundN c nq==Int.ofNat 0)==true)::zq0),[]))∧((roundN c nq==Int.ofNat 0)=false→(((decide (Vw.command v<Int.negSucc 0))=true→Q (.c (.v (.bool false)),[],1014,((decide (Vw.command v<Int.negSucc 0)==true)::zq1),[]))∧((decide (Vw.command v<Int.negSucc 0))=false→(((decide (Vw.command v≥Int.ofNat 0))=true→(((decide zz1)=true→Q (.c (.v (.bool false)),[],1024,((decide zz1==true)::zq3),[]))∧((decide zz1)=false→(((decide (Vw.mode v>Int.ofNat 4))=true→Q (.c (.v (.bool false)),[],1027,((decide (Vw.mode v>Int.ofNat 4)==true)::zq4),[]))∧((decide (Vw.mode v>Int.ofNat 4))=false→Q (.c (.v (.bool true)),[],100000000000000000000000000000000000000000000000001,((decide (Vw.mode v>Int.ofNat 4)==false)::zq4),[LoopV Tryz.prog (loopAt Tryz.prog 20 0) myH myI [some (.c (.ptr 5 0 0)),some (.c (.ptr 1000 0 0)),some (.c (.v (.int .i64 (Int.ofNat 0))))] zz0 67 1027 (mkFr 67 []) [] 100000000000000000000000000000000000000000000000000 (Exit.exit 0) none]))))))∧((decide (Vw.command v≥Int.ofNat 0))=false→(((decide (Vw.mode v>Int.ofNat 4))=true→Q (.c (.v (.bool false)),[],1022,((decide (Vw.mode v>Int.ofNat 4)==true)::zq5),[]))∧((decide (Vw.mode v>Int.ofNat 4))=false→Q (.c (.v (.bool true)),[],100000000000000000000000000000000000000000000000001,((decide (Vw.mode v>Int.ofNat 4)==false)::zq5),[LoopV Tryz.prog (loopAt Tryz.prog 20 0) myH myI [some (.c (.ptr 5 0 0)),some (.c (.ptr 1000 0 0)),some (.c (.v (.int .i64 (Int.ofNat 0))))] zz0 67 1022 (mkFr 67 []) [] 100000000000000000000000000000000000000000000000000 (Exit.exit 0) none])))))))))):
 ∃p r,vwE (ENmy Tryz.prog) 20 c nq fq v [] p [some ⟨myH,myI,mkFr 67 [],[],100000000000000000000000000000000000000000000000000,.exit 0⟩]=some r∧Q r:=
 two H
 (fun g1=>⟨pD 12 1,_,by kernel_rfl,g1⟩)
 (fun g1=>two g1
  (fun g2=>⟨pD 12 29,_,by kernel_rfl,g2⟩)
  (fun g2=>two g2
   (fun g3=>two g3
    (fun g4=>⟨pD 18 4785212,_,by kernel_rfl,g4⟩)
    (fun g4=>two g4
     (fun g5=>⟨pD 18 138708344,_,by kernel_rfl,g5⟩)
     (fun g5=>⟨pD 18 267848507,_,by kernel_rfl,g5⟩)))
   (fun g3=>two g3
    (fun g4=>⟨pD 18 129144593,_,by kernel_rfl,g4⟩)
    (fun g4=>⟨pD 18 258284756,_,by kernel_rfl,g4⟩))))
end Go.Proofs.YtpgaplcdbbnblaaGreatDoor
end
/- members.May: its contract. -/
section
namespace Go.Proofs.YtpgaplcdbbnblaaGreatDoor
open Go.RowKit
theorem mayP_eq (t:Nat→Bool) (v:Vw) (k:Nat):mayP t v k=((t k||emptyB v k)&&(decide (v.miss k≤100)&&(decide (v.good k≤100)&&decide (v.score k≤1000)))):=rfl
set_option maxHeartbeats 1000000 in
theorem my_ob (c:Cfg) (nq:Nat) (fq:Nat→Int) (v:Vw) (N:Nat) (hN:1010≤N) (hN2:N≤1000000000000000000000000000000000000000000) (hk:myI.all (keptB N 100000000000000000000000000000000000000000000000000)=true) (hv:∀k,(myV k).all (okV N)=true) (j:Nat) (hj:j≤8) (hmin:∀i,i<j→mayP (hasB c nq fq) v i=true) (hyes:j<8→mayP (hasB c nq fq) v j=false) {e:Exit} {out:List (Nat × AV)}
 (hF:(j<8→e= .ret∧out=[(4,bo false)])∧(j=8→e= .exit 0∧out=[])):
 LoopV Tryz.prog (loopAt Tryz.prog 20 0) myH myI ((myV 0).map some) ((netBk c nq fq++[vwB v]).map some) 67 N (mkFr 67 out) [] 100000000000000000000000000000000000000000000000000 e none:=by
 refine scan_ob hENmy (fuel:=100) (str:=10000000000000000000000000000000000000000) (nh:=1000000000000000000000000000000000000000000) myH [4] myI myV (netBk c nq fq++[vwB v]) j hN2 (by decide) (by unfold lim;omega) ?_ (fun _=>⟨rfl,rfl⟩) hk (fun k _=>hv k) ?_ ?_ ?_
 · rcases Nat.lt_or_ge j 8 with h|h
   · rw[(hF.1 h).1];simp
   · rw[(hF.2 (by omega)).1];simp
 · intro b hb
   rcases List.mem_append.1 hb with h|h
   · exact netBk_low (by omega) b h
   · rw[List.mem_singleton.1 h];exact vwB_low
 · intro k hkj
   have hm:=hmin k hkj
   have hk8:k<8:=by omega
   refine mbMy c nq fq v k _ ?_
   rw[mayP_eq] at hm
   clear hmin hyes hF hv hk
   have w1:IntKind.wrap IntKind.i64 (Int.ofNat k+Int.ofNat 1)=Int.ofNat (k+1):=by rw[wrap_nat _ (by simp;omega) (by simp;omega)];rfl
   rw[show hasB c nq fq k=decide (0≤headN c nq fq (Int.ofNat k)) from rfl] at hm
   obtain⟨b0,hb0⟩:∃b,emptyB v k=b:=⟨_,rfl⟩
   rw[hb0] at hm
   simp only[emB_eq hk8,(vw_miss v k hk8).1,(vw_good v k hk8).1,(vw_score v k hk8).1,(vw_miss v k hk8).2,(vw_good v k hk8).2,(vw_score v k hk8).2,List.headD_cons,w1,hb0]
   clear hb0
   cases b0
   all_goals (simp only[Bool.or_true,Bool.or_false,Bool.true_and,Bool.and_eq_true,Bool.and_eq_false_iff,decide_eq_true_eq,decide_eq_false_iff_not] at hm)
   all_goals (repeat' (first|refine⟨fun h=>?_,fun h=>?_⟩|fail))
   all_goals (first|contradiction|(exfalso;have hx:= ‹(!true)=true›;cases hx;done)|(exfalso;have hx:= ‹(!false)=false›;cases hx;done)|(exfalso;simp only[decide_eq_true_eq,decide_eq_false_iff_not,Int.ofNat_eq_natCast,Int.cast_ofNat_Int,gt_iff_lt] at *;omega)|skip)
   all_goals (refine⟨⟨?_,rfl,by dsimp only;omega,rfl⟩,rfl,rfl,BL.refl _⟩)
   all_goals first
    |(simp_all[allT,cfgK_t,netK_t,intsOk_ints,stsOk_sts,intsOk_s,stsOk_s,inb_lit,Vw.len,isVw_cells,vwPP,emPr];done)
    |(simp_all[allT,cfgK_t,netK_t,intsOk_ints,stsOk_sts,intsOk_s,stsOk_s,inb_lit,Vw.len,isVw_cells,vwPP,emPr];omega)
    |(simp_all[allT,cfgK_t,netK_t,intsOk_ints,stsOk_sts,intsOk_s,stsOk_s,inb_lit,Vw.len,isVw_cells,vwPP,emPr];omega)
 · rcases Nat.lt_or_ge j 8 with hk8|hge
   · obtain⟨rfl,rfl⟩:=hF.1 hk8
     have hm:=hyes hk8
     clear hmin hyes hF hv hk
     rw[mayP_eq] at hm
     refine mbMy c nq fq v j _ ?_
     rw[show hasB c nq fq j=decide (0≤headN c nq fq (Int.ofNat j)) from rfl] at hm
     obtain⟨b0,hb0⟩:∃b,emptyB v j=b:=⟨_,rfl⟩
     rw[hb0] at hm
     simp only[emB_eq hk8,(vw_miss v j hk8).1,(vw_good v j hk8).1,(vw_score v j hk8).1,(vw_miss v j hk8).2,(vw_good v j hk8).2,(vw_score v j hk8).2,List.headD_cons,hb0]
     clear hb0
     cases b0
     all_goals (simp only[Bool.or_true,Bool.or_false,Bool.true_and,Bool.and_eq_true,Bool.and_eq_false_iff,decide_eq_true_eq,decide_eq_false_iff_not] at hm)
     all_goals (repeat' (first|refine⟨fun h=>?_,fun h=>?_⟩|fail))
     all_goals (first|contradiction|(exfalso;have hx:= ‹(!true)=true›;cases hx;done)|(exfalso;have hx:= ‹(!false)=false›;cases hx;done)|(exfalso;simp only[decide_eq_true_eq,decide_eq_false_iff_not,Int.ofNat_eq_natCast,Int.cast_ofNat_Int,gt_iff_lt] at *;omega)|skip)
     all_goals (refine EndV_one ⟨?_,rfl,by dsimp only;omega,rfl⟩ rfl rfl ?_)
     all_goals first
      |(simp[bo];done)
      |(simp_all[allT,cfgK_t,netK_t,intsOk_ints,stsOk_sts,intsOk_s,stsOk_s,inb_lit,Vw.len,isVw_cells,vwPP,emPr];done)
      |(simp_all[allT,cfgK_t,netK_t,intsOk_ints,stsOk_sts,intsOk_s,stsOk_s,inb_lit,Vw.len,isVw_cells,vwPP,emPr];omega)
      |(simp_all[allT,cfgK_t,netK_t,intsOk_ints,stsOk_sts,intsOk_s,stsOk_s,inb_lit,Vw.len,isVw_cells,vwPP,emPr];omega)
   · obtain⟨rfl,rfl⟩:=hF.2 (by omega)
     refine mbMy c nq fq v j _ ?_
     refine⟨fun h1=>?_,fun h1=>?_⟩
     · exfalso;simp at h1;omega
     · refine EndV_nil ⟨?_,rfl,by dsimp only;omega,rfl⟩ rfl
       simp[allT];omega
def mayH (c:Cfg) (nq:Nat) (fq:Nat→Int) (cmd mode:Int):Bool:=decide (roundN c nq≠0)&&(decide (-1≤cmd)&&((decide (cmd<0)||decide (0≤headN c nq fq (IntKind.wrap .i64 cmd)))&&decide (mode≤4)))
def mayB (c:Cfg) (nq:Nat) (fq:Nat→Int) (l:List AC):Bool:=mayH c nq fq (asI (l.getD 40 nov)) (asI (l.getD 41 nov))&&mayL (hasB c nq fq) l
theorem mayB_eq (c:Cfg) (nq:Nat) (fq:Nat→Int) (v:Vw):mayB c nq fq (vwL v)=(mayH c nq fq v.command v.mode&&mayL (hasB c nq fq) (vwL v)):=rfl
def mayR (c:Cfg) (nq:Nat) (fq:Nat→Int) (l:List AC) (_:List AV):AV:=bo (mayB c nq fq l)
def ctMay:CtF:=ctRd netRd (rV mayR) (pV fun _ r=>r.isEmpty)
theorem ct_may:CtOk Tryz.prog 20 ctMay:=by
 refine ctVw_of (E:=ENmy Tryz.prog) hENmy ⟨_,_,Tryz.func20,rfl⟩ (fun _ _ _ _ _=>rfl) fun c nq fq v r hr=>?_
 obtain rfl:=List.isEmpty_iff.1 hr
 have hR:mayR c nq fq (vwL v) []=bo (mayH c nq fq v.command v.mode&&mayL (hasB c nq fq) (vwL v)):=rfl
 rw[hR]
 obtain⟨j,hj,hmin,hyes⟩:=first_stop 8 fun p=>!mayP (hasB c nq fq) v p
 have hmin:∀i,i<j→mayP (hasB c nq fq) v i=true:=fun i hi=>by simpa using hmin i hi
 have hyes:j<8→mayP (hasB c nq fq) v j=false:=fun h=>by simpa using hyes h
 rcases Nat.lt_or_ge j 8 with h8|h8
 · have hL:mayL (hasB c nq fq) (vwL v)=false:=by
    cases h:mayL (hasB c nq fq) (vwL v) with
    |false=>rfl
    |true=>rw[(mayL_iff _ _).1 h j h8] at hyes;exact absurd (hyes h8) (by simp)
   rw[hL,Bool.and_false]
   refine(?_:(∃p q,vwE (ENmy Tryz.prog) 20 c nq fq v [] p [some ⟨myH,myI,mkFr 67 [(4,bo false)],[],100000000000000000000000000000000000000000000000000,.ret⟩]=some q∧GoodF (bo false) q)→_) (mbMyN c nq fq v _ ?_)
   · rintro⟨p,q,h1,h2⟩
     exact⟨p,_,q,h1,h2⟩
   · have hs:∀N,1010≤N→N≤1000000000000000000000000000000000000000000→myI.all (keptB N 100000000000000000000000000000000000000000000000000)=true→(∀k,(myV k).all (okV N)=true)→_:=fun N a b d f=>my_ob c nq fq v N a b d f j hj hmin hyes (e:=.ret) (out:=[(4,bo false)]) ⟨fun _=>⟨rfl,rfl⟩,fun h=>by omega⟩
     (repeat' (first|refine⟨fun h=>?_,fun h=>?_⟩|fail))
     all_goals (refine⟨rfl,(by first|(unfold lim;omega)|(dsimp only;unfold lim;omega)),?_,fun q hq=>?_⟩)
     all_goals first
      |(cases hq;done)
      |(rw[List.mem_singleton.1 hq];exact hs _ (by omega) (by omega) (by kernel_rfl) (fun _=>rfl))
      |(simp_all[allT,cfgK_t,netK_t,intsOk_ints,stsOk_sts,intsOk_s,stsOk_s,isVw_cells];done)
      |(simp_all[allT,cfgK_t,netK_t,intsOk_ints,stsOk_sts,intsOk_s,stsOk_s,isVw_cells];omega)
 · obtain rfl:j=8:=by omega
   have hL:mayL (hasB c nq fq) (vwL v)=true:=(mayL_iff _ _).2 hmin
   rw[hL,Bool.and_true]
   refine(?_:(∃p q,vwE (ENmy Tryz.prog) 20 c nq fq v [] p [some ⟨myH,myI,mkFr 67 [],[],100000000000000000000000000000000000000000000000000,.exit 0⟩]=some q∧GoodF (bo (mayH c nq fq v.command v.mode)) q)→_) (mbMyY c nq fq v _ ?_)
   · rintro⟨p,q,h1,h2⟩
     exact⟨p,_,q,h1,h2⟩
   · have hs:∀N,1010≤N→N≤1000000000000000000000000000000000000000000→myI.all (keptB N 100000000000000000000000000000000000000000000000000)=true→(∀k,(myV k).all (okV N)=true)→_:=fun N a b d f=>my_ob c nq fq v N a b d f 8 hj hmin hyes (e:=.exit 0) (out:=[]) ⟨fun h=>by omega,fun _=>⟨rfl,rfl⟩⟩
     (repeat' (first|refine⟨fun h=>?_,fun h=>?_⟩|fail))
     all_goals (refine⟨?_,(by first|(unfold lim;omega)|(dsimp only;unfold lim;omega)),?_,fun q hq=>?_⟩)
     all_goals first
      |(cases hq;done)
      |(rw[List.mem_singleton.1 hq];exact hs _ (by omega) (by omega) (by kernel_rfl) (fun _=>rfl))
      |(simp_all[mayH,bo];done)
      |(simp_all[mayH,bo];omega)
      |(simp_all[allT,cfgK_t,netK_t,intsOk_ints,stsOk_sts,intsOk_s,stsOk_s,isVw_cells];done)
      |(simp_all[allT,cfgK_t,netK_t,intsOk_ints,stsOk_sts,intsOk_s,stsOk_s,isVw_cells];omega)
end Go.Proofs.YtpgaplcdbbnblaaGreatDoor
end
/- sennitref22: May's contract, list's contract. -/
section
namespace Go.Proofs.YtpgaplcdbbnblaaGreatDoor
open Go.RowKit
set_option maxHeartbeats 1000000 in
theorem rm_ob (c:Cfg) (v:Vw) (h8:c.np≤8) (hp:PosV v) (j:Nat) (hj:j≤8) (hmin:∀i,i<j→mayP (npB c.np) v i=true) (hyes:j<8→mayP (npB c.np) v j=false) {e:Exit} {out:List (Nat × AV)} {mF:AMem}
 (hF:(j<8→e= .ret∧out=[(4,bo false)]∧mF=[])∧(j=8→e= .exit 0∧out=rmO∧mF=rmM c v)):
 LoopV Tryz.prog (loopAt Tryz.prog 24 0) rmH rmI ((rmV 0).map some) ([cfgB c,vwB v].map some) 84 1004 (mkFr 84 out) mF 100000000000000000000000000000000000000000000000000 e none:=by
 have hlow:∀b∈[cfgB c,vwB v],lowB 1004 b:=by
  intro b hb
  simp only[List.mem_cons,List.not_mem_nil,or_false] at hb
  rcases hb with rfl|rfl
  · exact cfgB_low (by omega)
  · exact vwB_low
 refine scan_ob hE1 (fuel:=100) (str:=10000000000000000000000000000000000000000) (nh:=1000000000000000000000000000000000000000000) rmH [4] rmI rmV [cfgB c,vwB v] j (by omega) (by decide) (by unfold lim;omega) ?_ (fun _=>⟨rfl,rfl⟩) (by kernel_rfl) (fun k _=>rfl) hlow ?_ ?_
 · rcases Nat.lt_or_ge j 8 with h|h
   · rw[(hF.1 h).1];simp
   · rw[(hF.2 (by omega)).1];simp
 · intro k hkj
   have hm:=hmin k hkj
   have hk8:k<8:=by omega
   obtain⟨p1,p2,p3⟩:=hp k hk8
   refine rmT c v k _ ?_
   rw[mayP_eq] at hm
   clear hmin hyes hF hp
   have w1:IntKind.wrap IntKind.i64 (Int.ofNat k+Int.ofNat 1)=Int.ofNat (k+1):=by rw[wrap_nat _ (by simp;omega) (by simp;omega)];rfl
   unfold npB emptyB at hm
   simp only[vw_inn v k hk8,vw_innB v k hk8,(vw_got v k hk8).1,(vw_miss v k hk8).1,(vw_good v k hk8).1,(vw_score v k hk8).1,(vw_got v k hk8).2,(vw_miss v k hk8).2,(vw_good v k hk8).2,(vw_score v k hk8).2,w1]
   simp only[Bool.and_eq_true,Bool.or_eq_true,decide_eq_true_eq,Bool.not_eq_true'] at hm
   (repeat' (first|refine⟨fun h=>?_,fun h=>?_⟩|fail))
   all_goals (first|contradiction|(exfalso;simp only[decide_eq_true_eq,decide_eq_false_iff_not,Int.ofNat_eq_natCast,Int.cast_ofNat_Int,gt_iff_lt,ge_iff_le] at *;simp_all;done)|(exfalso;simp only[decide_eq_true_eq,decide_eq_false_iff_not,Int.ofNat_eq_natCast,Int.cast_ofNat_Int,gt_iff_lt,ge_iff_le] at *;simp_all;omega)|skip)
   all_goals (refine⟨⟨?_,rfl,by dsimp only;omega,rfl⟩,rfl,rfl,BL.refl _⟩)
   all_goals first
    |(simp_all[allT,cfgK_t,netK_t,intsOk_ints,stsOk_sts,intsOk_s,stsOk_s,inb_lit,Vw.len];done)
    |(simp_all[allT,cfgK_t,netK_t,intsOk_ints,stsOk_sts,intsOk_s,stsOk_s,inb_lit,Vw.len];omega)
 · rcases Nat.lt_or_ge j 8 with hk8|hge
   · obtain ⟨rfl,rfl,rfl⟩:=hF.1 hk8
     have hm:=hyes hk8
     obtain⟨p1,p2,p3⟩:=hp j hk8
     clear hmin hyes hF hp
     rw[mayP_eq] at hm
     refine rmT c v j _ ?_
     unfold npB emptyB at hm
     simp only[vw_inn v j hk8,vw_innB v j hk8,(vw_got v j hk8).1,(vw_miss v j hk8).1,(vw_good v j hk8).1,(vw_score v j hk8).1,(vw_got v j hk8).2,(vw_miss v j hk8).2,(vw_good v j hk8).2,(vw_score v j hk8).2]
     (repeat' (first|refine⟨fun h=>?_,fun h=>?_⟩|fail))
     all_goals (first|contradiction|(exfalso;simp only[decide_eq_true_eq,decide_eq_false_iff_not,Int.ofNat_eq_natCast,Int.cast_ofNat_Int,gt_iff_lt,ge_iff_le] at *;omega)|skip)
     all_goals (first
      | (refine EndV_one ⟨?_,rfl,by dsimp only;omega,rfl⟩ rfl rfl ?_
         · first
            |(simp_all[allT,cfgK_t,netK_t,intsOk_ints,stsOk_sts,intsOk_s,stsOk_s,inb_lit,Vw.len];done)
            |(simp_all[allT,cfgK_t,netK_t,intsOk_ints,stsOk_sts,intsOk_s,stsOk_s,inb_lit,Vw.len];omega)
         · simp[bo])
      |(exfalso;simp only[decide_eq_true_eq,decide_eq_false_iff_not,Int.ofNat_eq_natCast,Int.cast_ofNat_Int,gt_iff_lt,ge_iff_le] at *;simp_all;done)
      |(exfalso;simp only[decide_eq_true_eq,decide_eq_false_iff_not,Int.ofNat_eq_natCast,Int.cast_ofNat_Int,gt_iff_lt,ge_iff_le] at *;simp_all;omega))
   · obtain⟨rfl,rfl,rfl⟩:=hF.2 (by omega)
     have hj8:j=8:=by omega
     refine rmT c v j _ ?_
     refine⟨fun h1=>?_,fun h1=>?_⟩
     · exfalso;simp at h1;omega
     · refine⟨⟨by simp_all[allT],rfl,by dsimp only;omega,rfl⟩,rfl,fun q hq=>?_,fun p hpp=>?_⟩
       · simp only[List.mem_cons,List.not_mem_nil,or_false] at hq
         rcases hq with rfl|rfl
         · exact⟨rfl,.head _⟩
         · exact⟨rfl,.tail _ (.head _)⟩
       · simp only[List.mem_cons,List.not_mem_nil,or_false] at hpp
         rcases hpp with rfl|rfl
         · exact⟨by kernel_rfl,cfgB_low (by omega),cfgB c,.head _,BEq.refl _⟩
         · exact⟨by kernel_rfl,vwB_low,vwB v,.tail _ (.head _),BEq.refl _⟩
def rmayH (np:Nat) (cmd mode:Int):Bool:=decide (-1≤cmd)&&(decide (IntKind.wrap .i64 cmd<np)&&decide (mode≤4))
def rmayB (np:Nat) (l:List AC):Bool:=rmayH np (asI (l.getD 40 nov)) (asI (l.getD 41 nov))&&mayL (npB np) l
def ctRMay:CtF:=ctRd cfgRd (fun|⟨c,[.agg l]⟩=>bo (rmayB c.np l)|_=>bo false) (fun|⟨c,[.agg l]⟩=>isVw l&&(posL l&&decide (c.np≤8))|_=>false)
theorem ct_rmay:CtOk Tryz.prog 24 ctRMay:=by
 refine ctRd_ofE (E:=E1 Tryz.prog) hE1 cfgRd (fuel:=300) (str:=10000000000000000000000000000000000000000) ⟨_,_,Tryz.func24,rfl⟩ (fun s=>by split<;>rfl) fun s hs=>?_
 split at hs
 · rename_i c l
   simp only[Bool.and_eq_true,decide_eq_true_eq] at hs
   obtain⟨hl,hp,h8⟩:=hs
   have e:=vw_eq hl
   generalize vwOf l=v at e
   subst e
   have hp:=(posL_iff v).1 hp
   have hR:rmayB c.np (vwL v)=(rmayH c.np v.command v.mode&&mayL (npB c.np) (vwL v)):=rfl
   simp only[hR]
   obtain⟨j,hj,hmin,hyes⟩:=first_stop 8 fun p=>!mayP (npB c.np) v p
   have hmin:∀i,i<j→mayP (npB c.np) v i=true:=fun i hi=>by simpa using hmin i hi
   have hyes:j<8→mayP (npB c.np) v j=false:=fun h=>by simpa using hyes h
   rcases Nat.lt_or_ge j 8 with h8'|h8'
   · have hL:mayL (npB c.np) (vwL v)=false:=by
      cases h:mayL (npB c.np) (vwL v) with
      |false=>rfl
      |true=>rw[(mayL_iff _ _).1 h j h8'] at hyes;exact absurd (hyes h8') (by simp)
     rw[hL,Bool.and_false]
     refine(?_:(∃p q,cvE (E1 Tryz.prog) 24 c [.agg (vwL v)] p [some ⟨rmH,rmI,mkFr 84 [(4,bo false)],[],100000000000000000000000000000000000000000000000000,.ret⟩]=some q∧GoodF (bo false) q)→_) (rmN c v _ ?_)
     · rintro⟨p,q,h1,h2⟩
       exact⟨p,_,q,h1,h2⟩
     · have hs:=rm_ob c v h8 hp j hj hmin hyes (e:=.ret) (out:=[(4,bo false)]) (mF:=[]) ⟨fun _=>⟨rfl,rfl,rfl⟩,fun h=>by omega⟩
       refine⟨rfl,(by first|(unfold lim;omega)|(dsimp only;unfold lim;omega)),by simp[allT,cfgK_t,netK_t,intsOk_ints,stsOk_sts,intsOk_s,stsOk_s],fun q hq=>?_⟩
       rw[List.mem_singleton.1 hq];exact hs
   · obtain rfl:j=8:=by omega
     have hL:mayL (npB c.np) (vwL v)=true:=(mayL_iff _ _).2 hmin
     rw[hL,Bool.and_true]
     refine(?_:(∃p q,cvE (E1 Tryz.prog) 24 c [.agg (vwL v)] p [some ⟨rmH,rmI,mkFr 84 rmO,rmM c v,100000000000000000000000000000000000000000000000000,.exit 0⟩]=some q∧GoodF (bo (rmayH c.np v.command v.mode)) q)→_) (rmY c v _ ?_)
     · rintro⟨p,q,h1,h2⟩
       exact⟨p,_,q,h1,h2⟩
     · have hs:=rm_ob c v h8 hp 8 hj hmin hyes (e:=.exit 0) (out:=rmO) (mF:=rmM c v) ⟨fun h=>by omega,fun _=>⟨rfl,rfl,rfl⟩⟩
       unfold rmayH
       (repeat' (first|refine⟨fun h=>?_,fun h=>?_⟩|fail))
       all_goals (refine⟨?_,(by first|(unfold lim;omega)|(dsimp only;unfold lim;omega)),?_,fun q hq=>?_⟩)
       all_goals first
        |(rw[List.mem_singleton.1 hq];exact hs)
        |(simp_all[bo];done)
        |(simp_all[bo];intros;omega)
        |(simp_all[allT,cfgK_t,netK_t,intsOk_ints,stsOk_sts,intsOk_s,stsOk_s,inb_lit,Vw.len];done)
 · cases hs
/-! list -/
theorem rl_blk (v:Vw) (k:Nat) (hk:k<8) {a b:Int} {x3 x4 x5:AC} (ha:a=oneI (v.inn k)) (hb:b=oneI (v.got k)) (h3:asI x3=v.miss k) (h4:asI x4=v.good k) (h5:asI x5=v.score k):
 BEq ⟨true,true,3,1,.arr (5*k+5) fun i=>if i<5*k then List.map AC.v ((fun j=>[Value.int .i64 (keyF (vwL v) j)]) i) else elt (ABlk.mk true false 3 0 (Cs.lit [.v (.int .i64 a),.v (.int .i64 b),.v (.int .i64 (IntKind.wrap .i64 (asI x3))),.v (.int .i64 (IntKind.wrap .i64 (asI x4))),.v (.int .i64 (IntKind.wrap .i64 (asI x5)))])) 0 0 1 (i-5*k)⟩ (rlK v (k+1)):=by
 obtain⟨e0,e1,e2,e3,e4⟩:=key_in v k hk
 rw[h3,h4,h5,ha,hb]
 refine⟨rfl,rfl,rfl,rfl,.inr (.inl ⟨5*k+5,_,_,rfl,rfl,fun i hi=>?_⟩)⟩
 by_cases hlt:i<5*k
 · rw[if_pos hlt]
 · rw[if_neg hlt]
   have hr:i=5*k∨i=5*k+1∨i=5*k+2∨i=5*k+3∨i=5*k+4:=by omega
   rcases hr with rfl|rfl|rfl|rfl|rfl
   · rw[Nat.sub_self];simp only[List.map_cons,List.map_nil,e0];rfl
   · rw[show 5*k+1-5*k=1 by omega];simp only[List.map_cons,List.map_nil,e1];rfl
   · rw[show 5*k+2-5*k=2 by omega];simp only[List.map_cons,List.map_nil,e2];rfl
   · rw[show 5*k+3-5*k=3 by omega];simp only[List.map_cons,List.map_nil,e3];rfl
   · rw[show 5*k+4-5*k=4 by omega];simp only[List.map_cons,List.map_nil,e4];rfl
theorem rlK_low {N:Nat} {v:Vw} {k:Nat}:lowB N (rlK v k):=low_arr fun _ _=>low_map _ _
theorem rl_sum (v:Vw):
 LoopV Tryz.prog (loopAt Tryz.prog 70 0) [3,1,4] [1000] (some (.c (.v (.slice none 0 0)))::(rlV 0).map some) [some (vwB v)] 48 1004 (mkFr 48 ((3,.c (.sl rlG 0 0 40 none))::[(1,.c (.ptr 1000 0 0))])) ((rlG,rlK v 8)::[(1000,vwB v)]) 100000000000000000000000000000000000000000000000000 (.exit 0) none:=by
 refine loop_growE hE1 (fuel:=100) (str:=10000000000000000000000000000000000000000) (nh:=1000000000000000000000000000000000000000000) (n:=1004) (n':=100000000000000000000000000000000000000000000000000) (S:=Nat) (fun k=>k≤8) (fun k=>8-k) 3 rlG [1,4] [rlG,1190000000000000000000000000000000000000012,1190000000000000000000000000000000000000013,1190000000000000000000000000000000000000014] [1000] (fun k=>5*k) (rlK v) rlV (fun _=>[vwB v]) (by decide) (by decide) (by decide) (by unfold lim;omega) (s0:=0) (Nat.zero_le _) rfl ⟨_,rfl⟩ (Nat.succ_pos 0) (fun _=>⟨rfl,rfl⟩) (by kernel_rfl) (BL.refl [vwB v]) (fun k _=>⟨rfl,fun b hb=>by rw[List.mem_singleton.1 hb];exact vwB_low,rlK_low⟩) rlK_low fun k hk=>?_
 refine(?_:(∃p r,rlR Tryz.prog v k p=some r∧_)→_) (rlT v k (StepG 1004 1000000000000000000000000000000000000000000 100000000000000000000000000000000000000000000000000 48 rlG [1,4] [rlG,1190000000000000000000000000000000000000012,1190000000000000000000000000000000000000013,1190000000000000000000000000000000000000014] [1000] (fun k=>k≤8) (fun k=>8-k) (fun k=>5*k) (rlK v) rlV (fun _=>[vwB v]) (.exit 0) 40 (rlK v 8) [(1,.c (.ptr 1000 0 0))] ([1000].zip [vwB v]) k) ?_)
 · rintro⟨p,r,h1,h2⟩
   exact⟨p,[],r,h1,h2⟩
 · rcases Nat.lt_or_ge k 8 with hk8|hge
   · have w1:IntKind.wrap IntKind.i64 (Int.ofNat k+Int.ofNat 1)=Int.ofNat (k+1):=by rw[wrap_nat _ (by simp;omega) (by simp;omega)];rfl
     have i1:=vw_inn v k hk8
     have g1:=(vw_got v k hk8).1
     (repeat' (first|refine⟨fun h=>?_,fun h=>?_⟩|fail))
     all_goals (first|(exfalso;simp only[decide_eq_false_iff_not,Int.ofNat_eq_natCast,Int.cast_ofNat_Int] at *;omega)|skip)
     all_goals first
      |refine⟨?_,(fun q hq=>by cases hq),by dsimp only;omega,rfl,.inl ⟨rfl,k+1,hk8,by show 8-(k+1)<8-k;omega,by dsimp only;rw[w1];rfl,BL.refl [vwB v],1190000000000000000000000000000000000000014,_,rfl,.inr ⟨by decide,by decide⟩,.tail _ (.tail _ (.tail _ (.head _))),?_⟩⟩
      |refine⟨?_,(fun q hq=>by cases hq),by dsimp only;omega,rfl,.inl ⟨rfl,k+1,hk8,by show 8-(k+1)<8-k;omega,by dsimp only;rw[w1];rfl,BL.refl [vwB v],1190000000000000000000000000000000000000013,_,rfl,.inr ⟨by decide,by decide⟩,.tail _ (.tail _ (.head _)),?_⟩⟩
      |refine⟨?_,(fun q hq=>by cases hq),by dsimp only;omega,rfl,.inl ⟨rfl,k+1,hk8,by show 8-(k+1)<8-k;omega,by dsimp only;rw[w1];rfl,BL.refl [vwB v],1190000000000000000000000000000000000000012,_,rfl,.inr ⟨by decide,by decide⟩,.tail _ (.head _),?_⟩⟩
     all_goals (first|exact rl_blk v k hk8 (by simp_all[oneI]) (by simp_all[oneI]) (vw_miss v k hk8).1 (vw_good v k hk8).1 (vw_score v k hk8).1|skip)
     all_goals (simp only[vw_innB v k hk8,(vw_got v k hk8).2,(vw_miss v k hk8).2,(vw_good v k hk8).2,(vw_score v k hk8).2];simp_all[allT,inb_lit,Vw.len];try omega)
   · obtain rfl:k=8:=by omega
     (repeat' (first|refine⟨fun h=>?_,fun h=>?_⟩|fail))
     all_goals (first|(exfalso;simp only[decide_eq_true_eq,Int.ofNat_eq_natCast,Int.cast_ofNat_Int] at *;omega)|skip)
     refine⟨by simp[allT],(fun q hq=>by cases hq),by dsimp only;omega,rfl,.inr ⟨by simp,rfl,fun q hq=>?_,mf_all (by kernel_rfl) (fun b hb=>by rw[List.mem_singleton.1 hb];exact vwB_low) rfl,rlG,_,rfl,.inl rfl,.head _,BEq.refl _⟩⟩
     rw[List.mem_singleton.1 hq]
     exact⟨rfl,.head _⟩
end Go.Proofs.YtpgaplcdbbnblaaGreatDoor
end
/- sennitref22's contracts, told by named functions. -/
section
namespace Go.Proofs.YtpgaplcdbbnblaaGreatDoor
open Go.RowKit
def qfR:CfgS→AV
 |⟨c,[]⟩=>.agg (vwL (rfV c.np))
 |_=>i64 0
def qfP:CfgS→Bool
 |⟨c,[]⟩=>decide (c.np≤8)
 |_=>false
def qhR:CfgS→AV
 |⟨c,[.agg l,.c (.v (.int .i64 z))]⟩=>.agg (hrdL (decide (0≤z∧z<c.np)) z l)
 |_=>i64 0
def qhP:CfgS→Bool
 |⟨c,[.agg l,.c (.v (.int .i64 _))]⟩=>isVw l&&decide (c.np≤8)
 |_=>false
def qmR:CfgS→AV
 |⟨c,[.agg l]⟩=>bo (rmayB c.np l)
 |_=>bo false
def qmP:CfgS→Bool
 |⟨c,[.agg l]⟩=>isVw l&&(posL l&&decide (c.np≤8))
 |_=>false
def qrR:CfgS→AV
 |⟨c,[.agg l]⟩=>.agg (rndL ⟨c.np,c.miss,c.good⟩ l)
 |_=>i64 0
def qrP:CfgS→Bool
 |⟨c,[.agg l]⟩=>isVw l&&(bndL l&&decide (c.np≤8))
 |_=>false
theorem qfP_eq (c:Cfg):qfP ⟨c,[]⟩=decide (c.np≤8):=rfl
theorem qhP_eq (c:Cfg) (l:List AC) (z:Int):qhP ⟨c,[.agg l,.c (.v (.int .i64 z))]⟩=(isVw l&&decide (c.np≤8)):=rfl
theorem qmP_eq (c:Cfg) (l:List AC):qmP ⟨c,[.agg l]⟩=(isVw l&&(posL l&&decide (c.np≤8))):=rfl
theorem qrP_eq (c:Cfg) (l:List AC):qrP ⟨c,[.agg l]⟩=(isVw l&&(bndL l&&decide (c.np≤8))):=rfl
theorem ct_same {P:Program} {f:FuncId} {R R':CfgS→AV} {p p':CfgS→Bool} (h:CtOk P f (ctRd cfgRd R p)) (hR:∀s,R' s=R s) (hp:∀s,p' s=p s):CtOk P f (ctRd cfgRd R' p'):=by
 obtain rfl:R'=R:=funext hR
 obtain rfl:p'=p:=funext hp
 exact h
theorem ct_qf:CtOk Tryz.prog 27 (ctRd cfgRd qfR qfP):=ct_same ct_rfst (fun s=>by unfold qfR;rfl) (fun s=>by unfold qfP;rfl)
theorem ct_qh:CtOk Tryz.prog 25 (ctRd cfgRd qhR qhP):=ct_same ct_rhrd (fun s=>by unfold qhR;rfl) (fun s=>by unfold qhP;rfl)
theorem ct_qm:CtOk Tryz.prog 24 (ctRd cfgRd qmR qmP):=ct_same ct_rmay (fun s=>by unfold qmR;rfl) (fun s=>by unfold qmP;rfl)
theorem ct_qr:CtOk Tryz.prog 26 (ctRd cfgRd qrR qrP):=ct_same ct_rrnd (fun s=>by unfold qrR;rfl) (fun s=>by unfold qrP;rfl)
end Go.Proofs.YtpgaplcdbbnblaaGreatDoor
end
/- sennitref22.list: its contract. -/
section
namespace Go.Proofs.YtpgaplcdbbnblaaGreatDoor
open Go.RowKit
abbrev rlS (v:Vw):LSum:=⟨[3,1,4],[1000],mkFr 48 ((3,.c (.sl rlG 0 0 40 none))::[(1,.c (.ptr 1000 0 0))]),(rlG,rlK v 8)::[(1000,vwB v)],100000000000000000000000000000000000000000000000000,.exit 0⟩
abbrev rlN:Nat:=100000000000000000000000000000000000000000000000008
def rlE (P:Program) (v:Vw) (path:List Dec) (lp:List (Option LSum)):Option VF:=viewF [rlN] (fCallF (E1 P) (fC (E1 P) 300) 70 [.agg (vwL v)] 1000 10000000000000000000000000000000000000000 (stA [] path lp))
theorem rlF (v:Vw) (Q:VF→Prop) (H:Q (.c (.sl 100000000000000000000000000000000000000000000000008 0 0 42 none),[some (ABlk.mk true true 3 1 (Cs.arr 42 fun i=>if i<40 then List.map AC.v ((fun j=>[Value.int .i64 (keyF (vwL v) j)]) i) else elt (ABlk.mk true false 3 0 (Cs.lit [.v (.int .i64 (IntKind.wrap .i64 (Vw.command v))),.v (.int .i64 (IntKind.wrap .i64 (Vw.mode v)))])) 0 0 1 (i-40)))],100000000000000000000000000000000000000000000000010,[true,true,true,true,true,true,true,true],[LoopV Tryz.prog (loopAt Tryz.prog 70 0) [3,1,4] [1000] [some (.c (AC.v (Value.slice none 0 0))),some (.c (.ptr 1000 0 0)),some (.c (.v (.int .i64 (Int.ofNat 0))))] [some (ABlk.mk true false 32 0 (Cs.lit (vwL v)))] 48 1004 (mkFr 48 [(3,.c (.sl rlG 0 0 40 none)),(1,.c (.ptr 1000 0 0))]) [(rlG,rlK v 8),(1000,vwB v)] 100000000000000000000000000000000000000000000000000 (Exit.exit 0) none])):
 ∃p r,rlE Tryz.prog v p [some (rlS v)]=some r∧Q r:=
 ⟨pD 0 0,_,by kernel_rfl,H⟩
end Go.Proofs.YtpgaplcdbbnblaaGreatDoor
end
/- sennitref22.list: its contract; Less as the evaluator runs it. -/
section
namespace Go.Proofs.YtpgaplcdbbnblaaGreatDoor
open Go.RowKit
def kB (l:List AC):ABlk:=wBlk 3 1 42 fun j=>[.int .i64 (keyF l j)]
def rlB:List AV→ABlk
 | [.agg l]=>kB l
 |_=>kB []
def rlP:List AV→Bool
 | [.agg l]=>isVw l
 |_=>false
def ctRLst:CtF:=ctRdR (pureRd [] rfl) (fun _=>42) rlB rlP
theorem rlB_cs (s:List AV):∃q F,(rlB s).cs= .arr q F:=by unfold rlB;split<;>exact⟨_,_,rfl⟩
theorem rl_fin (v:Vw):BEq ⟨true,true,3,1,.arr (40+2) fun i=>if i<40 then List.map AC.v ((fun j=>[Value.int .i64 (keyF (vwL v) j)]) i) else elt (ABlk.mk true false 3 0 (Cs.lit [.v (.int .i64 (IntKind.wrap .i64 v.command)),.v (.int .i64 (IntKind.wrap .i64 v.mode))])) 0 0 1 (i-40)⟩ (kB (vwL v)):=by
 obtain⟨e0,e1⟩:=key_end v
 refine⟨rfl,rfl,rfl,rfl,.inr (.inl ⟨42,_,_,rfl,rfl,fun i hi=>?_⟩)⟩
 by_cases hlt:i<40
 · rw[if_pos hlt]
 · rw[if_neg hlt]
   have hr:i=40∨i=41:=by omega
   rcases hr with rfl|rfl
   · simp only[List.map_cons,List.map_nil,e0];rfl
   · simp only[List.map_cons,List.map_nil,e1];rfl
theorem ct_rlst:CtOk Tryz.prog 70 ctRLst:=by
 refine ctRdR_of rlB_cs (ctRdL_of (E:=E1 Tryz.prog) hE1 (pureRd [] rfl) (fuel:=300) (str:=10000000000000000000000000000000000000000) rlN ⟨_,_,Tryz.func70,rfl⟩ (fun s=>by unfold rlB;split<;>rfl) rlB_cs (fun s=>by unfold rlB;split<;>exact wBlk_pl (fun _=>rfl)) fun s hs=>?_)
 unfold rlP at hs
 split at hs
 · rename_i l
   have e:=vw_eq hs
   generalize vwOf l=v at e
   subst e
   refine(?_:(∃p q,rlE Tryz.prog v p [some (rlS v)]=some q∧GoodL rlN 42 (kB (vwL v)) q)→_) (rlF v _ ?_)
   · rintro⟨p,q,h1,h2⟩
     exact⟨p,_,q,h1,h2⟩
   · refine⟨rfl,⟨_,rfl,rl_fin v⟩,(by first|(unfold lim;omega)|(dsimp only;unfold lim;omega)),by simp[allT],fun q hq=>?_⟩
     rw[List.mem_singleton.1 hq]
     exact rl_sum v
 · cases hs
def ENll (P:Program):Env:=⟨P,[(70,ctRLst)]⟩
theorem hENll:EnvOk (ENll Tryz.prog):=by
 refine envOk (fun f g h=>?_) (by kernel_rfl) (by kernel_rfl)
 simp only[ENll,List.mem_cons,Prod.mk.injEq,List.not_mem_nil,or_false] at h
 obtain⟨rfl,rfl⟩:=h
 exact ct_rlst
end Go.Proofs.YtpgaplcdbbnblaaGreatDoor
end
/- sennitref22.Less as the evaluator runs it. -/
section
namespace Go.Proofs.YtpgaplcdbbnblaaGreatDoor
open Go.RowKit
abbrev kF (f:Nat→Int):ABlk:=roB (wBlk 3 1 42 fun j=>[.int .i64 (f j)])
abbrev rsH:List Nat:=[5,6,7]
abbrev rsI:List Nat:=[1004,1007]
abbrev rsV (k:Nat):List AV:=[.c (.sl 1004 0 0 42 none),.c (.sl 1007 0 0 42 none),i64 (Int.ofNat k)]
def rsR (P:Program) (f g:Nat→Int) (k:Nat) (path:List Dec):Option VC:=
 view (rsH++[4]) rsI (fC (ENll P) 100 (loopAt P 18 0) 1000000000000000000000000000000000000000000 10000000000000000000000000000000000000000 (stH 36 rsH rsI (rsV k) [kF f,kF g] path []))
def rsE (P:Program) (a b:Vw) (path:List Dec) (lp:List (Option LSum)):Option VF:=viewF [] (fCallF (ENll P) (fC (ENll P) 300) 18 [.agg (vwL a),.agg (vwL b)] 1000 10000000000000000000000000000000000000000 (stA [] path lp))
theorem rsT (f g:Nat→Int) (k:Nat) (Q:VC→Prop) (H:let zz0:=(ABlk.mk false true 3 1 (Cs.arr 42 fun k=>List.map AC.v ((fun j=>[Value.int IntKind.i64 (f j)]) k)));let zz1:=(ABlk.mk false true 3 1 (Cs.arr 42 fun k=>List.map AC.v ((fun j=>[Value.int IntKind.i64 (g j)]) k)));let zz2:=(f (0+Int.toNat (Int.ofNat k)) !=g (0+Int.toNat (Int.ofNat k)));let zq0:List Bool:=[ABlk.inb zz1 (0+Int.toNat (Int.ofNat k)) 1,true,decide (Int.ofNat 0≤Int.ofNat k∧Int.ofNat k<Int.ofNat 42),ABlk.inb zz0 (0+Int.toNat (Int.ofNat k)) 1,true,decide (Int.ofNat 0≤Int.ofNat k∧Int.ofNat k<Int.ofNat 42),decide (Int.ofNat k<Int.ofNat 42)==true];(((decide (Int.ofNat k<Int.ofNat 42))=true→((zz2=true→Q (Exit.ret,[some (lkA (List.zip rsH (rsV k)) 5),some (lkA (List.zip rsH (rsV k)) 6),some (lkA (List.zip rsH (rsV k)) 7),some (.c (.v (.bool (decide (f (0+Int.toNat (Int.ofNat k))<g (0+Int.toNat (Int.ofNat k)))))))],[some zz0,some zz1],36,1190000000000000000000000000000000000000004,((ABlk.inb zz1 (0+Int.toNat (Int.ofNat k)) 1)::true::(decide (Int.ofNat 0≤Int.ofNat k∧Int.ofNat k<Int.ofNat 42))::(ABlk.inb zz0 (0+Int.toNat (Int.ofNat k)) 1)::true::(decide (Int.ofNat 0≤Int.ofNat k∧Int.ofNat k<Int.ofNat 42))::(zz2==true)::zq0),[]))∧(zz2=false→Q (Exit.normal,[some (lkA (List.zip rsH (rsV k)) 5),some (lkA (List.zip rsH (rsV k)) 6),some (.c (.v (.int .i64 (IntKind.wrap .i64 (Int.ofNat k+Int.ofNat 1))))),some (lkA (List.zip rsH (rsV k)) 4)],[some zz0,some zz1],36,1090000000000000000000000000000000000000007,((zz2==false)::zq0),[]))))∧((decide (Int.ofNat k<Int.ofNat 42))=false→Q (Exit.exit 0,[some (lkA (List.zip rsH (rsV k)) 5),some (lkA (List.zip rsH (rsV k)) 6),some (lkA (List.zip rsH (rsV k)) 7),some (lkA (List.zip rsH (rsV k)) 4)],[some zz0,some zz1],36,1000000000000000000000000000000000000000004,[decide (Int.ofNat k<Int.ofNat 42)==false],[])))):
 ∃p r,rsR Tryz.prog f g k p=some r∧Q r:=
 two H
 (fun g1=>two g1
  (fun g2=>⟨pD 2 4,_,by kernel_rfl,g2⟩)
  (fun g2=>⟨pD 2 7,_,by kernel_rfl,g2⟩))
 (fun g1=>⟨pD 1 2,_,by kernel_rfl,g1⟩)
theorem rsN (a b:Vw) (u:Bool) (Q:VF→Prop) (H:Q (.c (.v (.bool u)),[],100000000000000000000000000000000000000000000000000,[true,true,true,true,true,true,true,true,true,true,true,true,true,true,true,true,true,true,true,true,true,true,true,true,true,true,true,true,true,true,true,true,true,true,true,true,true,true,true,true,true,true,true,true,true,true,true,true,true,true,true,true,true,true,true,true,true,true,true,true,true,true,true,true,true,true,true,true,true,true,true,true,true,true,true,true,true,true,true,true,true,true,true,true,true,true,true,true,true,true],[LoopV Tryz.prog (loopAt Tryz.prog 18 0) rsH rsI [some (.c (.sl 1004 0 0 42 none)),some (.c (.sl 1007 0 0 42 none)),some (.c (.v (.int .i64 (Int.ofNat 0))))] [some (ABlk.mk false true 3 1 (Cs.arr 42 fun k=>List.map AC.v ((fun j=>[Value.int .i64 (keyF (vwL a) j)]) k))),some (ABlk.mk false true 3 1 (Cs.arr 42 fun k=>List.map AC.v ((fun j=>[Value.int .i64 (keyF (vwL b) j)]) k)))] 36 1010 (mkFr 36 [(4,bo u)]) [] 100000000000000000000000000000000000000000000000000 Exit.ret none])):
 ∃p r,rsE Tryz.prog a b p [some ⟨rsH,rsI,mkFr 36 [(4,bo u)],[],100000000000000000000000000000000000000000000000000,.ret⟩]=some r∧Q r:=
 ⟨pD 0 0,_,by kernel_rfl,H⟩
theorem rsY (a b:Vw) (Q:VF→Prop) (H:Q (.c (.v (.bool false)),[],100000000000000000000000000000000000000000000000001,[true,true,true,true,true,true,true,true,true,true,true,true,true,true,true,true,true,true,true,true,true,true,true,true,true,true,true,true,true,true,true,true,true,true,true,true,true,true,true,true,true,true,true,true,true,true,true,true,true,true,true,true,true,true,true,true,true,true,true,true,true,true,true,true,true,true,true,true,true,true,true,true,true,true,true,true,true,true,true,true,true,true,true,true,true,true,true,true,true,true],[LoopV Tryz.prog (loopAt Tryz.prog 18 0) rsH rsI [some (.c (.sl 1004 0 0 42 none)),some (.c (.sl 1007 0 0 42 none)),some (.c (.v (.int .i64 (Int.ofNat 0))))] [some (ABlk.mk false true 3 1 (Cs.arr 42 fun k=>List.map AC.v ((fun j=>[Value.int .i64 (keyF (vwL a) j)]) k))),some (ABlk.mk false true 3 1 (Cs.arr 42 fun k=>List.map AC.v ((fun j=>[Value.int .i64 (keyF (vwL b) j)]) k)))] 36 1010 (mkFr 36 []) [] 100000000000000000000000000000000000000000000000000 (Exit.exit 0) none])):
 ∃p r,rsE Tryz.prog a b p [some ⟨rsH,rsI,mkFr 36 [],[],100000000000000000000000000000000000000000000000000,.exit 0⟩]=some r∧Q r:=
 ⟨pD 0 0,_,by kernel_rfl,H⟩
end Go.Proofs.YtpgaplcdbbnblaaGreatDoor
end
