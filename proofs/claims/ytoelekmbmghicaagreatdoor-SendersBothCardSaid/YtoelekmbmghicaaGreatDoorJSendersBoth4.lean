/- The symbolic evaluator: regions, code, calls: definitions. No Go text is in sight. -/
import Derived.Test.YtoelekmbmghicaaGreatDoorJSendersBoth3
import Derived.StillTail
import Derived.OrdersIn
import Derived.RangeFuncRecord
set_option linter.unusedSimpArgs false
set_option linter.unusedVariables false
section
namespace Go.Proofs.YtoelekmbmghicaaGreatDoor
open Go.RowKit
inductive Dec where
 | a
 | b (d : Bool)
structure LSum where
 slots : List Nat
 ids : List Nat
 tm : List AV
 m : AMem
 n : Nat
 e : Exit
structure St where
 tm : List AV
 m : AMem
 n : Nat
 str : Nat
 sk : Bool
 path : List Dec
 ob : List Bool
 po : List Prop
 ms : List Nat
 rd : Option Nat
 lp : List (Option LSum)
abbrev CtF := List AV → AMem → Nat → Option (AV × AMem × Nat × List Bool)
structure Env where
 P : Program
 ct : List (FuncId × CtF)
def ctLook (l : List (FuncId × CtF)) (f : FuncId) (args : List AV) (m : AMem) (n : Nat) : Option (AV × AMem × Nat × List Bool) :=
 match l with
 | [] => none
 | (g, c) :: r => match Nat.beq g f with | true => c args m n | false => ctLook r f args m n
def St.need (s : St) (l : List Bool) : Option St :=
 match s.sk with
 | true => match l.all (fun b => b) with | true => some s | false => none
 | false => some { s with ob := l ++ s.ob }
def putA (tm : List AV) : Option Tmp → AV → List AV
 | none, _ => tm
 | some d, v => tm.set d v
def St.put (s : St) (d : Option Tmp) (v : AV) : St := { s with tm := putA s.tm d v }
def St.dec (s : St) (t : Tmp) (b : Bool) : Option (Bool × St) :=
 match s.path with
 | .b d :: p => some (d, { s with path := p, tm := s.tm.set t (.c (.v (.bool d))), ob := (b == d) :: s.ob })
 | .a :: p => match b with | true => some (true, { s with path := p }) | false => some (false, { s with path := p })
 | _ => match b with | true => some (true, s) | false => some (false, s)
def guardA (ops : Array Oper) (o : Oper) (s : St) : Option (Bool × St) :=
 match o.guard with
 | none => some (true, s)
 | some (j, want) =>
  match (ops[j]?).bind (·.dst) with
  | none => some (false, s)
  | some t =>
   match s.tm[t]? with
   | some (.c (.v (.bool b))) => match s.dec t b with | some (d, s') => some (d == want, s') | none => none
   | some (.c (.v (.tuple _))) => some (false, s)
   | _ => none
def lim : Nat := 100000000000000000000000000000000000000000000000000000000000000000000000000000000
def callA (E : Env) (callF : FuncId → List AV → St → Option (AV × St)) (f : FuncId) (args : List AV) (s : St) : Option (AV × St) :=
 match ctLook E.ct f args s.m s.n with
 | some (r, news, k, ob) => match Nat.ble (s.n + k) lim, s.need ob with | true, some s => some (r, { s with m := s.m ++ news, n := s.n + k }) | _, _ => none
 | none => callF f args s
def opS (E : Env) (callF : FuncId → List AV → St → Option (AV × St)) (yF : Nat → List AV → St → Option (AV × St)) (ops : Array Oper) (o : Oper) (s : St) : Option St :=
 match guardA ops o s with
 | none => none
 | some (false, s) => some (s.put o.dst (.c (.v undef)))
 | some (true, s) =>
  match Nat.ble (s.n + 1) lim, aop E.P s.tm s.m s.n o.op with
  | true, some (.eff v news ob) => match s.need ob with | some s => some ({ s with m := s.m ++ news, n := s.n + 1 }.put o.dst v) | none => none
  | true, some (.upd v e ob) => match updOp o.op, s.need ob with | true, some s => some ({ s with m := e.on s.m, n := s.n + 1 }.put o.dst v) | _, _ => none
  | true, some (.call f args) => match callOp o.op, callA E callF f args s with | true, some (v, s) => some (s.put o.dst v) | _, _ => none
  | true, some (.yld id args) => match callOp o.op, yF id args s with | true, some (v, s) => some (s.put o.dst v) | _, _ => none
  | _, _ => none
def opsS (E : Env) (callF : FuncId → List AV → St → Option (AV × St)) (yF : Nat → List AV → St → Option (AV × St)) (ops : Array Oper) : List Oper → St → Option St
 | [], s => some s
 | o :: r, s => match opS E callF yF ops o s with | some s => opsS E callF yF ops r s | none => none
/-! ### a region that draws its order -/
def orL : List Bool → List Bool → List Bool
 | [], l => l
 | l, [] => l
 | x :: r, y :: q => (x || y) :: orL r q
def unitL : Nat → List Bool
 | 0 => [true]
 | n + 1 => false :: unitL n
def cloE (acc : List (List Bool)) : List Edge → List Bool
 | [] => []
 | e :: r => match Region.binds .any e with | true => orL (unitL e.on) (orL (acc.getD e.on []) (cloE acc r)) | false => cloE acc r
def clo : List Oper → List (List Bool) → List (List Bool)
 | [], acc => acc
 | o :: r, acc => clo r (acc ++ [cloE acc o.after.toList])
def waits (ops : Array Oper) (i j : Nat) : Bool := ((clo ops.toList []).getD i []).getD j false
def mask (ls : List Nat) : Nat → List AV → List AV
 | _, [] => []
 | i, x :: r => (match ls.contains i with | true => x | false => .any) :: mask ls (i + 1) r
def newsOf (ops : Array Oper) (i : Nat) : List (Nat × AMem) → AMem
 | [] => []
 | (j, l) :: r => match waits ops i j with | true => l ++ newsOf ops i r | false => newsOf ops i r
def newsAll : List (Nat × AMem) → AMem
 | [] => []
 | (_, l) :: r => l ++ newsAll r
def isO (x : ABlk) : Bool := match x.cs with | .obj _ => true | _ => false
def roM : AMem → AMem
 | [] => []
 | (i, b) :: r => match isO b with | true => delM (roM r) i | false => (i, { b with own := false }) :: roM r
def fromN (n : Nat) : AMem → AMem
 | [] => []
 | (i, b) :: r => match Nat.ble n i && Nat.blt i lim with | true => (match isO b with | true => delM (fromN n r) i | false => (i, b) :: fromN n r) | false => fromN n r
def inR (b str : Nat) (l : AMem) : Bool := l.all fun x => Nat.ble b x.1 && Nat.blt x.1 (b + str)
def opQ (E : Env) (callF : FuncId → List AV → St → Option (AV × St)) (ops : Array Oper) (i : Nat) (o : Oper) (mi : AMem) (b : Nat) (s : St) : Option (AV × AMem × St) :=
 match guardA ops o s with
 | none => none
 | some (false, s) => some (.c (.v undef), [], s)
 | some (true, s) =>
  match Nat.ble (b + s.str) lim && Nat.ble 1 s.str, aop E.P (mask (o.looksAt ops) 0 s.tm) mi b o.op with
  | true, some (.eff v news ob) => match inR b s.str news, s.need ob with | true, some s => some (v, news, s) | _, _ => none
  | true, some (.call f args) =>
   match callOp o.op, ctLook E.ct f args mi b with
   | true, some (r, news, k, ob) => match Nat.ble k s.str && inR b s.str news, s.need ob with | true, some s => some (r, news, s) | _, _ => none
   | true, none =>
    match callF f args { s with m := roM mi, n := b, str := s.str / 100000000, ms := [], rd := none } with
    | some (r, s') =>
     match Nat.ble s'.n (b + s.str) && (inR b s.str (fromN b s'.m) && (fromN b s'.m).all (fun x => x.2.own)) with
     | true => some (r, fromN b s'.m, { s with path := s'.path, lp := s'.lp, ob := s'.ob, po := s'.po })
     | false => none
    | none => none
   | _, _ => none
  | _, _ => none
def opsQ (E : Env) (callF : FuncId → List AV → St → Option (AV × St)) (ops : Array Oper) (n0 : Nat) : List Oper → Nat → List (Nat × AMem) → St → Option (List (Nat × AMem) × St)
 | [], _, acc, s => some (acc, s)
 | o :: r, i, acc, s =>
  match opQ E callF ops i o (s.m ++ newsOf ops i acc) (n0 + i * s.str) s with
  | some (v, news, s) => opsQ E callF ops n0 r (i + 1) (acc ++ [(i, news)]) (s.put o.dst v)
  | none => none
def apartB (ops : Array Oper) (q : Nat) : Bool :=
 (List.range q).all fun j => (List.range j).all fun i => waits ops j i || (match ops[i]?, ops[j]? with | some x, some y => x.apart ops y | _, _ => false)
def downB (ops : Array Oper) : Bool := (List.range ops.size).all fun i => match ops[i]? with | some o => o.after.toList.all fun e => !Region.binds .any e || Nat.blt e.on i | none => true
def firstN (ops : Array Oper) (q : Nat) : Array Bool := ((List.range ops.size).map fun i => Nat.blt i q).toArray
def drawOk (ops : Array Oper) (q : Nat) : Bool :=
 Region.noSelect ops && (downB ops && (apartB ops q && (Nat.ble q ops.size && (Region.seqB .any ops (ops.size - q) q (firstN ops q) && (Nat.beq q ops.size || (Region.sinkB .any ops q && Region.chainB .any ops q))))))
def quietLen : List Oper → Nat
 | [] => 0
 | o :: r => match updOp o.op with | true => 0 | false => quietLen r + 1
def regD (E : Env) (callF : FuncId → List AV → St → Option (AV × St)) (yF : Nat → List AV → St → Option (AV × St)) (ops : Array Oper) (s : St) : Option St :=
 match drawOk ops (quietLen ops.toList) with
 | true =>
  match opsQ E callF ops s.n (ops.toList.take (quietLen ops.toList)) 0 [] s with
  | some (acc, s') => opsS E callF yF ops (ops.toList.drop (quietLen ops.toList)) { s' with m := s'.m ++ newsAll acc, n := s'.n + quietLen ops.toList * s'.str }
  | none => none
 | false => none
/-! ### a region that draws its order, with operations that write anywhere -/
inductive AStep where
 | news (l : AMem)
 | efx (e : Efx)
 | many (ps : List (Nat × Option ABlk)) (l : AMem)
def putsOf : List (Nat × Option ABlk) → AMem
 | [] => []
 | (i, some b) :: r => (i, b) :: putsOf r
 | (_, none) :: r => putsOf r
def delK : List (Nat × Option ABlk) → AMem → AMem
 | [], m => m
 | (i, _) :: r, m => delM (delK r m) i
def AStep.on : AStep → AMem → AMem
 | .news l, m => m ++ l
 | .efx e, m => e.on m
 | .many ps l, m => putsOf ps ++ delK ps m ++ l
def AStep.tids : AStep → List Nat
 | .news _ => []
 | .efx e => [e.tid]
 | .many ps _ => ps.map (·.1)
def woM : AMem → AMem
 | [] => []
 | (i, b) :: r => match isO b with | true => delM (woM r) i | false => (i, b) :: woM r
def cellB (x : Option ABlk) : Option ABlk := match x with | some b => (match isO b with | true => none | false => some b) | none => none
def putsW (m' : AMem) : AMem → List (Nat × Option ABlk)
 | [] => []
 | (i, b) :: r => match b.own with | true => (i, cellB (look m' i)) :: putsW m' r | false => putsW m' r
def keepE (ops : Array Oper) (ts : List (Nat × Nat)) (n0 str i id : Nat) : Bool :=
 (match Nat.ble n0 id && Nat.blt id (n0 + ops.size * str) with | true => waits ops i ((id - n0) / str) | false => true) &&
  ts.all fun p => !Nat.beq p.2 id || (waits ops i p.1 || (waits ops p.1 i || Nat.beq i p.1))
def filtE (ops : Array Oper) (ts : List (Nat × Nat)) (n0 str i : Nat) : AMem → AMem
 | [] => []
 | (id, b) :: r => match keepE ops ts n0 str i id with | true => (id, b) :: filtE ops ts n0 str i r | false => filtE ops ts n0 str i r
def efxNe (b : Nat) : Efx → Bool
 | .put _ _ => true
 | .app t ib _ => Nat.beq ib b && !Nat.beq t ib
def ptrT (P : Program) (t : TypeId) : Bool := match P.underlying t with | some (.pointer _) => true | _ => false
def wrCall (P : Program) (o : Op) : Bool :=
 match o with
 | .call c =>
  match c.callee with
  | .value (.func f) => match P.funcs[f]? with | some fn => fn.params.toList.any (ptrT P) | none => false
  | _ => false
 | _ => false
def opW (E : Env) (callF : FuncId → List AV → St → Option (AV × St)) (ops : Array Oper) (o : Oper) (mi : AMem) (b : Nat) (s : St) : Option (AV × AStep × St) :=
 match guardA ops o s with
 | none => none
 | some (false, s) => some (.c (.v undef), .news [], s)
 | some (true, s) =>
  match Nat.ble (b + s.str) lim && Nat.ble 1 s.str, aop E.P (mask (o.looksAt ops) 0 s.tm) mi b o.op with
  | true, some (.call f args) =>
   match callOp o.op, ctLook E.ct f args mi b with
   | true, some (r, news, k, ob) => match Nat.ble k s.str && inR b s.str news, s.need ob with | true, some s => some (r, .news news, s) | _, _ => none
   | true, none =>
    match callF f args { s with m := woM mi, n := b, str := s.str / 100000000, ms := [], rd := none } with
    | some (r, s') =>
     match Nat.ble s'.n (b + s.str) && (inR b s.str (fromN b s'.m) && (fromN b s'.m).all (fun x => x.2.own)) with
     | true => some (r, .many (putsW s'.m (woM mi)) (fromN b s'.m), { s with path := s'.path, lp := s'.lp, ob := s'.ob, po := s'.po })
     | false => none
    | none => none
   | _, _ => none
  | _, _ => none
def opE (E : Env) (callF : FuncId → List AV → St → Option (AV × St)) (wm : Bool) (ops : Array Oper) (i : Nat) (o : Oper) (mi : AMem) (b : Nat) (s : St) : Option (AV × AStep × St) :=
 match updOp o.op with
 | false =>
  match wm && wrCall E.P o.op with
  | false => match opQ E callF ops i o mi b s with | some (v, l, s) => some (v, .news l, s) | none => none
  | true => opW E callF ops o mi b s
 | true =>
  match guardA ops o s with
  | none => none
  | some (false, s) => some (.c (.v undef), .news [], s)
  | some (true, s) =>
   match Nat.ble (b + s.str) lim && Nat.ble 1 s.str, aop E.P (mask (o.looksAt ops) 0 s.tm) mi b o.op with
   | true, some (.eff v l ob) => match inR b s.str l, s.need ob with | true, some s => some (v, .news l, s) | _, _ => none
   | true, some (.upd v e ob) => match efxNe b e, s.need ob with | true, some s => some (v, .efx e, s) | _, _ => none
   | _, _ => none
def tidsOf (i : Nat) (z : AStep) : List (Nat × Nat) := z.tids.map fun t => (i, t)
def opsE (E : Env) (callF : FuncId → List AV → St → Option (AV × St)) (wm : Bool) (ops : Array Oper) (vis : Nat → AMem → AMem) (n0 : Nat) : List Oper → Nat → List (Nat × Nat) → St → Option (List (Nat × Nat) × St)
 | [], _, acc, s => some (acc, s)
 | o :: r, i, acc, s =>
  match opE E callF wm ops i o (vis i s.m) (n0 + i * s.str) s with
  | some (v, z, s) => opsE E callF wm ops vis n0 r (i + 1) (acc ++ tidsOf i z) ({ s with m := z.on s.m }.put o.dst v)
  | none => none
def eqP : List (Nat × Nat) → List (Nat × Nat) → Bool
 | [], [] => true
 | (a, b) :: r, (c, d) :: q => Nat.beq a c && (Nat.beq b d && eqP r q)
 | _, _ => false
def chainE (ops : Array Oper) (ts : List (Nat × Nat)) : Bool := ts.all fun p => ts.all fun q => Nat.ble q.1 p.1 || waits ops q.1 p.1
def drawE (ops : Array Oper) : Bool := Region.noSelect ops && (downB ops && apartB ops ops.size)
def regE (E : Env) (callF : FuncId → List AV → St → Option (AV × St)) (ops : Array Oper) (s : St) : Option St :=
 match drawE ops, opsE E callF false ops (filtE ops [] s.n s.str) s.n ops.toList 0 [] s with
 | true, some (ts, _) =>
  match opsE E callF false ops (filtE ops ts s.n s.str) s.n ops.toList 0 [] s with
  | some (ts', s') => match eqP ts' ts && chainE ops ts with | true => some { s' with n := s.n + ops.size * s.str } | false => none
  | none => none
 | _, _ => none
/-! ### a region in which calls may write: each of them stands ahead of or behind whatever looks at memory -/
def isGlobal : Operand → Bool
 | .global _ => true
 | _ => false
def seesM (o : Op) : Bool :=
 match o with
 | .move _ | .assign _ | .pick _ _ _ | .unOp _ _ _ | .convert _ _ _ | .extract _ _ | .field _ _ _ | .build _ _ | .index _ _ _ | .alloc _ | .box _ _ | .fieldAddr _ _ _ | .nilCheck _ => o.operands.any isGlobal
 | _ => true
def wrOp (P : Program) (o : Op) : Bool := wrCall P o || updOp o
def ordW (ops : Array Oper) (i : Nat) : List Oper → Nat → Bool
 | [], _ => true
 | o :: r, j => (!seesM o.op || (Nat.beq i j || (waits ops i j || waits ops j i))) && ordW ops i r (j + 1)
def wOkG (P : Program) (ops : Array Oper) : List Oper → Nat → Bool
 | [], _ => true
 | o :: r, i => (!wrOp P o.op || ordW ops i ops.toList 0) && wOkG P ops r (i + 1)
def wOk (P : Program) (ops : Array Oper) : Bool := ops.toList.any (fun o => wrCall P o.op) && (wOkG P ops ops.toList 0 && drawE ops)
def keepW (ops : Array Oper) (n0 str i id : Nat) : Bool :=
 match Nat.ble n0 id && Nat.blt id (n0 + ops.size * str) with | true => waits ops i ((id - n0) / str) | false => true
def filtW (ops : Array Oper) (n0 str i : Nat) : AMem → AMem
 | [] => []
 | (id, b) :: r => match keepW ops n0 str i id with | true => (id, b) :: filtW ops n0 str i r | false => filtW ops n0 str i r
def visW (ops : Array Oper) (n0 str i : Nat) (m : AMem) : AMem :=
 match ops[i]? with
 | some o => match seesM o.op with | true => filtW ops n0 str i m | false => []
 | none => []
def regW (E : Env) (callF : FuncId → List AV → St → Option (AV × St)) (ops : Array Oper) (s : St) : Option St :=
 match opsE E callF true ops (visW ops s.n s.str) s.n ops.toList 0 [] s with
 | some (_, s') => some { s' with n := s.n + ops.size * s.str }
 | none => none
/-! ### .. or beside loads of blocks that the calls have no business with: these blocks are hidden from the calls -/
def addrOf (tm : List AV) (a : Tmp) : List Oper → List Nat
 | [] => match tm[a]? with | some (.c (.ptr id _ _)) => [id] | _ => []
 | o :: r =>
  match o.dst, o.op with
  | some d, .fieldAddr _ (.tmp b) _ => match Nat.beq d a, tm[b]? with | true, some (.c (.ptr id _ _)) => [id] | _, _ => addrOf tm a r
  | _, _ => addrOf tm a r
def hidW (ops : Array Oper) (tm : List AV) (i : Nat) : List Oper → Nat → List Nat
 | [], _ => []
 | o :: r, j =>
  match o.op with
  | .load _ (.tmp a) => match Nat.beq i j || (waits ops i j || waits ops j i) with | true => hidW ops tm i r (j + 1) | false => addrOf tm a ops.toList ++ hidW ops tm i r (j + 1)
  | _ => hidW ops tm i r (j + 1)
def dropL (h : List Nat) : AMem → AMem
 | [] => []
 | (i, b) :: r => match h.any (Nat.beq i) with | true => dropL h r | false => (i, b) :: dropL h r
def visY (P : Program) (ops : Array Oper) (tm : List AV) (ts : List (Nat × Nat)) (n0 str i : Nat) (m : AMem) : AMem :=
 match ops[i]? with
 | some o => match wrCall P o.op with | true => dropL (hidW ops tm i ops.toList 0) (filtE ops ts n0 str i m) | false => filtE ops ts n0 str i m
 | none => []
def regY (E : Env) (callF : FuncId → List AV → St → Option (AV × St)) (ops : Array Oper) (s : St) : Option St :=
 match drawE ops, opsE E callF true ops (visY E.P ops s.tm [] s.n s.str) s.n ops.toList 0 [] s with
 | true, some (ts, _) =>
  match opsE E callF true ops (visY E.P ops s.tm ts s.n s.str) s.n ops.toList 0 [] s with
  | some (ts', s') => match eqP ts' ts && chainE ops ts with | true => some { s' with n := s.n + ops.size * s.str } | false => none
  | none => none
 | _, _ => none
def yOn (E : Env) (ops : Array Oper) : Bool := match E.ct with | a :: b :: _ => Nat.beq a.1 b.1 && ops.toList.any fun o => wrCall E.P o.op | _ => false
def regX (E : Env) (callF : FuncId → List AV → St → Option (AV × St)) (yF : Nat → List AV → St → Option (AV × St)) (ops : Array Oper) (s : St) : Option St :=
 match wOk E.P ops with
 | true => regW E callF ops s
 | false =>
  match yOn E ops with
  | true => regY E callF ops s
  | false =>
   match drawOk ops (quietLen ops.toList) with
   | true => regD E callF yF ops s
   | false => regE E callF ops s
/-! ### code -/
def resA (P : Program) (tm : List AV) (m : AMem) : List ResultVar → Option (List AV × List Bool)
 | [] => some ([], [])
 | .tmp t :: r =>
  match tm[t]?, resA P tm m r with
  | some (.c x), some (l, ob) => some (.c x :: l, ob)
  | some (.agg x), some (l, ob) => some (.agg x :: l, ob)
  | _, _ => none
 | .cell a t :: r =>
  match tm[a]?, resA P tm m r with
  | some v, some (l, ob) => match aLoad P m t v with | some (.eff u _ ob') => some (u :: l, ob' ++ ob) | _ => none
  | _, _ => none
def tupA : List AV → AV
 | [x] => x
 | l => .tup l
def closeM : List Nat → AMem → Option AMem
 | [], m => some m
 | d :: r, m =>
  match look m d with
  | some x => match x.cs with | .obj (.dfr true) => closeM r (updM m d { x with cs := .obj (.dfr false) }) | _ => none
  | none => none
def endF (P : Program) (fn : Func) (s s' : St) : Option (AV × St) :=
 match closeM s'.ms s'.m with
 | some m =>
  match resA P s'.tm m fn.results.toList with
  | some (l, ob) => match s'.need ob with | some s' => some (tupA l, { s' with tm := s.tm, m := m, ms := s.ms, rd := s.rd }) | none => none
  | none => none
 | none => none
def callF (E : Env) (run : Code → St → Option (Exit × St)) (f : FuncId) (args : List AV) (s : St) : Option (AV × St) :=
 match E.P.funcs[f]? with
 | some fn =>
  match fn.body with
  | some c =>
   match run c { s with tm := args ++ List.replicate (fn.ntmps - args.length) (.c (.v undef)), ms := [], rd := none } with
   | some (.ret, s') | some (.normal, s') => endF E.P fn s s'
   | _ => none
  | none => none
 | none => none
/-! ### rounds of a range over a function -/
def setPs : List Tmp → List AV → List AV → List AV
 | t :: ts, x :: xs, tm => setPs ts xs (tm.set t x)
 | _, _, tm => tm
def jumpOf : Exit → Option (Option Code)
 | .normal => some none
 | .ret => some (some .ret)
 | .exit id => some (some (.exit id))
 | _ => none
def isN : Option Code → Bool
 | none => true
 | some _ => false
def endY (id : Nat) (e : Exit) (s s' : St) : Option (AV × St) :=
 match jumpOf e, look s'.m id with
 | some j, some x =>
  match x.cs with
  | .obj (.loop _ _ tm ps as bd dn) => some (.c (.v (.bool (isN j))), { s' with tm := s.tm, ms := s.ms, rd := s.rd, m := updM s'.m id { x with cs := .obj (.loop (match isN j with | true => .ready | false => .done) j tm ps as bd dn) } })
  | _ => none
 | _, _ => none
def yieldS (run : Code → St → Option (Exit × St)) (id : Nat) (args : List AV) (s : St) : Option (AV × St) :=
 match look s.m id with
 | some x =>
  match x.cs with
  | .obj (.loop _ _ tm ps as bd _) =>
   match Nat.beq args.length ps.size with
   | true =>
    match run as { s with tm := setPs ps.toList args tm, ms := [], rd := some id } with
    | some (.normal, s1) =>
     match look s1.m id with
     | some x1 =>
      match x1.cs with
      | .obj (.loop .ready pd1 tm1 ps1 as1 bd1 dn1) =>
       match run bd { s1 with m := updM s1.m id { x1 with cs := .obj (.loop .busy pd1 tm1 ps1 as1 bd1 dn1) } } with
       | some (e, s2) => endY id e s s2
       | none => none
      | _ => none
     | none => none
    | _ => none
   | false => none
  | _ => none
 | none => none
def enterA (s : St) (ps : Array Tmp) (as bd : Code) : Option (AMem × List Nat) :=
 match s.rd with
 | none => some (s.m ++ [(s.n, oblk (.dfr true))] ++ [(s.n + 1, oblk (.loop .ready none s.tm ps as bd s.n))], s.n :: s.ms)
 | some r =>
  match look s.m r with
  | some x => match x.cs with | .obj (.loop _ _ _ _ _ _ dn) => some (s.m ++ [(s.n + 1, oblk (.loop .ready none s.tm ps as bd dn))], s.ms) | _ => none
  | none => none
def leaveA (l : Nat) (s : St) : Option (Exit × St) :=
 match look s.m l with
 | some x =>
  match x.cs with
  | .obj (.loop .busy _ _ _ _ _ _) => none
  | .obj (.loop _ pd tm ps as bd dn) =>
   match pd with
   | none => some (.normal, { s with m := updM s.m l { x with cs := .obj (.loop .exhausted pd tm ps as bd dn) } })
   | some .ret => some (.ret, { s with m := updM s.m l { x with cs := .obj (.loop .exhausted pd tm ps as bd dn) } })
   | some (.exit id) => some (.exit id, { s with m := updM s.m l { x with cs := .obj (.loop .exhausted pd tm ps as bd dn) } })
   | _ => none
  | _ => none
 | none => none
def FW (r : Option Nat) : Fence := { Fence.wide with round := r }
def lwp (r : Option Nat) (P : Program) (c : Code) (Q : Exit → Act → World → Prop) (a : Act) (w : World) : Prop :=
 ∀ (b : Frame) (k : List Item) (cs : List Frame), b.roundOf = r → ∃ e a' w', Q e a' w' ∧ ArrivesIn (Machine.fenced P (FW r)) P (lone (b.atR a (.code c :: .inLoop c :: k)) cs w) b k cs e a' w'
def RdOk (β : Nm) : Option Nat → Option Nat → Prop
 | none, none => True
 | some id, some b => ∃ L, β id = some L ∧ L.nil = false ∧ L.b = b
 | _, _ => False
theorem RdOk.ext {β β' : Nm} (he : Ext β β') : ∀ {rd r : Option Nat}, RdOk β rd r → RdOk β' rd r
 | none, none, _ => trivial
 | some _, some _, ⟨L, h1, h2⟩ => ⟨L, he _ _ h1, h2⟩
def LoopOb (P : Program) (c : Code) (tm : List AV) (m : AMem) (n : Nat) (tm' : List AV) (m' : AMem) (n' : Nat) (e : Exit) (rd : Option Nat) : Prop :=
 ∀ (r : Option Nat) (C : Ctx) (β : Nm) (a : Act) (w : World), RdOk β rd r → FrOk β tm a.tmps → Rel C β m w → (∀ id, n ≤ id → id < n' → β id = none) →
  lwp r P c (fun e' a' w' => e' = e ∧ a'.defers = a.defers ∧ ∃ β', Ext β β' ∧ (∀ id, id < n ∨ n' ≤ id → β' id = β id) ∧ FrOk β' tm' a'.tmps ∧ Rel C β' m' w') a w
def LoopV (P : Program) (c : Code) (slots ids : List Nat) (vals : List (Option AV)) (blks : List (Option ABlk)) (len n : Nat) (tm' : List AV) (m' : AMem) (n' : Nat) (e : Exit) (rd : Option Nat) : Prop :=
 ∀ tm m, slots.map (fun t => tm[t]?) = vals → ids.map (look m) = blks → tm.length = len → LoopOb P c tm m n tm' m' n' e rd
def scopeS (run : Code → St → Option (Exit × St)) (a : Code) : Nat → Code → St → Option (Exit × St)
 | 0, _, _ => none
 | k + 1, c, s =>
  match run c s with
  | some (.goto l, s) => match findLabel a l with | some c' => scopeS run a k c' s | none => some (.goto l, s)
  | r => r
def sxC (E : Env) : Nat → Code → St → Option (Exit × St)
 | 0, _, _ => none
 | n + 1, c, s =>
  match c with
  | .skip => some (.normal, s)
  | .label _ => some (.normal, s)
  | .region _ ops d =>
   match d with
   | false => match opsS E (callF E (sxC E n)) (yieldS (sxC E n)) ops ops.toList s with | some s => some (.normal, s) | none => none
   | true => match regX E (callF E (sxC E n)) (yieldS (sxC E n)) ops s with | some s => some (.normal, s) | none => none
  | .seq a b =>
   match sxC E n a s with
   | some (.normal, s) => sxC E n b s
   | r => r
  | .cond (.tmp t) a b =>
   match s.tm[t]? with
   | some (.c (.v (.bool x))) => match s.dec t x with | some (true, s) => sxC E n a s | some (false, s) => sxC E n b s | none => none
   | _ => none
  | .cond (.const (.bool x)) a b => match x with | true => sxC E n a s | false => sxC E n b s
  | .block id a =>
   match sxC E n a s with
   | some (.exit id', s) => match Nat.beq id' id with | true => some (.normal, s) | false => some (.exit id', s)
   | r => r
  | .loop a =>
   match s.lp with
   | some ⟨slots, ids, tm, m, k, e⟩ :: p =>
    match Nat.ble s.n k && Nat.ble k lim with
    | true => some (e, { s with tm := tm, m := m, n := k, lp := p, po := LoopV E.P a slots ids (slots.map fun t => s.tm[t]?) (ids.map (look s.m)) s.tm.length s.n tm m k e s.rd :: s.po })
    | false => none
   | none :: p => match sxC E n a { s with lp := p } with | some (.normal, s) => sxC E n (.loop a) { s with lp := none :: s.lp } | r => r
   | [] => match sxC E n a s with | some (.normal, s) => sxC E n (.loop a) s | r => r
  | .exit id => some (.exit id, s)
  | .goto l => some (.goto l, s)
  | .scope a => scopeS (sxC E n) a 200 a s
  | .ret => some (.ret, s)
  | .rangeFunc f ps as bd =>
   match Nat.ble (s.n + 2) lim, evA s.tm s.m f, enterA s ps as bd with
   | true, some v, some (m', ms') =>
    match aCall [.c (.yld (s.n + 1))] v with
    | some (.call g args) =>
     match callF E (sxC E n) g args { s with m := m', n := s.n + 2 } with
     | some (_, s1) => leaveA (s.n + 1) { s1 with ms := ms' }
     | none => none
    | _ => none
   | _, _, _ => none
  | _ => none
def loopsOf : Code → List Code
 | .seq a b => loopsOf a ++ loopsOf b
 | .cond _ a b => loopsOf a ++ loopsOf b
 | .block _ a => loopsOf a
 | .loop a => a :: loopsOf a
 | .scope a => loopsOf a
 | .rangeFunc _ _ a b => loopsOf a ++ loopsOf b
 | _ => []
def loopAt (P : Program) (f k : Nat) : Code :=
 match P.funcs[f]? with
 | some fn => match fn.body with | some c => (loopsOf c).getD k .skip | none => .skip
 | none => .skip
end Go.Proofs.YtoelekmbmghicaaGreatDoor
end
