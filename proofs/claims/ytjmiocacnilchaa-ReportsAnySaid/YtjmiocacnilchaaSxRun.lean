/- The symbolic evaluator: regions, code, calls: definitions. No Go text is in sight. -/
import Derived.Test.YtjmiocacnilchaaSxOp
import Derived.StillTail
set_option linter.unusedSimpArgs false
set_option linter.unusedVariables false
namespace Go.Proofs.Ytjmiocacnilchaa
open Go.RowKit

/-- a decision of the way: by itself; this way; a loop's sum; a call's -/
inductive Dec where
  | a
  | b (d : Bool)
  | loop (slots ids : List Nat) (tm : List AV) (m : AMem) (n : Nat) (e : Exit)
  | call (r : AV) (m : AMem) (n : Nat)

structure St where
  tm : List AV
  m : AMem
  n : Nat
  str : Nat
  sk : Bool
  path : List Dec
  ob : List Bool
  po : List Prop

/-- contracts: of a function, its arguments, memory and the next name: the result, new blocks, how many names, what must hold -/
abbrev CtF := List AV → AMem → Nat → Option (AV × AMem × Nat × List Bool)
structure Env where
  P : Program
  ct : List (FuncId × CtF)

def ctLook (l : List (FuncId × CtF)) (f : FuncId) (args : List AV) (m : AMem) (n : Nat) : Option (AV × AMem × Nat × List Bool) :=
  match l with
  | [] => none
  | (g, c) :: r => match Nat.beq g f with | true => c args m n | false => ctLook r f args m n

def St.need (s : St) (l : List Bool) : Option St :=
  match s.sk with
  | true => match l.all (fun b => b) with | true => some s | false => none
  | false => some { s with ob := l ++ s.ob }
def putA (tm : List AV) : Option Tmp → AV → List AV
  | none, _ => tm
  | some d, v => tm.set d v
def St.put (s : St) (d : Option Tmp) (v : AV) : St := { s with tm := putA s.tm d v }
/-- a bool in a slot is decided -/
def St.dec (s : St) (t : Tmp) (b : Bool) : Option (Bool × St) :=
  match s.path with
  | .b d :: p => some (d, { s with path := p, tm := s.tm.set t (.c (.v (.bool d))), ob := (b == d) :: s.ob })
  | .a :: p => match b with | true => some (true, { s with path := p }) | false => some (false, { s with path := p })
  | _ => match b with | true => some (true, s) | false => some (false, s)
def guardA (ops : Array Oper) (o : Oper) (s : St) : Option (Bool × St) :=
  match o.guard with
  | none => some (true, s)
  | some (j, want) =>
    match (ops[j]?).bind (·.dst) with
    | none => some (false, s)
    | some t =>
      match s.tm[t]? with
      | some (.c (.v (.bool b))) => match s.dec t b with | some (d, s') => some (d == want, s') | none => none
      | some (.c (.v (.tuple _))) => some (false, s)
      | _ => none

def lim : Nat := 1000000000000
/-- a call: by its contract, by its sum, or in place -/
def callA (E : Env) (callF : FuncId → List AV → St → Option (AV × St)) (f : FuncId) (args : List AV) (s : St) : Option (AV × St) :=
  match ctLook E.ct f args s.m s.n with
  | some (r, news, k, ob) => match Nat.ble (s.n + k) lim, s.need ob with | true, some s => some (r, { s with m := s.m ++ news, n := s.n + k }) | _, _ => none
  | none => callF f args s

def opS (E : Env) (callF : FuncId → List AV → St → Option (AV × St)) (ops : Array Oper) (o : Oper) (s : St) : Option St :=
  match guardA ops o s with
  | none => none
  | some (false, s) => some (s.put o.dst (.c (.v undef)))
  | some (true, s) =>
    match Nat.ble (s.n + 1) lim, aop E.P s.tm s.m s.n o.op with
    | true, some (.eff v news ob) => match s.need ob with | some s => some ({ s with m := s.m ++ news, n := s.n + 1 }.put o.dst v) | none => none
    | true, some (.upd v m ob) => match updOp o.op, s.need ob with | true, some s => some ({ s with m := m, n := s.n + 1 }.put o.dst v) | _, _ => none
    | true, some (.call f args) => match callOp o.op, callA E callF f args s with | true, some (v, s) => some (s.put o.dst v) | _, _ => none
    | _, _ => none
def opsS (E : Env) (callF : FuncId → List AV → St → Option (AV × St)) (ops : Array Oper) : List Oper → St → Option St
  | [], s => some s
  | o :: r, s => match opS E callF ops o s with | some s => opsS E callF ops r s | none => none

/-! ### a region that draws its order -/
def orL : List Bool → List Bool → List Bool
  | [], l => l
  | l, [] => l
  | x :: r, y :: q => (x || y) :: orL r q
def unitL : Nat → List Bool
  | 0 => [true]
  | n + 1 => false :: unitL n
def cloE (acc : List (List Bool)) : List Edge → List Bool
  | [] => []
  | e :: r => match Region.binds .any e with | true => orL (unitL e.on) (orL (acc.getD e.on []) (cloE acc r)) | false => cloE acc r
def clo : List Oper → List (List Bool) → List (List Bool)
  | [], acc => acc
  | o :: r, acc => clo r (acc ++ [cloE acc o.after.toList])
/-- does 'i' wait for 'j', through others too? -/
def waits (ops : Array Oper) (i j : Nat) : Bool := ((clo ops.toList []).getD i []).getD j false
def mask (ls : List Nat) : Nat → List AV → List AV
  | _, [] => []
  | i, x :: r => (match ls.contains i with | true => x | false => .any) :: mask ls (i + 1) r
/-- of blocks by operations: those for which 'i' waits -/
def newsOf (ops : Array Oper) (i : Nat) : List (Nat × AMem) → AMem
  | [] => []
  | (j, l) :: r => match waits ops i j with | true => l ++ newsOf ops i r | false => newsOf ops i r
def newsAll : List (Nat × AMem) → AMem
  | [] => []
  | (_, l) :: r => l ++ newsAll r
def roM : AMem → AMem
  | [] => []
  | (i, b) :: r => (i, { b with own := false }) :: roM r
def fromN (n : Nat) : AMem → AMem
  | [] => []
  | (i, b) :: r => match Nat.ble n i with | true => (i, b) :: fromN n r | false => fromN n r
def inR (b str : Nat) (l : AMem) : Bool := l.all fun x => Nat.ble b x.1 && Nat.blt x.1 (b + str)
/-- one operation of the quiet part: its value, its new blocks -/
def opQ (E : Env) (callF : FuncId → List AV → St → Option (AV × St)) (ops : Array Oper) (i : Nat) (o : Oper) (mi : AMem) (b : Nat) (s : St) : Option (AV × AMem × St) :=
  match guardA ops o s with
  | none => none
  | some (false, s) => some (.c (.v undef), [], s)
  | some (true, s) =>
    match Nat.ble (b + s.str) lim && Nat.ble 1 s.str, aop E.P (mask (o.looksAt ops) 0 s.tm) mi b o.op with
    | true, some (.eff v news ob) => match inR b s.str news, s.need ob with | true, some s => some (v, news, s) | _, _ => none
    | true, some (.call f args) =>
      match callOp o.op, ctLook E.ct f args mi b with
      | true, some (r, news, k, ob) => match Nat.ble k s.str && inR b s.str news, s.need ob with | true, some s => some (r, news, s) | _, _ => none
      | true, none =>
        match callF f args { s with m := roM mi, n := b, str := s.str / 64 } with
        | some (r, s') =>
          match Nat.ble s'.n (b + s.str) && (inR b s.str (fromN b s'.m) && (fromN b s'.m).all (fun x => x.2.own)) with
          | true => some (r, fromN b s'.m, { s with path := s'.path, ob := s'.ob, po := s'.po })
          | false => none
        | none => none
      | _, _ => none
    | _, _ => none
def opsQ (E : Env) (callF : FuncId → List AV → St → Option (AV × St)) (ops : Array Oper) (n0 : Nat) : List Oper → Nat → List (Nat × AMem) → St → Option (List (Nat × AMem) × St)
  | [], _, acc, s => some (acc, s)
  | o :: r, i, acc, s =>
    match opQ E callF ops i o (s.m ++ newsOf ops i acc) (n0 + i * s.str) s with
    | some (v, news, s) => opsQ E callF ops n0 r (i + 1) (acc ++ [(i, news)]) (s.put o.dst v)
    | none => none
/-- each of two operations waits for the other, or they are apart -/
def apartB (ops : Array Oper) (q : Nat) : Bool :=
  (List.range q).all fun j => (List.range j).all fun i => waits ops j i || (match ops[i]?, ops[j]? with | some x, some y => x.apart ops y | _, _ => false)
def downB (ops : Array Oper) : Bool := (List.range ops.size).all fun i => match ops[i]? with | some o => o.after.toList.all fun e => !Region.binds .any e || Nat.blt e.on i | none => true
def firstN (ops : Array Oper) (q : Nat) : Array Bool := ((List.range ops.size).map fun i => Nat.blt i q).toArray
def drawOk (ops : Array Oper) (q : Nat) : Bool :=
  Region.noSelect ops && (downB ops && (apartB ops q && (Nat.ble q ops.size && (Region.seqB .any ops (ops.size - q) q (firstN ops q) && (Nat.beq q ops.size || (Region.sinkB .any ops q && Region.chainB .any ops q))))))
/-- how many operations the quiet part has: up to the first one that writes -/
def quietLen : List Oper → Nat
  | [] => 0
  | o :: r => match updOp o.op with | true => 0 | false => quietLen r + 1
def regD (E : Env) (callF : FuncId → List AV → St → Option (AV × St)) (ops : Array Oper) (s : St) : Option St :=
  match drawOk ops (quietLen ops.toList) with
  | true =>
    match opsQ E callF ops s.n (ops.toList.take (quietLen ops.toList)) 0 [] s with
    | some (acc, s') => opsS E callF ops (ops.toList.drop (quietLen ops.toList)) { s' with m := s'.m ++ newsAll acc, n := s'.n + quietLen ops.toList * s'.str }
    | none => none
  | false => none

/-! ### code -/
def resA (P : Program) (tm : List AV) (m : AMem) : List ResultVar → Option (List AV × List Bool)
  | [] => some ([], [])
  | .tmp t :: r =>
    match tm[t]?, resA P tm m r with
    | some (.c x), some (l, ob) => some (.c x :: l, ob)
    | some (.agg x), some (l, ob) => some (.agg x :: l, ob)
    | _, _ => none
  | .cell a t :: r =>
    match tm[a]?, resA P tm m r with
    | some v, some (l, ob) => match aLoad P m t v with | some (.eff u _ ob') => some (u :: l, ob' ++ ob) | _ => none
    | _, _ => none
def tupA : List AV → AV
  | [x] => x
  | l => .tup l
/-- a call in place -/
def callF (E : Env) (run : Code → St → Option (Exit × St)) (f : FuncId) (args : List AV) (s : St) : Option (AV × St) :=
  match E.P.funcs[f]? with
  | some fn =>
    match fn.body with
    | some c =>
      match run c { s with tm := args ++ List.replicate (fn.ntmps - args.length) (.c (.v undef)) } with
      | some (.ret, s') | some (.normal, s') =>
        match resA E.P s'.tm s'.m fn.results.toList with
        | some (l, ob) => match s'.need ob with | some s' => some (tupA l, { s' with tm := s.tm }) | none => none
        | none => none
      | _ => none
    | none => none
  | none => none

/-- a loop, from the head of a round -/
def lwp (P : Program) (c : Code) (Q : Exit → Act → World → Prop) (a : Act) (w : World) : Prop :=
  ∀ (b : Frame) (k : List Item) (cs : List Frame), ∃ e a' w', Q e a' w' ∧ Arrives P (Go.lone (b.at a (.code c :: .inLoop c :: k)) cs w) b k cs e a' w'
/-- what is asked of a loop whose sum is given -/
def LoopOb (P : Program) (c : Code) (tm : List AV) (m : AMem) (n : Nat) (tm' : List AV) (m' : AMem) (n' : Nat) (e : Exit) : Prop :=
  ∀ (C : Ctx) (β : Nm) (a : Act) (w : World), FrOk β tm a.tmps → a.defers = [] → Rel C β m w → (∀ id, n ≤ id → id < n' → β id = none) →
    lwp P c (fun e' a' w' => e' = e ∧ a'.defers = [] ∧ ∃ β', Ext β β' ∧ (∀ id, id < n ∨ n' ≤ id → β' id = β id) ∧ FrOk β' tm' a'.tmps ∧ Rel C β' m' w') a w

/-- the same of whatever state looks so at these slots and names -/
def LoopV (P : Program) (c : Code) (slots ids : List Nat) (vals : List (Option AV)) (blks : List (Option ABlk)) (len n : Nat) (tm' : List AV) (m' : AMem) (n' : Nat) (e : Exit) : Prop :=
  ∀ tm m, slots.map (fun t => tm[t]?) = vals → ids.map (look m) = blks → tm.length = len → LoopOb P c tm m n tm' m' n' e

def sxC (E : Env) : Nat → Code → St → Option (Exit × St)
  | 0, _, _ => none
  | n + 1, c, s =>
    match c with
    | .skip => some (.normal, s)
    | .label _ => some (.normal, s)
    | .region _ ops d =>
      match d with
      | false => match opsS E (callF E (sxC E n)) ops ops.toList s with | some s => some (.normal, s) | none => none
      | true => match regD E (callF E (sxC E n)) ops s with | some s => some (.normal, s) | none => none
    | .seq a b =>
      match sxC E n a s with
      | some (.normal, s) => sxC E n b s
      | r => r
    | .cond (.tmp t) a b =>
      match s.tm[t]? with
      | some (.c (.v (.bool x))) => match s.dec t x with | some (true, s) => sxC E n a s | some (false, s) => sxC E n b s | none => none
      | _ => none
    | .cond (.const (.bool x)) a b => match x with | true => sxC E n a s | false => sxC E n b s
    | .block id a =>
      match sxC E n a s with
      | some (.exit id', s) => match Nat.beq id' id with | true => some (.normal, s) | false => some (.exit id', s)
      | r => r
    | .loop a =>
      match s.path with
      | .loop slots ids tm m k e :: p =>
        match Nat.ble s.n k && Nat.ble k lim with
        | true => some (e, { s with tm := tm, m := m, n := k, path := p, po := LoopV E.P a slots ids (slots.map fun t => s.tm[t]?) (ids.map (look s.m)) s.tm.length s.n tm m k e :: s.po })
        | false => none
      | _ => match sxC E n a s with | some (.normal, s) => sxC E n (.loop a) s | r => r
    | .exit id => some (.exit id, s)
    | .ret => some (.ret, s)
    | _ => none
/-- the loops of a code, in the text's order, an inner one behind its outer one: their bodies -/
def loopsOf : Code → List Code
  | .seq a b => loopsOf a ++ loopsOf b
  | .cond _ a b => loopsOf a ++ loopsOf b
  | .block _ a => loopsOf a
  | .loop a => a :: loopsOf a
  | .scope a => loopsOf a
  | .rangeFunc _ _ a b => loopsOf a ++ loopsOf b
  | _ => []
def loopAt (P : Program) (f k : Nat) : Code :=
  match P.funcs[f]? with
  | some fn => match fn.body with | some c => (loopsOf c).getD k .skip | none => .skip
  | none => .skip
end Go.Proofs.Ytjmiocacnilchaa
