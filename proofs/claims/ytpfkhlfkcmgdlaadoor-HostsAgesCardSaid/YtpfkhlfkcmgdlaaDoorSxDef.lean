/- A symbolic evaluator for the model's code: definitions. Values in which pointers into memory are names, memory as a list of named blocks, the effect of each operation, code with loops unrolled or summed up, calls carried out in place or by a contract. No Go text is in sight. -/
import Derived.Test.YtpfkhlfkcmgdlaaDoorFlat
set_option linter.unusedSimpArgs false
set_option linter.unusedVariables false
namespace Go.Proofs.YtpfkhlfkcmgdlaaDoor

/-- where a named block lies: block, offset, cells of an element, elements that there is room for; or it is nil -/
structure Loc where
  b : Nat
  o : Nat
  s : Nat
  cap : Nat
  nil : Bool
abbrev Nm := Nat → Option Loc

/-- a cell's value -/
inductive AC where
  | v (x : Value)
  | ptr (id k j : Nat)
  | sl (id k j len : Nat) (cap : Option Nat)
  | fn (f : FuncId) (caps : List (Nat × Nat × Nat))
  | yld (id : Nat)

inductive AV where
  | c (x : AC)
  | agg (l : List AC)
  | tup (l : List AV)
  | any

def ad (β : Nm) (id k j : Nat) : Option Addr :=
  match β id with
  | some L => if L.nil then none else some ⟨L.b, L.o + (k * L.s + j), none⟩
  | none => none
def γp (β : Nm) : List (Nat × Nat × Nat) → Option (List Value)
  | [] => some []
  | (id, k, j) :: r =>
    match ad β id k j, γp β r with
    | some a, some vs => some (.pointer (some a) :: vs)
    | _, _ => none
def γc (β : Nm) : AC → Option Value
  | .v x => some x
  | .ptr id k j => match ad β id k j with | some a => some (.pointer (some a)) | none => none
  | .sl id k j len cap =>
    match β id with
    | some L => if L.nil then (if len = 0 ∧ cap.getD 0 = 0 then some (.slice none 0 0) else none) else some (.slice (some ⟨L.b, L.o + (k * L.s + j), none⟩) len (cap.getD (L.cap - k)))
    | none => none
  | .fn f caps => match γp β caps with | some vs => some (.func (.func f) #[] vs.toArray) | none => none
  | .yld id => match β id with | some L => (if L.nil then none else some (.func (.yield L.b) #[] #[])) | none => none
def γs (β : Nm) : List AC → Option (List Value)
  | [] => some []
  | x :: r =>
    match γc β x, γs β r with
    | some v, some vs => some (v :: vs)
    | _, _ => none
def γ1 (β : Nm) : AV → Option Value
  | .c x => γc β x
  | .agg l => match γs β l with | some vs => some (.agg vs.toArray) | none => none
  | _ => none
def γt (β : Nm) : List AV → Option (List Value)
  | [] => some []
  | x :: r =>
    match γ1 β x, γt β r with
    | some v, some vs => some (v :: vs)
    | _, _ => none
def γ (β : Nm) : AV → Option Value
  | .tup l => match γt β l with | some vs => some (.tuple vs.toArray) | none => none
  | x => γ1 β x

/-! ### memory -/
/-- what is no row of cells: a range over a function, by its state, the jump that is pending, the frame at its head, its text, the block of its deferred calls; that block -/
inductive AObj where
  | loop (st : LoopState) (pd : Option Code) (tm : List AV) (ps : Array Tmp) (as bd : Code) (dn : Nat)
  | dfr (op : Bool)
inductive Cs where
  | lit (l : List AC)
  | arr (n : Nat) (f : Nat → List AC)
  | obj (o : AObj)
structure ABlk where
  own : Bool
  row : Bool
  ty : TypeId
  sz : Nat
  cs : Cs
abbrev AMem := List (Nat × ABlk)
def oblk (o : AObj) : ABlk := ⟨false, false, 0, 0, .obj o⟩
def look : AMem → Nat → Option ABlk
  | [], _ => none
  | (i, b) :: r, id => match Nat.beq i id with | true => some b | false => look r id
def updM : AMem → Nat → ABlk → AMem
  | [], _, _ => []
  | (i, x) :: r, id, b => match Nat.beq i id with | true => (i, b) :: r | false => (i, x) :: updM r id b
def delM : AMem → Nat → AMem
  | [], _ => []
  | (i, x) :: r, id => match Nat.beq i id with | true => delM r id | false => (i, x) :: delM r id
/-- what a writing operation does to the memory: a block becomes another one; a block goes, a new one comes -/
inductive Efx where
  | put (id : Nat) (b : ABlk)
  | app (id0 ib : Nat) (b : ABlk)
def Efx.on : Efx → AMem → AMem
  | .put id b, m => updM m id b
  | .app id0 ib b, m => delM m id0 ++ [(ib, b)]
def Efx.tid : Efx → Nat
  | .put id _ => id
  | .app id0 _ _ => id0
def nov : AC := .v undef
def Cs.get : Cs → Nat → Nat → AC
  | .lit l, _, j => l.getD j nov
  | .arr _ f, k, j => (f k).getD j nov
  | .obj _, _, _ => nov
/-- are the cells of element 'k' ahead of 'j' there? -/
def ABlk.inb (x : ABlk) (k j : Nat) : Bool :=
  match x.cs with
  | .lit l => decide (k * x.sz + j ≤ l.length)
  | .arr n _ => decide (k < n) && decide (j ≤ x.sz)
  | .obj _ => false
def setL : List AC → Nat → List AC → List AC
  | l, _, [] => l
  | l, j, x :: r => setL (l.set j x) (j + 1) r
def Cs.put : Cs → Nat → Nat → List AC → Cs
  | .lit l, _, j, vs => .lit (setL l j vs)
  | .arr n f, k, j, vs => .arr n fun i => if i = k then setL (f i) j vs else f i
  | .obj o, _, _, _ => .obj o

/-! ### leaves by their kind -/
inductive Kd where
  | b
  | i (k : IntKind)
  | any
def asB : AC → Bool
  | .v (.bool b) => b
  | _ => false
def asI : AC → Int
  | .v (.int _ n) => n
  | _ => 0
def tl : Kd → AC → AC
  | .b, x => .v (.bool (asB x))
  | .i k, x => .v (.int k (asI x))
  | .any, x => x
def okl : Kd → AC → Bool
  | .b, .v (.bool _) => true
  | .i k, .v (.int k' _) => k == k'
  | .any, _ => true
  | _, _ => false
def AC.one : AC → Bool
  | .v x => x.oneCell'
  | _ => true

/-- the kinds of a type's cells -/
def kdFields (P : Program) (g : TypeId → Option (List Kd)) : List Field → Nat → Option (List Kd)
  | [], _ => some []
  | f :: fs, off =>
    match Nat.beq f.offset off with
    | true =>
      match g f.type with
      | some l => match kdFields P g fs (off + l.length) with | some r => some (l ++ r) | none => none
      | none => none
    | false => none
def kinds (P : Program) : Nat → TypeId → Option (List Kd)
  | 0, _ => none
  | n + 1, t =>
    match P.underlying t with
    | some .bool => some [.b]
    | some (.int k) => some [.i k]
    | some (.struct fs) => kdFields P (kinds P n) fs.toList 0
    | some (.array m e) => match kinds P n e with | some l => some ((List.replicate m l).flatten) | none => none
    | some _ => match P.info? t with | some i => (match Nat.beq i.size 1 with | true => some [.any] | false => none) | none => none
    | none => none
def aggB (P : Program) (t : TypeId) : Option Bool :=
  match P.underlying t with
  | some (.struct _) | some (.array _ _) => some true
  | some _ => some false
  | none => none
def sizeA (P : Program) (t : TypeId) : Option Nat := match P.info? t with | some i => some i.size | none => none
/-- is it an aggregate; the kinds of its cells, as many as the type has -/
def lay? (P : Program) (t : TypeId) : Option (Bool × List Kd) :=
  match aggB P t, kinds P 9 t, sizeA P t with
  | some a, some ks, some n => if ks.length = n ∧ (a = true ∨ n = 1) then some (a, ks) else none
  | _, _, _ => none

def rd (cs : Cs) (k : Nat) : Nat → List Kd → List AC
  | _, [] => []
  | j, kd :: r => tl kd (cs.get k j) :: rd cs k (j + 1) r
def oks (cs : Cs) (k : Nat) : Nat → List Kd → List Bool
  | _, [] => []
  | j, .any :: r => oks cs k (j + 1) r
  | j, kd :: r => okl kd (cs.get k j) :: oks cs k (j + 1) r

/-! ### operands -/
def gid (g : Nat) : Nat := 100000000000000000000000000000000000000000000000000000000000000000000000000000000 + g
def ofV : Value → AV
  | .agg cs => .agg (cs.toList.map .v)
  | x => .c (.v x)
def evA (tm : List AV) (m : AMem) : Operand → Option AV
  | .tmp t => tm[t]?
  | .const v => some (ofV v)
  | .global g => match look m (gid g) with | some _ => some (.c (.ptr (gid g) 0 0)) | none => none
  | .func f => some (.c (.v (.func (.func f) #[] #[])))
/-- no tuple, not unknown -/
def evC (tm : List AV) (m : AMem) (x : Operand) : Option AV :=
  match evA tm m x with
  | some (.c y) => some (.c y)
  | some (.agg l) => some (.agg l)
  | _ => none
def evAs (tm : List AV) (m : AMem) : List Operand → Option (List AV)
  | [] => some []
  | x :: r =>
    match evC tm m x, evAs tm m r with
    | some v, some vs => some (v :: vs)
    | _, _ => none
def evPs (tm : List AV) (m : AMem) : List (Nat × Operand) → Option (List (Nat × AV))
  | [] => some []
  | (i, x) :: r =>
    match evC tm m x, evPs tm m r with
    | some v, some vs => some ((i, v) :: vs)
    | _, _ => none
def AV.cells : AV → Option (List AC)
  | .c x => some [x]
  | .agg l => some l
  | _ => none

/-! ### what an operation does -/
inductive ARes where
  | eff (val : AV) (news : AMem) (ob : List Bool)
  | upd (val : AV) (e : Efx) (ob : List Bool)
  | call (f : FuncId) (args : List AV)
  | yld (id : Nat) (args : List AV)

def aAlloc (P : Program) (ib : Nat) (t : TypeId) : Option ARes :=
  match P.info? t with
  | some i =>
    match i.zero with
    | some z => match z.cells.toList.all (·.oneCell') with | true => some (.eff (.c (.ptr ib 0 0)) [(ib, ⟨true, false, t, 0, .lit (z.cells.toList.map .v)⟩)] []) | false => none
    | none => none
  | none => none
def aBox (ib : Nat) (t : TypeId) (x : AV) : Option ARes :=
  match x.cells with
  | some l => match l.all AC.one with | true => some (.eff (.c (.ptr ib 0 0)) [(ib, ⟨true, false, t, 0, .lit l⟩)] []) | false => none
  | none => none
def hd1 : List AC → AC
  | x :: _ => x
  | [] => nov
def aLoad (P : Program) (m : AMem) (t : TypeId) : AV → Option ARes
  | .c (.ptr id k j) =>
    match look m id, lay? P t with
    | some x, some (true, ks) => some (.eff (.agg (rd x.cs k j ks)) [] (x.inb k (j + ks.length) :: oks x.cs k j ks))
    | some x, some (false, ks) => some (.eff (.c (hd1 (rd x.cs k j ks))) [] (x.inb k (j + ks.length) :: oks x.cs k j ks))
    | _, _ => none
  | _ => none
def aStore (P : Program) (m : AMem) (t : TypeId) (a x : AV) : Option ARes :=
  match a, x.cells, sizeA P t with
  | .c (.ptr id k j), some vs, some (n + 1) =>
    match look m id with
    | some b =>
      match b.own && (Nat.beq vs.length (n + 1) && vs.all AC.one) with
      | true => some (.upd (.c (.v undef)) (.put id { b with cs := b.cs.put k j vs }) [b.inb k (j + vs.length)])
      | false => none
    | none => none
  | _, _, _ => none

def bitsOp (op : BinOp) (k : IntKind) (x y : Int) : Option Int :=
  let a := BitVec.ofInt k.bits x
  let b := BitVec.ofInt k.bits y
  match op with
  | .and => some (k.wrap (a &&& b).toNat)
  | .or => some (k.wrap (a ||| b).toNat)
  | .xor => some (k.wrap (a ^^^ b).toNat)
  | .andNot => some (k.wrap (a &&& ~~~b).toNat)
  | _ => none
/-- of two integers of one kind -/
def intOp (op : BinOp) (k : IntKind) (x y : Int) : Option (Value × List Bool) :=
  match op with
  | .add => some (.int k (k.wrap (x + y)), [])
  | .sub => some (.int k (k.wrap (x - y)), [])
  | .mul => some (.int k (k.wrap (x * y)), [])
  | .quo => some (.int k (k.wrap (x.tdiv y)), [decide (y ≠ 0)])
  | .rem => some (.int k (x.tmod y), [decide (y ≠ 0)])
  | .and | .or | .xor | .andNot => match bitsOp op k x y with | some n => some (.int k n, []) | none => none
  | .eql => some (.bool (x == y), [])
  | .neq => some (.bool (x != y), [])
  | .lss => some (.bool (decide (x < y)), [])
  | .leq => some (.bool (decide (x ≤ y)), [])
  | .gtr => some (.bool (decide (x > y)), [])
  | .geq => some (.bool (decide (x ≥ y)), [])
  | _ => none
def shOp (op : BinOp) (k : IntKind) (x y : Int) : Option (Value × List Bool) :=
  match op with
  | .shl => some (.int k (k.wrap (x * 2 ^ (min y.toNat k.bits))), [decide (0 ≤ y)])
  | .shr => some (.int k (x.fdiv (2 ^ (min y.toNat k.bits))), [decide (0 ≤ y)])
  | _ => none
/-- '==' of two cells of a kind -/
def eqF : List (Option IntKind) → List AC → List AC → Bool
  | none :: ks, x :: xs, y :: ys => asB x == asB y && eqF ks xs ys
  | some _ :: ks, x :: xs, y :: ys => asI x == asI y && eqF ks xs ys
  | _, _, _ => true
def okF : List (Option IntKind) → List AC → List Bool
  | none :: ks, x :: xs => okl .b x :: okF ks xs
  | some k :: ks, x :: xs => okl (.i k) x :: okF ks xs
  | _, _ => []
def neg? (op : BinOp) (b : Bool) : Option Bool :=
  match op with
  | .eql => some b
  | .neq => some !b
  | _ => none
def aBin (P : Program) (op : BinOp) (t : TypeId) : AV → AV → Option ARes
  | .c (.v (.int k x)), .c (.v (.int k' y)) =>
    match op with
    | .shl | .shr => match shOp op k x y with | some (r, ob) => some (.eff (.c (.v r)) [] ob) | none => none
    | _ => if k = k' then (match intOp op k x y with | some (r, ob) => some (.eff (.c (.v r)) [] ob) | none => none) else none
  | .c (.v (.bool x)), .c (.v (.bool y)) =>
    match P.underlying t, neg? op (x == y) with
    | some .bool, some r => some (.eff (.c (.v (.bool r))) [] [])
    | _, _ => none
  | .c (.v (.pointer none)), .c (.v (.pointer none)) =>
    match P.underlying t, neg? op true with
    | some (.pointer _), some r => some (.eff (.c (.v (.bool r))) [] [])
    | _, _ => none
  | .c (.ptr _ _ _), .c (.v (.pointer none)) =>
    match P.underlying t, neg? op false with
    | some (.pointer _), some r => some (.eff (.c (.v (.bool r))) [] [])
    | _, _ => none
  | .agg xs, .agg ys =>
    match flatOf P 9 t, neg? op (eqF ((flatOf P 9 t).getD []) xs ys), P.eqGuardType P.depth t, (aggSize P t).isSome with
    | some ks, some r, false, true =>
      match Nat.beq xs.length ks.length && Nat.beq ys.length ks.length with
      | true => some (.eff (.c (.v (.bool r))) [] (okF ks xs ++ okF ks ys))
      | false => none
    | _, _, _, _ => none
  | _, _ => none
/-- a slice held against nil -/
def aBinM (P : Program) (m : AMem) (op : BinOp) (t : TypeId) (x y : AV) : Option ARes :=
  match x, y with
  | .c (.sl id _ _ _ _), .c (.v (.slice none 0 0)) =>
    match P.underlying t, neg? op false, look m id with
    | some (.slice _), some r, some b => some (.eff (.c (.v (.bool r))) [] [b.inb 0 1])
    | _, _, _ => none
  | .c (.v (.slice none _ _)), .c (.v (.slice none 0 0)) =>
    match P.underlying t, neg? op true with
    | some (.slice _), some r => some (.eff (.c (.v (.bool r))) [] [])
    | _, _ => none
  | .c (.v (.slice (some _) _ _)), .c (.v (.slice none 0 0)) =>
    match P.underlying t, neg? op false with
    | some (.slice _), some r => some (.eff (.c (.v (.bool r))) [] [])
    | _, _ => none
  | x, y => aBin P op t x y
def aUn (op : UnOp) : AV → Option ARes
  | .c (.v (.bool b)) => match op with | .not => some (.eff (.c (.v (.bool !b))) [] []) | _ => none
  | .c (.v (.int k n)) =>
    match op with
    | .neg => some (.eff (.c (.v (.int k (k.wrap (0 - n))))) [] [])
    | .xor => match bitsOp .xor k (if k.signed then -1 else k.max) n with | some r => some (.eff (.c (.v (.int k r))) [] []) | none => none
    | _ => none
  | _ => none
def aConv (P : Program) (src dst : TypeId) : AV → Option ARes
  | .c (.v (.int _ n)) =>
    match P.underlying src, P.underlying dst with
    | some _, some (.int k) => some (.eff (.c (.v (.int k (k.wrap n)))) [] [])
    | _, _ => none
  | _ => none
def capsOf : List AV → Option (List (Nat × Nat × Nat))
  | [] => some []
  | .c (.ptr id k j) :: r => match capsOf r with | some l => some ((id, k, j) :: l) | none => none
  | _ => none
def aFieldAddr (P : Program) (t : TypeId) (f : Nat) : AV → Option ARes
  | .c (.ptr id k j) =>
    match P.underlying t with
    | some (.struct fs) =>
      match fs[f]? with
      | some fd => match sizeA P fd.type with | some (_ + 1) => some (.eff (.c (.ptr id k (j + fd.offset))) [] []) | _ => none
      | none => none
    | _ => none
  | _ => none
def aField (P : Program) (t : TypeId) (f : Nat) : AV → Option ARes
  | .agg l =>
    match P.underlying t with
    | some (.struct fs) =>
      match fs[f]? with
      | some fd =>
        match aggB P fd.type, sizeA P fd.type with
        | some true, some n => some (.eff (.agg ((l.drop fd.offset).take n)) [] [])
        | some false, some _ => if fd.offset < l.length then some (.eff (.c (l.getD fd.offset nov)) [] []) else none
        | _, _ => none
      | none => none
    | _ => none
  | _ => none
def aIndexAddr (P : Program) (m : AMem) (t : TypeId) : AV → AV → Option ARes
  | .c (.ptr id k j), .c (.v (.int _ i)) =>
    match P.underlying t with
    | some (.array n e) => match sizeA P e with | some s => some (.eff (.c (.ptr id k (j + i.toNat * s))) [] [decide (0 ≤ i ∧ i < (n : Int))]) | none => none
    | _ => none
  | .c (.sl id k j len _), .c (.v (.int _ i)) =>
    match P.underlying t, look m id with
    | some (.slice e), some x =>
      match sizeA P e with
      | some s => if x.sz = s then some (.eff (.c (.ptr id (k + i.toNat) j)) [] [decide (0 ≤ i ∧ i < (len : Int))])
          else if x.sz = 0 then some (.eff (.c (.ptr id k (j + i.toNat * s))) [] [decide (0 ≤ i ∧ i < (len : Int))]) else none
      | none => none
    | _, _ => none
  | _, _ => none
def rdL (l : List AC) : Nat → List Kd → List AC
  | _, [] => []
  | j, kd :: r => tl kd (l.getD j nov) :: rdL l (j + 1) r
def okL (l : List AC) : Nat → List Kd → List Bool
  | _, [] => []
  | j, .any :: r => okL l (j + 1) r
  | j, kd :: r => okl kd (l.getD j nov) :: okL l (j + 1) r
def aIndex (P : Program) (t : TypeId) : AV → AV → Option ARes
  | .agg l, .c (.v (.int _ i)) =>
    match P.underlying t with
    | some (.array n e) =>
      match lay? P e with
      | some (true, ks) => if n * ks.length = l.length then some (.eff (.agg (rdL l (i.toNat * ks.length) ks)) [] (decide (0 ≤ i ∧ i < (n : Int)) :: okL l (i.toNat * ks.length) ks)) else none
      | some (false, ks) => if n * ks.length = l.length then some (.eff (.c (hd1 (rdL l (i.toNat * ks.length) ks))) [] (decide (0 ≤ i ∧ i < (n : Int)) :: okL l (i.toNat * ks.length) ks)) else none
      | none => none
    | _ => none
  | .c (.v (.string x)), .c (.v (.int _ i)) =>
    match P.underlying t with
    | some .string =>
      match x[i.toNat]? with
      | some b => some (.eff (.c (.v (.int .u8 b.toNat))) [] [decide (0 ≤ i)])
      | none => none
    | _ => none
  | _, _ => none
def aExtract (i : Nat) : AV → Option ARes
  | .tup l => match l[i]? with | some x => some (.eff x [] []) | none => none
  | _ => none
/-- parts laid over cells -/
def bldA (f : Nat → Option (Nat × Nat)) : List AC → List (Nat × AV) → Option (List AC)
  | acc, [] => some acc
  | acc, (i, x) :: r =>
    match f i, x.cells with
    | some (o, k), some vs => match Nat.beq vs.length k && (Nat.ble (o + k) acc.length && vs.all AC.one) with | true => bldA f (setL acc o vs) r | false => none
    | _, _ => none
def placesF (P : Program) : List Field → Option (List (Nat × Nat))
  | [] => some []
  | f :: r => match sizeA P f.type, placesF P r with | some n, some l => some ((f.offset, n) :: l) | _, _ => none
def zeroA (P : Program) (t : TypeId) : Option (List AC) :=
  match P.info? t with
  | some i => match i.zero with | some z => some (z.cells.toList.map .v) | none => none
  | none => none
def aBuild (P : Program) (t : TypeId) (ps : List (Nat × AV)) : Option ARes :=
  match zeroA P t, P.underlying t with
  | some z, some (.struct fs) =>
    match placesF P fs.toList with
    | some pl => match bldA (fun i => pl[i]?) z ps with | some l => some (.eff (.agg l) [] []) | none => none
    | none => none
  | some z, some (.array _ e) =>
    match sizeA P e with
    | some s => match bldA (fun i => some (i * s, s)) z ps with | some l => some (.eff (.agg l) [] []) | none => none
    | none => none
  | _, _ => none
def flatParts (s : Nat) : Nat → List (Nat × AV) → Option (List AC)
  | _, [] => some []
  | i, (j, x) :: r =>
    match x.cells, flatParts s (i + 1) r with
    | some vs, some l => match Nat.beq i j && (Nat.beq vs.length s && vs.all AC.one) with | true => some (vs ++ l) | false => none
    | _, _ => none
def aBuildSlice (P : Program) (ib : Nat) (t : TypeId) (n : Nat) (ps : List (Nat × AV)) : Option ARes :=
  match P.underlying t with
  | some (.slice e) =>
    match sizeA P e, zeroA P e, flatParts ((sizeA P e).getD 0) 0 ps with
    | some s, some z, some l =>
      match Nat.beq ps.length n && (Nat.ble 1 (n * s) && (Nat.ble (n * s) 16777216 && Nat.beq z.length s)) with
      | true => some (.eff (.c (.sl ib 0 0 n (some n))) [(ib, ⟨true, false, e, 0, .lit l⟩)] [])
      | false => none
    | _, _, _ => none
  | _ => none
/-- an empty slice literal -/
def aEmpty (P : Program) (ib : Nat) (t : TypeId) : List (Nat × AV) → Option ARes
  | [] =>
    match P.underlying t with
    | some (.slice e) =>
      match sizeA P e with
      | some s => match Nat.ble 1 s with | true => some (.eff (.c (.sl ib 0 0 0 none)) [(ib, ⟨true, true, e, s, .arr 0 fun _ => []⟩)] []) | false => none
      | none => none
    | _ => none
  | _ => none
def optI (tm : List AV) (m : AMem) : Option Operand → Option (Option Int)
  | none => some none
  | some x => match evA tm m x with | some (.c (.v (.int _ i))) => some (some i) | _ => none
/-- what a slice expression's bounds are held against: the capacity, as far as it is known -/
def slC (cap : Option Nat) (len : Nat) : Option Int → Int
  | some M => M
  | none => ((cap.getD len : Nat) : Int)
def slCap (cap : Option Nat) (l : Int) : Option Int → Option Nat
  | some M => some (M - l).toNat
  | none => match cap with | some q => some (q - l.toNat) | none => none
def slRow (cap : Option Nat) (x : ABlk) (k len : Nat) : Bool :=
  match cap, x.cs with
  | some _, _ => true
  | none, .arr n _ => x.row && decide (k + len ≤ n)
  | none, _ => false
def slOb (cap : Option Nat) (x : ABlk) (k len : Nat) (lo hi mx : Option Int) : List Bool :=
  [decide (0 ≤ lo.getD 0 ∧ lo.getD 0 ≤ hi.getD (len : Int) ∧ hi.getD (len : Int) ≤ slC cap len mx), decide (lo.getD 0 = 0 ∨ lo.getD 0 < slC cap len mx), decide (slC cap len mx ≤ ((cap.getD len : Nat) : Int)), mx.isNone || hi.isSome, slRow cap x k len]
def aSlice (P : Program) (m : AMem) (t : TypeId) (lo hi mx : Option Int) : AV → Option ARes
  | .c (.v (.slice none 0 0)) =>
    match P.underlying t with
    | some (.slice e) => match sizeA P e with | some _ => some (.eff (.c (.v (.slice none 0 0))) [] [decide (lo.getD 0 = 0 ∧ hi.getD 0 = 0 ∧ mx.getD 0 = 0), mx.isNone || hi.isSome]) | none => none
    | _ => none
  | .c (.sl id k j len cap) =>
    match P.underlying t, look m id with
    | some (.slice e), some x =>
      match sizeA P e with
      | some s =>
        if x.sz = s then some (.eff (.c (.sl id (k + (lo.getD 0).toNat) j (hi.getD (len : Int) - lo.getD 0).toNat (slCap cap (lo.getD 0) mx))) [] (slOb cap x k len lo hi mx))
        else if x.sz = 0 ∧ cap.isSome = true then some (.eff (.c (.sl id k (j + (lo.getD 0).toNat * s) (hi.getD (len : Int) - lo.getD 0).toNat (slCap cap (lo.getD 0) mx))) [] (slOb cap x k len lo hi mx)) else none
      | none => none
    | _, _ => none
  | _ => none
def aLen (P : Program) (t : TypeId) : AV → Option ARes
  | .c (.sl _ _ _ len _) => match P.underlying t with | some (.slice _) => some (.eff (.c (.v (goInt len))) [] []) | _ => none
  | .c (.v (.slice _ n _)) => match P.underlying t with | some (.slice _) => some (.eff (.c (.v (goInt n))) [] []) | _ => none
  | .c (.v (.string s)) => match P.underlying t with | some .string => some (.eff (.c (.v (goInt s.size))) [] []) | _ => none
  | _ => none
def aCap (P : Program) (t : TypeId) : AV → Option ARes
  | .c (.sl _ _ _ _ (some c)) => match P.underlying t with | some (.slice _) => some (.eff (.c (.v (goInt c))) [] []) | _ => none
  | .c (.v (.slice _ _ c)) => match P.underlying t with | some (.slice _) => some (.eff (.c (.v (goInt c))) [] []) | _ => none
  | _ => none
def minL (k : IntKind) : Int → List AV → Option Int
  | x, [] => some x
  | x, .c (.v (.int _ y)) :: r => minL k (if y < x then y else x) r
  | _, _ => none
def maxL (k : IntKind) : Int → List AV → Option Int
  | x, [] => some x
  | x, .c (.v (.int _ y)) :: r => maxL k (if y > x then y else x) r
  | _, _ => none
/-- the cells of element 'i' of a slice -/
def elt (x : ABlk) (k j s : Nat) : Nat → List AC :=
  match x.cs with
  | .arr _ f => fun i => f (k + i)
  | .lit l => fun i => (l.drop (j + i * s)).take s
  | .obj _ => fun _ => []
def eltB (x : ABlk) (k j s n : Nat) : Option Bool :=
  match x.cs with
  | .arr q _ => if x.sz = s ∧ j = 0 then some (decide (k + n ≤ q)) else none
  | .lit l => some (decide (j + n * s ≤ l.length))
  | .obj _ => none
def apd (e : TypeId) (s : Nat) (n : Nat) (f : Nat → List AC) (q : Nat) (g : Nat → List AC) : ABlk := ⟨true, true, e, s, .arr (n + q) fun i => if i < n then f i else g (i - n)⟩
def aAppend (P : Program) (m : AMem) (ib : Nat) (t t' : TypeId) (x y : AV) : Option ARes :=
  match Nat.beq t t', P.underlying t with
  | true, some (.slice e) =>
    match P.info? e, zeroA P e, x, y with
    | some i, some z, .c (.v (.slice none 0 0)), .c (.sl id k j n _) =>
      match look m id with
      | some b =>
        match eltB b k j i.size n, Nat.ble 1 i.size && (Nat.ble 1 i.bytes && Nat.beq z.length i.size) with
        | some ob, true => some (.eff (.c (.sl ib 0 0 (0 + n) none)) [(ib, apd e i.size 0 (fun _ => []) n (elt b k j i.size))] [ob, decide (n * i.bytes ≤ 140737488355328)])
        | _, _ => none
      | none => none
    | some i, some z, .c (.v (.slice none 0 0)), .c (.v (.slice _ 0 _)) =>
      match Nat.ble 1 i.size && (Nat.ble 1 i.bytes && Nat.beq z.length i.size) with
      | true => some (.eff (.c (.v (.slice none 0 0))) [] [])
      | false => none
    | some i, some z, .c (.sl id0 k0 j0 len none), .c (.v (.slice _ 0 _)) =>
      match look m id0 with
      | some b0 =>
        match Nat.ble 1 i.size && (Nat.ble 1 i.bytes && Nat.beq z.length i.size), b0.cs with
        | true, .arr n0 _ => some (.eff (.c (.sl id0 k0 j0 len none)) [] [decide (k0 = 0), decide (len ≤ n0), b0.row])
        | _, _ => none
      | none => none
    | some i, some z, .c (.sl id0 k0 j0 len none), .c (.sl id k j n _) =>
      match look m id0, look m id with
      | some b0, some b =>
        match eltB b k j i.size n, Nat.ble 1 i.size && (Nat.ble 1 i.bytes && (Nat.beq z.length i.size && (b0.own && (b0.row && (Nat.beq b0.ty e && (Nat.beq b0.sz i.size && (Nat.beq j0 0 && !(Nat.beq id0 id)))))))), b0.cs with
        | some ob, true, .arr n0 f0 =>
          some (.upd (.c (.sl ib 0 0 (len + n) none)) (.app id0 ib (apd e i.size len f0 n (elt b k j i.size))) [ob, decide (k0 = 0), decide (len ≤ n0), decide ((len + n) * i.bytes ≤ 140737488355328)])
        | _, _, _ => none
      | _, _ => none
    | _, _, _, _ => none
  | _, _ => none
def aMake (P : Program) (ib : Nat) (t : TypeId) : AV → AV → Option ARes
  | .c (.v (.int _ l)), .c (.v (.int _ c)) =>
    match P.underlying t with
    | some (.slice e) =>
      match P.info? e, zeroA P e with
      | some i, some z =>
        match Nat.ble 1 i.size && (Nat.ble 1 i.bytes && (Nat.beq z.length i.size && z.all AC.one)) with
        | true => some (.eff (.c (.sl ib 0 0 l.toNat none)) [(ib, ⟨true, true, e, i.size, .arr l.toNat fun _ => z⟩)] [decide (0 ≤ l ∧ l = c ∧ l * i.bytes ≤ 140737488355328)])
        | false => none
      | _, _ => none
    | _ => none
  | _, _ => none
def aCopy (P : Program) (m : AMem) (t t' : TypeId) (x y : AV) : Option ARes :=
  match P.underlying t, P.underlying t', x, y with
  | some (.slice e), some (.slice _), .c (.sl id k j n _), .c (.sl id' k' j' n' _) =>
    match P.info? e, look m id, look m id' with
    | some i, some b, some b' =>
      match eltB b' k' j' i.size (min n n'), Nat.ble 1 i.size && (b.own && (Nat.beq b.sz i.size && Nat.beq j 0)), b.cs with
      | some ob, true, .arr q f => some (.upd (.c (.v (goInt (min n n' : Nat)))) (.put id { b with cs := .arr q fun p => if k ≤ p ∧ p < k + min n n' then elt b' k' j' i.size (p - k) else f p }) [ob, decide (k + min n n' ≤ q)])
      | _, _, _ => none
    | _, _, _ => none
  | _, _, _, _ => none
def aClear (P : Program) (m : AMem) (t : TypeId) : AV → Option ARes
  | .c (.sl id k j n _) =>
    match P.underlying t with
    | some (.slice e) =>
      match P.info? e, zeroA P e, look m id with
      | some i, some z, some b =>
        match Nat.ble 1 i.size && (b.own && (Nat.beq b.sz i.size && (Nat.beq j 0 && (Nat.beq z.length i.size && z.all AC.one)))), b.cs with
        | true, .arr q f => some (.upd (.tup []) (.put id { b with cs := .arr q fun p => if k ≤ p ∧ p < k + n then z else f p }) [decide (k + n ≤ q)])
        | _, _ => none
      | _, _, _ => none
    | _ => none
  | _ => none
def aBuiltin (P : Program) (m : AMem) (ib : Nat) (b : Builtin) (ts : List TypeId) (args : List AV) : Option ARes :=
  match b, ts, args with
  | .len, t :: _, x :: _ => aLen P t x
  | .cap, t :: _, x :: _ => aCap P t x
  | .append, [t, t'], [x, y] => aAppend P m ib t t' x y
  | .copy, [t, t'], [x, y] => aCopy P m t t' x y
  | .clear, [t], [x] => aClear P m t x
  | .min, _, .c (.v (.int k x)) :: r => match minL k x r with | some n => some (.eff (.c (.v (.int k n))) [] []) | none => none
  | .max, _, .c (.v (.int k x)) :: r => match maxL k x r with | some n => some (.eff (.c (.v (.int k n))) [] []) | none => none
  | _, _, _ => none
def aCall (args : List AV) : AV → Option ARes
  | .c (.v (.func (.func f) ⟨[]⟩ ⟨[]⟩)) => some (.call f args)
  | .c (.fn f caps) => some (.call f (args ++ caps.map fun (id, k, j) => .c (.ptr id k j)))
  | .c (.yld id) => some (.yld id args)
  | _ => none

def aop (P : Program) (tm : List AV) (m : AMem) (ib : Nat) (o : Op) : Option ARes :=
  match o with
  | .move x | .assign x => match evA tm m x with | some .any => none | some v => some (.eff v [] []) | none => none
  | .pick c a b =>
    match evA tm m c with
    | some (.c (.v (.bool t))) => match (match t with | true => evA tm m a | false => evA tm m b) with | some .any => none | some v => some (.eff v [] []) | none => none
    | _ => none
  | .alloc t => aAlloc P ib t
  | .box t x => match evA tm m x with | some v => aBox ib t v | none => none
  | .build t ps => match evPs tm m ps.toList with | some l => aBuild P t l | none => none
  | .buildSlice t n ps => match evPs tm m ps.toList with | some l => (match n with | 0 => aEmpty P ib t l | n' + 1 => aBuildSlice P ib t (n' + 1) l) | none => none
  | .load t a => match evA tm m a with | some v => aLoad P m t v | none => none
  | .store t a x => match evA tm m a, evA tm m x with | some v, some u => aStore P m t v u | _, _ => none
  | .nilCheck x =>
    match evA tm m x with
    | some (.c (.ptr id k j)) => some (.eff (.c (.ptr id k j)) [] [])
    | some (.c (.v (.func (.func f) a b))) => some (.eff (.c (.v (.func (.func f) a b))) [] [])
    | some (.c (.fn f l)) => some (.eff (.c (.fn f l)) [] [])
    | some (.c (.yld id)) => some (.eff (.c (.yld id)) [] [])
    | _ => none
  | .binOp op t x y _ => match evA tm m x, evA tm m y with | some v, some u => aBinM P m op t v u | _, _ => none
  | .unOp op _ x => match evA tm m x with | some v => aUn op v | none => none
  | .convert s d x => match evA tm m x with | some v => aConv P s d v | none => none
  | .makeFunc (.func f) first caps =>
    match first.toList, evAs tm m caps.toList with
    | [], some l => match capsOf l with | some cs => some (.eff (.c (.fn f cs)) [] []) | none => none
    | _, _ => none
  | .makeSlice t l c => match evA tm m l, evA tm m c with | some v, some u => aMake P ib t v u | _, _ => none
  | .slice t x lo hi mx =>
    match evA tm m x, optI tm m lo, optI tm m hi, optI tm m mx with
    | some v, some l, some h, some q => aSlice P m t l h q v
    | _, _, _, _ => none
  | .fieldAddr t x f => match evA tm m x with | some v => aFieldAddr P t f v | none => none
  | .field t x f => match evA tm m x with | some v => aField P t f v | none => none
  | .indexAddr t x i => match evA tm m x, evA tm m i with | some v, some u => aIndexAddr P m t v u | _, _ => none
  | .index t x i => match evA tm m x, evA tm m i with | some v, some u => aIndex P t v u | _, _ => none
  | .extract x i => match evA tm m x with | some v => aExtract i v | none => none
  | .call c =>
    match evAs tm m c.args.toList, c.callee with
    | some args, .builtin b => aBuiltin P m ib b c.argTypes.toList args
    | some args, .value f => match evA tm m f with | some v => aCall args v | none => none
    | _, _ => none
  | _ => none
def updOp : Op → Bool
  | .store _ _ _ => true
  | .call c => match c.callee with | .builtin .append => true | .builtin .copy => true | .builtin .clear => true | _ => false
  | _ => false
def callOp : Op → Bool
  | .call c => match c.callee with | .value _ => true | _ => false
  | _ => false
end Go.Proofs.YtpfkhlfkcmgdlaaDoor
