/- Parts, one behind the other. The symbolic evaluator, with the next name and the stride as arguments of their own (so that the kernel has them as numerals): it finds nothing that the other one doesn't. No Go text is in sight. -/
import Derived.Test.YtoelekmbmghicaaGreatDoorJSendersBoth9
import Derived.Test.YtoelekmbmghicaaGreatDoorJSendersBoth3
import Derived.IntWalk
set_option linter.unusedSimpArgs false
set_option linter.unusedVariables false
/- The symbolic evaluator, with the next name and the stride as arguments of their own (so that the kernel has them as numerals): it finds nothing that the other one doesn't. No Go text is in sight. -/
section
namespace Go.Proofs.YtoelekmbmghicaaGreatDoor
open Go.RowKit
def St.at_ (s : St) (n str : Nat) : St := { s with n := n, str := str }
def inR' (b str : Nat) : AMem → Bool
 | [] => true
 | (i, _) :: r => (Nat.ble b i && Nat.blt i (b + str)) && inR' b str r
def allOwn : AMem → Bool
 | [] => true
 | (_, b) :: r => b.own && allOwn r
abbrev CF := FuncId → List AV → Nat → Nat → St → Option (AV × Nat × St)
abbrev CY := Nat → List AV → Nat → Nat → St → Option (AV × Nat × St)
abbrev CR := Code → Nat → Nat → St → Option (Exit × Nat × St)
def fCallA (E : Env) (cf : CF) (f : FuncId) (args : List AV) (n str : Nat) (s : St) : Option (AV × Nat × St) :=
 match ctLook E.ct f args s.m n with
 | some (r, news, k, ob) => match Nat.ble (n + k) lim, s.need ob with | true, some s => some (r, n + k, { s with m := s.m ++ news }) | _, _ => none
 | none => cf f args n str s
def fOpS (E : Env) (cf : CF) (yf : CY) (ops : Array Oper) (o : Oper) (n str : Nat) (s : St) : Option (Nat × St) :=
 match guardA ops o s with
 | none => none
 | some (false, s) => some (n, s.put o.dst (.c (.v undef)))
 | some (true, s) =>
  match Nat.ble (n + 1) lim, aop E.P s.tm s.m n o.op with
  | true, some (.eff v news ob) => match s.need ob with | some s => some (n + 1, { s with m := s.m ++ news }.put o.dst v) | none => none
  | true, some (.upd v e ob) => match updOp o.op, s.need ob with | true, some s => some (n + 1, { s with m := e.on s.m }.put o.dst v) | _, _ => none
  | true, some (.call f args) => match callOp o.op, fCallA E cf f args n str s with | true, some (v, n', s) => some (n', s.put o.dst v) | _, _ => none
  | true, some (.yld id args) => match callOp o.op, yf id args n str s with | true, some (v, n', s) => some (n', s.put o.dst v) | _, _ => none
  | _, _ => none
def fOpsS (E : Env) (cf : CF) (yf : CY) (ops : Array Oper) : List Oper → Nat → Nat → St → Option (Nat × St)
 | [], n, _, s => some (n, s)
 | o :: r, n, str, s => match fOpS E cf yf ops o n str s with | some (n, s) => fOpsS E cf yf ops r n str s | none => none
def fOpQ (E : Env) (cf : CF) (ops : Array Oper) (o : Oper) (mi : AMem) (b str : Nat) (s : St) : Option (AV × AMem × St) :=
 match guardA ops o s with
 | none => none
 | some (false, s) => some (.c (.v undef), [], s)
 | some (true, s) =>
  match Nat.ble (b + str) lim && Nat.ble 1 str, aop E.P (mask (o.looksAt ops) 0 s.tm) mi b o.op with
  | true, some (.eff v news ob) => match inR' b str news, s.need ob with | true, some s => some (v, news, s) | _, _ => none
  | true, some (.call f args) =>
   match callOp o.op, ctLook E.ct f args mi b with
   | true, some (r, news, k, ob) => match Nat.ble k str && inR' b str news, s.need ob with | true, some s => some (r, news, s) | _, _ => none
   | true, none =>
    match cf f args b (str / 100000000) { s with m := roM mi, ms := [], rd := none } with
    | some (r, n', s') =>
     match Nat.ble n' (b + str) && (inR' b str (fromN b s'.m) && allOwn (fromN b s'.m)) with
     | true => some (r, fromN b s'.m, { s with path := s'.path, lp := s'.lp, ob := s'.ob, po := s'.po })
     | false => none
    | none => none
   | _, _ => none
  | _, _ => none
def fOpsQ (E : Env) (cf : CF) (ops : Array Oper) (n0 str : Nat) : List Oper → Nat → List (Nat × AMem) → St → Option (List (Nat × AMem) × St)
 | [], _, acc, s => some (acc, s)
 | o :: r, i, acc, s =>
  match fOpQ E cf ops o (s.m ++ newsOf ops i acc) (n0 + i * str) str s with
  | some (v, news, s) => fOpsQ E cf ops n0 str r (i + 1) (acc ++ [(i, news)]) (s.put o.dst v)
  | none => none
def fRegD (E : Env) (cf : CF) (yf : CY) (ops : Array Oper) (n str : Nat) (s : St) : Option (Nat × St) :=
 match drawOk ops (quietLen ops.toList) with
 | true =>
  match fOpsQ E cf ops n str (ops.toList.take (quietLen ops.toList)) 0 [] s with
  | some (acc, s') => fOpsS E cf yf ops (ops.toList.drop (quietLen ops.toList)) (n + quietLen ops.toList * str) str { s' with m := s'.m ++ newsAll acc }
  | none => none
 | false => none
def fOpW (E : Env) (cf : CF) (ops : Array Oper) (o : Oper) (mi : AMem) (b str : Nat) (s : St) : Option (AV × AStep × St) :=
 match guardA ops o s with
 | none => none
 | some (false, s) => some (.c (.v undef), .news [], s)
 | some (true, s) =>
  match Nat.ble (b + str) lim && Nat.ble 1 str, aop E.P (mask (o.looksAt ops) 0 s.tm) mi b o.op with
  | true, some (.call f args) =>
   match callOp o.op, ctLook E.ct f args mi b with
   | true, some (r, news, k, ob) => match Nat.ble k str && inR' b str news, s.need ob with | true, some s => some (r, .news news, s) | _, _ => none
   | true, none =>
    match cf f args b (str / 100000000) { s with m := woM mi, ms := [], rd := none } with
    | some (r, n', s') =>
     match Nat.ble n' (b + str) && (inR' b str (fromN b s'.m) && allOwn (fromN b s'.m)) with
     | true => some (r, .many (putsW s'.m (woM mi)) (fromN b s'.m), { s with path := s'.path, lp := s'.lp, ob := s'.ob, po := s'.po })
     | false => none
    | none => none
   | _, _ => none
  | _, _ => none
def fOpE (E : Env) (cf : CF) (wm : Bool) (ops : Array Oper) (o : Oper) (mi : AMem) (b str : Nat) (s : St) : Option (AV × AStep × St) :=
 match updOp o.op with
 | false =>
  match wm && wrCall E.P o.op with
  | false => match fOpQ E cf ops o mi b str s with | some (v, l, s) => some (v, .news l, s) | none => none
  | true => fOpW E cf ops o mi b str s
 | true =>
  match guardA ops o s with
  | none => none
  | some (false, s) => some (.c (.v undef), .news [], s)
  | some (true, s) =>
   match Nat.ble (b + str) lim && Nat.ble 1 str, aop E.P (mask (o.looksAt ops) 0 s.tm) mi b o.op with
   | true, some (.eff v l ob) => match inR' b str l, s.need ob with | true, some s => some (v, .news l, s) | _, _ => none
   | true, some (.upd v e ob) => match efxNe b e, s.need ob with | true, some s => some (v, .efx e, s) | _, _ => none
   | _, _ => none
def fOpsE (E : Env) (cf : CF) (wm : Bool) (ops : Array Oper) (vis : Nat → AMem → AMem) (n0 str : Nat) : List Oper → Nat → List (Nat × Nat) → St → Option (List (Nat × Nat) × St)
 | [], _, acc, s => some (acc, s)
 | o :: r, i, acc, s =>
  match fOpE E cf wm ops o (vis i s.m) (n0 + i * str) str s with
  | some (v, z, s) => fOpsE E cf wm ops vis n0 str r (i + 1) (acc ++ tidsOf i z) ({ s with m := z.on s.m }.put o.dst v)
  | none => none
def fRegE (E : Env) (cf : CF) (ops : Array Oper) (n str : Nat) (s : St) : Option (Nat × St) :=
 match drawE ops, fOpsE E cf false ops (filtE ops [] n str) n str ops.toList 0 [] s with
 | true, some (ts, _) =>
  match fOpsE E cf false ops (filtE ops ts n str) n str ops.toList 0 [] s with
  | some (ts', s') => match eqP ts' ts && chainE ops ts with | true => some (n + ops.size * str, s') | false => none
  | none => none
 | _, _ => none
def fRegW (E : Env) (cf : CF) (ops : Array Oper) (n str : Nat) (s : St) : Option (Nat × St) :=
 match fOpsE E cf true ops (visW ops n str) n str ops.toList 0 [] s with
 | some (_, s') => some (n + ops.size * str, s')
 | none => none
def fRegY (E : Env) (cf : CF) (ops : Array Oper) (n str : Nat) (s : St) : Option (Nat × St) :=
 match drawE ops, fOpsE E cf true ops (visY E.P ops s.tm [] n str) n str ops.toList 0 [] s with
 | true, some (ts, _) =>
  match fOpsE E cf true ops (visY E.P ops s.tm ts n str) n str ops.toList 0 [] s with
  | some (ts', s') => match eqP ts' ts && chainE ops ts with | true => some (n + ops.size * str, s') | false => none
  | none => none
 | _, _ => none
def fRegX (E : Env) (cf : CF) (yf : CY) (ops : Array Oper) (n str : Nat) (s : St) : Option (Nat × St) :=
 match wOk E.P ops with
 | true => fRegW E cf ops n str s
 | false =>
  match yOn E ops with
  | true => fRegY E cf ops n str s
  | false =>
   match drawOk ops (quietLen ops.toList) with
   | true => fRegD E cf yf ops n str s
   | false => fRegE E cf ops n str s
def fCallF (E : Env) (run : CR) (f : FuncId) (args : List AV) (n str : Nat) (s : St) : Option (AV × Nat × St) :=
 match E.P.funcs[f]? with
 | some fn =>
  match fn.body with
  | some c =>
   match run c n str { s with tm := args ++ List.replicate (fn.ntmps - args.length) (.c (.v undef)), ms := [], rd := none } with
   | some (.ret, n', s') => match endF E.P fn s s' with | some (v, s') => some (v, n', s') | none => none
   | some (.normal, n', s') => match endF E.P fn s s' with | some (v, s') => some (v, n', s') | none => none
   | _ => none
  | none => none
 | none => none
def fYieldS (run : CR) (id : Nat) (args : List AV) (n str : Nat) (s : St) : Option (AV × Nat × St) :=
 match look s.m id with
 | some x =>
  match x.cs with
  | .obj (.loop _ _ tm ps as bd _) =>
   match Nat.beq args.length ps.size with
   | true =>
    match run as n str { s with tm := setPs ps.toList args tm, ms := [], rd := some id } with
    | some (.normal, n1, s1) =>
     match look s1.m id with
     | some x1 =>
      match x1.cs with
      | .obj (.loop .ready pd1 tm1 ps1 as1 bd1 dn1) =>
       match run bd n1 str { s1 with m := updM s1.m id { x1 with cs := .obj (.loop .busy pd1 tm1 ps1 as1 bd1 dn1) } } with
       | some (e, n2, s2) => match endY id e s s2 with | some (v, s') => some (v, n2, s') | none => none
       | none => none
      | _ => none
     | none => none
    | _ => none
   | false => none
  | _ => none
 | none => none
def fEnterA (n : Nat) (s : St) (ps : Array Tmp) (as bd : Code) : Option (AMem × List Nat) :=
 match s.rd with
 | none => some (s.m ++ [(n, oblk (.dfr true))] ++ [(n + 1, oblk (.loop .ready none s.tm ps as bd n))], n :: s.ms)
 | some r =>
  match look s.m r with
  | some x => match x.cs with | .obj (.loop _ _ _ _ _ _ dn) => some (s.m ++ [(n + 1, oblk (.loop .ready none s.tm ps as bd dn))], s.ms) | _ => none
  | none => none
def fScopeS (run : CR) (a : Code) : Nat → Code → Nat → Nat → St → Option (Exit × Nat × St)
 | 0, _, _, _, _ => none
 | k + 1, c, n, str, s =>
  match run c n str s with
  | some (.goto l, n, s) => match findLabel a l with | some c' => fScopeS run a k c' n str s | none => some (.goto l, n, s)
  | r => r
def fC (E : Env) : Nat → Code → Nat → Nat → St → Option (Exit × Nat × St)
 | 0, _, _, _, _ => none
 | g + 1, c, n, str, s =>
  match c with
  | .skip => some (.normal, n, s)
  | .label _ => some (.normal, n, s)
  | .region _ ops d =>
   match d with
   | false => match fOpsS E (fCallF E (fC E g)) (fYieldS (fC E g)) ops ops.toList n str s with | some (n, s) => some (.normal, n, s) | none => none
   | true => match fRegX E (fCallF E (fC E g)) (fYieldS (fC E g)) ops n str s with | some (n, s) => some (.normal, n, s) | none => none
  | .seq a b =>
   match fC E g a n str s with
   | some (.normal, n, s) => fC E g b n str s
   | r => r
  | .cond (.tmp t) a b =>
   match s.tm[t]? with
   | some (.c (.v (.bool x))) => match s.dec t x with | some (true, s) => fC E g a n str s | some (false, s) => fC E g b n str s | none => none
   | _ => none
  | .cond (.const (.bool x)) a b => match x with | true => fC E g a n str s | false => fC E g b n str s
  | .block id a =>
   match fC E g a n str s with
   | some (.exit id', n, s) => match Nat.beq id' id with | true => some (.normal, n, s) | false => some (.exit id', n, s)
   | r => r
  | .loop a =>
   match s.lp with
   | some ⟨slots, ids, tm, m, k, e⟩ :: p =>
    match Nat.ble n k && Nat.ble k lim with
    | true => some (e, k, { s with tm := tm, m := m, lp := p, po := LoopV E.P a slots ids (slots.map fun t => s.tm[t]?) (ids.map (look s.m)) s.tm.length n tm m k e s.rd :: s.po })
    | false => none
   | none :: p => match fC E g a n str { s with lp := p } with | some (.normal, n, s) => fC E g (.loop a) n str { s with lp := none :: s.lp } | r => r
   | [] => match fC E g a n str s with | some (.normal, n, s) => fC E g (.loop a) n str s | r => r
  | .exit id => some (.exit id, n, s)
  | .goto l => some (.goto l, n, s)
  | .scope a => fScopeS (fC E g) a 200 a n str s
  | .ret => some (.ret, n, s)
  | .rangeFunc f ps as bd =>
   match Nat.ble (n + 2) lim, evA s.tm s.m f, fEnterA n s ps as bd with
   | true, some v, some (m', ms') =>
    match aCall [.c (.yld (n + 1))] v with
    | some (.call g' args) =>
     match fCallF E (fC E g) g' args (n + 2) str { s with m := m' } with
     | some (_, n1, s1) => match leaveA (n + 1) { s1 with ms := ms' } with | some (e, s') => some (e, n1, s') | none => none
     | none => none
    | _ => none
   | _, _, _ => none
  | _ => none
section
variable {E : Env}
theorem inR_eq (b str : Nat) : ∀ l : AMem, inR' b str l = inR b str l
 | [] => rfl
 | (i, x) :: r => by simp only [inR', inR, List.all_cons]; rw [inR_eq b str r]; rfl
theorem allOwn_eq : ∀ l : AMem, allOwn l = l.all (fun x => x.2.own)
 | [] => rfl
 | (i, x) :: r => by simp only [allOwn, List.all_cons]; rw [allOwn_eq r]
theorem need_at {s s' : St} {l : List Bool} {n str : Nat} (h : s.need l = some s') : (s.at_ n str).need l = some (s'.at_ n str) := by
 obtain ⟨tm, m, n0, str0, sk, path, ob, po, ms0, rd0, lp0⟩ := s
 cases sk with
 | true =>
  simp only [St.need, St.at_] at h ⊢
  split at h
  · rename_i hl; cases h; rfl
  · cases h
 | false =>
  simp only [St.need, St.at_, Option.some.injEq] at h ⊢
  subst h; rfl
theorem dec_at {s s' : St} {t : Tmp} {b d : Bool} {n str : Nat} (h : s.dec t b = some (d, s')) : (s.at_ n str).dec t b = some (d, s'.at_ n str) := by
 obtain ⟨tm, m, n0, str0, sk, path, ob, po, ms0, rd0, lp0⟩ := s
 cases path with
 | nil => cases b <;> (simp only [St.dec, St.at_, Option.some.injEq, Prod.mk.injEq] at h ⊢; obtain ⟨rfl, rfl⟩ := h; exact ⟨rfl, rfl⟩)
 | cons q r =>
  cases q with
  | b d' => simp only [St.dec, St.at_, Option.some.injEq, Prod.mk.injEq] at h ⊢; obtain ⟨rfl, rfl⟩ := h; exact ⟨rfl, rfl⟩
  | _ => cases b <;> (simp only [St.dec, St.at_, Option.some.injEq, Prod.mk.injEq] at h ⊢; obtain ⟨rfl, rfl⟩ := h; exact ⟨rfl, rfl⟩)
theorem guard_at {ops : Array Oper} {o : Oper} {s s' : St} {d : Bool} {n str : Nat} (h : guardA ops o s = some (d, s')) : guardA ops o (s.at_ n str) = some (d, s'.at_ n str) := by
 unfold guardA at h ⊢
 split at h
 · cases h; rfl
 · rename_i j want hg
   split at h
   · cases h; rfl
   · rename_i t hd
     have htm : (s.at_ n str).tm = s.tm := rfl
     rw [htm]
     split at h
     · rename_i b hb
       split at h
       · rename_i d' s'' hdec
         rw [dec_at hdec]
         cases h; rfl
       · cases h
     · rename_i vs hb
       cases h; rfl
     · cases h
def SimY (yf : CY) (yf0 : Nat → List AV → St → Option (AV × St)) : Prop :=
 ∀ id args n str s r n' s', yf id args n str s = some (r, n', s') → yf0 id args (s.at_ n str) = some (r, s'.at_ n' str)
def SimF (cf : CF) (cf0 : FuncId → List AV → St → Option (AV × St)) : Prop :=
 ∀ f args n str s r n' s', cf f args n str s = some (r, n', s') → cf0 f args (s.at_ n str) = some (r, s'.at_ n' str)
theorem callA_sim {cf : CF} {cf0 : FuncId → List AV → St → Option (AV × St)} (h : SimF cf cf0) : SimF (fCallA E cf) (callA E cf0) := by
 intro f args n str s r n' s' hh
 unfold fCallA at hh
 unfold callA
 have e1 : (s.at_ n str).m = s.m := rfl
 have e2 : (s.at_ n str).n = n := rfl
 rw [e1, e2]
 split at hh
 · rename_i r' news k ob hct
   rw [hct]
   simp only
   split at hh
   · rename_i s1 hle hneed
     rw [hle, need_at hneed]
     cases hh; rfl
   · cases hh
 · rename_i hct
   rw [hct]
   exact h _ _ _ _ _ _ _ _ hh
theorem opS_sim {cf : CF} {cf0 : FuncId → List AV → St → Option (AV × St)} {yf : CY} {yf0 : Nat → List AV → St → Option (AV × St)} (hcf : SimF cf cf0) (hyf : SimY yf yf0) {ops : Array Oper} {o : Oper} {n str n' : Nat} {s s' : St} (h : fOpS E cf yf ops o n str s = some (n', s')) :
 opS E cf0 yf0 ops o (s.at_ n str) = some (s'.at_ n' str) := by
 unfold fOpS at h
 unfold opS
 split at h
 · cases h
 · rename_i s1 hg
   rw [guard_at hg]
   cases h; rfl
 · rename_i s1 hg
   rw [guard_at hg]
   simp only
   have e1 : (s1.at_ n str).m = s1.m := rfl
   have e2 : (s1.at_ n str).n = n := rfl
   have e3 : (s1.at_ n str).tm = s1.tm := rfl
   rw [e1, e2, e3]
   split at h
   · rename_i v news ob hle haop
     rw [hle, haop]
     simp only
     split at h
     · rename_i s2 hneed
       rw [need_at hneed]
       cases h; rfl
     · cases h
   · rename_i v m' ob hle haop
     rw [hle, haop]
     simp only
     split at h
     · rename_i s2 hup hneed
       rw [hup, need_at hneed]
       cases h; rfl
     · cases h
   · rename_i f args hle haop
     rw [hle, haop]
     simp only
     split at h
     · rename_i v n2 s2 hco hcall
       rw [hco, callA_sim hcf _ _ _ _ _ _ _ _ hcall]
       cases h; rfl
     · cases h
   · rename_i id args hle haop
     rw [hle, haop]
     simp only
     split at h
     · rename_i v n2 s2 hco hcall
       rw [hco, hyf _ _ _ _ _ _ _ _ hcall]
       cases h; rfl
     · cases h
   · cases h
theorem opsS_sim {cf : CF} {cf0 : FuncId → List AV → St → Option (AV × St)} {yf : CY} {yf0 : Nat → List AV → St → Option (AV × St)} (hcf : SimF cf cf0) (hyf : SimY yf yf0) {ops : Array Oper} : ∀ {l : List Oper} {n str n' : Nat} {s s' : St}, fOpsS E cf yf ops l n str s = some (n', s') → opsS E cf0 yf0 ops l (s.at_ n str) = some (s'.at_ n' str)
 | [], n, str, n', s, s', h => by simp only [fOpsS, Option.some.injEq, Prod.mk.injEq] at h; obtain ⟨rfl, rfl⟩ := h; rfl
 | o :: r, n, str, n', s, s', h => by
  simp only [fOpsS] at h
  simp only [opsS]
  split at h
  · rename_i n1 s1 h1
    rw [opS_sim hcf hyf h1]
    exact opsS_sim hcf hyf h
  · cases h
theorem opQ_sim {cf : CF} {cf0 : FuncId → List AV → St → Option (AV × St)} (hcf : SimF cf cf0) {ops : Array Oper} {o : Oper} {i n0 b str : Nat} {mi news : AMem} {v : AV} {s s' : St} (h : fOpQ E cf ops o mi b str s = some (v, news, s')) :
 opQ E cf0 ops i o mi b (s.at_ n0 str) = some (v, news, s'.at_ n0 str) := by
 unfold fOpQ at h
 unfold opQ
 split at h
 · cases h
 · rename_i s1 hg
   rw [guard_at hg]
   cases h; rfl
 · rename_i s1 hg
   rw [guard_at hg]
   simp only
   have e1 : (s1.at_ n0 str).str = str := rfl
   have e3 : (s1.at_ n0 str).tm = s1.tm := rfl
   rw [e1, e3]
   split at h
   · rename_i v' news' ob hle haop
     rw [hle, haop]
     simp only
     split at h
     · rename_i s2 hin hneed
       rw [inR_eq] at hin
       rw [hin, need_at hneed]
       cases h; rfl
     · cases h
   · rename_i f args hle haop
     rw [hle, haop]
     simp only
     split at h
     · rename_i r news' k ob hco hct
       rw [hco, hct]
       simp only
       split at h
       · rename_i s2 hin hneed
         rw [inR_eq] at hin
         rw [hin, need_at hneed]
         cases h; rfl
       · cases h
     · rename_i hco hct
       rw [hco, hct]
       simp only
       split at h
       · rename_i r n2 s2 hcall
         have := hcf _ _ _ _ _ _ _ _ hcall
         obtain ⟨tm1, m1, n1, str1, sk1, path1, ob1, po1, ms1, rd1, lp1⟩ := s1
         simp only [St.at_] at this ⊢
         rw [this]
         simp only
         split at h
         · rename_i hc
           rw [inR_eq, allOwn_eq] at hc
           rw [hc]
           cases h; rfl
         · cases h
       · cases h
     · cases h
   · cases h
theorem opsQ_sim {cf : CF} {cf0 : FuncId → List AV → St → Option (AV × St)} (hcf : SimF cf cf0) {ops : Array Oper} {n0 str : Nat} : ∀ {l : List Oper} {i : Nat} {acc acc' : List (Nat × AMem)} {s s' : St}, fOpsQ E cf ops n0 str l i acc s = some (acc', s') →
 opsQ E cf0 ops n0 l i acc (s.at_ n0 str) = some (acc', s'.at_ n0 str)
 | [], i, acc, acc', s, s', h => by simp only [fOpsQ, Option.some.injEq, Prod.mk.injEq] at h; obtain ⟨rfl, rfl⟩ := h; rfl
 | o :: r, i, acc, acc', s, s', h => by
  simp only [fOpsQ] at h
  simp only [opsQ]
  have e1 : (s.at_ n0 str).str = str := rfl
  have e2 : (s.at_ n0 str).m = s.m := rfl
  rw [e1, e2]
  split at h
  · rename_i v news s1 h1
    rw [opQ_sim hcf h1]
    exact opsQ_sim hcf h
  · cases h
theorem regD_sim {cf : CF} {cf0 : FuncId → List AV → St → Option (AV × St)} {yf : CY} {yf0 : Nat → List AV → St → Option (AV × St)} (hcf : SimF cf cf0) (hyf : SimY yf yf0) {ops : Array Oper} {n str n' : Nat} {s s' : St} (h : fRegD E cf yf ops n str s = some (n', s')) : regD E cf0 yf0 ops (s.at_ n str) = some (s'.at_ n' str) := by
 unfold fRegD at h
 unfold regD
 have e1 : (s.at_ n str).n = n := rfl
 rw [e1]
 split at h
 · rename_i hok
   rw [hok]
   simp only
   split at h
   · rename_i acc s1 hq
     rw [opsQ_sim hcf hq]
     exact opsS_sim hcf hyf h
   · cases h
 · cases h
theorem opW_sim {cf : CF} {cf0 : FuncId → List AV → St → Option (AV × St)} (hcf : SimF cf cf0) {ops : Array Oper} {o : Oper} {n0 b str : Nat} {mi : AMem} {z : AStep} {v : AV} {s s' : St} (h : fOpW E cf ops o mi b str s = some (v, z, s')) :
 opW E cf0 ops o mi b (s.at_ n0 str) = some (v, z, s'.at_ n0 str) := by
 unfold fOpW at h
 unfold opW
 split at h
 · cases h
 · rename_i s1 hg
   rw [guard_at hg]
   cases h; rfl
 · rename_i s1 hg
   rw [guard_at hg]
   simp only
   have e1 : (s1.at_ n0 str).str = str := rfl
   have e3 : (s1.at_ n0 str).tm = s1.tm := rfl
   rw [e1, e3]
   split at h
   · rename_i f args hle haop
     rw [hle, haop]
     simp only
     split at h
     · rename_i r news' k ob hco hct
       rw [hco, hct]
       simp only
       split at h
       · rename_i s2 hin hneed
         rw [inR_eq] at hin
         rw [hin, need_at hneed]
         cases h; rfl
       · cases h
     · rename_i hco hct
       rw [hco, hct]
       simp only
       split at h
       · rename_i r n2 s2 hcall
         have := hcf _ _ _ _ _ _ _ _ hcall
         obtain ⟨tm1, m1, n1, str1, sk1, path1, ob1, po1, ms1, rd1, lp1⟩ := s1
         simp only [St.at_] at this ⊢
         rw [this]
         simp only
         split at h
         · rename_i hc
           rw [inR_eq, allOwn_eq] at hc
           rw [hc]
           cases h; rfl
         · cases h
       · cases h
     · cases h
   · cases h
theorem opE_sim {cf : CF} {cf0 : FuncId → List AV → St → Option (AV × St)} (hcf : SimF cf cf0) {wm : Bool} {ops : Array Oper} {o : Oper} {i n0 b str : Nat} {mi : AMem} {z : AStep} {v : AV} {s s' : St} (h : fOpE E cf wm ops o mi b str s = some (v, z, s')) :
 opE E cf0 wm ops i o mi b (s.at_ n0 str) = some (v, z, s'.at_ n0 str) := by
 unfold fOpE at h
 unfold opE
 split at h
 · rename_i hu
   try rw [hu]
   try simp only
   split at h
   · rename_i hw
     try rw [hw]
     try simp only
     split at h
     · rename_i v' l s1 hq
       rw [opQ_sim hcf hq]
       cases h; rfl
     · cases h
   · rename_i hw
     try rw [hw]
     try simp only
     exact opW_sim hcf h
 · rename_i hu
   try rw [hu]
   try simp only
   split at h
   · cases h
   · rename_i s1 hg
     rw [guard_at hg]
     cases h; rfl
   · rename_i s1 hg
     rw [guard_at hg]
     simp only
     have e1 : (s1.at_ n0 str).str = str := rfl
     have e3 : (s1.at_ n0 str).tm = s1.tm := rfl
     rw [e1, e3]
     split at h
     · rename_i v' l ob hle haop
       rw [hle, haop]
       simp only
       split at h
       · rename_i s2 hin hneed
         rw [inR_eq] at hin
         rw [hin, need_at hneed]
         cases h; rfl
       · cases h
     · rename_i v' e ob hle haop
       rw [hle, haop]
       simp only
       split at h
       · rename_i s2 hne hneed
         rw [hne, need_at hneed]
         cases h; rfl
       · cases h
     · cases h
theorem opsE_sim {cf : CF} {cf0 : FuncId → List AV → St → Option (AV × St)} (hcf : SimF cf cf0) {wm : Bool} {ops : Array Oper} {vis : Nat → AMem → AMem} {n0 str : Nat} : ∀ {l : List Oper} {i : Nat} {acc acc' : List (Nat × Nat)} {s s' : St}, fOpsE E cf wm ops vis n0 str l i acc s = some (acc', s') →
 opsE E cf0 wm ops vis n0 l i acc (s.at_ n0 str) = some (acc', s'.at_ n0 str)
 | [], i, acc, acc', s, s', h => by simp only [fOpsE, Option.some.injEq, Prod.mk.injEq] at h; obtain ⟨rfl, rfl⟩ := h; rfl
 | o :: r, i, acc, acc', s, s', h => by
  simp only [fOpsE] at h
  simp only [opsE]
  have e1 : (s.at_ n0 str).str = str := rfl
  have e2 : (s.at_ n0 str).m = s.m := rfl
  rw [e1, e2]
  split at h
  · rename_i v z s1 h1
    rw [opE_sim hcf h1]
    exact opsE_sim hcf h
  · cases h
theorem regX_sim {cf : CF} {cf0 : FuncId → List AV → St → Option (AV × St)} {yf : CY} {yf0 : Nat → List AV → St → Option (AV × St)} (hcf : SimF cf cf0) (hyf : SimY yf yf0) {ops : Array Oper} {n str n' : Nat} {s s' : St} (h : fRegX E cf yf ops n str s = some (n', s')) : regX E cf0 yf0 ops (s.at_ n str) = some (s'.at_ n' str) := by
 unfold fRegX at h
 unfold regX
 split at h
 · rename_i hw
   try rw [hw]
   try simp only
   unfold fRegW at h
   unfold regW
   have e1 : (s.at_ n str).n = n := rfl
   have e2 : (s.at_ n str).str = str := rfl
   rw [e1, e2]
   split at h
   · rename_i ts s1 h1
     rw [opsE_sim hcf h1]
     cases h; rfl
   · cases h
 · rename_i hw
   try rw [hw]
   try simp only
   split at h
   · rename_i hy
     try rw [hy]
     try simp only
     unfold fRegY at h
     unfold regY
     have e1 : (s.at_ n str).n = n := rfl
     have e2 : (s.at_ n str).str = str := rfl
     have e3 : (s.at_ n str).tm = s.tm := rfl
     rw [e1, e2, e3]
     split at h
     · rename_i ts s1 hok h1
       rw [hok, opsE_sim hcf h1]
       simp only
       split at h
       · rename_i ts' s2 h2
         rw [opsE_sim hcf h2]
         simp only
         split at h
         · rename_i hc
           rw [hc]
           cases h; rfl
         · cases h
       · cases h
     · cases h
   · rename_i hy
     try rw [hy]
     try simp only
     split at h
     · rename_i hd
       try rw [hd]
       exact regD_sim hcf hyf h
     · rename_i hd
       try rw [hd]
       simp only
       unfold fRegE at h
       unfold regE
       have e1 : (s.at_ n str).n = n := rfl
       have e2 : (s.at_ n str).str = str := rfl
       rw [e1, e2]
       split at h
       · rename_i ts s1 hok h1
         rw [hok, opsE_sim hcf h1]
         simp only
         split at h
         · rename_i ts' s2 h2
           rw [opsE_sim hcf h2]
           simp only
           split at h
           · rename_i hc
             rw [hc]
             cases h; rfl
           · cases h
         · cases h
       · cases h
theorem endF_at {P : Program} {fn : Func} {s s' s2 : St} {v : AV} {n n0 str str0 : Nat} (h : endF P fn s s' = some (v, s2)) : endF P fn (s.at_ n0 str0) (s'.at_ n str) = some (v, s2.at_ n str) := by
 unfold endF at h ⊢
 have e1 : (s'.at_ n str).ms = s'.ms := rfl
 have e2 : (s'.at_ n str).m = s'.m := rfl
 have e3 : (s'.at_ n str).tm = s'.tm := rfl
 rw [e1, e2, e3]
 split at h
 · rename_i m hm
   try rw [hm]
   try simp only
   split at h
   · rename_i l ob hl
     try rw [hl]
     try simp only
     split at h
     · rename_i s3 hneed
       rw [need_at hneed]
       cases h; rfl
     · cases h
   · cases h
 · cases h
theorem callF_sim {run : CR} {run0 : Code → St → Option (Exit × St)} (hr : ∀ c n str s e n' s', run c n str s = some (e, n', s') → run0 c (s.at_ n str) = some (e, s'.at_ n' str)) : SimF (fCallF E run) (callF E run0) := by
 intro f args n str s r n' s' h
 unfold fCallF at h
 unfold callF
 split at h
 · rename_i fn hfn
   rw [hfn]
   try simp only
   split at h
   · rename_i c hc
     try rw [hc]
     try simp only
     split at h
     · rename_i n1 s1 hr1
       have hr2 := hr _ _ _ _ _ _ _ hr1
       simp only [St.at_] at hr2 ⊢
       rw [hr2]
       try simp only
       split at h
       · rename_i v s2 he
         cases h
         exact endF_at he
       · cases h
     · rename_i n1 s1 hr1
       have hr2 := hr _ _ _ _ _ _ _ hr1
       simp only [St.at_] at hr2 ⊢
       rw [hr2]
       try simp only
       split at h
       · rename_i v s2 he
         cases h
         exact endF_at he
       · cases h
     · cases h
   · cases h
 · cases h
theorem endY_at {id : Nat} {e : Exit} {s s' s2 : St} {v : AV} {n n0 str str0 : Nat} (h : endY id e s s' = some (v, s2)) : endY id e (s.at_ n0 str0) (s'.at_ n str) = some (v, s2.at_ n str) := by
 unfold endY at h ⊢
 have e2 : (s'.at_ n str).m = s'.m := rfl
 rw [e2]
 split at h
 · rename_i j x hj hx
   try rw [hj, hx]
   try simp only
   split at h
   · rename_i hc
     try rw [hc]
     cases h; rfl
   · cases h
 · cases h
theorem leaveA_at {l : Nat} {e : Exit} {s s2 : St} {n str : Nat} (h : leaveA l s = some (e, s2)) : leaveA l (s.at_ n str) = some (e, s2.at_ n str) := by
 unfold leaveA at h ⊢
 have e2 : (s.at_ n str).m = s.m := rfl
 rw [e2]
 split at h
 · rename_i x hx
   try rw [hx]
   try simp only
   split at h
   · cases h
   · rename_i st pd tm ps as bd dn hne hc
     try rw [hc]
     cases st with
     | busy => exact (hne rfl).elim
     | _ =>
      try simp only
      split at h
      · cases h; rfl
      · cases h; rfl
      · cases h; rfl
      · cases h
   · cases h
 · cases h
theorem yieldS_sim {run : CR} {run0 : Code → St → Option (Exit × St)} (hr : ∀ c n str s e n' s', run c n str s = some (e, n', s') → run0 c (s.at_ n str) = some (e, s'.at_ n' str)) : SimY (fYieldS run) (yieldS run0) := by
 intro id args n str s r n' s' h
 unfold fYieldS at h
 unfold yieldS
 have e2 : (s.at_ n str).m = s.m := rfl
 rw [e2]
 split at h
 · rename_i x hx
   try rw [hx]
   try simp only
   split at h
   · rename_i hc
     try rw [hc]
     try simp only
     split at h
     · rename_i hlen
       try rw [hlen]
       try simp only
       split at h
       · rename_i n1 s1 h1
         have k1 := hr _ _ _ _ _ _ _ h1
         simp only [St.at_] at k1 ⊢
         rw [k1]
         try simp only
         split at h
         · rename_i x1 hx1
           try rw [hx1]
           try simp only
           split at h
           · rename_i hc1
             try rw [hc1]
             try simp only
             split at h
             · rename_i e n2 s2 h2
               have k2 := hr _ _ _ _ _ _ _ h2
               simp only [St.at_] at k2
               rw [k2]
               try simp only
               split at h
               · rename_i v s3 he
                 cases h
                 exact endY_at he
               · cases h
             · cases h
           · cases h
         · cases h
       · cases h
     · cases h
   · cases h
 · cases h
theorem enterA_at (n str : Nat) (s : St) (ps : Array Tmp) (as bd : Code) : enterA (s.at_ n str) ps as bd = fEnterA n s ps as bd := rfl
theorem scopeS_sim {run : CR} {run0 : Code → St → Option (Exit × St)} {x : Code} (hr : ∀ c n str s e n' s', run c n str s = some (e, n', s') → run0 c (s.at_ n str) = some (e, s'.at_ n' str)) : ∀ k c n str s e n' s', fScopeS run x k c n str s = some (e, n', s') → scopeS run0 x k c (s.at_ n str) = some (e, s'.at_ n' str) := by
 intro k
 induction k with
 | zero => intro c n str s e n' s' h; cases h
 | succ k ih =>
  intro c n str s e n' s' h
  unfold fScopeS at h
  unfold scopeS
  split at h
  · rename_i l n1 s1 h1
    rw [hr _ _ _ _ _ _ _ h1]
    simp only
    split at h
    · rename_i c' hf
      rw [hf]
      exact ih _ _ _ _ _ _ _ h
    · rename_i hf
      rw [hf]
      simp only [Option.some.injEq, Prod.mk.injEq] at h; obtain ⟨rfl, rfl, rfl⟩ := h
      rfl
  · rename_i hne
    rw [hr _ _ _ _ _ _ _ h]
    cases e with
    | goto l => exact absurd h (hne l _ _)
    | _ => rfl
theorem fC_sim : ∀ (g : Nat) (c : Code) (n str : Nat) (s : St) (e : Exit) (n' : Nat) (s' : St), fC E g c n str s = some (e, n', s') → sxC E g c (s.at_ n str) = some (e, s'.at_ n' str) := by
 intro g
 induction g with
 | zero => intro c n str s e n' s' h; cases h
 | succ g ih =>
  have hcf : SimF (fCallF E (fC E g)) (callF E (sxC E g)) := callF_sim ih
  have hyf : SimY (fYieldS (fC E g)) (yieldS (sxC E g)) := yieldS_sim ih
  intro c n str s e n' s' h
  cases c with
  | skip => simp only [fC, Option.some.injEq, Prod.mk.injEq] at h; obtain ⟨rfl, rfl, rfl⟩ := h; rfl
  | label l => simp only [fC, Option.some.injEq, Prod.mk.injEq] at h; obtain ⟨rfl, rfl, rfl⟩ := h; rfl
  | exit l => simp only [fC, Option.some.injEq, Prod.mk.injEq] at h; obtain ⟨rfl, rfl, rfl⟩ := h; rfl
  | goto l => simp only [fC, Option.some.injEq, Prod.mk.injEq] at h; obtain ⟨rfl, rfl, rfl⟩ := h; rfl
  | scope x =>
   simp only [fC] at h
   simp only [sxC]
   exact scopeS_sim ih 200 _ _ _ _ _ _ _ h
  | ret => simp only [fC, Option.some.injEq, Prod.mk.injEq] at h; obtain ⟨rfl, rfl, rfl⟩ := h; rfl
  | region id ops d =>
   simp only [fC] at h
   simp only [sxC]
   split at h
   · split at h
     · rename_i n1 s1 h1
       simp only [Option.some.injEq, Prod.mk.injEq] at h; obtain ⟨rfl, rfl, rfl⟩ := h
       rw [opsS_sim hcf hyf h1]
     · cases h
   · split at h
     · rename_i n1 s1 h1
       simp only [Option.some.injEq, Prod.mk.injEq] at h; obtain ⟨rfl, rfl, rfl⟩ := h
       rw [regX_sim hcf hyf h1]
     · cases h
  | seq x y =>
   simp only [fC] at h
   simp only [sxC]
   split at h
   · rename_i n1 s1 h1
     rw [ih _ _ _ _ _ _ _ h1]
     exact ih _ _ _ _ _ _ _ h
   · rename_i hne
     rw [ih _ _ _ _ _ _ _ h]
     cases e with
     | normal => exact absurd h (hne _ _)
     | _ => rfl
  | cond c x y =>
   cases c with
   | tmp t =>
    simp only [fC] at h
    simp only [sxC]
    have e3 : (s.at_ n str).tm = s.tm := rfl
    rw [e3]
    split at h
    · rename_i b hb
      rw [hb]
      simp only
      split at h
      · rename_i s1 hd1; rw [dec_at hd1]; exact ih _ _ _ _ _ _ _ h
      · rename_i s1 hd1; rw [dec_at hd1]; exact ih _ _ _ _ _ _ _ h
      · cases h
    · cases h
   | const v =>
    cases v with
    | bool b =>
     simp only [fC] at h
     simp only [sxC]
     split at h
     · exact ih _ _ _ _ _ _ _ h
     · exact ih _ _ _ _ _ _ _ h
    | _ => simp [fC] at h
   | _ => simp [fC] at h
  | block id x =>
   simp only [fC] at h
   simp only [sxC]
   split at h
   · rename_i id' n1 s1 h1
     rw [ih _ _ _ _ _ _ _ h1]
     simp only
     split at h
     · rename_i hid
       simp only [Option.some.injEq, Prod.mk.injEq] at h; obtain ⟨rfl, rfl, rfl⟩ := h
       rw [hid]
     · rename_i hid
       simp only [Option.some.injEq, Prod.mk.injEq] at h; obtain ⟨rfl, rfl, rfl⟩ := h
       rw [hid]
   · rename_i hne
     rw [ih _ _ _ _ _ _ _ h]
     cases e with
     | exit id' => exact absurd h (hne id' _ _)
     | _ => rfl
  | loop x =>
   simp only [fC] at h
   simp only [sxC]
   have e1 : (s.at_ n str).lp = s.lp := rfl
   have e2 : (s.at_ n str).n = n := rfl
   rw [e1, e2]
   split at h
   · rename_i slots ids tm m k e' p hpath
     rw [hpath]
     simp only
     split at h
     · rename_i hle
       rw [hle]
       simp only [Option.some.injEq, Prod.mk.injEq] at h; obtain ⟨rfl, rfl, rfl⟩ := h
       rfl
     · cases h
   · rename_i p hp
     rw [hp]
     simp only
     split at h
     · rename_i n1 s1 h1
       have k1 := ih _ _ _ _ _ _ _ h1
       simp only [St.at_] at k1 ⊢
       rw [k1]
       exact ih _ _ _ _ _ _ _ h
     · rename_i hne
       have k1 := ih _ _ _ _ _ _ _ h
       simp only [St.at_] at k1 ⊢
       rw [k1]
       cases e with
       | normal => exact absurd h (hne _ _)
       | _ => rfl
   · rename_i hp
     rw [hp]
     simp only
     split at h
     · rename_i n1 s1 h1
       rw [ih _ _ _ _ _ _ _ h1]
       exact ih _ _ _ _ _ _ _ h
     · rename_i hne
       rw [ih _ _ _ _ _ _ _ h]
       cases e with
       | normal => exact absurd h (hne _ _)
       | _ => rfl
  | rangeFunc f ps as bd =>
   simp only [fC] at h
   simp only [sxC]
   have e2 : (s.at_ n str).n = n := rfl
   have e3 : (s.at_ n str).tm = s.tm := rfl
   have e4 : (s.at_ n str).m = s.m := rfl
   rw [enterA_at, e2, e3, e4]
   split at h
   · rename_i v m' ms' hle hv hen
     rw [hle, hv, hen]
     simp only
     split at h
     · rename_i g' args hcall
       rw [hcall]
       simp only
       split at h
       · rename_i rv n1 s1 h1
         have k1 := hcf _ _ _ _ _ _ _ _ h1
         simp only [St.at_] at k1 ⊢
         rw [k1]
         simp only
         split at h
         · rename_i e' s2 he
           cases h
           exact leaveA_at he
         · cases h
       · cases h
     · cases h
   · cases h
  | _ => cases h
theorem fCallF_sim {g : Nat} : SimF (fCallF E (fC E g)) (callF E (sxC E g)) := callF_sim (fun _ _ _ _ _ _ _ => fC_sim g _ _ _ _ _ _ _)
end
end Go.Proofs.YtoelekmbmghicaaGreatDoor
end
/- The symbolic evaluator: loops by a relation at the head of each round; names given anew. No Go text is in sight. -/
section
namespace Go.Proofs.YtoelekmbmghicaaGreatDoor
open Go.RowKit
def lkA : List (Nat × AV) → Nat → AV
 | [], _ => .any
 | (i, v) :: r, t => match Nat.beq i t with | true => v | false => lkA r t
def mkFrG (lv : List (Nat × AV)) : Nat → Nat → List AV
 | 0, _ => []
 | n + 1, i => lkA lv i :: mkFrG lv n (i + 1)
def mkFr (n : Nat) (lv : List (Nat × AV)) : List AV := mkFrG lv n 0
theorem mkFrG_length (lv : List (Nat × AV)) : ∀ n i, (mkFrG lv n i).length = n
 | 0, _ => rfl
 | n + 1, i => by simp [mkFrG, mkFrG_length lv n (i + 1)]
theorem mkFrG_get (lv : List (Nat × AV)) : ∀ n i t, (mkFrG lv n i)[t]? = if t < n then some (lkA lv (i + t)) else none
 | 0, _, t => by simp [mkFrG]
 | n + 1, i, 0 => by simp [mkFrG]
 | n + 1, i, t + 1 => by
  simp only [mkFrG, List.getElem?_cons_succ]
  rw [mkFrG_get lv n (i + 1) t, show i + 1 + t = i + (t + 1) by omega]
  simp
theorem lkA_mem : ∀ {lv : List (Nat × AV)} {t : Nat}, lkA lv t = .any ∨ (t, lkA lv t) ∈ lv
 | [], t => .inl rfl
 | (i, v) :: r, t => by
  simp only [lkA]
  split
  · rename_i h
    have := Nat.eq_of_beq_eq_true h
    subst this
    exact .inr (by simp)
  · rcases @lkA_mem r t with h | h
    · exact .inl h
    · exact .inr (List.mem_cons_of_mem _ h)
abbrev Rn := Nat → Nat ⊕ Nat
def rnm (n nh n' : Nat) (ρ : Rn) (β : Nm) : Nm := fun id =>
 if id < n ∨ n' ≤ id then β id else if id < nh then (match ρ id with | .inl o => β o | .inr s => some ⟨0, 0, s, 0, true⟩) else none
def Wk (n nh n' : Nat) (tm1 : List AV) (m1 : AMem) (tm2 : List AV) (m2 : AMem) : Prop :=
 ∀ (C : Ctx) (β1 : Nm) (w : World) (tmps : Array Value), FrOk β1 tm1 tmps → Rel C β1 m1 w →
  ∃ β2 : Nm, (∀ id, id < n ∨ n' ≤ id → β2 id = β1 id) ∧ (∀ id, nh ≤ id → id < n' → β2 id = none) ∧ FrOk β2 tm2 tmps ∧ Rel C β2 m2 w
section
variable {n nh n' : Nat} {ρ : Rn} {tm1 : List AV} {m1 : AMem}
def GW (n nh n' : Nat) (ρ : Rn) (a1 a2 : AV) : Prop := ∀ (β : Nm) (v : Value), γ β a1 = some v → γ (rnm n nh n' ρ β) a2 = some v
def FrW (n nh n' : Nat) (ρ : Rn) (tm1 : List AV) : List (Nat × AV) → Prop
 | [] => True
 | (t, av) :: r => (∃ a1, tm1[t]? = some a1 ∧ a1 ≠ .any ∧ GW n nh n' ρ a1 av) ∧ FrW n nh n' ρ tm1 r
def lowC (n : Nat) : AC → Bool
 | .v _ => true
 | .ptr id _ _ => Nat.blt id n
 | .sl id _ _ _ _ => Nat.blt id n
 | .fn _ caps => caps.all fun p => Nat.blt p.1 n
 | .yld id => Nat.blt id n
 | .cap id _ => Nat.blt id n
 | .mv _ id _ _ => Nat.blt id n
mutual
def lowV (n : Nat) : AV → Bool
 | .c x => lowC n x
 | .agg l => l.all (lowC n)
 | .tup l => lowT n l
 | .any => true
def lowT (n : Nat) : List AV → Bool
 | [] => true
 | x :: r => lowV n x && lowT n r
end
def lowO (n : Nat) : AObj → Bool
 | .loop _ _ tm _ _ _ dn => lowT n tm && Nat.blt dn n
 | .dfr _ => true
def lowB (n : Nat) (x : ABlk) : Prop := (∀ k j, x.inb k (j + 1) = true → lowC n (x.cs.get k j) = true) ∧ ∀ o, x.cs = .obj o → lowO n o = true
theorem lowB_cells {n : Nat} {x : ABlk} (h : ∀ k j, lowC n (x.cs.get k j) = true) (ho : ∀ o, x.cs = .obj o → False) : lowB n x := ⟨fun k j _ => h k j, fun o e => (ho o e).elim⟩
def tmLe (tm tm' : List AV) : Prop := tm.length = tm'.length ∧ ∀ (t : Nat) av, tm'[t]? = some av → av = .any ∨ tm[t]? = some av
def OLe : AObj → AObj → Prop
 | .loop st pd tm ps as bd dn, .loop st' pd' tm' ps' as' bd' dn' => st = st' ∧ pd = pd' ∧ tmLe tm tm' ∧ ps = ps' ∧ as = as' ∧ bd = bd' ∧ dn = dn'
 | .dfr a, .dfr b => a = b
 | _, _ => False
theorem tmLe.refl (tm : List AV) : tmLe tm tm := ⟨rfl, fun _ _ h => .inr h⟩
theorem OLe.refl : ∀ (o : AObj), OLe o o
 | .loop _ _ _ _ _ _ _ => ⟨rfl, rfl, tmLe.refl _, rfl, rfl, rfl, rfl⟩
 | .dfr _ => rfl
theorem FrOk.le {β : Nm} {tm tm' : List AV} {tmps : Array Value} (h : FrOk β tm tmps) (hl : tmLe tm tm') : FrOk β tm' tmps :=
 ⟨h.1.trans hl.1, fun t av ht => (hl.2 t av ht).elim .inl (h.2 t av)⟩
theorem ObjOk.le {β : Nm} {w : World} {b : Nat} {o o' : AObj} (h : ObjOk β w b o) (hl : OLe o o') : ObjOk β w b o' := by
 cases o with
 | loop st pd tm ps as bd dn =>
  cases o' with
  | loop st' pd' tm' ps' as' bd' dn' =>
   obtain ⟨rfl, rfl, hl, rfl, rfl, rfl, rfl⟩ := hl
   obtain ⟨fn, tmps, D, h1, h2, h3, h4⟩ := h
   exact ⟨fn, tmps, D, h1.le hl, h2, h3, h4⟩
  | dfr _ => exact hl.elim
 | dfr a =>
  cases o' with
  | loop _ _ _ _ _ _ _ => exact hl.elim
  | dfr _ => obtain rfl := hl; exact h
structure BEq (x y : ABlk) : Prop where
 own : y.own = x.own
 row : y.row = x.row
 ty : y.ty = x.ty
 sz : y.sz = x.sz
 cs : (∃ l, x.cs = .lit l ∧ y.cs = .lit l) ∨ (∃ q f g, x.cs = .arr q f ∧ y.cs = .arr q g ∧ ∀ k, k < q → f k = g k) ∨ ∃ o o', x.cs = .obj o ∧ y.cs = .obj o' ∧ OLe o o'
theorem BEq.refl (x : ABlk) : BEq x x := ⟨rfl, rfl, rfl, rfl, by cases h : x.cs with | lit l => exact .inl ⟨l, rfl, rfl⟩ | arr q f => exact .inr (.inl ⟨q, f, f, rfl, rfl, fun _ _ => rfl⟩) | obj o => exact .inr (.inr ⟨o, o, rfl, rfl, OLe.refl o⟩)⟩
def MemC (n nh n' : Nat) (ρ : Rn) (m1 : AMem) (id : Nat) (x : ABlk) : Prop :=
 ((id < n ∨ n' ≤ id) ∧ look m1 id = some x ∧ lowB n x) ∨
 (n ≤ id ∧ id < nh ∧ ∃ o y, ρ id = .inl o ∧ look m1 o = some y ∧ BEq y x ∧ lowB n x) ∨
 (n ≤ id ∧ id < nh ∧ ρ id = .inr x.sz ∧ 0 < x.sz ∧ ∃ f, x.cs = .arr 0 f) ∨
 ((id < n ∨ n' ≤ id) ∧ ∃ y, look m1 id = some y ∧ BEq y x ∧ lowB n x)
def MemW (n nh n' : Nat) (ρ : Rn) (m1 : AMem) : AMem → Prop
 | [] => True
 | (id, x) :: r => MemC n nh n' ρ m1 id x ∧ MemW n nh n' ρ m1 r
def oldId (n nh n' : Nat) (ρ : Rn) (id : Nat) : Option Nat :=
 match Nat.blt id n || Nat.ble n' id with
 | true => some id
 | false => match ρ id with | .inl o => some o | .inr _ => none
def rnOk (n nh n' : Nat) (ρ : Rn) : AMem → Bool
 | [] => true
 | (id, _) :: r => (r.all fun p => Nat.beq p.1 id || match oldId n nh n' ρ id, oldId n nh n' ρ p.1 with | some a, some b => !(Nat.beq a b) | _, _ => true) && rnOk n nh n' ρ r
theorem γc_low {β : Nm} {x : AC} {v : Value} (h : lowC n x = true) (e : γc β x = some v) : γc (rnm n nh n' ρ β) x = some v := by
 have hr : ∀ id, Nat.blt id n = true → rnm n nh n' ρ β id = β id := fun id hid => by
  rw [Nat.blt_eq] at hid
  simp [rnm, hid]
 cases x with
 | v x => exact e
 | ptr id k j => simp only [γc, ad] at e ⊢; rw [hr id h]; exact e
 | sl id k j len cap => simp only [γc] at e ⊢; rw [hr id h]; exact e
 | fn f caps =>
  simp only [γc] at e ⊢
  have key : ∀ {l : List (Nat × Nat × Nat)} {vs : List Value}, (l.all fun p => Nat.blt p.1 n) = true → γp β l = some vs → γp (rnm n nh n' ρ β) l = some vs := by
   intro l
   induction l with
   | nil => intro vs _ h; exact h
   | cons p r ih =>
    intro vs hl hp
    obtain ⟨id, k, j⟩ := p
    simp only [List.all_cons, Bool.and_eq_true] at hl
    simp only [γp] at hp ⊢
    split at hp
    · rename_i a us ha hus
      simp only [ad] at ha ⊢
      rw [hr id hl.1, ha, ih hl.2 hus]
      exact hp
    · cases hp
  split at e
  · rename_i vs hvs
    rw [key h hvs]
    exact e
  · cases e
 | yld id => simp only [γc] at e ⊢; rw [hr id h]; exact e
 | cap id k => simp only [γc] at e ⊢; rw [hr id h]; exact e
 | mv f id k j => simp only [γc, ad] at e ⊢; rw [hr id h]; exact e
theorem GW_low {x : AC} (h : lowC n x = true) : GW n nh n' ρ (.c x) (.c x) := fun _ _ e => γc_low h e
theorem GW_agg {l : List AC} (h : l.all (lowC n) = true) : GW n nh n' ρ (.agg l) (.agg l) := fun β v e => by
 simp only [γ, γ1] at e ⊢
 split at e
 · rename_i vs hvs
   have : γs (rnm n nh n' ρ β) l = some vs := by
    rw [γs_iff]
    refine ⟨γs_length hvs, fun i x hx => ?_⟩
    obtain ⟨u, h1, h2⟩ := γs_get hvs hx
    exact ⟨u, h1, γc_low (List.all_eq_true.1 h x (List.mem_of_getElem? hx)) h2⟩
   rw [this]
   exact e
 · cases e
theorem γ1_low {β : Nm} {x : AV} {v : Value} (h : lowV n x = true) (e : γ1 β x = some v) : γ1 (rnm n nh n' ρ β) x = some v := by
 cases x with
 | c x => exact γc_low (by simpa [lowV] using h) e
 | agg l =>
  have := GW_agg (nh := nh) (n' := n') (ρ := ρ) (l := l) (by simpa [lowV] using h) β v e
  exact this
 | tup l => cases e
 | any => cases e
theorem γt_low {β : Nm} : ∀ {l : List AV} {vs : List Value}, lowT n l = true → γt β l = some vs → γt (rnm n nh n' ρ β) l = some vs
 | [], vs, _, e => e
 | x :: r, vs, h, e => by
  simp only [lowT, Bool.and_eq_true] at h
  simp only [γt] at e ⊢
  split at e
  · rename_i v us hv hus
    rw [γ1_low h.1 hv, γt_low h.2 hus]
    exact e
  · cases e
theorem γ_low {β : Nm} {x : AV} {v : Value} (h : lowV n x = true) (e : γ β x = some v) : γ (rnm n nh n' ρ β) x = some v := by
 cases x with
 | tup l =>
  simp only [γ] at e ⊢
  split at e
  · rename_i vs hvs
    rw [γt_low (by simpa [lowV] using h) hvs]
    exact e
  · cases e
 | c x => exact γ1_low (x := .c x) h e
 | agg l => exact γ1_low (x := .agg l) h e
 | any => cases e
theorem lowT_get : ∀ {l : List AV} {t : Nat} {x : AV}, lowT n l = true → l[t]? = some x → lowV n x = true
 | [], t, x, _, h => by simp at h
 | y :: r, 0, x, hl, h => by simp only [lowT, Bool.and_eq_true] at hl; simp at h; subst h; exact hl.1
 | y :: r, t + 1, x, hl, h => by simp only [lowT, Bool.and_eq_true] at hl; exact lowT_get hl.2 (by simpa using h)
theorem FrOk.low {β : Nm} {tm : List AV} {tmps : Array Value} (h : lowT n tm = true) (hf : FrOk β tm tmps) : FrOk (rnm n nh n' ρ β) tm tmps :=
 ⟨hf.1, fun t av ht => (hf.2 t av ht).imp id fun ⟨v, h1, h2⟩ => ⟨v, γ_low (lowT_get h ht) h1, h2⟩⟩
theorem ObjOk.low {β : Nm} {w : World} {b : Nat} {o : AObj} (h : lowO n o = true) (ho : ObjOk β w b o) : ObjOk (rnm n nh n' ρ β) w b o := by
 cases o with
 | loop st pd tm ps as bd dn =>
  simp only [lowO, Bool.and_eq_true] at h
  obtain ⟨fn, tmps, D, h1, h2, h3, h4⟩ := ho
  have hdn : dn < n := by have := h.2; rwa [Nat.blt_eq] at this
  exact ⟨fn, tmps, D, h1.low h.1, by simp [rnm, hdn, h2], h3, h4⟩
 | dfr op => exact ho
theorem GW_sl {id o k j len : Nat} {cap : Option Nat} (h1 : n ≤ id) (h2 : id < nh) (h3 : id < n') (h : ρ id = .inl o) : GW n nh n' ρ (.c (.sl o k j len cap)) (.c (.sl id k j len cap)) := fun β v e => by
 simp only [γ, γ1, γc] at e ⊢
 have : rnm n nh n' ρ β id = β o := by simp [rnm, show ¬ (id < n ∨ n' ≤ id) by omega, h2, h]
 rw [this]; exact e
theorem GW_nil {id s : Nat} (h1 : n ≤ id) (h2 : id < nh) (h3 : id < n') (h : ρ id = .inr s) : GW n nh n' ρ (.c (.v (.slice none 0 0))) (.c (.sl id 0 0 0 none)) := fun β v e => by
 cases e
 simp only [γ, γ1, γc]
 have : rnm n nh n' ρ β id = some ⟨0, 0, s, 0, true⟩ := by simp [rnm, show ¬ (id < n ∨ n' ≤ id) by omega, h2, h]
 rw [this]; rfl
theorem FrW_mem : ∀ {lv : List (Nat × AV)}, FrW n nh n' ρ tm1 lv → ∀ {t av}, (t, av) ∈ lv → ∃ a1, tm1[t]? = some a1 ∧ a1 ≠ .any ∧ GW n nh n' ρ a1 av
 | (t', av') :: r, h, t, av, hm => by
  rcases List.mem_cons.1 hm with e | e
  · cases e; exact h.1
  · exact FrW_mem h.2 e
theorem MemW_look : ∀ {m2 : AMem}, MemW n nh n' ρ m1 m2 → ∀ {id x}, look m2 id = some x → MemC n nh n' ρ m1 id x
 | (i, b) :: r, h, id, x, hx => by
  simp only [look_cons] at hx
  split at hx
  · rename_i hb
    cases hx
    have := Nat.eq_of_beq_eq_true hb
    subst this
    exact h.1
  · exact MemW_look h.2 hx
theorem rnOk_apart : ∀ {m2 : AMem}, rnOk n nh n' ρ m2 = true → ∀ {id id' x x'}, look m2 id = some x → look m2 id' = some x' → id ≠ id' → ∀ a, oldId n nh n' ρ id = some a → oldId n nh n' ρ id' ≠ some a
 | (i, b) :: r, h, id, id', x, x', hx, hx', hne, a, ha => by
  simp only [rnOk, Bool.and_eq_true] at h
  have hall := fun p hp => List.all_eq_true.1 h.1 p hp
  simp only [look_cons] at hx hx'
  split at hx
  · rename_i hb
    have := Nat.eq_of_beq_eq_true hb
    subst this
    split at hx'
    · rename_i hb'
      exact absurd (Nat.eq_of_beq_eq_true hb') hne
    · have h1 := hall _ (look_mem hx')
      simp only [Bool.or_eq_true] at h1
      rcases h1 with h1 | h1
      · exact absurd (Nat.eq_of_beq_eq_true h1).symm hne
      · rw [ha] at h1
        intro e
        rw [e] at h1
        simp at h1
  · split at hx'
    · rename_i hb'
      have := Nat.eq_of_beq_eq_true hb'
      subst this
      have h1 := hall _ (look_mem hx)
      simp only [Bool.or_eq_true] at h1
      rcases h1 with h1 | h1
      · exact absurd (Nat.eq_of_beq_eq_true h1) hne
      · intro e
        rw [e, ha] at h1
        simp at h1
    · exact rnOk_apart h.2 hx hx' hne a ha
theorem inb_beq {x y : ABlk} (h : BEq x y) (k j : Nat) : y.inb k j = x.inb k j := by
 rcases h.cs with ⟨l, h1, h2⟩ | ⟨q, f, g, h1, h2, _⟩ | ⟨o, o', h1, h2, _⟩ <;> simp only [ABlk.inb, h1, h2, h.sz]
theorem wk_mk (h1 : n ≤ nh) (h2 : nh ≤ n') (h3 : n' ≤ lim) {N : Nat} {lv : List (Nat × AV)} {m2 : AMem} (hlen : tm1.length = N) (hrn : rnOk n nh n' ρ m2 = true) (hm : MemW n nh n' ρ m1 m2) (hf : FrW n nh n' ρ tm1 lv) :
 Wk n nh n' tm1 m1 (mkFr N lv) m2 := by
 intro C β w tmps hfr hr
 have hgid : ∀ g, rnm n nh n' ρ β (gid g) = β (gid g) := fun g => by
  have : n' ≤ gid g := by unfold gid; unfold lim at h3; omega
  simp [rnm, this]
 -- a block's place
 have hpl : ∀ id x, look m2 id = some x → ∃ L, rnm n nh n' ρ β id = some L ∧ BlkOk C (rnm n nh n' ρ β) w L x ∧ (L.nil = false → ∃ o y, oldId n nh n' ρ id = some o ∧ look m1 o = some y ∧ y.own = x.own ∧ β o = some L) := by
  intro id x hx
  have conv : ∀ (L : Loc) (y : ABlk), BEq y x → lowB n x → BlkOk C β w L y → BlkOk C (rnm n nh n' ρ β) w L x := by
   intro L y hb hlow hk
   refine ⟨by rw [hb.sz]; exact hk.sz, fun l hl => ?_, fun k j hi => ?_, hk.lt, fun ho hn => ?_, fun q g hg i hi => ?_, fun hrw hn q g hg => ?_⟩
   · rcases hb.cs with ⟨l', e1, e2⟩ | ⟨q, f, g, e1, e2, _⟩ | ⟨o, o'', e1, e2, _⟩
     · rw [hb.sz]; exact hk.lit l' e1
     · rw [e2] at hl; cases hl
     · rw [e2] at hl; cases hl
   · have hlow' := hlow.1 k j hi
     have hi' := hi
     rw [inb_beq hb] at hi
     obtain ⟨g1, u, g2, g3, g4⟩ := hk.cells k j hi
     refine ⟨g1, u, ?_, g3, g4⟩
     have e : x.cs.get k j = y.cs.get k j := by
      rcases hb.cs with ⟨l', e1, e2⟩ | ⟨q, f, g, e1, e2, e3⟩ | ⟨o, o'', e1, e2, _⟩
      · rw [e1, e2]
      rotate_left
      · simp only [e1, e2, Cs.get]
      · rw [e1, e2]
        have : k < q := by
         simp only [ABlk.inb, e1, Bool.and_eq_true, decide_eq_true_eq] at hi
         exact hi.1
        simp only [Cs.get]
        rw [e3 k this]
     rw [e] at hlow' ⊢
     exact γc_low hlow' g2
   · rw [hb.own] at ho
     obtain ⟨o1, o2, cs, o3, o4⟩ := hk.own ho hn
     refine ⟨o1, o2, cs, by rw [hb.ty]; exact o3, fun hrw => ?_⟩
     rw [hb.row] at hrw
     obtain ⟨r1, r2, q, f, r3, r4⟩ := o4 hrw
     rcases hb.cs with ⟨l', e1, e2⟩ | ⟨q', f', g, e1, e2, e3⟩ | ⟨o, o'', e1, e2, _⟩
     · rw [e1] at r3; cases r3
     rotate_left
     · rw [e1] at r3; cases r3
     · rw [e1] at r3
       cases r3
       exact ⟨by rw [hb.sz]; exact r1, by rw [hb.sz]; exact r2, _, g, e2, r4⟩
   · rcases hb.cs with ⟨l', e1, e2⟩ | ⟨q', f', g', e1, e2, e3⟩ | ⟨o, o'', e1, e2, _⟩
     · rw [e2] at hg; cases hg
     rotate_left
     · rw [e2] at hg; cases hg
     · rw [e2] at hg
       cases hg
       rw [← e3 i hi, hb.sz]
       exact hk.arrl _ f' e1 i hi
   · rw [hb.row] at hrw
     rcases hb.cs with ⟨l', e1, e2⟩ | ⟨q', f', g', e1, e2, e3⟩ | ⟨o, o'', e1, e2, _⟩
     · rw [e2] at hg; cases hg
     rotate_left
     · rw [e2] at hg; cases hg
     · rw [e2] at hg
       cases hg
       exact hk.rowc hrw hn _ f' e1
  rcases MemW_look hm hx with ⟨c1, c2, c3⟩ | ⟨c1, c2, o, y, c3, c4, c5, c6⟩ | ⟨c1, c2, c3, c4, f, c5⟩ | ⟨c1, y, c4, c5, c6⟩
  rotate_left 3
  · obtain ⟨L, hL, hk⟩ := hr.blk id y c4
    refine ⟨L, by simp [rnm, c1, hL], conv L y c5 c6 hk, fun hn => ⟨id, y, ?_, c4, c5.own.symm, hL⟩⟩
    unfold oldId
    have : (Nat.blt id n || Nat.ble n' id) = true := by
     rcases c1 with h | h
     · have : Nat.blt id n = true := by rw [Nat.blt_eq]; exact h
       rw [this]; rfl
     · rw [Nat.ble_eq_true_of_le h, Bool.or_true]
    rw [this]
  · obtain ⟨L, hL, hk⟩ := hr.blk id x c2
    refine ⟨L, by simp [rnm, c1, hL], conv L x (BEq.refl x) c3 hk, fun hn => ⟨id, x, ?_, c2, rfl, hL⟩⟩
    unfold oldId
    have : (Nat.blt id n || Nat.ble n' id) = true := by
     rcases c1 with h | h
     · have : Nat.blt id n = true := by rw [Nat.blt_eq]; exact h
       rw [this]; rfl
     · rw [Nat.ble_eq_true_of_le h, Bool.or_true]
    rw [this]
  · obtain ⟨L, hL, hk⟩ := hr.blk o y c4
    have hnot : ¬ (id < n ∨ n' ≤ id) := by omega
    refine ⟨L, by simp [rnm, hnot, c2, c3, hL], conv L y c5 c6 hk, fun hn => ⟨o, y, ?_, c4, c5.own.symm, hL⟩⟩
    unfold oldId
    have : (Nat.blt id n || Nat.ble n' id) = false := by
     rw [Bool.or_eq_false_iff]
     refine ⟨?_, ?_⟩
     · rw [Bool.eq_false_iff]; intro h; rw [Nat.blt_eq] at h; omega
     · rw [Bool.eq_false_iff]; intro h; have := Nat.le_of_ble_eq_true h; omega
    rw [this, c3]
  · have hnot : ¬ (id < n ∨ n' ≤ id) := by omega
    refine ⟨⟨0, 0, x.sz, 0, true⟩, by simp [rnm, hnot, c2, c3], ⟨rfl, fun l hl => (by rw [c5] at hl; cases hl), fun k j hi => ?_, fun h => (by cases h), fun _ h => (by cases h), fun q g hg i hi => ?_, fun _ h => (by cases h)⟩, fun h => (by cases h)⟩
    · simp [ABlk.inb, c5] at hi
    · rw [c5] at hg; cases hg; omega
 refine ⟨rnm n nh n' ρ β, fun id hid => by simp [rnm, hid], fun id hid1 hid2 => ?_, ⟨?_, fun t av ht => ?_⟩, hr.os, hr.tape, hr.output, hr.size, hr.base, hr.out, fun id x hx => ?_, ?_, fun g L hL => hr.glob g L (by rw [hgid g] at hL; exact hL), fun id x ob hx hxo => ?_⟩
 · have : ¬ (id < n ∨ n' ≤ id) := by omega
   simp [rnm, this, show ¬ id < nh by omega]
 · rw [mkFr, mkFrG_length, ← hlen]; exact hfr.1
 · rw [mkFr, mkFrG_get, Nat.zero_add] at ht
   split at ht
   · cases ht
     rcases @lkA_mem lv t with h | h
     · exact .inl h
     · obtain ⟨a1, e1, e2, e3⟩ := FrW_mem hf h
       rcases hfr.2 t a1 e1 with h4 | ⟨v, h4, h5⟩
       · exact absurd h4 e2
       · exact .inr ⟨v, e3 β v h4, h5⟩
   · cases ht
 · obtain ⟨L, hL, hk, _⟩ := hpl id x hx
   exact ⟨L, hL, hk⟩
 · intro id id' x x' L L' hx hx' hne ho hL hL' hn hn'
   obtain ⟨M, hM, _, hM2⟩ := hpl id x hx
   rw [hL] at hM
   cases hM
   obtain ⟨M', hM', _, hM2'⟩ := hpl id' x' hx'
   rw [hL'] at hM'
   cases hM'
   obtain ⟨o, y, o1, o2, o3, o4⟩ := hM2 hn
   obtain ⟨o', y', p1, p2, p3, p4⟩ := hM2' hn'
   have hoo : o ≠ o' := fun e => by
    subst e
    exact rnOk_apart hrn hx hx' hne _ o1 p1
   exact hr.sep o o' y y' L L' o2 p2 hoo (by rw [o3]; exact ho) o4 p4 hn hn'
 · obtain ⟨oi, y, q1, q2, q3, q4, q5⟩ : ∃ oi y, oldId n nh n' ρ id = some oi ∧ look m1 oi = some y ∧ (∃ ob', y.cs = .obj ob' ∧ OLe ob' ob) ∧ lowO n ob = true ∧ rnm n nh n' ρ β id = β oi := by
    rcases MemW_look hm hx with ⟨c1, c2, c3⟩ | ⟨c1, c2, o, y, c3, c4, c5, c6⟩ | ⟨c1, c2, c3, c4, f, c5⟩ | ⟨c1, y, c4, c5, c6⟩
    rotate_left 3
    · refine ⟨id, y, ?_, c4, ?_, c6.2 ob hxo, by simp [rnm, c1]⟩
      · unfold oldId
        have : (Nat.blt id n || Nat.ble n' id) = true := by
         rcases c1 with h | h
         · have : Nat.blt id n = true := by rw [Nat.blt_eq]; exact h
           rw [this]; rfl
         · rw [Nat.ble_eq_true_of_le h, Bool.or_true]
        rw [this]
      · rcases c5.cs with ⟨l, e1, e2⟩ | ⟨q, f, g, e1, e2, _⟩ | ⟨o', o2, e1, e2, e3⟩
        · rw [hxo] at e2; cases e2
        · rw [hxo] at e2; cases e2
        · rw [hxo] at e2; cases e2; exact ⟨_, e1, e3⟩
    · refine ⟨id, x, ?_, c2, ⟨_, hxo, OLe.refl _⟩, c3.2 ob hxo, by simp [rnm, c1]⟩
      unfold oldId
      have : (Nat.blt id n || Nat.ble n' id) = true := by
       rcases c1 with h | h
       · have : Nat.blt id n = true := by rw [Nat.blt_eq]; exact h
         rw [this]; rfl
       · rw [Nat.ble_eq_true_of_le h, Bool.or_true]
      rw [this]
    · have hnot : ¬ (id < n ∨ n' ≤ id) := by omega
      refine ⟨o, y, ?_, c4, ?_, c6.2 ob hxo, by simp [rnm, hnot, c2, c3]⟩
      · unfold oldId
        have : (Nat.blt id n || Nat.ble n' id) = false := by
         rw [Bool.or_eq_false_iff]
         refine ⟨?_, ?_⟩
         · rw [Bool.eq_false_iff]; intro h; rw [Nat.blt_eq] at h; omega
         · rw [Bool.eq_false_iff]; intro h; have := Nat.le_of_ble_eq_true h; omega
        rw [this, c3]
      · rcases c5.cs with ⟨l, e1, e2⟩ | ⟨q, f, g, e1, e2, _⟩ | ⟨o', o2, e1, e2, e3⟩
        · rw [hxo] at e2; cases e2
        · rw [hxo] at e2; cases e2
        · rw [hxo] at e2; cases e2; exact ⟨_, e1, e3⟩
    · rw [hxo] at c5; cases c5
   obtain ⟨ob', q3, q6⟩ := q3
   obtain ⟨L, k1, k2, k3, k4, k5⟩ := hr.objs oi y ob' q2 q3
   refine ⟨L, by rw [q5]; exact k1, k2, k3, (k4.le q6).low q4, fun id' x' L' g1 g2 g3 g4 => ?_⟩
   obtain ⟨M', hM', _, hM2'⟩ := hpl id' x' g2
   rw [g3] at hM'
   cases hM'
   obtain ⟨o', y', p1, p2, p3, p4⟩ := hM2' g4
   refine k5 o' y' L' (fun e => ?_) p2 p4 g4
   subst e
   exact rnOk_apart hrn hx g2 (fun e => g1 e.symm) _ q1 p1
end
def view (slots ids : List Nat) (r : Option (Exit × Nat × St)) : Option (Exit × List (Option AV) × List (Option ABlk) × Nat × Nat × List Bool × List Prop) :=
 match r with
 | some (e, n, s) => match s.ms with | [] => some (e, slots.map (fun t => s.tm[t]?), ids.map (look s.m), s.tm.length, n, s.ob, s.po) | _ :: _ => none
 | none => none
theorem view_out {slots ids : List Nat} {r : Option (Exit × Nat × St)} {e : Exit} {l : List (Option AV)} {b : List (Option ABlk)} {len n : Nat} {ob : List Bool} {po : List Prop} (h : view slots ids r = some (e, l, b, len, n, ob, po)) :
 ∃ s, r = some (e, n, s) ∧ slots.map (fun t => s.tm[t]?) = l ∧ ids.map (look s.m) = b ∧ s.tm.length = len ∧ s.ob = ob ∧ s.po = po ∧ s.ms = [] := by
 unfold view at h
 split at h
 · rename_i e' n' s
   split at h
   · rename_i hms
     simp only [Option.some.injEq, Prod.mk.injEq] at h
     obtain ⟨rfl, h1, h2, h3, rfl, h5, h6⟩ := h
     exact ⟨s, rfl, h1, h2, h3, h5, h6, hms⟩
   · cases h
 · cases h
theorem loop_ob {E : Env} (hE : EnvOk E) {fuel : Nat} {body : Code} {S : Type} (inv : S → Prop) (μ : S → Nat) (tmI : S → List AV) (mI : S → AMem) {tmF : List AV} {mF : AMem} {n nh n' str : Nat} {e : Exit} {rd : Option Nat} (hn1 : n ≤ nh) (hn2 : nh ≤ n') (hrd : ∀ id, rd = some id → id < n)
 {slots ids : List Nat} {vals : List (Option AV)} {blks : List (Option ABlk)} {len : Nat}
 {s0 : S} (h0 : inv s0) (start : ∀ tm m, slots.map (fun t => tm[t]?) = vals → ids.map (look m) = blks → tm.length = len → Wk n nh n' tm m (tmI s0) (mI s0))
 (step : ∀ s, inv s → ∃ path lp e' n1 st', fC E fuel body nh str ⟨tmI s, mI s, 0, 0, false, path, [], [], [], rd, lp⟩ = some (e', n1, st') ∧ n1 ≤ n' ∧ Obs st' ∧ st'.ms = [] ∧
  ((e' = .normal ∧ ∃ s', inv s' ∧ μ s' < μ s ∧ Wk n nh n' st'.tm st'.m (tmI s') (mI s')) ∨ (e' ≠ .normal ∧ e' = e ∧ Wk n n' n' st'.tm st'.m tmF mF))) :
 LoopV E.P body slots ids vals blks len n tmF mF n' e rd := by
 intro tm0 m0 hv1 hv2 hv3 ro C β a w hrdo hf hr hfree
 have hrd' : ∀ β', (∀ id, id < n ∨ n' ≤ id → β' id = β id) → RdOk β' rd ro := by
  intro β' hs
  cases rd with
  | none => cases ro with
    | none => trivial
    | some _ => exact hrdo
  | some id => cases ro with
    | none => exact hrdo
    | some b => obtain ⟨L, h1, h2⟩ := hrdo; exact ⟨L, by rw [hs id (.inl (hrd id rfl))]; exact h1, h2⟩
 have key : ∀ k a1 w, (∃ s, μ s = k ∧ inv s ∧ a1.defers = a.defers ∧ ∃ β', (∀ id, id < n ∨ n' ≤ id → β' id = β id) ∧ (∀ id, nh ≤ id → id < n' → β' id = none) ∧ FrOk β' (tmI s) a1.tmps ∧ Rel C β' (mI s) w) →
  lwp ro E.P body (fun e' a' w' => e' = e ∧ a'.defers = a.defers ∧ ∃ β', Ext β β' ∧ (∀ id, id < n ∨ n' ≤ id → β' id = β id) ∧ FrOk β' tmF a'.tmps ∧ Rel C β' mF w') a1 w := by
  refine lwp_ind _ fun k a1 w ⟨s, hk, hi, hd, β', g1, g2, g3, g4⟩ => ?_
  obtain ⟨path, lp, e', n1, st', hsx, hle, ho, hms, hres⟩ := step s hi
  obtain ⟨gr, hwp⟩ := sxC_ok hE fuel _ _ _ _ (fC_sim _ _ _ _ _ _ _ _ hsx)
  have := hwp (ho.congr rfl rfl) ro a1.defers C β' a1 w (hrd' β' g1) g3 rfl g4 fun id h1 h2 => g2 id h1 (by have h2 : id < n1 := h2; omega)
  refine wpIn_mono (wp_of_wpL this) fun e'' a' w' ⟨he, β'', x1, x2, x3, hd', x4⟩ => ?_
  have hd' : DfOk β'' st'.ms a1.defers a'.defers := hd'
  rw [hms] at hd'
  have hd' : a'.defers = a1.defers := hd'
  subst he
  have hsame : ∀ id, id < n ∨ n' ≤ id → β'' id = β id := fun id hid => by
   rw [x2 id (by show id < nh ∨ n1 ≤ id; omega)]; exact g1 id hid
  rcases hres with ⟨rfl, s', i1, i2, i3⟩ | ⟨hne, rfl, i3⟩
  · obtain ⟨β2, y1, y2, y3, y4⟩ := i3 C β'' w' a'.tmps x3 x4
    exact ⟨μ s', by omega, s', rfl, i1, hd'.trans hd, β2, fun id hid => by rw [y1 id hid]; exact hsame id hid, y2, y3, y4⟩
  · obtain ⟨β2, y1, y2, y3, y4⟩ := i3 C β'' w' a'.tmps x3 x4
    have hpost : (fun e' (a' : Act) w' => e' = e'' ∧ a'.defers = a.defers ∧ ∃ β', Ext β β' ∧ (∀ id, id < n ∨ n' ≤ id → β' id = β id) ∧ FrOk β' tmF a'.tmps ∧ Rel C β' mF w') e'' a' w' := by
     refine ⟨rfl, hd'.trans hd, β2, fun id L hL => ?_, fun id hid => by rw [y1 id hid]; exact hsame id hid, y3, y4⟩
     rcases Nat.lt_or_ge id n with h | h
     · rw [y1 id (.inl h), hsame id (.inl h)]; exact hL
     · rcases Nat.lt_or_ge id n' with h' | h'
       · rw [hfree id h h'] at hL; cases hL
       · rw [y1 id (.inr h'), hsame id (.inr h')]; exact hL
    cases e'' with
    | normal => exact absurd rfl hne
    | _ => exact hpost
 obtain ⟨β2, y1, y2, y3, y4⟩ := start tm0 m0 hv1 hv2 hv3 C β w a.tmps hf hr
 exact key (μ s0) a w ⟨s0, rfl, h0, rfl, β2, y1, y2, y3, y4⟩
def viewF (ids : List Nat) (r : Option (AV × Nat × St)) : Option (AV × List (Option ABlk) × Nat × List Bool × List Prop) :=
 match r with
 | some (v, n, s) => some (v, ids.map (look s.m), n, s.ob, s.po)
 | none => none
theorem viewF_out {ids : List Nat} {r : Option (AV × Nat × St)} {v : AV} {b : List (Option ABlk)} {n : Nat} {ob : List Bool} {po : List Prop} (h : viewF ids r = some (v, b, n, ob, po)) :
 ∃ s, r = some (v, n, s) ∧ ids.map (look s.m) = b ∧ s.ob = ob ∧ s.po = po := by
 unfold viewF at h
 split at h
 · rename_i v' n' s
   simp only [Option.some.injEq, Prod.mk.injEq] at h
   obtain ⟨rfl, h1, rfl, h3, h4⟩ := h
   exact ⟨s, rfl, h1, h3, h4⟩
 · cases h
theorem calls_f {E : Env} (hE : EnvOk E) {g : Nat} {f : FuncId} {args : List AV} {n str n' : Nat} {s s' : St} {r : AV} (h : fCallF E (fC E g) f args n str s = some (r, n', s')) (ho : Obs s') {C : Ctx} {β : Nm} {w : World} {vs : List Value}
 (hvs : γt β args = some vs) (hr : Rel C β s.m w) (hfree : ∀ id, n ≤ id → id < n' → β id = none) :
 Calls E.P f vs.toArray w (fun e w' => ∃ β' v, e = .returned v ∧ Ext β β' ∧ (∀ id, id < n ∨ n' ≤ id → β' id = β id) ∧ γ β' r = some v ∧ Rel C β' s'.m w') :=
 calls_sx hE (fCallF_sim _ _ _ _ _ _ _ _ h) (ho.congr rfl rfl) hvs hr hfree
def stA (m : AMem) (path : List Dec) (lp : List (Option LSum)) : St := ⟨[], m, 0, 0, false, path, [], [], [], none, lp⟩
end Go.Proofs.YtoelekmbmghicaaGreatDoor
end
/- The symbolic evaluator: words for its use. -/
section
namespace Go.Proofs.YtoelekmbmghicaaGreatDoor
open Go.RowKit
abbrev VF := AV × List (Option ABlk) × Nat × List Bool × List Prop
abbrev VC := Exit × List (Option AV) × List (Option ABlk) × Nat × Nat × List Bool × List Prop
def i64 (n : Int) : AV := .c (.v (.int .i64 n))
def bo (b : Bool) : AV := .c (.v (.bool b))
def ag (l : List Value) : AV := .agg (l.map .v)
def rBlk (ty sz n : Nat) (f : Nat → List Value) : ABlk := ⟨false, false, ty, sz, .arr n fun k => (f k).map .v⟩
def wBlk (ty sz n : Nat) (f : Nat → List Value) : ABlk := ⟨true, true, ty, sz, .arr n fun k => (f k).map .v⟩
def oBlk (ty : Nat) (l : List Value) : ABlk := ⟨true, false, ty, 0, .lit (l.map .v)⟩
def E1 (P : Program) : Env := ⟨P, []⟩
theorem low_map {n : Nat} (l : List Value) (j : Nat) : lowC n ((l.map AC.v).getD j nov) = true := by
 simp only [List.getD, List.getElem?_map]
 cases l[j]? <;> rfl
theorem rBlk_low {n ty sz q : Nat} {f : Nat → List Value} : lowB n (rBlk ty sz q f) := lowB_cells (fun _ _ => low_map _ _) (fun _ h => by cases h)
theorem wBlk_low {n ty sz q : Nat} {f : Nat → List Value} : lowB n (wBlk ty sz q f) := lowB_cells (fun _ _ => low_map _ _) (fun _ h => by cases h)
theorem oBlk_low {n ty : Nat} {l : List Value} : lowB n (oBlk ty l) := lowB_cells (fun _ _ => low_map _ _) (fun _ h => by cases h)
theorem GW_i64 {n nh n' : Nat} {ρ : Rn} {a b : Int} (h : a = b) : GW n nh n' ρ (i64 a) (i64 b) := by subst h; exact GW_low rfl
def namesB (P : Program) : Bool := P.funcs.toList.all fun fn => fn.body.isNone || !(fn.name == "runtime.NumGoroutine")
theorem envOk {P : Program} {ct : List (FuncId × CtF)} (hc : ∀ f g, (f, g) ∈ ct → CtOk P f g) (hm : P.follows .mixedOrders = true) (hn : namesB P = true) : EnvOk ⟨P, ct⟩ :=
 ⟨hc, hm, fun f fn c h1 h2 => by
  have hmem : fn ∈ P.funcs.toList := by
   rw [← Array.getElem?_toList] at h1
   exact List.mem_of_getElem? h1
  have := List.all_eq_true.1 hn fn hmem
  simpa [h2] using this⟩
theorem rel_nil (w : World) : Rel (loneC w) (fun _ => none) [] w := by
 refine ⟨rfl, rfl, rfl, Nat.le_refl _, Nat.le_refl _, fun _ _ _ => rfl, fun id x h => ?_, fun id id' x x' L L' h => ?_, fun g L h => ?_, fun id x o h => ?_⟩ <;> cases h
def stC (m : AMem) : St := ⟨[], m, 0, 0, true, [], [], [], [], none, []⟩
def pD : Nat → Nat → List Dec
 | 0, _ => []
 | n + 1, m => (match m % 3 with | 0 => Dec.a | 1 => Dec.b true | _ => Dec.b false) :: pD n (m / 3)
theorem two {b : Bool} {A B X : Prop} (H : (b = true → A) ∧ (b = false → B)) (h1 : A → X) (h2 : B → X) : X :=
 match b, H with
 | true, H => h1 (H.1 rfl)
 | false, H => h2 (H.2 rfl)
end Go.Proofs.YtoelekmbmghicaaGreatDoor
end
/- A call that hands out one new list of plain cells: from what it does alone to what it does anywhere. No Go text is in sight. -/
section
namespace Go.Proofs.YtoelekmbmghicaaGreatDoor
open Go.RowKit
theorem γc_plain {β β' : Nm} {c : AC} {u : Value} (h : ∃ v, c = .v v) (e : γc β c = some u) : γc β' c = some u := by
 obtain ⟨v, rfl⟩ := h
 exact e
theorem rel_fresh {C : Ctx} {β β1 : Nm} {m m1 : AMem} {w w' : World} (h : Rel C β m w) (hb : Below w.heap.size w w') {id : Nat} (hid : β id = none) (hg : ∀ g, id ≠ gid g) (h1 : Rel (loneC w) β1 m1 w') {i1 : Nat} {x : ABlk} (hx : look m1 i1 = some x) (hown : x.own = true)
 {n : Nat} {f : Nat → List AC} (hcs : x.cs = .arr n f) (hpl : ∀ k j, x.inb k (j + 1) = true → ∃ v, x.cs.get k j = .v v) {L : Loc} (hL1 : β1 i1 = some L) :
 Rel C (ext1 β id L) (m ++ [(id, x)]) w' := by
 have hw' : Rel C β m w' := h.below hb
 obtain ⟨L', e, hbk⟩ := h1.blk i1 x hx
 rw [hL1] at e
 cases e
 have hnewb : L.nil = false → w.heap.size ≤ L.b := fun hn => by
  obtain ⟨_, h2, _⟩ := hbk.own hown hn
  rcases h2 with h2 | h2
  · exact h2
  · exact h2.elim
 have hbase : C.base ≤ w.heap.size := by have := h.size; have := h.base; omega
 have he : Ext β (ext1 β id L) := ext1_ext hid
 have hno : look m id = none := by
  cases e : look m id with
  | none => rfl
  | some x => obtain ⟨L, hL, _⟩ := h.blk id x e; rw [hid] at hL; cases hL
 have hlk : ∀ i y, look (m ++ [(id, x)]) i = some y → (look m i = some y ∧ i ≠ id) ∨ (i = id ∧ y = x) := by
  intro i y e
  rw [look_append] at e
  cases e' : look m i with
  | some z =>
   rw [e'] at e
   cases e
   exact .inl ⟨rfl, fun h' => by subst h'; rw [hno] at e'; cases e'⟩
  | none =>
   rw [e'] at e
   simp only [look_cons] at e
   cases hb : Nat.beq id i with
   | true => rw [hb] at e; cases e; exact .inr ⟨(Nat.eq_of_beq_eq_true hb).symm, rfl⟩
   | false => rw [hb] at e; cases e
 refine ⟨hw'.os, hw'.tape, hw'.output, hw'.size, hw'.base, hw'.out, fun i y e => ?_, ?_, ?_, ?_⟩
 · rcases hlk i y e with ⟨e1, hne⟩ | ⟨rfl, rfl⟩
   · obtain ⟨M, hM, hk⟩ := hw'.blk i y e1
     exact ⟨M, he i M hM, hk.keep he (Nat.le_refl _) (fun _ => rfl)⟩
   · refine ⟨L, ext1_same, hbk.sz, hbk.lit, fun k j hi => ?_, hbk.lt, fun ho hn => ?_, hbk.arrl, hbk.rowc⟩
     · obtain ⟨g1, u, g2, g3, g4⟩ := hbk.cells k j hi
       exact ⟨g1, u, γc_plain (hpl k j hi) g2, g3, g4⟩
     · obtain ⟨g1, _, g3⟩ := hbk.own ho hn
       exact ⟨g1, .inl (by have := hnewb hn; omega), g3⟩
 · intro i i' y y' M M' e e' hne ho hM hM' hn hn'
   rcases hlk i y e with ⟨e1, g1⟩ | ⟨rfl, rfl⟩
   · rcases hlk i' y' e' with ⟨e2, g2⟩ | ⟨rfl, rfl⟩
     · simp only [ext1, g1, g2, if_false] at hM hM'
       exact hw'.sep i i' y y' M M' e1 e2 hne ho hM hM' hn hn'
     · simp only [ext1, g1, if_false, if_true] at hM hM'
       cases hM'
       obtain ⟨K, hK, hk⟩ := h.blk i y e1
       rw [hK] at hM
       cases hM
       have := hk.lt hn
       have := hnewb hn'
       omega
   · rcases hlk i' y' e' with ⟨e2, g2⟩ | ⟨rfl, rfl⟩
     · simp only [ext1, g2, if_false, if_true] at hM hM'
       cases hM
       obtain ⟨K, hK, hk⟩ := h.blk i' y' e2
       rw [hK] at hM'
       cases hM'
       have := hk.lt hn'
       have := hnewb hn
       omega
     · exact absurd rfl hne
 · intro g M e
   have : gid g ≠ id := fun e => hg g e.symm
   simp only [ext1, this, if_false] at e
   exact h.glob g M e
 · intro i y o e ho
   rcases hlk i y e with ⟨e1, hne⟩ | ⟨rfl, rfl⟩
   · obtain ⟨M, g1, g2, g3, g4, g5⟩ := hw'.objs i y o e1 ho
     obtain ⟨M', hM', hk⟩ := h.blk i y e1
     rw [g1] at hM'
     cases hM'
     refine ⟨M, he i M g1, g2, g3, g4.keep he rfl, fun i' y' K q1 q2 q3 q4 => ?_⟩
     rcases hlk i' y' q2 with ⟨e2, hne2⟩ | ⟨rfl, rfl⟩
     · simp only [ext1, hne2, if_false] at q3
       exact g5 i' y' K q1 e2 q3 q4
     · simp only [ext1, if_true] at q3
       cases q3
       have := hk.lt g2
       have := hnewb q4
       omega
   · rw [hcs] at ho; cases ho
theorem not_gid {id : Nat} (h : id < lim) (g : Nat) : id ≠ gid g := by unfold lim at h; unfold gid; omega
end Go.Proofs.YtoelekmbmghicaaGreatDoor
end
/- The symbolic evaluator: loops told by what is looked at, at each head. No Go text is in sight. -/
section
namespace Go.Proofs.YtoelekmbmghicaaGreatDoor
open Go.RowKit
theorem low_lit {n ty sz : Nat} {own row : Bool} {l : List AC} (h : l.all (lowC n) = true) : lowB n ⟨own, row, ty, sz, .lit l⟩ :=
 lowB_cells (fun k j => by
  simp only [Cs.get, List.getD]
  cases e : l[j]? with
  | none => rfl
  | some x => exact List.all_eq_true.1 h x (List.mem_of_getElem? e)) (fun o e => by cases e)
theorem low_arr {n ty sz q : Nat} {own row : Bool} {f : Nat → List AC} (h : ∀ k j, lowC n ((f k).getD j nov) = true) : lowB n ⟨own, row, ty, sz, .arr q f⟩ :=
 lowB_cells h (fun o e => by cases e)
theorem GW_lowV {n nh n' : Nat} {ρ : Rn} {x : AV} (h : lowV n x = true) : GW n nh n' ρ x x := fun _ _ e => γ_low h e
theorem MemW_mem {n nh n' : Nat} {ρ : Rn} {m1 : AMem} : ∀ {m2 : AMem}, (∀ p ∈ m2, MemC n nh n' ρ m1 p.1 p.2) → MemW n nh n' ρ m1 m2
 | [], _ => trivial
 | (_, _) :: _, h => ⟨h _ (List.mem_cons_self ..), MemW_mem fun p hp => h p (List.mem_cons_of_mem _ hp)⟩
theorem FrW_of_mem {n nh n' : Nat} {ρ : Rn} {tm1 : List AV} : ∀ {lv : List (Nat × AV)}, (∀ q ∈ lv, ∃ a1, tm1[q.1]? = some a1 ∧ a1 ≠ .any ∧ GW n nh n' ρ a1 q.2) → FrW n nh n' ρ tm1 lv
 | [], _ => trivial
 | (_, _) :: _, h => ⟨h _ (List.mem_cons_self ..), FrW_of_mem fun p hp => h p (List.mem_cons_of_mem _ hp)⟩
def keptB (n n' : Nat) (id : Nat) : Bool := Nat.blt id n || Nat.ble n' id
theorem rnOk_kept {n nh n' : Nat} {ρ : Rn} : ∀ {m : AMem}, (∀ p ∈ m, keptB n n' p.1 = true) → rnOk n nh n' ρ m = true
 | [], _ => rfl
 | (id, _) :: r, h => by
  simp only [rnOk, Bool.and_eq_true]
  refine ⟨List.all_eq_true.2 fun p hp => ?_, rnOk_kept fun p hp => h p (List.mem_cons_of_mem _ hp)⟩
  have h1 : keptB n n' id = true := h _ (List.mem_cons_self ..)
  have h2 : keptB n n' p.1 = true := h p (List.mem_cons_of_mem _ hp)
  unfold keptB at h1 h2
  simp only [oldId, h1, h2]
  cases e : Nat.beq p.1 id with
  | true => rfl
  | false =>
   simp only [Bool.false_or, Bool.not_eq_true']
   rw [Bool.eq_false_iff]
   intro h3
   have := Nat.eq_of_beq_eq_true h3
   subst this
   simp at e
theorem wk_kept {n nh n' : Nat} {tm : List AV} {m : AMem} {N : Nat} {lv : List (Nat × AV)} {mm : AMem} (h1 : n ≤ nh) (h2 : nh ≤ n') (h3 : n' ≤ lim) (hlen : tm.length = N)
 (hk : (mm.all fun p => keptB n n' p.1) = true) (hm : ∀ p ∈ mm, lowB n p.2 ∧ ∃ y, look m p.1 = some y ∧ BEq y p.2)
 (hf : ∀ q ∈ lv, tm[q.1]? = some q.2 ∧ q.2 ≠ .any ∧ lowV n q.2 = true) : Wk n nh n' tm m (mkFr N lv) mm := by
 have hk : ∀ p ∈ mm, keptB n n' p.1 = true := fun p hp => List.all_eq_true.1 hk p hp
 refine wk_mk (ρ := fun _ => .inr 1) h1 h2 h3 hlen (rnOk_kept hk) (MemW_mem fun p hp => ?_) (FrW_of_mem fun q hq => ?_)
 · obtain ⟨g1, y, g2, g3⟩ := hm p hp
   refine .inr (.inr (.inr ⟨?_, y, g2, g3, g1⟩))
   have := hk p hp
   simp only [keptB, Bool.or_eq_true] at this
   rcases this with h | h
   · exact .inl (by rwa [Nat.blt_eq] at h)
   · exact .inr (Nat.le_of_ble_eq_true h)
 · obtain ⟨g1, g2, g3⟩ := hf q hq
   exact ⟨_, g1, g2, GW_lowV g3⟩
def BL : List ABlk → List (Option ABlk) → Prop
 | [], [] => True
 | b :: bs, some y :: ys => BEq y b ∧ BL bs ys
 | _, _ => False
theorem BL.refl : ∀ (l : List ABlk), BL l (l.map some)
 | [] => trivial
 | b :: bs => ⟨BEq.refl b, BL.refl bs⟩
theorem BL.mem : ∀ {ids : List Nat} {bs : List ABlk} {ys : List (Option ABlk)}, BL bs ys → ∀ p ∈ ids.zip bs, ∃ y, (p.1, some y) ∈ ids.zip ys ∧ BEq y p.2
 | [], _, _, _, p, hp => by simp at hp
 | _ :: _, [], _, _, p, hp => by simp at hp
 | i :: is, b :: bs, [], h, p, hp => h.elim
 | i :: is, b :: bs, none :: ys, h, p, hp => h.elim
 | i :: is, b :: bs, some y :: ys, h, p, hp => by
  rw [List.zip_cons_cons, List.mem_cons] at hp
  rcases hp with rfl | hp
  · exact ⟨y, by simp, h.1⟩
  · obtain ⟨y', h1, h2⟩ := h.2.mem p hp
    exact ⟨y', by rw [List.zip_cons_cons]; exact List.mem_cons_of_mem _ h1, h2⟩
theorem zip_map_mem {α β : Type} {f : α → β} : ∀ {l : List α} {a : α} {b : β}, (a, b) ∈ l.zip (l.map f) → b = f a
 | [], a, b, h => by simp at h
 | x :: r, a, b, h => by
  rw [List.map_cons, List.zip_cons_cons, List.mem_cons] at h
  rcases h with h | h
  · cases h; rfl
  · exact zip_map_mem h
theorem zip_append_mem {α β : Type} : ∀ {l l' : List α} {r : List β} {p : α × β}, p ∈ l.zip r → p ∈ (l ++ l').zip r
 | [], _, _, _, h => by simp at h
 | x :: l, l', [], _, h => by simp at h
 | x :: l, l', y :: r, p, h => by
  rw [List.zip_cons_cons, List.mem_cons] at h
  rw [List.cons_append, List.zip_cons_cons, List.mem_cons]
  exact h.imp id zip_append_mem
theorem zip_take_mem {α β : Type} : ∀ {l : List α} {r : List β} {p : α × β}, p ∈ l.zip (r.take l.length) → p ∈ l.zip r
 | [], _, _, h => by simp at h
 | x :: l, [], _, h => by simp at h
 | x :: l, y :: r, p, h => by
  rw [List.length_cons, List.take_succ_cons, List.zip_cons_cons, List.mem_cons] at h
  rw [List.zip_cons_cons, List.mem_cons]
  exact h.imp id zip_take_mem
theorem zip_some_mem {α β : Type} : ∀ {l : List α} {r : List β} {p : α × β}, p ∈ l.zip r → (p.1, some p.2) ∈ l.zip (r.map some)
 | [], _, _, h => by simp at h
 | x :: l, [], _, h => by simp at h
 | x :: l, y :: r, p, h => by
  rw [List.zip_cons_cons, List.mem_cons] at h
  rw [List.map_cons, List.zip_cons_cons, List.mem_cons]
  rcases h with rfl | h
  · exact .inl rfl
  · exact .inr (zip_some_mem h)
def notAny : AV → Bool
 | .any => false
 | _ => true
theorem notAny_ne {x : AV} (h : notAny x = true) : x ≠ .any := by intro e; subst e; cases h
def okV (n : Nat) (v : AV) : Bool := lowV n v && notAny v
theorem zip_fst_all {f : Nat → Bool} : ∀ {ids : List Nat} {bs : List ABlk}, ids.all f = true → ((ids.zip bs).all fun p => f p.1) = true
 | [], _, _ => by simp
 | _ :: _, [], _ => by simp
 | i :: is, b :: bs, h => by
  simp only [List.all_cons, Bool.and_eq_true] at h
  rw [List.zip_cons_cons, List.all_cons, Bool.and_eq_true]
  exact ⟨h.1, zip_fst_all h.2⟩
def StepV {S : Type} (n n' N : Nat) (hs xs ids : List Nat) (inv : S → Prop) (μ : S → Nat) (vals : S → List AV) (blks : S → List ABlk) (e : Exit) (out : List (Nat × AV)) (mF : AMem) (s : S) (r : VC) : Prop :=
 allT r.2.2.2.2.2.1 ∧ r.2.2.2.2.2.2 = [] ∧ r.2.2.2.2.1 ≤ n' ∧ r.2.2.2.1 = N ∧
  ((r.1 = .normal ∧ ∃ s', inv s' ∧ μ s' < μ s ∧ r.2.1.take hs.length = (vals s').map some ∧ BL (blks s') r.2.2.1) ∨
   (r.1 ≠ .normal ∧ r.1 = e ∧ (∀ q ∈ out, okV n q.2 = true ∧ (q.1, some q.2) ∈ (hs ++ xs).zip r.2.1) ∧ ∀ p ∈ mF, keptB n n' p.1 = true ∧ lowB n p.2 ∧ ∃ y, (p.1, some y) ∈ ids.zip r.2.2.1 ∧ BEq y p.2))
theorem loop_viewE {E : Env} (hE : EnvOk E) {fuel : Nat} {body : Code} {S : Type} (inv : S → Prop) (μ : S → Nat) (hs xs ids : List Nat) (vals : S → List AV) (blks : S → List ABlk) {N n nh n' str : Nat} {e : Exit} {out : List (Nat × AV)} {mF : AMem}
 (hn1 : n ≤ nh) (hn2 : nh ≤ n') (hn3 : n' ≤ lim) {s0 : S} (h0 : inv s0) (hlen : ∀ s, hs.length = (vals s).length ∧ ids.length = (blks s).length) (hids : ids.all (keptB n n') = true) {eblks : List (Option ABlk)} (heb : BL (blks s0) eblks)
 (hlow : ∀ s, inv s → ((vals s).all (okV n)) = true ∧ ∀ b ∈ blks s, lowB n b)
 (step : ∀ s, inv s → ∃ p lp r, view (hs ++ xs) ids (fC E fuel body nh str ⟨mkFr N (hs.zip (vals s)), ids.zip (blks s), 0, 0, false, p, [], [], [], none, lp⟩) = some r ∧ StepV n n' N hs xs ids inv μ vals blks e out mF s r) :
 LoopV E.P body hs ids ((vals s0).map some) eblks N n (mkFr N out) mF n' e none := by
 have kept : ∀ s, inv s → ∀ tm m, (∀ q ∈ hs.zip (vals s), tm[q.1]? = some q.2) → (∀ p ∈ ids.zip (blks s), ∃ y, look m p.1 = some y ∧ BEq y p.2) → tm.length = N → Wk n nh n' tm m (mkFr N (hs.zip (vals s))) (ids.zip (blks s)) := by
  intro s hi tm m g1 g2 g3
  obtain ⟨l1, l2⟩ := hlow s hi
  refine wk_kept hn1 hn2 hn3 g3 (zip_fst_all hids) (fun p hp => ⟨l2 _ (List.of_mem_zip hp).2, g2 p hp⟩) fun q hq => ?_
  have := List.all_eq_true.1 l1 _ (List.of_mem_zip hq).2
  simp only [okV, Bool.and_eq_true] at this
  exact ⟨g1 q hq, notAny_ne this.2, this.1⟩
 refine loop_ob hE (fuel := fuel) (str := str) inv μ (fun s => mkFr N (hs.zip (vals s))) (fun s => ids.zip (blks s)) hn1 hn2 (fun _ h => by cases h) h0 (fun tm m g1 g2 g3 => kept s0 h0 tm m (fun q hq => ?_) (fun p hp => ?_) g3) fun s hi => ?_
 · have := zip_some_mem hq
   rw [← g1] at this
   exact (zip_map_mem this).symm
 · obtain ⟨y, h1, h2⟩ := heb.mem p hp
   rw [← g2] at h1
   exact ⟨y, (zip_map_mem h1).symm, h2⟩
 · obtain ⟨p, lp, ⟨e', l, b, len, n1, ob, po⟩, hv, hob, hpo, hn, hN, hw⟩ := step s hi
   simp only at hob hpo hn hN hw
   obtain ⟨st, v1, v2, v3, v4, v6, v7, v8⟩ := view_out hv
   refine ⟨p, lp, e', n1, st, v1, hn, ⟨by rw [v6]; exact hob, by rw [v7, hpo]; simp⟩, v8, ?_⟩
   rcases hw with ⟨rfl, s', i1, i2, i3, i4⟩ | ⟨hne, rfl, i3, i4⟩
   · refine .inl ⟨rfl, s', i1, i2, kept s' i1 _ _ (fun q hq => ?_) (fun p hp => ?_) (v4.trans hN)⟩
     · have h1 := zip_some_mem hq
       rw [← i3] at h1
       have h2 : (q.1, some q.2) ∈ (hs ++ xs).zip l := zip_append_mem (zip_take_mem h1)
       rw [← v2] at h2
       exact (zip_map_mem h2).symm
     · obtain ⟨y, h1, h2⟩ := i4.mem p hp
       rw [← v3] at h1
       exact ⟨y, (zip_map_mem h1).symm, h2⟩
   · refine .inr ⟨hne, rfl, wk_kept (by omega) (Nat.le_refl _) hn3 (v4.trans hN) (List.all_eq_true.2 fun p hp => (i4 p hp).1) (fun p hp => ?_) fun q hq => ?_⟩
     · obtain ⟨_, g2, y, g3, g4⟩ := i4 p hp
       rw [← v3] at g3
       exact ⟨g2, y, (zip_map_mem g3).symm, g4⟩
     · obtain ⟨g1, g2⟩ := i3 q hq
       simp only [okV, Bool.and_eq_true] at g1
       rw [← v2] at g2
       exact ⟨(zip_map_mem g2).symm, notAny_ne g1.2, g1.1⟩
theorem loop_view {E : Env} (hE : EnvOk E) {fuel : Nat} {body : Code} {S : Type} (inv : S → Prop) (μ : S → Nat) (hs xs ids : List Nat) (vals : S → List AV) (blks : S → List ABlk) {N n nh n' str : Nat} {e : Exit} {out : List (Nat × AV)} {mF : AMem}
 (hn1 : n ≤ nh) (hn2 : nh ≤ n') (hn3 : n' ≤ lim) {s0 : S} (h0 : inv s0) (hlen : ∀ s, hs.length = (vals s).length ∧ ids.length = (blks s).length) (hids : ids.all (keptB n n') = true)
 (hlow : ∀ s, inv s → ((vals s).all (okV n)) = true ∧ ∀ b ∈ blks s, lowB n b)
 (step : ∀ s, inv s → ∃ p lp r, view (hs ++ xs) ids (fC E fuel body nh str ⟨mkFr N (hs.zip (vals s)), ids.zip (blks s), 0, 0, false, p, [], [], [], none, lp⟩) = some r ∧ StepV n n' N hs xs ids inv μ vals blks e out mF s r) :
 LoopV E.P body hs ids ((vals s0).map some) ((blks s0).map some) N n (mkFr N out) mF n' e none :=
 loop_viewE hE (fuel := fuel) (nh := nh) (str := str) inv μ hs xs ids vals blks hn1 hn2 hn3 h0 hlen hids (BL.refl _) hlow step
end Go.Proofs.YtoelekmbmghicaaGreatDoor
end
/- Closed runs that read package variables, as contracts. No Go text is in sight. -/
section
namespace Go.Proofs.YtoelekmbmghicaaGreatDoor
open Go.RowKit
def eqAC : AC → AC → Bool
 | .v (.int k x), .v (.int k' y) => decide (k = k') && decide (x = y)
 | .v (.bool a), .v (.bool b) => a == b
 | _, _ => false
theorem eqAC_eq {x y : AC} (h : eqAC x y = true) : x = y := by
 unfold eqAC at h
 split at h
 · simp only [Bool.and_eq_true, decide_eq_true_eq] at h; rw [h.1, h.2]
 · simp at h; rw [h]
 · cases h
def eqLs : List AC → List AC → Bool
 | [], [] => true
 | x :: r, y :: q => eqAC x y && eqLs r q
 | _, _ => false
theorem eqLs_eq : ∀ {l q : List AC}, eqLs l q = true → l = q
 | [], [], _ => rfl
 | [], _ :: _, h => by simp [eqLs] at h
 | _ :: _, [], h => by simp [eqLs] at h
 | x :: r, y :: q, h => by
  simp only [eqLs, Bool.and_eq_true] at h
  rw [eqAC_eq h.1, eqLs_eq h.2]
def eqBk (x y : ABlk) : Bool :=
 match x.cs, y.cs with
 | .lit l, .lit q => eqLs l q && (x.row == y.row && (Nat.beq x.ty y.ty && Nat.beq x.sz y.sz))
 | _, _ => false
theorem eqBk_eq {x y : ABlk} (h : eqBk x y = true) : { x with own := false } = ({ y with own := false } : ABlk) := by
 obtain ⟨o, rw, t, s, c⟩ := x
 obtain ⟨o', rw', t', s', c'⟩ := y
 unfold eqBk at h
 split at h
 · rename_i l q h1 h2
   simp only at h1 h2
   subst h1; subst h2
   simp only [Bool.and_eq_true, beq_iff_eq] at h
   obtain ⟨e1, e2, e3, e4⟩ := h
   rw [eqLs_eq e1, e2, Nat.eq_of_beq_eq_true e3, Nat.eq_of_beq_eq_true e4]
 · cases h
def subB (g m : AMem) : Bool := g.all fun p => match look m p.1 with | some b => !p.2.own && eqBk b p.2 | none => false
def nmG (β : Nm) : Nm := fun id => if lim ≤ id then β id else none
theorem rel_glob {C : Ctx} {β : Nm} {m m2 g : AMem} {w : World} (hr : Rel C β m2 w) (hs : Sub m m2) (hg : subB g m = true) (hlim : (g.all fun p => Nat.ble lim p.1) = true) : Rel (loneC w) (nmG β) g w := by
 have hlk : ∀ id x, look g id = some x → lim ≤ id ∧ x.own = false ∧ ∃ b, look m2 id = some b ∧ ({ b with own := false } : ABlk) = x ∧ isO x = false := by
  intro id x hx
  have hm := look_mem hx
  have h1 := List.all_eq_true.1 hg _ hm
  have h2 := List.all_eq_true.1 hlim _ hm
  simp only at h1 h2
  split at h1
  · rename_i b hb
    simp only [Bool.and_eq_true, Bool.not_eq_true'] at h1
    have e := eqBk_eq h1.2
    have ho : x = { x with own := false } := by rw [← h1.1]
    refine ⟨Nat.le_of_ble_eq_true h2, h1.1, b, hs _ _ hb, by rw [e, ← ho], ?_⟩
    have h3 := h1.2
    unfold eqBk at h3
    split at h3
    · rename_i l q _ hq; simp [isO, hq]
    · cases h3
  · cases h1
 refine ⟨rfl, rfl, rfl, Nat.le_refl _, Nat.le_refl _, fun _ _ _ => rfl, fun id x hx => ?_, fun id id' x x' L L' hx _ _ ho => ?_, fun k L hL => ?_, fun id x o hx ho => ?_⟩
 · obtain ⟨h1, h2, b, h3, h4, _⟩ := hlk id x hx
   obtain ⟨L, hL, hb⟩ := hr.blk id b h3
   subst h4
   refine ⟨L, by simp [nmG, h1, hL], hb.sz, hb.lit, fun k j hi => ?_, hb.lt, fun h => (by cases h), hb.arrl, hb.rowc⟩
   obtain ⟨g1, u, g2, g3, g4⟩ := hb.cells k j hi
   obtain ⟨_, _, b', h3', h4', _⟩ := hlk id _ hx
   have hm := look_mem hx
   have h5 := List.all_eq_true.1 hg _ hm
   simp only at h5
   -- the cells are plain values
   split at h5
   · rename_i b2 hb2
     simp only [Bool.and_eq_true] at h5
     have h6 := h5.2
     unfold eqBk at h6
     split at h6
     · rename_i l q hl hq
       have hplain : ∀ {l q : List AC}, eqLs l q = true → ∀ x ∈ q, ∃ v, x = .v v := by
        intro l
        induction l with
        | nil => intro q h x hx; cases q with
          | nil => cases hx
          | cons _ _ => simp [eqLs] at h
        | cons a r ih => intro q h x hx; cases q with
          | nil => simp [eqLs] at h
          | cons c q =>
           simp only [eqLs, Bool.and_eq_true] at h
           rcases List.mem_cons.1 hx with rfl | hx
           · have := h.1
             unfold eqAC at this
             split at this
             · exact ⟨_, rfl⟩
             · exact ⟨_, rfl⟩
             · cases this
           · exact ih h.2 x hx
       simp only [Bool.and_eq_true] at h6
       have hq : b.cs = .lit q := hq
       refine ⟨g1, u, ?_, g3, g4⟩
       simp only [hq, Cs.get] at g2 ⊢
       have hgv : ∃ v, q.getD j nov = .v v := by
        simp only [List.getD]
        cases hj : q[j]? with
        | none => exact ⟨_, rfl⟩
        | some x => exact hplain h6.1 x (List.mem_of_getElem? hj)
       obtain ⟨v, hv⟩ := hgv
       rw [hv] at g2 ⊢
       exact g2
     · cases h6
   · cases h5
 · obtain ⟨_, h2, _⟩ := hlk id x hx
   rw [h2] at ho
   cases ho
 · have : nmG β (gid k) = β (gid k) := by
    unfold nmG
    rw [if_pos (by unfold gid lim; omega)]
   rw [this] at hL
   exact hr.glob k L hL
 · obtain ⟨_, _, _, _, _, h5⟩ := hlk id x hx
   simp [isO, ho] at h5
def ctTG (g : AMem) : CtF
 | [], m, _ => match subB g m with | true => some (.c (.v (.bool true)), [], 0, []) | false => none
 | _, _, _ => none
theorem below_lone {w w' : World} {β : Nm} {m : AMem} (h : Rel (loneC w) β m w') : Below w.heap.size w w' := ⟨h.os, h.tape, h.output, h.size, fun b hb => h.out b hb fun h => h⟩
theorem ctTG_of {E : Env} (hE : EnvOk E) {f : FuncId} {g : AMem} {k n str n' : Nat} (hf : ∃ (fn : Func) (c : Code), E.P.funcs[f]? = some fn ∧ fn.body = some c) (hlim : (g.all fun p => Nat.ble lim p.1) = true) (hn : n' ≤ lim)
 (h : viewF [] (fCallF E (fC E k) f [] n str (stC g)) = some (bo true, [], n', [], [])) : CtOk E.P f (ctTG g) := by
 refine ⟨hf, fun C β m m2 w args ib r news k' ob vs hct ho hs hr hfree hlim' hv => ?_⟩
 unfold ctTG at hct
 split at hct
 · split at hct
   · rename_i hsub
     simp only [Option.some.injEq, Prod.mk.injEq] at hct
     obtain ⟨rfl, rfl, rfl, rfl⟩ := hct
     cases hv
     obtain ⟨s', r1, r2, r3, r4⟩ := viewF_out h
     refine (calls_f hE r1 ⟨by rw [r3]; simp [allT], by rw [r4]; simp⟩ (C := loneC w) (β := nmG β) (w := w) (vs := []) rfl (rel_glob hr hs hsub hlim) (fun id h1 h2 => by unfold nmG; rw [if_neg (by omega)])).mono ?_
     rintro e w' ⟨β', v, rfl, _, _, hv, hr'⟩
     cases hv
     exact ⟨β, _, rfl, Ext.refl _, fun _ _ => rfl, rfl, by rw [List.append_nil]; exact hr.below (below_lone hr')⟩
   · cases hct
 · cases hct
end Go.Proofs.YtoelekmbmghicaaGreatDoor
end
/- Calls told as contracts: lists that are read, blocks that are handed out. No Go text is in sight. -/
section
namespace Go.Proofs.YtoelekmbmghicaaGreatDoor
open Go.RowKit
/-! ### lists that are read -/
theorem rel_add_ro {C : Ctx} {β : Nm} {m : AMem} {w : World} (h : Rel C β m w) (hno : ∀ id x, look m id = some x → x.own = false ∧ isO x = false) {id : Nat} (hid : β id = none) (hg : ∀ g, id ≠ gid g) {y : ABlk} (hy : y.own = false) (hyo : isO y = false) {L : Loc} (hk : BlkOk C β w L y) :
 Rel C (ext1 β id L) (m ++ [(id, y)]) w ∧ ∀ i x, look (m ++ [(id, y)]) i = some x → x.own = false ∧ isO x = false := by
 have he : Ext β (ext1 β id L) := ext1_ext hid
 have hlk : ∀ i z, look (m ++ [(id, y)]) i = some z → look m i = some z ∧ i ≠ id ∨ i = id ∧ z = y := by
  intro i z e
  rw [look_append] at e
  cases e' : look m i with
  | some z' =>
   rw [e'] at e
   obtain rfl : z' = z := Option.some.inj e
   refine .inl ⟨rfl, fun h' => ?_⟩
   subst h'
   obtain ⟨L, hL, _⟩ := h.blk i z' e'
   rw [hid] at hL; cases hL
  | none =>
   rw [e'] at e
   simp only [look_cons] at e
   cases hb : Nat.beq id i with
   | true => rw [hb] at e; cases e; exact .inr ⟨(Nat.eq_of_beq_eq_true hb).symm, rfl⟩
   | false => rw [hb] at e; cases e
 have hown : ∀ i x, look (m ++ [(id, y)]) i = some x → x.own = false ∧ isO x = false := by
  intro i x e
  rcases hlk i x e with ⟨e1, _⟩ | ⟨_, rfl⟩
  · exact hno i x e1
  · exact ⟨hy, hyo⟩
 refine ⟨⟨h.os, h.tape, h.output, h.size, h.base, h.out, fun i z e => ?_, fun i i' z z' M M' e _ _ ho => ?_, fun g M e => ?_, fun i z o e ho => ?_⟩, hown⟩
 · rcases hlk i z e with ⟨e1, _⟩ | ⟨rfl, rfl⟩
   · obtain ⟨M, hM, hk'⟩ := h.blk i z e1
     exact ⟨M, he i M hM, hk'.keep he (Nat.le_refl _) (fun _ => rfl)⟩
   · exact ⟨L, ext1_same, hk.keep he (Nat.le_refl _) (fun _ => rfl)⟩
 · rw [(hown i z e).1] at ho; cases ho
 · have : gid g ≠ id := fun e => hg g e.symm
   simp only [ext1, this, if_false] at e
   exact h.glob g M e
 · have := (hown i z e).2
   simp [isO, ho] at this
def eltZ (x : ABlk) (k j s : Nat) : Nat → List AC :=
 match x.cs, k with
 | .arr _ f, 0 => f
 | _, _ => elt x k j s
theorem eltZ_eq (x : ABlk) (k j s : Nat) : eltZ x k j s = elt x k j s := by
 unfold eltZ
 split
 · rename_i f h
   funext i
   simp [elt, h]
 · rfl
def slOf (s : Nat) (m : AMem) : AC → Option (Nat × (Nat → List AC) × Bool)
 | .sl id k j n _ =>
  match look m id with
  | some x => match eltB x k j s n with | some b => some (n, eltZ x k j s, b) | none => none
  | none => none
 | .v (.slice none 0 0) => some (0, fun _ => [], true)
 | _ => none
theorem blk_slice {C : Ctx} {β : Nm} {m : AMem} {w : World} (hr : Rel C β m w) {s : Nat} (hs : 0 < s) {a : AC} {n : Nat} {F : Nat → List AC} (h : slOf s m a = some (n, F, true)) {v : Value} (hv : γc β a = some v) (ty : Nat) {G : Nat → List Value}
 (hG : ∀ i, i < n → F i = (G i).map .v) (hGl : ∀ i, (G i).length = s) (C' : Ctx) (β' : Nm) (hC' : C' = loneC w) :
 ∃ L, BlkOk C' β' w L (rBlk ty s n G) ∧ ∀ β2 : Nm, ∀ i, β2 i = some L → γc β2 (.sl i 0 0 n none) = some v := by
 subst hC'
 unfold slOf at h
 split at h
 · rename_i id k j n' cap
   split at h
   · rename_i x hx
     split at h
     · rename_i b hb
       simp only [Option.some.injEq, Prod.mk.injEq, eltZ_eq] at h
       obtain ⟨rfl, rfl, rfl⟩ := h
       obtain ⟨L, hL, hk⟩ := hr.blk id x hx
       refine ⟨⟨L.b, L.o + (k * L.s + j), s, cap.getD (L.cap - k), L.nil⟩, ⟨rfl, fun l hl => (by cases hl), fun k' j' hi => ?_, hk.lt, fun ho => (by cases ho), fun q f hf i _ => (by cases hf; simp [hGl, rBlk]), fun ho => (by cases ho)⟩, fun β2 i h2 => ?_⟩
       · simp only [ABlk.inb, rBlk, Bool.and_eq_true] at hi
         have hi1 : k' < n' := of_decide_eq_true hi.1
         have hi2 : j' + 1 ≤ s := of_decide_eq_true hi.2
         have hget : ∀ u, γc β ((elt x k j s k').getD j' nov) = some u → γc β' ((rBlk ty s n' G).cs.get k' j') = some u := by
          intro u hu
          rw [hG k' hi1] at hu
          simp only [rBlk, Cs.get]
          have : j' < (G k').length := by rw [hGl]; omega
          simp only [List.getD, List.getElem?_map, List.getElem?_eq_getElem this, Option.map_some, Option.getD_some] at hu ⊢
          exact hu
         cases hc : x.cs with
         | arr q f =>
          simp only [eltB, hc] at hb
          split at hb
          · rename_i hsz
            have hb : k + n' ≤ q := of_decide_eq_true (Option.some.inj hb)
            obtain ⟨g1, u, g2, g3, g4⟩ := hk.cells (k + k') j' (by simp only [ABlk.inb, hc, hsz.1, Bool.and_eq_true]; exact ⟨decide_eq_true (by omega), decide_eq_true hi2⟩)
            refine ⟨g1, u, hget u ?_, g3, ?_⟩
            · rw [hc] at g2
              simpa only [elt, hc, Cs.get] using g2
            · have e : L.o + (k * L.s + j) + (k' * s + j') = L.o + ((k + k') * L.s + j') := by
               rw [hk.sz, hsz.1, hsz.2, Nat.add_mul]; omega
              simp only [e]
              exact g4
          · cases hb
         | lit l =>
          simp only [eltB, hc] at hb
          have hb : j + n' * s ≤ l.length := of_decide_eq_true (Option.some.inj hb)
          have hz := hk.lit l hc
          have hle : (k' + 1) * s ≤ n' * s := Nat.mul_le_mul_right s hi1
          rw [Nat.add_mul, Nat.one_mul] at hle
          obtain ⟨g1, u, g2, g3, g4⟩ := hk.cells k (j + (k' * s + j')) (by simp only [ABlk.inb, hc, hz]; exact decide_eq_true (by omega))
          refine ⟨g1, u, hget u ?_, g3, ?_⟩
          · rw [hc] at g2
            simp only [elt, hc]
            simp only [Cs.get, List.getD] at g2 ⊢
            rw [List.getElem?_take, if_pos (by omega), List.getElem?_drop, show j + k' * s + j' = j + (k' * s + j') by omega]
            exact g2
          · have e : L.o + (k * L.s + j) + (k' * s + j') = L.o + (k * L.s + (j + (k' * s + j'))) := by omega
            simp only [e]
            exact g4
         | obj o => simp [eltB, hc] at hb
       · simp only [γc, hL] at hv
         simp only [γc, h2]
         split at hv
         · rename_i hn
           rw [if_pos hn]
           split at hv
           · rename_i hz
             rw [if_pos ⟨hz.1, rfl⟩]; exact hv
           · cases hv
         · rename_i hn
           rw [if_neg hn]
           simpa using hv
     · cases h
   · cases h
 · simp only [Option.some.injEq, Prod.mk.injEq] at h
   obtain ⟨rfl, rfl, _⟩ := h
   cases hv
   refine ⟨⟨0, 0, s, 0, true⟩, ⟨rfl, fun l hl => (by cases hl), fun k' j' hi => ?_, fun h => (by cases h), fun ho => (by cases ho), fun q f hf i hi => (by cases hf; simp [hGl, rBlk]), fun ho => (by cases ho)⟩, fun β2 i h2 => ?_⟩
   · simp [ABlk.inb, rBlk] at hi
   · simp [γc, h2]
 · cases h
/-! ### blocks that are handed out -/
def addN (β β1 : Nm) : List (Nat × Nat × ABlk) → Nm
 | [], id => β id
 | (a, o, _) :: r, id => if id = a then β1 o else addN β β1 r id
theorem addN_not {β β1 : Nm} : ∀ {N : List (Nat × Nat × ABlk)} {id : Nat}, (∀ p ∈ N, p.1 ≠ id) → addN β β1 N id = β id
 | [], _, _ => rfl
 | (a, o, y) :: r, id, h => by
  have : id ≠ a := fun e => h (a, o, y) (by simp) e.symm
  simp only [addN, this, if_false]
  exact addN_not fun p hp => h p (List.mem_cons_of_mem _ hp)
theorem addN_mem {β β1 : Nm} : ∀ {N : List (Nat × Nat × ABlk)} {p : Nat × Nat × ABlk}, (N.map (·.1)).Nodup → p ∈ N → addN β β1 N p.1 = β1 p.2.1
 | (a, o, y) :: r, p, hn, hp => by
  simp only [List.map_cons, List.nodup_cons] at hn
  rcases List.mem_cons.1 hp with rfl | hp
  · simp [addN]
  · have : p.1 ≠ a := fun e => hn.1 (by rw [← e]; exact List.mem_map_of_mem hp)
    simp only [addN, this, if_false]
    exact addN_mem hn.2 hp
def newsN (N : List (Nat × Nat × ABlk)) : AMem := N.map fun p => (p.1, p.2.2)
theorem look_newsN : ∀ {N : List (Nat × Nat × ABlk)} {id : Nat} {y : ABlk}, look (newsN N) id = some y → ∃ p ∈ N, p.1 = id ∧ p.2.2 = y
 | (a, o, z) :: r, id, y, h => by
  simp only [newsN, List.map_cons, look_cons] at h
  split at h
  · rename_i hb
    cases h
    exact ⟨(a, o, _), List.mem_cons_self .., Nat.eq_of_beq_eq_true hb, rfl⟩
  · obtain ⟨p, h1, h2⟩ := look_newsN (N := r) h
    exact ⟨p, List.mem_cons_of_mem _ h1, h2⟩
structure OutOk (β1 β' : Nm) (m1 : AMem) (o : Nat) (y : ABlk) (x : ABlk) : Prop where
 lk : look m1 o = some x
 own : x.own = true
 obj : isO x = false
 own' : y.own = true
 row : y.row = x.row
 ty : y.ty = x.ty
 sz : y.sz = x.sz
 cs : (∃ l l', x.cs = .lit l ∧ y.cs = .lit l' ∧ l'.length = l.length) ∨ ∃ q f, x.cs = .arr q f ∧ y.cs = .arr q f
 cells : ∀ k j, x.inb k (j + 1) = true → ∀ u, γc β1 (x.cs.get k j) = some u → γc β' (y.cs.get k j) = some u
theorem OutOk.inb {β1 β' : Nm} {m1 : AMem} {o : Nat} {x y : ABlk} (h : OutOk β1 β' m1 o y x) (k j : Nat) : y.inb k j = x.inb k j := by
 rcases h.cs with ⟨l, l', h1, h2, h3⟩ | ⟨q, f, h1, h2⟩ <;> simp only [ABlk.inb, h1, h2, h.sz]
 rw [h3]
theorem rel_join {C : Ctx} {β β1 : Nm} {m m1 : AMem} {w w' : World} (h : Rel C β m w) (hb : Below w.heap.size w w') (h1 : Rel (loneC w) β1 m1 w') {N : List (Nat × Nat × ABlk)} (hnd : (N.map (·.1)).Nodup) (hnd2 : ∀ p ∈ N, ∀ q ∈ N, p.2.1 = q.2.1 → p.1 = q.1) (hfree : ∀ p ∈ N, β p.1 = none ∧ ∀ g, p.1 ≠ gid g)
 (hN : ∀ p ∈ N, ∃ x, OutOk β1 (addN β β1 N) m1 p.2.1 p.2.2 x) :
 Rel C (addN β β1 N) (m ++ newsN N) w' ∧ Ext β (addN β β1 N) := by
 have hw' : Rel C β m w' := h.below hb
 have he : Ext β (addN β β1 N) := by
  intro id L hL
  rw [addN_not fun p hp e => ?_]
  · exact hL
  · rw [← e, (hfree p hp).1] at hL; cases hL
 refine ⟨?_, he⟩
 have hlk : ∀ i y, look (m ++ newsN N) i = some y → (look m i = some y ∧ ∀ p ∈ N, p.1 ≠ i) ∨ ∃ p ∈ N, p.1 = i ∧ p.2.2 = y := by
  intro i y e
  rw [look_append] at e
  cases e' : look m i with
  | some z =>
   rw [e'] at e
   obtain rfl : z = y := Option.some.inj e
   refine .inl ⟨rfl, fun p hp e2 => ?_⟩
   obtain ⟨L, hL, _⟩ := h.blk i z e'
   rw [← e2, (hfree p hp).1] at hL; cases hL
  | none => rw [e'] at e; exact .inr (look_newsN e)
 have hbase : C.base ≤ w.heap.size := by have := h.size; have := h.base; omega
 -- an old block
 have old : ∀ i y, look m i = some y → (∀ p ∈ N, p.1 ≠ i) → ∃ L, addN β β1 N i = some L ∧ β i = some L ∧ BlkOk C β w' L y ∧ (L.nil = false → L.b < w.heap.size) := by
  intro i y e hp
  obtain ⟨L, hL, hk⟩ := hw'.blk i y e
  obtain ⟨L', hL', hk'⟩ := h.blk i y e
  rw [hL] at hL'
  cases hL'
  exact ⟨L, by rw [addN_not hp]; exact hL, hL, hk, hk'.lt⟩
 -- a new one
 have new : ∀ p ∈ N, ∃ L x, addN β β1 N p.1 = some L ∧ β1 p.2.1 = some L ∧ OutOk β1 (addN β β1 N) m1 p.2.1 p.2.2 x ∧ BlkOk (loneC w) β1 w' L x ∧ (L.nil = false → w.heap.size ≤ L.b) := by
  intro p hp
  obtain ⟨x, hx⟩ := hN p hp
  obtain ⟨L, hL, hk⟩ := h1.blk _ x hx.lk
  refine ⟨L, x, by rw [addN_mem hnd hp]; exact hL, hL, hx, hk, fun hn => ?_⟩
  obtain ⟨_, h2, _⟩ := hk.own hx.own hn
  rcases h2 with h2 | h2
  · exact h2
  · exact h2.elim
 refine ⟨hw'.os, hw'.tape, hw'.output, hw'.size, hw'.base, hw'.out, fun i y e => ?_, ?_, ?_, ?_⟩
 · rcases hlk i y e with ⟨e1, hne⟩ | ⟨p, hp, rfl, rfl⟩
   · obtain ⟨L, g1, _, g3, _⟩ := old i y e1 hne
     exact ⟨L, g1, g3.keep he (Nat.le_refl _) (fun _ => rfl)⟩
   · obtain ⟨L, x, g1, g2, g3, g4, g5⟩ := new p hp
     refine ⟨L, g1, by rw [g3.sz]; exact g4.sz, fun l hl => ?_, fun k j hi => ?_, g4.lt, fun ho hn => ?_, fun q f hf i hi => ?_, fun hrw hn q f hf => ?_⟩
     · rcases g3.cs with ⟨l1, l', h1, h2, h3⟩ | ⟨q, f, h1, h2⟩
       · rw [g3.sz]; exact g4.lit _ h1
       · rw [h2] at hl; cases hl
     · rw [g3.inb] at hi
       obtain ⟨a1, u, a2, a3, a4⟩ := g4.cells k j hi
       exact ⟨a1, u, g3.cells k j hi u a2, a3, a4⟩
     · obtain ⟨a1, a2, cs, a3, a4⟩ := g4.own g3.own hn
       refine ⟨a1, .inl (by have := g5 hn; omega), cs, by rw [g3.ty]; exact a3, fun hrw => ?_⟩
       rw [g3.row] at hrw
       obtain ⟨b1, b2, q, f, b3, b4⟩ := a4 hrw
       rw [g3.sz]
       refine ⟨b1, b2, q, f, ?_, b4⟩
       rcases g3.cs with ⟨l1, l', h1, h2, h3⟩ | ⟨q', f', h1, h2⟩
       · rw [h1] at b3; cases b3
       · rw [h1] at b3; cases b3; exact h2
     · rcases g3.cs with ⟨l1, l', h1, h2, h3⟩ | ⟨q', f', h1, h2⟩
       · rw [h2] at hf; cases hf
       · rw [h2] at hf; cases hf; rw [g3.sz]; exact g4.arrl _ _ h1 i hi
     · rw [g3.row] at hrw
       rcases g3.cs with ⟨l1, l', h1, h2, h3⟩ | ⟨q', f', h1, h2⟩
       · rw [h2] at hf; cases hf
       · rw [h2] at hf; cases hf; exact g4.rowc hrw hn _ _ h1
 · intro i i' y y' M M' e e' hne ho hM hM' hn hn'
   rcases hlk i y e with ⟨e1, q1⟩ | ⟨p, hp, rfl, rfl⟩
   · obtain ⟨L, g1, g2, _, g4⟩ := old i y e1 q1
     rw [hM] at g1
     cases g1
     rcases hlk i' y' e' with ⟨e2, q2⟩ | ⟨p', hp', rfl, rfl⟩
     · obtain ⟨L', f1, f2, _, _⟩ := old i' y' e2 q2
       rw [hM'] at f1
       cases f1
       exact hw'.sep i i' y y' M M' e1 e2 hne ho g2 f2 hn hn'
     · obtain ⟨L', x', f1, _, _, _, f5⟩ := new p' hp'
       rw [hM'] at f1
       cases f1
       have := g4 hn
       have := f5 hn'
       omega
   · obtain ⟨L, x, g1, g2, g3, g4, g5⟩ := new p hp
     rw [hM] at g1
     cases g1
     rcases hlk i' y' e' with ⟨e2, q2⟩ | ⟨p', hp', rfl, rfl⟩
     · obtain ⟨L', f1, _, _, f4⟩ := old i' y' e2 q2
       rw [hM'] at f1
       cases f1
       have := g5 hn
       have := f4 hn'
       omega
     · obtain ⟨L', x', f1, f2, f3, _, _⟩ := new p' hp'
       rw [hM'] at f1
       cases f1
       exact h1.sep p.2.1 p'.2.1 x x' M M' g3.lk f3.lk (fun e => hne (hnd2 p hp p' hp' e)) g3.own g2 f2 hn hn'
 · intro g M e
   rw [addN_not fun p hp => (hfree p hp).2 g] at e
   exact h.glob g M e
 · intro i y o e ho
   rcases hlk i y e with ⟨e1, q1⟩ | ⟨p, hp, rfl, rfl⟩
   · obtain ⟨M, g1, g2, g3, g4, g5⟩ := hw'.objs i y o e1 ho
     refine ⟨M, he i M g1, g2, g3, g4.keep he rfl, fun i' y' K r1 r2 r3 r4 => ?_⟩
     rcases hlk i' y' r2 with ⟨e2, q2⟩ | ⟨p', hp', rfl, rfl⟩
     · obtain ⟨L', f1, f2, _, _⟩ := old i' y' e2 q2
       rw [r3] at f1
       cases f1
       exact g5 i' y' K r1 e2 f2 r4
     · obtain ⟨L', x', f1, _, _, _, f5⟩ := new p' hp'
       rw [r3] at f1
       cases f1
       obtain ⟨L0, hL0, _, f4⟩ : ∃ L, β i = some L ∧ True ∧ (L.nil = false → L.b < w.heap.size) := by
        obtain ⟨L, _, a2, _, a4⟩ := old i y e1 q1
        exact ⟨L, a2, trivial, a4⟩
       rw [hL0] at g1
       cases g1
       have := f4 g2
       have := f5 r4
       omega
   · obtain ⟨L, x, _, _, g3, _, _⟩ := new p hp
     have := g3.obj
     rcases g3.cs with ⟨l1, l', h1, h2, h3⟩ | ⟨q', f', h1, h2⟩
     · rw [h2] at ho; cases ho
     · rw [h2] at ho; cases ho
end Go.Proofs.YtoelekmbmghicaaGreatDoor
end
/- The symbolic evaluator: loops that run over a list up to the first element that stops them. No Go text is in sight. -/
section
namespace Go.Proofs.YtoelekmbmghicaaGreatDoor
open Go.RowKit
def stH (N : Nat) (hs ids : List Nat) (vals : List AV) (blks : List ABlk) (p : List Dec) (lp : List (Option LSum)) : St := ⟨mkFr N (hs.zip vals), ids.zip blks, 0, 0, false, p, [], [], [], none, lp⟩
def GoodV (n' N : Nat) (r : VC) : Prop := allT r.2.2.2.2.2.1 ∧ r.2.2.2.2.2.2 = [] ∧ r.2.2.2.2.1 ≤ n' ∧ r.2.2.2.1 = N
def NextV (n' N h : Nat) (vals : List AV) (blks : List ABlk) (r : VC) : Prop := GoodV n' N r ∧ r.1 = .normal ∧ r.2.1.take h = vals.map some ∧ BL blks r.2.2.1
def EndV (n n' N : Nat) (ts ids : List Nat) (e : Exit) (out : List (Nat × AV)) (mF : AMem) (r : VC) : Prop :=
 GoodV n' N r ∧ r.1 = e ∧ (∀ q ∈ out, okV n q.2 = true ∧ (q.1, some q.2) ∈ ts.zip r.2.1) ∧ ∀ p ∈ mF, keptB n n' p.1 = true ∧ lowB n p.2 ∧ ∃ y, (p.1, some y) ∈ ids.zip r.2.2.1 ∧ BEq y p.2
theorem scan_ob {E : Env} (hE : EnvOk E) {fuel : Nat} {body : Code} (hs xs ids : List Nat) (vals : Nat → List AV) (blks : List ABlk) {N n nh n' str : Nat} {e : Exit} {out : List (Nat × AV)} {mF : AMem} (j : Nat)
 (hn1 : n ≤ nh) (hn2 : nh ≤ n') (hn3 : n' ≤ lim) (he : e ≠ .normal) (hlen : ∀ k, hs.length = (vals k).length ∧ ids.length = blks.length) (hids : ids.all (keptB n n') = true) (hlow : ∀ k, k ≤ j → ((vals k).all (okV n)) = true) (hb : ∀ b ∈ blks, lowB n b)
 (step : ∀ k, k < j → ∃ p r, view (hs ++ xs) ids (fC E fuel body nh str (stH N hs ids (vals k) blks p [])) = some r ∧ NextV n' N hs.length (vals (k + 1)) blks r)
 (stop : ∃ p r, view (hs ++ xs) ids (fC E fuel body nh str (stH N hs ids (vals j) blks p [])) = some r ∧ EndV n n' N (hs ++ xs) ids e out mF r) :
 LoopV E.P body hs ids ((vals 0).map some) (blks.map some) N n (mkFr N out) mF n' e none := by
 refine loop_view hE (fuel := fuel) (nh := nh) (str := str) (S := Nat) (fun k => k ≤ j) (fun k => j - k) hs xs ids vals (fun _ => blks) hn1 hn2 hn3 (s0 := 0) (Nat.zero_le _) hlen hids (fun k hk => ⟨hlow k hk, hb⟩) fun k hk => ?_
 rcases Nat.lt_or_ge k j with h | h
 · obtain ⟨p, r, h1, ⟨g1, g2, g3, g4⟩, h3, h4, h5⟩ := step k h
   exact ⟨p, [], r, h1, g1, g2, g3, g4, .inl ⟨h3, k + 1, h, by show j - (k + 1) < j - k; omega, h4, h5⟩⟩
 · obtain rfl : k = j := by omega
   obtain ⟨p, r, h1, ⟨g1, g2, g3, g4⟩, h3, h4, h5⟩ := stop
   exact ⟨p, [], r, h1, g1, g2, g3, g4, .inr ⟨by rw [h3]; exact he, h3, h4, h5⟩⟩
theorem EndV_nil {n n' N : Nat} {ts ids : List Nat} {e : Exit} {r : VC} (h : GoodV n' N r) (he : r.1 = e) : EndV n n' N ts ids e [] [] r := ⟨h, he, (fun _ h => by cases h), (fun _ h => by cases h)⟩
theorem EndV_one {n n' N : Nat} {ts ids : List Nat} {e : Exit} {r : VC} {t : Nat} {v : AV} (h : GoodV n' N r) (he : r.1 = e) (hv : okV n v = true) (hm : (t, some v) ∈ ts.zip r.2.1) : EndV n n' N ts ids e [(t, v)] [] r :=
 ⟨h, he, (fun q hq => by rw [List.mem_singleton.1 hq]; exact ⟨hv, hm⟩), (fun _ h => by cases h)⟩
theorem inb_arr {o r : Bool} {t s n : Nat} {g : Nat → List AC} {k j : Nat} : ABlk.inb ⟨o, r, t, s, .arr n g⟩ k j = (decide (k < n) && decide (j ≤ s)) := rfl
theorem inb_lit {o r : Bool} {t s : Nat} {l : List AC} {k j : Nat} : ABlk.inb ⟨o, r, t, s, .lit l⟩ k j = decide (k * s + j ≤ l.length) := rfl
theorem first_stop (n : Nat) (q : Nat → Bool) : ∃ j, j ≤ n ∧ (∀ i, i < j → q i = false) ∧ (j < n → q j = true) := by
 induction n with
 | zero => exact ⟨0, Nat.le_refl _, fun i h => by omega, fun h => by omega⟩
 | succ n ih =>
  obtain ⟨j, h1, h2, h3⟩ := ih
  rcases Nat.lt_or_ge j n with h | h
  · exact ⟨j, by omega, h2, fun _ => h3 h⟩
  · obtain rfl : j = n := by omega
    cases hq : q j with
    | true => exact ⟨j, by omega, h2, fun _ => hq⟩
    | false =>
     refine ⟨j + 1, Nat.le_refl _, fun i hi => ?_, fun h => by omega⟩
     by_cases e : i = j
     · rw [e]; exact hq
     · exact h2 i (by omega)
abbrev ints (ty n : Nat) (f : Nat → Int) : ABlk := rBlk ty 1 n fun i => [.int .i64 (f i)]
end Go.Proofs.YtoelekmbmghicaaGreatDoor
end
/- Contracts of functions that read one list of numbers and write nothing. No Go text is in sight. -/
section
namespace Go.Proofs.YtoelekmbmghicaaGreatDoor
open Go.RowKit
def fA (F : Nat → List AC) (i : Nat) : Int := asI ((F i).getD 0 nov)
def isI64 : List AC → Bool
 | [.v (.int .i64 _)] => true
 | _ => false
theorem isI64_eq {l : List AC} (h : isI64 l = true) : l = ([.int .i64 (asI (l.getD 0 nov))] : List Value).map .v := by
 unfold isI64 at h
 split at h
 · rfl
 · cases h
def intsOk (n : Nat) (F : Nat → List AC) : Bool := (List.range n).all fun k => isI64 (F k)
theorem slOf_sub {s : Nat} {m m2 : AMem} (h : Sub m m2) {a : AC} {r : Nat × (Nat → List AC) × Bool} (e : slOf s m a = some r) : slOf s m2 a = some r := by
 unfold slOf at e ⊢
 split at e
 · split at e
   · rename_i x hx
     simp only [h _ _ hx]
     exact e
   · cases e
 · exact e
 · cases e
theorem intsOk_eq {n : Nat} {F : Nat → List AC} (h : intsOk n F = true) : ∀ i, i < n → F i = ((fun i => [Value.int .i64 (fA F i)]) i).map .v := fun i hi => isI64_eq (List.all_eq_true.1 h i (by simpa using hi))
theorem rel_one {C : Ctx} {β : Nm} {m2 : AMem} {w : World} (hr : Rel C β m2 w) {a : AC} {n : Nat} {F : Nat → List AC} (hsl : slOf 1 m2 a = some (n, F, true)) (hI : intsOk n F = true) {v0 : Value} (hv : γc β a = some v0) (ty : Nat) :
 ∃ L, Rel (loneC w) (ext1 (fun _ => none) 0 L) [(0, ints ty n (fA F))] w ∧ γc (ext1 (fun _ => none) 0 L) (.sl 0 0 0 n none) = some v0 := by
 obtain ⟨L, h1, h2⟩ := blk_slice hr Nat.one_pos hsl hv ty (intsOk_eq hI) (fun _ => rfl) (loneC w) (fun _ => none) rfl
 exact ⟨L, (rel_add_ro (rel_nil w) (fun _ _ h => by cases h) rfl (fun g => by unfold gid; omega) rfl rfl h1).1, h2 _ 0 ext1_same⟩
theorem pure1 {E : Env} (hE : EnvOk E) {f : FuncId} {C : Ctx} {β : Nm} {m m2 : AMem} {w : World} (hs : Sub m m2) (hr : Rel C β m2 w) {a : AC} {n ib : Nat} {F : Nat → List AC} (hsl : slOf 1 m a = some (n, F, true)) (hI : intsOk n F = true)
 {restA : List AV} {vs : List Value} (hv : γt β (.c a :: restA) = some vs) (hrest : ∀ (β1 β2 : Nm) us, γt β1 restA = some us → γt β2 restA = some us) {res : AV} (hres : ∀ (β1 β2 : Nm) u, γ β1 res = some u → γ β2 res = some u) {fuel str : Nat} (ty : Nat)
 (run : ∃ p lp r, viewF [] (fCallF E (fC E fuel) f (.c (.sl 0 0 0 n none) :: restA) 1000 str (stA [(0, ints ty n (fA F))] p lp)) = some r ∧ r.1 = res ∧ r.2.2.1 ≤ lim ∧ allT r.2.2.2.1 ∧ ∀ q ∈ r.2.2.2.2, q) :
 Calls E.P f vs.toArray w (fun e w' => ∃ β' v', e = .returned v' ∧ Ext β β' ∧ (∀ id, id < ib ∨ ib + 0 ≤ id → β' id = β id) ∧ γ β' res = some v' ∧ Rel C β' (m2 ++ []) w') := by
 obtain ⟨p, lp, ⟨v, b', n', ob, po⟩, hrun, hvr, hn, hob, hpo⟩ := run
 obtain ⟨s', r1, r2, r3, r4⟩ := viewF_out hrun
 simp only [γt] at hv
 split at hv
 · rename_i v0 us hv0 hus
   cases hv
   obtain ⟨L, hL1, hL2⟩ := rel_one hr (slOf_sub hs hsl) hI (v0 := v0) hv0 ty
   refine (calls_f hE r1 ⟨by rw [r3]; exact hob, by rw [r4]; exact hpo⟩ (C := loneC w) (β := ext1 (fun _ => none) 0 L) (w := w) (vs := v0 :: us) ?_ hL1 (fun id h1 _ => ?_)).mono ?_
   · simp only [γt, γ1, hL2, hrest _ (ext1 (fun _ => none) 0 L) _ hus]
   · unfold ext1; rw [if_neg (by omega)]
   · rintro e w' ⟨β', u, rfl, _, _, hu, hr'⟩
     simp only at hvr
     subst hvr
     exact ⟨β, u, rfl, Ext.refl _, fun _ _ => rfl, hres _ _ _ hu, by rw [List.append_nil]; exact hr.below (below_lone hr')⟩
 · cases hv
end Go.Proofs.YtoelekmbmghicaaGreatDoor
end
/- Contracts of functions that write nothing and answer by plain values, by what they read. No Go text is in sight. -/
section
namespace Go.Proofs.YtoelekmbmghicaaGreatDoor
open Go.RowKit
/-! ### plain values -/
def plainC : AC → Bool
 | .v _ => true
 | _ => false
def plainA : AV → Bool
 | .c x => plainC x
 | .agg l => l.all plainC
 | _ => false
def plainL (l : List AV) : Bool := l.all plainA
theorem plainC_γ {x : AC} (h : plainC x = true) {β1 β2 : Nm} {u : Value} (e : γc β1 x = some u) : γc β2 x = some u := by
 cases x with
 | v x => exact e
 | _ => cases h
theorem plainS_γ : ∀ {l : List AC}, l.all plainC = true → ∀ {β1 β2 : Nm} {us : List Value}, γs β1 l = some us → γs β2 l = some us
 | [], _, _, _, _, e => e
 | x :: r, h, β1, β2, us, e => by
  simp only [List.all_cons, Bool.and_eq_true] at h
  simp only [γs] at e ⊢
  cases hx : γc β1 x with
  | none => rw [hx] at e; cases e
  | some u =>
   cases hr : γs β1 r with
   | none => rw [hx, hr] at e; cases e
   | some us' => rw [plainC_γ h.1 hx, plainS_γ h.2 hr]; rw [hx, hr] at e; exact e
theorem plainA_γ1 {x : AV} (h : plainA x = true) {β1 β2 : Nm} {u : Value} (e : γ1 β1 x = some u) : γ1 β2 x = some u := by
 cases x with
 | c x => exact plainC_γ h e
 | agg l =>
  simp only [γ1] at e ⊢
  cases hl : γs β1 l with
  | none => rw [hl] at e; cases e
  | some us => rw [plainS_γ h hl]; rw [hl] at e; exact e
 | _ => cases h
theorem plainL_γ : ∀ {l : List AV}, plainL l = true → ∀ {β1 β2 : Nm} {us : List Value}, γt β1 l = some us → γt β2 l = some us
 | [], _, _, _, _, e => e
 | x :: r, h, β1, β2, us, e => by
  simp only [plainL, List.all_cons, Bool.and_eq_true] at h
  simp only [γt] at e ⊢
  cases hx : γ1 β1 x with
  | none => rw [hx] at e; cases e
  | some u =>
   cases hr : γt β1 r with
   | none => rw [hx, hr] at e; cases e
   | some us' => rw [plainA_γ1 h.1 hx, plainL_γ (l := r) h.2 hr]; rw [hx, hr] at e; exact e
def plainR : AV → Bool
 | .tup l => plainL l
 | x => plainA x
theorem plainR_γ {x : AV} (h : plainR x = true) (β1 β2 : Nm) (u : Value) (e : γ β1 x = some u) : γ β2 x = some u := by
 cases x with
 | tup l =>
  simp only [γ] at e ⊢
  cases hl : γt β1 l with
  | none => rw [hl] at e; cases e
  | some us => rw [plainL_γ h hl]; rw [hl] at e; exact e
 | c x => exact plainA_γ1 (x := .c x) h e
 | agg l => exact plainA_γ1 (x := .agg l) h e
 | any => cases h
structure Rd (S : Type) where
 dec : List AV → AMem → Option (S × Bool)
 args : S → List AV
 mem : S → AMem
 ok : ∀ {C : Ctx} {β : Nm} {m m2 : AMem} {w : World} {xs : List AV} {s : S} {vs : List Value}, Sub m m2 → Rel C β m2 w → dec xs m = some (s, true) → γt β xs = some vs →
  ∃ β', Rel (loneC w) β' (mem s) w ∧ γt β' (args s) = some vs ∧ ∀ id, 1000 ≤ id → id < lim → β' id = none
def ctRd {S : Type} (rd : Rd S) (R : S → AV) (pre : S → Bool) : CtF := fun xs m _ =>
 match rd.dec xs m with
 | some (s, b) => some (R s, [], 0, [b, pre s])
 | none => none
def GoodF (R : AV) (r : VF) : Prop := r.1 = R ∧ r.2.2.1 ≤ lim ∧ allT r.2.2.2.1 ∧ ∀ q ∈ r.2.2.2.2, q
theorem ctRd_of {S : Type} {P : Program} {f : FuncId} (rd : Rd S) {R : S → AV} {pre : S → Bool} (hf : ∃ (fn : Func) (c : Code), P.funcs[f]? = some fn ∧ fn.body = some c) (hres : ∀ s, plainR (R s) = true)
 (run : ∀ s, pre s = true → ∃ (E : Env) (fuel str : Nat), E.P = P ∧ EnvOk E ∧ ∃ p lp r, viewF [] (fCallF E (fC E fuel) f (rd.args s) 1000 str (stA (rd.mem s) p lp)) = some r ∧ GoodF (R s) r) : CtOk P f (ctRd rd R pre) := by
 refine ⟨hf, fun C β m m2 w args ib r news k' ob vs hct ho hs hr hfree hlim hv => ?_⟩
 unfold ctRd at hct
 split at hct
 · rename_i s b hd
   simp only [Option.some.injEq, Prod.mk.injEq] at hct
   obtain ⟨rfl, rfl, rfl, rfl⟩ := hct
   simp only [allT, List.forall_mem_cons] at ho
   obtain ⟨rfl, o2, _⟩ := ho
   obtain ⟨E, fuel, str, rfl, hE, p, lp, ⟨v, b', n', ob, po⟩, hrun, hvr, hn, hob, hpo⟩ := run s o2
   obtain ⟨s', r1, r2, r3, r4⟩ := viewF_out hrun
   have hn : n' ≤ lim := hn
   obtain ⟨β1, q1, q2, q3⟩ := rd.ok hs hr hd hv
   refine (calls_f hE r1 ⟨by rw [r3]; exact hob, by rw [r4]; exact hpo⟩ (C := loneC w) (β := β1) (w := w) (vs := vs) q2 q1 (fun id h1 h2 => q3 id h1 (by omega))).mono ?_
   rintro e w' ⟨β', u, rfl, _, _, hu, hr'⟩
   simp only at hvr
   subst hvr
   exact ⟨β, u, rfl, Ext.refl _, fun _ _ => rfl, plainR_γ (hres s) _ _ _ hu, by rw [List.append_nil]; exact hr.below (below_lone hr')⟩
 · cases hct
theorem ctRd_ofE {S : Type} {E : Env} (hE : EnvOk E) {f : FuncId} (rd : Rd S) {R : S → AV} {pre : S → Bool} (hf : ∃ (fn : Func) (c : Code), E.P.funcs[f]? = some fn ∧ fn.body = some c) (hres : ∀ s, plainR (R s) = true) {fuel str : Nat}
 (run : ∀ s, pre s = true → ∃ p lp r, viewF [] (fCallF E (fC E fuel) f (rd.args s) 1000 str (stA (rd.mem s) p lp)) = some r ∧ GoodF (R s) r) : CtOk E.P f (ctRd rd R pre) :=
 ctRd_of rd hf hres fun s h => ⟨E, fuel, str, rfl, hE, run s h⟩
def pureRd (G : AMem) (hG : (G.all fun p => Nat.ble lim p.1) = true) : Rd (List AV) where
 dec := fun xs m => match plainL xs, subB G m with | true, true => some (xs, true) | _, _ => none
 args := fun xs => xs
 mem := fun _ => G
 ok := by
  intro C β m m2 w xs s vs hs hr hd hv
  split at hd
  · rename_i h1 h2
    cases hd
    exact ⟨nmG β, rel_glob hr hs h2 hG, plainL_γ h1 hv, fun id _ h => by unfold nmG; rw [if_neg (by omega)]⟩
  · cases hd
end Go.Proofs.YtoelekmbmghicaaGreatDoor
end
/- Empty lists that are handed out. No Go text is in sight. -/
section
namespace Go.Proofs.YtoelekmbmghicaaGreatDoor
open Go.RowKit
theorem look_last {m : AMem} {id i : Nat} {y z : ABlk} (h : look (m ++ [(id, y)]) i = some z) : look m i = some z ∨ (look m i = none ∧ i = id ∧ z = y) := by
 rw [look_append] at h
 cases e : look m i with
 | some z' => rw [e] at h; exact .inl h
 | none =>
  rw [e] at h
  simp only [look_cons] at h
  cases hb : Nat.beq id i with
  | true => rw [hb] at h; cases h; exact .inr ⟨rfl, (Nat.eq_of_beq_eq_true hb).symm, rfl⟩
  | false => rw [hb] at h; cases h
theorem rel_add_nil {C : Ctx} {β : Nm} {m : AMem} {w : World} (h : Rel C β m w) {id : Nat} (hid : β id = none) (hg : ∀ g, id ≠ gid g) {y : ABlk} {f : Nat → List AC} (hy : y.cs = .arr 0 f) : Rel C (ext1 β id ⟨0, 0, y.sz, 0, true⟩) (m ++ [(id, y)]) w := by
 have he : Ext β (ext1 β id ⟨0, 0, y.sz, 0, true⟩) := ext1_ext hid
 have hne : ∀ i x, look m i = some x → i ≠ id := by
  intro i x e e2
  subst e2
  obtain ⟨L, hL, _⟩ := h.blk i x e
  rw [hid] at hL; cases hL
 have hold : ∀ i M, i ≠ id → ext1 β id ⟨0, 0, y.sz, 0, true⟩ i = some M → β i = some M := fun i M hi e => by simpa [ext1, hi] using e
 refine ⟨h.os, h.tape, h.output, h.size, h.base, h.out, fun i z e => ?_, fun i i' z z' M M' e e' hn ho hM hM' n1 n2 => ?_, fun g M e => ?_, fun i z o e ho => ?_⟩
 · rcases look_last e with e | ⟨_, rfl, rfl⟩
   · obtain ⟨M, hM, hk⟩ := h.blk i z e
     exact ⟨M, he i M hM, hk.keep he (Nat.le_refl _) (fun _ => rfl)⟩
   · refine ⟨_, ext1_same, rfl, fun l hl => (by rw [hy] at hl; cases hl), fun k j hi => (by simp [ABlk.inb, hy] at hi), fun h => (by cases h), fun _ h => (by cases h), fun n g hc i hi => (by rw [hy] at hc; cases hc; omega), fun _ h => (by cases h)⟩
 · rcases look_last e with e | ⟨_, rfl, rfl⟩
   · rcases look_last e' with e' | ⟨_, rfl, rfl⟩
     · exact h.sep i i' z z' M M' e e' hn ho (hold _ _ (hne i z e) hM) (hold _ _ (hne i' z' e') hM') n1 n2
     · rw [ext1_same] at hM'; cases hM'; cases n2
   · rw [ext1_same] at hM; cases hM; cases n1
 · exact h.glob g M (hold _ _ (fun e => hg g e.symm) e)
 · rcases look_last e with e | ⟨_, rfl, rfl⟩
   · obtain ⟨M, g1, g2, g3, g4, g5⟩ := h.objs i z o e ho
     refine ⟨M, he i M g1, g2, g3, g4.keep he rfl, fun i' z' K q1 q2 q3 q4 => ?_⟩
     rcases look_last q2 with q2 | ⟨_, rfl, rfl⟩
     · exact g5 i' z' K q1 q2 (hold _ _ (hne i' z' q2) q3) q4
     · rw [ext1_same] at q3; cases q3; cases q4
   · rw [hy] at ho; cases ho
theorem rel_swap0 {C : Ctx} {β : Nm} {m : AMem} {w : World} {id : Nat} {x y : ABlk} (h : Rel C β (m ++ [(id, x)]) w) (hid : look m id = none) {f g : Nat → List AC} (hx : x.cs = .arr 0 f) (hy : y = { x with cs := .arr 0 g }) : Rel C β (m ++ [(id, y)]) w := by
 subst hy
 have lx : look (m ++ [(id, x)]) id = some x := by rw [look_append, hid]; exact look_eq _ _ _
 have conv : ∀ i z, look (m ++ [(id, ({ x with cs := .arr 0 g } : ABlk))]) i = some z → ∃ z', look (m ++ [(id, x)]) i = some z' ∧ z'.own = z.own ∧ (z' = z ∨ (i = id ∧ z' = x ∧ z = { x with cs := .arr 0 g })) := by
  intro i z e
  rcases look_last e with e | ⟨_, rfl, rfl⟩
  · exact ⟨z, by rw [look_append, e], rfl, .inl rfl⟩
  · exact ⟨x, lx, rfl, .inr ⟨rfl, rfl, rfl⟩⟩
 refine ⟨h.os, h.tape, h.output, h.size, h.base, h.out, fun i z e => ?_, fun i i' z z' M M' e e' hn ho hM hM' n1 n2 => ?_, h.glob, fun i z o e ho => ?_⟩
 · obtain ⟨z', h1, _, h3 | ⟨rfl, rfl, rfl⟩⟩ := conv i z e
   · subst h3; exact h.blk i z' h1
   · obtain ⟨L, hL, hk⟩ := h.blk i z' h1
     refine ⟨L, hL, hk.sz, fun l hl => (by cases hl), fun k j hi => (by simp [ABlk.inb] at hi), hk.lt, fun ho hn => ?_, fun n q hc i hi => (by cases hc; omega), fun _ _ n q hc => (by cases hc; exact Nat.zero_le _)⟩
     obtain ⟨a1, a2, cs, a3, a4⟩ := hk.own ho hn
     refine ⟨a1, a2, cs, a3, fun hr => ?_⟩
     obtain ⟨b1, b2, n, q, b3, b4⟩ := a4 hr
     exact ⟨b1, b2, 0, g, rfl, Nat.zero_le _, b4.2⟩
 · obtain ⟨u, h1, h2, _⟩ := conv i z e
   obtain ⟨u', h1', _, _⟩ := conv i' z' e'
   exact h.sep i i' u u' M M' h1 h1' hn (by rw [h2]; exact ho) hM hM' n1 n2
 · obtain ⟨z', h1, _, h3 | ⟨rfl, rfl, rfl⟩⟩ := conv i z e
   · subst h3
     obtain ⟨M, g1, g2, g3, g4, g5⟩ := h.objs i z' o h1 ho
     refine ⟨M, g1, g2, g3, g4, fun i' u K q1 q2 q3 q4 => ?_⟩
     obtain ⟨u', k1, _, _⟩ := conv i' u q2
     exact g5 i' u' K q1 k1 q3 q4
   · cases ho
end Go.Proofs.YtoelekmbmghicaaGreatDoor
end
/- A call that reads what an 'Rd' says and hands out one new list of plain cells: its contract. No Go text is in sight. -/
section
namespace Go.Proofs.YtoelekmbmghicaaGreatDoor
open Go.RowKit
theorem low_plain {n : Nat} {y : ABlk} {q : Nat} {F : Nat → List AC} (hcs : y.cs = .arr q F) (hpl : ∀ k j, y.inb k (j + 1) = true → ∃ v, y.cs.get k j = .v v) : lowB n y := by
 refine ⟨fun k j hi => ?_, fun o e => by rw [hcs] at e; cases e⟩
 obtain ⟨v, hv⟩ := hpl k j hi
 rw [hv]
 rfl
theorem rel_sub1 {C : Ctx} {β : Nm} {m : AMem} {w : World} (hr : Rel C β m w) {g : Nat} {x y : ABlk} (hx : look m g = some x) (hb : BEq x y) {q : Nat} {F : Nat → List AC} (hcs : y.cs = .arr q F) (hpl : ∀ k j, y.inb k (j + 1) = true → ∃ v, y.cs.get k j = .v v) :
 ∃ β2 : Nm, (∀ id, β2 id = β id) ∧ Rel C β2 [(g, y)] w := by
 obtain ⟨β2, h1, _, _, h4⟩ := wk_mk (n := 0) (nh := 0) (n' := 0) (ρ := fun _ => .inr 1) (tm1 := []) (m1 := m) (Nat.le_refl _) (Nat.le_refl _) (Nat.zero_le _) (N := 0) (lv := []) (m2 := [(g, y)]) rfl (by simp [rnOk]) ⟨.inr (.inr (.inr ⟨.inr (Nat.zero_le _), x, hx, hb, low_plain hcs hpl⟩)), trivial⟩ trivial C β w #[] ⟨rfl, fun t av h => by simp at h⟩ hr
 exact ⟨β2, fun id => h1 id (.inr (Nat.zero_le _)), h4⟩
theorem wBlk_pl {ty sz n : Nat} {f : Nat → List Value} (hf : ∀ k, (f k).length = sz) (k j : Nat) (h : (wBlk ty sz n f).inb k (j + 1) = true) : ∃ v, (wBlk ty sz n f).cs.get k j = .v v := by
 simp only [ABlk.inb, wBlk, Bool.and_eq_true, decide_eq_true_eq] at h
 have h2 : j + 1 ≤ sz := of_decide_eq_true h.2
 have hj : j < (f k).length := by rw [hf]; omega
 exact ⟨(f k)[j], by simp [Cs.get, wBlk, List.getD, List.getElem?_map, List.getElem?_eq_getElem hj]⟩
/-! the same, where the list is handed out to be read alone -/
end Go.Proofs.YtoelekmbmghicaaGreatDoor
end
/- A call that hands out one new list of plain cells, and a plain value beside it: its contract. No Go text is in sight. -/
section
namespace Go.Proofs.YtoelekmbmghicaaGreatDoor
open Go.RowKit
def ctRdT {S : Type} (rd : Rd S) (len : S → Nat) (cp : S → Option Nat) (blk : S → ABlk) (e : S → AV) (pre : S → Bool) : CtF := fun xs m ib =>
 match rd.dec xs m with
 | some (s, b) => some (.tup [.c (.sl ib 0 0 (len s) (cp s)), e s], [(ib, blk s)], 1, [b, pre s])
 | none => none
def GoodT (g n : Nat) (cp : Option Nat) (b : ABlk) (e : AV) (r : VF) : Prop := r.1 = .tup [.c (.sl g 0 0 n cp), e] ∧ (∃ y, r.2.1 = [some y] ∧ BEq y b) ∧ r.2.2.1 ≤ lim ∧ allT r.2.2.2.1 ∧ ∀ q ∈ r.2.2.2.2, q
theorem ctRdT_of {S : Type} {E : Env} (hE : EnvOk E) {f : FuncId} (rd : Rd S) {len : S → Nat} {cp : S → Option Nat} {blk : S → ABlk} {ev : S → AV} {pre : S → Bool} (g : Nat) (hf : ∃ (fn : Func) (c : Code), E.P.funcs[f]? = some fn ∧ fn.body = some c)
 (hown : ∀ s, (blk s).own = true) (hcs : ∀ s, ∃ q F, (blk s).cs = .arr q F) (hpl : ∀ s k j, (blk s).inb k (j + 1) = true → ∃ v, (blk s).cs.get k j = .v v) (hev : ∀ s, plainA (ev s) = true) {fuel str : Nat}
 (run : ∀ s, pre s = true → ∃ p lp r, viewF [g] (fCallF E (fC E fuel) f (rd.args s) 1000 str (stA (rd.mem s) p lp)) = some r ∧ GoodT g (len s) (cp s) (blk s) (ev s) r) : CtOk E.P f (ctRdT rd len cp blk ev pre) := by
 refine ⟨hf, fun C β m m2 w args ib r news k' ob vs hct ho hs hr hfree hlim hv => ?_⟩
 unfold ctRdT at hct
 split at hct
 · rename_i s b hd
   simp only [Option.some.injEq, Prod.mk.injEq] at hct
   obtain ⟨rfl, rfl, rfl, rfl⟩ := hct
   simp only [allT, List.forall_mem_cons] at ho
   obtain ⟨rfl, o2, _⟩ := ho
   obtain ⟨p, lp, ⟨v, b', n', ob, po⟩, hrun, hvr, ⟨y, hy, hb⟩, hn, hob, hpo⟩ := run s o2
   obtain ⟨s', r1, r2, r3, r4⟩ := viewF_out hrun
   simp only at hvr hy hn hob hpo
   subst hvr
   obtain ⟨β1, q1, q2, q3⟩ := rd.ok hs hr hd hv
   refine (calls_f hE r1 ⟨by rw [r3]; exact hob, by rw [r4]; exact hpo⟩ (C := loneC w) (β := β1) (w := w) (vs := vs) q2 q1 (fun id h1 h2 => q3 id h1 (by omega))).mono ?_
   rintro e w' ⟨β', u, rfl, _, _, hu, hr'⟩
   rw [hy] at r2
   simp only [List.map_cons, List.map_nil, List.cons.injEq, and_true] at r2
   obtain ⟨q, F, hq⟩ := hcs s
   obtain ⟨β2, e2, hr2⟩ := rel_sub1 hr' r2 hb hq (hpl s)
   obtain ⟨L, hL, _⟩ := hr2.blk g (blk s) (by simp [look_cons])
   have hid : β ib = none := hfree ib (Nat.le_refl _) (by omega)
   refine ⟨ext1 β ib L, u, rfl, ext1_ext hid, fun id h => ?_, ?_, ?_⟩
   · unfold ext1
     rw [if_neg (by omega)]
   · have hL' : β' g = some L := by rw [← e2]; exact hL
     have hsl : γc β' (.sl g 0 0 (len s) (cp s)) = γc (ext1 β ib L) (.sl ib 0 0 (len s) (cp s)) := by simp only [γc, hL', ext1_same]
     have key : ∀ x, γt β' [.c (.sl g 0 0 (len s) (cp s)), ev s] = some x → γt (ext1 β ib L) [.c (.sl ib 0 0 (len s) (cp s)), ev s] = some x := by
      intro x hx
      have e1 : γ1 β' (.c (.sl g 0 0 (len s) (cp s))) = γ1 (ext1 β ib L) (.c (.sl ib 0 0 (len s) (cp s))) := hsl
      simp only [γt] at hx ⊢
      rw [← e1]
      cases he : γ1 β' (ev s) with
      | none => rw [he] at hx; revert hx; cases γ1 β' (.c (.sl g 0 0 (len s) (cp s))) <;> simp
      | some z => rw [plainA_γ1 (hev s) (β2 := ext1 β ib L) he]; rw [he] at hx; exact hx
     simp only [γ] at hu ⊢
     cases hx : γt β' [.c (.sl g 0 0 (len s) (cp s)), ev s] with
     | none => rw [hx] at hu; cases hu
     | some x => rw [hx] at hu; rw [key x hx]; exact hu
   · exact rel_fresh hr (below_lone hr') hid (not_gid (by omega)) hr2 (i1 := g) (by simp [look_cons]) (hown s) hq (hpl s) hL
 · cases hct
/-! a result, looked at in short -/
def obsB : Option ABlk → Option (Bool × Bool × Nat × Nat × Nat × List (List AC))
 | some ⟨o, r, t, sz, .arr q f⟩ => some (o, r, t, sz, q, (List.range q).map f)
 | _ => none
def seeT (r : Option VF) : Option (AV × List (Option (Bool × Bool × Nat × Nat × Nat × List (List AC))) × Nat × Bool × List Prop) := match r with | some r => some (r.1, r.2.1.map obsB, r.2.2.1, r.2.2.2.1.all (fun b => b), r.2.2.2.2) | none => none
theorem seeT_out {r : Option VF} {v : AV} {o row : Bool} {ty sz q n : Nat} {l : List (List AC)} (h : seeT r = some (v, [some (o, row, ty, sz, q, l)], n, true, [])) : ∃ f b, r = some (v, [some ⟨o, row, ty, sz, .arr q f⟩], n, b, []) ∧ allT b ∧ (List.range q).map f = l := by
 unfold seeT at h
 split at h
 · rename_i r
   obtain ⟨v', bs, n', ob, po⟩ := r
   simp only [Option.some.injEq, Prod.mk.injEq] at h
   obtain ⟨rfl, h2, rfl, h4, rfl⟩ := h
   match bs, h2 with
   | [x], h2 =>
    simp only [List.map_cons, List.map_nil, List.cons.injEq, and_true] at h2
    unfold obsB at h2
    split at h2
    · rename_i o' r' t' sz' q' f'
      simp only [Option.some.injEq, Prod.mk.injEq] at h2
      obtain ⟨rfl, rfl, rfl, rfl, rfl, rfl⟩ := h2
      exact ⟨f', ob, rfl, fun b hb => List.all_eq_true.1 h4 b hb, rfl⟩
    · cases h2
   | [], h2 => simp at h2
   | _ :: _ :: _, h2 => simp at h2
 · cases h
end Go.Proofs.YtoelekmbmghicaaGreatDoor
end
/- What functions of a list and of plain values read. No Go text is in sight. -/
section
namespace Go.Proofs.YtoelekmbmghicaaGreatDoor
open Go.RowKit
structure LstS (S : Type) where
 n : Nat
 f : Nat → S
 rest : List AV
end Go.Proofs.YtoelekmbmghicaaGreatDoor
end
/- A call that hands out one new list of plain cells, of known room: its contract; what functions of one list (of any room) and plain values read. No Go text is in sight. -/
section
namespace Go.Proofs.YtoelekmbmghicaaGreatDoor
open Go.RowKit
def ctRdV {S : Type} (rd : Rd S) (len : S → Nat) (cp : S → Option Nat) (blk : S → ABlk) (pre : S → Bool) : CtF := fun xs m ib =>
 match rd.dec xs m with
 | some (s, b) => some (.c (.sl ib 0 0 (len s) (cp s)), [(ib, blk s)], 1, [b, pre s])
 | none => none
def GoodW (g n : Nat) (cp : Option Nat) (b : ABlk) (r : VF) : Prop := r.1 = .c (.sl g 0 0 n cp) ∧ (∃ y, r.2.1 = [some y] ∧ BEq y b) ∧ r.2.2.1 ≤ lim ∧ allT r.2.2.2.1 ∧ ∀ q ∈ r.2.2.2.2, q
theorem ctRdV_of {S : Type} {E : Env} (hE : EnvOk E) {f : FuncId} (rd : Rd S) {len : S → Nat} {cp : S → Option Nat} {blk : S → ABlk} {pre : S → Bool} (g : Nat) (hf : ∃ (fn : Func) (c : Code), E.P.funcs[f]? = some fn ∧ fn.body = some c)
 (hown : ∀ s, (blk s).own = true) (hcs : ∀ s, ∃ q F, (blk s).cs = .arr q F) (hpl : ∀ s k j, (blk s).inb k (j + 1) = true → ∃ v, (blk s).cs.get k j = .v v) {fuel str : Nat}
 (run : ∀ s, pre s = true → ∃ p lp r, viewF [g] (fCallF E (fC E fuel) f (rd.args s) 1000 str (stA (rd.mem s) p lp)) = some r ∧ GoodW g (len s) (cp s) (blk s) r) : CtOk E.P f (ctRdV rd len cp blk pre) := by
 refine ⟨hf, fun C β m m2 w args ib r news k' ob vs hct ho hs hr hfree hlim hv => ?_⟩
 unfold ctRdV at hct
 split at hct
 · rename_i s b hd
   simp only [Option.some.injEq, Prod.mk.injEq] at hct
   obtain ⟨rfl, rfl, rfl, rfl⟩ := hct
   simp only [allT, List.forall_mem_cons] at ho
   obtain ⟨rfl, o2, _⟩ := ho
   obtain ⟨p, lp, ⟨v, b', n', ob, po⟩, hrun, hvr, ⟨y, hy, hb⟩, hn, hob, hpo⟩ := run s o2
   obtain ⟨s', r1, r2, r3, r4⟩ := viewF_out hrun
   simp only at hvr hy hn hob hpo
   subst hvr
   obtain ⟨β1, q1, q2, q3⟩ := rd.ok hs hr hd hv
   refine (calls_f hE r1 ⟨by rw [r3]; exact hob, by rw [r4]; exact hpo⟩ (C := loneC w) (β := β1) (w := w) (vs := vs) q2 q1 (fun id h1 h2 => q3 id h1 (by omega))).mono ?_
   rintro e w' ⟨β', u, rfl, _, _, hu, hr'⟩
   rw [hy] at r2
   simp only [List.map_cons, List.map_nil, List.cons.injEq, and_true] at r2
   obtain ⟨q, F, hq⟩ := hcs s
   obtain ⟨β2, e2, hr2⟩ := rel_sub1 hr' r2 hb hq (hpl s)
   obtain ⟨L, hL, _⟩ := hr2.blk g (blk s) (by simp [look_cons])
   have hid : β ib = none := hfree ib (Nat.le_refl _) (by omega)
   refine ⟨ext1 β ib L, u, rfl, ext1_ext hid, fun id h => ?_, ?_, ?_⟩
   · unfold ext1
     rw [if_neg (by omega)]
   · have hL' : β' g = some L := by rw [← e2]; exact hL
     have hsl : γc β' (.sl g 0 0 (len s) (cp s)) = γc (ext1 β ib L) (.sl ib 0 0 (len s) (cp s)) := by simp only [γc, hL', ext1_same]
     exact hsl.symm.trans hu
   · exact rel_fresh hr (below_lone hr') hid (not_gid (by omega)) hr2 (i1 := g) (by simp [look_cons]) (hown s) hq (hpl s) hL
 · cases hct
def ctOr (A B : CtF) : CtF := fun xs m n => match A xs m n with | some r => some r | none => B xs m n
theorem ct_or {P : Program} {f : FuncId} {A B : CtF} (ha : CtOk P f A) (hb : CtOk P f B) : CtOk P f (ctOr A B) := by
 refine ⟨ha.1, fun C β m m2 w args ib r news k' ob vs hct => ?_⟩
 unfold ctOr at hct
 split at hct
 · rename_i x hx
   rw [hct] at hx
   exact ha.2 C β m m2 w args ib r news k' ob vs hx
 · exact hb.2 C β m m2 w args ib r news k' ob vs hct
def oneRd {S : Type} (sz ty : Nat) (hsz : 0 < sz) (of : (Nat → List AC) → Nat → S) (cells : S → List Value) (hlen : ∀ x, (cells x).length = sz) (okF : Nat → (Nat → List AC) → Bool) (hok : ∀ {n : Nat} {F : Nat → List AC}, okF n F = true → ∀ i, i < n → F i = ((fun i => cells (of F i)) i).map .v) : Rd (LstS S) where
 dec := fun xs m =>
  match xs with
  | .c a :: rest =>
   match slOf sz m a, plainL rest with
   | some (n, F, b1), true => some (⟨n, of F, rest⟩, b1 && okF n F)
   | _, _ => none
  | _ => none
 args := fun s => .c (.sl 0 0 0 s.n none) :: s.rest
 mem := fun s => [(0, rBlk ty sz s.n fun i => cells (s.f i))]
 ok := by
  intro C β m m2 w xs s vs hs hr hd hv
  split at hd
  · rename_i a rest
    split at hd
    · rename_i n F b1 ha hpl
      simp only [Option.some.injEq, Prod.mk.injEq, Bool.and_eq_true] at hd
      obtain ⟨rfl, rfl, h3⟩ := hd
      simp only [γt, γ1] at hv
      split at hv
      · rename_i va us ea eus
        cases hv
        obtain ⟨L0, k0, z0⟩ := blk_slice hr hsz (slOf_sub hs ha) ea ty (hok h3) (fun i => hlen _) (loneC w) (fun _ => none) rfl
        obtain ⟨r1, n1⟩ := rel_add_ro (C := loneC w) (β := fun _ => none) (m := []) (rel_nil w) (fun _ _ h => by cases h) (id := 0) rfl (fun g => by unfold gid; omega) rfl rfl k0
        refine ⟨_, r1, ?_, fun id h1 _ => ?_⟩
        · simp only [γt, γ1, z0 _ 0 (show ext1 (fun _ => none) 0 L0 0 = some L0 by simp [ext1]), plainL_γ hpl eus]
        · unfold ext1
          rw [if_neg (by omega)]
      · cases hv
    · cases hd
  · cases hd
end Go.Proofs.YtoelekmbmghicaaGreatDoor
end
/- The symbolic evaluator: loops within loops: a round may ask for sums of its own. No Go text is in sight. -/
section
namespace Go.Proofs.YtoelekmbmghicaaGreatDoor
open Go.RowKit
def StepN {S : Type} (n n' N : Nat) (hs xs ids : List Nat) (inv : S → Prop) (μ : S → Nat) (vals : S → List AV) (blks : S → List ABlk) (e : Exit) (out : List (Nat × AV)) (mF : AMem) (s : S) (r : VC) : Prop :=
 allT r.2.2.2.2.2.1 ∧ (∀ q ∈ r.2.2.2.2.2.2, q) ∧ r.2.2.2.2.1 ≤ n' ∧ r.2.2.2.1 = N ∧
  ((r.1 = .normal ∧ ∃ s', inv s' ∧ μ s' < μ s ∧ r.2.1.take hs.length = (vals s').map some ∧ BL (blks s') r.2.2.1) ∨
   (r.1 ≠ .normal ∧ r.1 = e ∧ (∀ q ∈ out, okV n q.2 = true ∧ (q.1, some q.2) ∈ (hs ++ xs).zip r.2.1) ∧ ∀ p ∈ mF, keptB n n' p.1 = true ∧ lowB n p.2 ∧ ∃ y, (p.1, some y) ∈ ids.zip r.2.2.1 ∧ BEq y p.2))
theorem loop_viewN {E : Env} (hE : EnvOk E) {fuel : Nat} {body : Code} {S : Type} (inv : S → Prop) (μ : S → Nat) (hs xs ids : List Nat) (vals : S → List AV) (blks : S → List ABlk) {N n nh n' str : Nat} {e : Exit} {out : List (Nat × AV)} {mF : AMem}
 (hn1 : n ≤ nh) (hn2 : nh ≤ n') (hn3 : n' ≤ lim) {s0 : S} (h0 : inv s0) (hlen : ∀ s, hs.length = (vals s).length ∧ ids.length = (blks s).length) (hids : ids.all (keptB n n') = true) {eblks : List (Option ABlk)} (heb : BL (blks s0) eblks)
 (hlow : ∀ s, inv s → ((vals s).all (okV n)) = true ∧ ∀ b ∈ blks s, lowB n b)
 (step : ∀ s, inv s → ∃ p lp r, view (hs ++ xs) ids (fC E fuel body nh str ⟨mkFr N (hs.zip (vals s)), ids.zip (blks s), 0, 0, false, p, [], [], [], none, lp⟩) = some r ∧ StepN n n' N hs xs ids inv μ vals blks e out mF s r) :
 LoopV E.P body hs ids ((vals s0).map some) eblks N n (mkFr N out) mF n' e none := by
 have kept : ∀ s, inv s → ∀ tm m, (∀ q ∈ hs.zip (vals s), tm[q.1]? = some q.2) → (∀ p ∈ ids.zip (blks s), ∃ y, look m p.1 = some y ∧ BEq y p.2) → tm.length = N → Wk n nh n' tm m (mkFr N (hs.zip (vals s))) (ids.zip (blks s)) := by
  intro s hi tm m g1 g2 g3
  obtain ⟨l1, l2⟩ := hlow s hi
  refine wk_kept hn1 hn2 hn3 g3 (zip_fst_all hids) (fun p hp => ⟨l2 _ (List.of_mem_zip hp).2, g2 p hp⟩) fun q hq => ?_
  have := List.all_eq_true.1 l1 _ (List.of_mem_zip hq).2
  simp only [okV, Bool.and_eq_true] at this
  exact ⟨g1 q hq, notAny_ne this.2, this.1⟩
 refine loop_ob hE (fuel := fuel) (str := str) inv μ (fun s => mkFr N (hs.zip (vals s))) (fun s => ids.zip (blks s)) hn1 hn2 (fun _ h => by cases h) h0 (fun tm m g1 g2 g3 => kept s0 h0 tm m (fun q hq => ?_) (fun p hp => ?_) g3) fun s hi => ?_
 · have := zip_some_mem hq
   rw [← g1] at this
   exact (zip_map_mem this).symm
 · obtain ⟨y, h1, h2⟩ := heb.mem p hp
   rw [← g2] at h1
   exact ⟨y, (zip_map_mem h1).symm, h2⟩
 · obtain ⟨p, lp, ⟨e', l, b, len, n1, ob, po⟩, hv, hob, hpo, hn, hN, hw⟩ := step s hi
   simp only at hob hpo hn hN hw
   obtain ⟨st, v1, v2, v3, v4, v6, v7, v8⟩ := view_out hv
   refine ⟨p, lp, e', n1, st, v1, hn, ⟨by rw [v6]; exact hob, by rw [v7]; exact hpo⟩, v8, ?_⟩
   rcases hw with ⟨rfl, s', i1, i2, i3, i4⟩ | ⟨hne, rfl, i3, i4⟩
   · refine .inl ⟨rfl, s', i1, i2, kept s' i1 _ _ (fun q hq => ?_) (fun p hp => ?_) (v4.trans hN)⟩
     · have h1 := zip_some_mem hq
       rw [← i3] at h1
       have h2 : (q.1, some q.2) ∈ (hs ++ xs).zip l := zip_append_mem (zip_take_mem h1)
       rw [← v2] at h2
       exact (zip_map_mem h2).symm
     · obtain ⟨y, h1, h2⟩ := i4.mem p hp
       rw [← v3] at h1
       exact ⟨y, (zip_map_mem h1).symm, h2⟩
   · refine .inr ⟨hne, rfl, wk_kept (by omega) (Nat.le_refl _) hn3 (v4.trans hN) (List.all_eq_true.2 fun p hp => (i4 p hp).1) (fun p hp => ?_) fun q hq => ?_⟩
     · obtain ⟨_, g2, y, g3, g4⟩ := i4 p hp
       rw [← v3] at g3
       exact ⟨g2, y, (zip_map_mem g3).symm, g4⟩
     · obtain ⟨g1, g2⟩ := i3 q hq
       simp only [okV, Bool.and_eq_true] at g1
       rw [← v2] at g2
       exact ⟨(zip_map_mem g2).symm, notAny_ne g1.2, g1.1⟩
theorem mem_zip_some {ids : List Nat} {blks : List ABlk} {p : Nat × ABlk} (h : p ∈ ids.zip blks) : (p.1, some p.2) ∈ ids.zip (blks.map some) := by
 rw [List.zip_map_right]
 exact List.mem_map.2 ⟨p, h, rfl⟩
theorem mf_all {n n' : Nat} {ids : List Nat} {blks : List ABlk} {r : List (Option ABlk)} (hk : ids.all (keptB n n') = true) (hl : ∀ b ∈ blks, lowB n b) (hr : r = blks.map some) : ∀ p ∈ ids.zip blks, keptB n n' p.1 = true ∧ lowB n p.2 ∧ ∃ y, (p.1, some y) ∈ ids.zip r ∧ BEq y p.2 := by
 intro p hp
 subst hr
 exact ⟨List.all_eq_true.1 hk _ (List.of_mem_zip hp).1, hl _ (List.of_mem_zip hp).2, p.2, mem_zip_some hp, BEq.refl _⟩
end Go.Proofs.YtoelekmbmghicaaGreatDoor
end
/- The symbolic evaluator: loops at whose heads lists lie under names of the loop's own, whatever bears them (slots, cells of kept blocks), each given anew at a round's end. No Go text is in sight. -/
section
namespace Go.Proofs.YtoelekmbmghicaaGreatDoor
open Go.RowKit
section
variable {n nh n' : Nat} {ρ : Rn} {tm1 : List AV} {m1 : AMem}
def CW (n nh n' : Nat) (ρ : Rn) (a x : AC) : Prop := ∀ (β : Nm) (v : Value), γc β a = some v → γc (rnm n nh n' ρ β) x = some v
def MemD (n nh n' : Nat) (ρ : Rn) (m1 : AMem) (id : Nat) (x : ABlk) : Prop :=
 MemC n nh n' ρ m1 id x ∨
 ((id < n ∨ n' ≤ id) ∧ ∃ y, look m1 id = some y ∧ y.own = x.own ∧ y.row = x.row ∧ y.ty = x.ty ∧ y.sz = x.sz ∧ ∃ l1 l2, y.cs = .lit l1 ∧ x.cs = .lit l2 ∧ l1.length = l2.length ∧ ∀ j, CW n nh n' ρ (l1.getD j nov) (l2.getD j nov))
theorem wk_mkD (h1 : n ≤ nh) (h2 : nh ≤ n') (h3 : n' ≤ lim) {N : Nat} {lv : List (Nat × AV)} {m2 : AMem} (hlen : tm1.length = N) (hrn : rnOk n nh n' ρ m2 = true) (hm : ∀ id x, look m2 id = some x → MemD n nh n' ρ m1 id x) (hf : FrW n nh n' ρ tm1 lv) :
 Wk n nh n' tm1 m1 (mkFr N lv) m2 := by
 intro C β w tmps hfr hr
 have hgid : ∀ g, rnm n nh n' ρ β (gid g) = β (gid g) := fun g => by
  have : n' ≤ gid g := by unfold gid; unfold lim at h3; omega
  simp [rnm, this]
 -- a block's place
 have hpl : ∀ id x, look m2 id = some x → ∃ L, rnm n nh n' ρ β id = some L ∧ BlkOk C (rnm n nh n' ρ β) w L x ∧ (L.nil = false → ∃ o y, oldId n nh n' ρ id = some o ∧ look m1 o = some y ∧ y.own = x.own ∧ β o = some L) := by
  intro id x hx
  have conv : ∀ (L : Loc) (y : ABlk), BEq y x → lowB n x → BlkOk C β w L y → BlkOk C (rnm n nh n' ρ β) w L x := by
   intro L y hb hlow hk
   refine ⟨by rw [hb.sz]; exact hk.sz, fun l hl => ?_, fun k j hi => ?_, hk.lt, fun ho hn => ?_, fun q g hg i hi => ?_, fun hrw hn q g hg => ?_⟩
   · rcases hb.cs with ⟨l', e1, e2⟩ | ⟨q, f, g, e1, e2, _⟩ | ⟨o, o'', e1, e2, _⟩
     · rw [hb.sz]; exact hk.lit l' e1
     · rw [e2] at hl; cases hl
     · rw [e2] at hl; cases hl
   · have hlow' := hlow.1 k j hi
     have hi' := hi
     rw [inb_beq hb] at hi
     obtain ⟨g1, u, g2, g3, g4⟩ := hk.cells k j hi
     refine ⟨g1, u, ?_, g3, g4⟩
     have e : x.cs.get k j = y.cs.get k j := by
      rcases hb.cs with ⟨l', e1, e2⟩ | ⟨q, f, g, e1, e2, e3⟩ | ⟨o, o'', e1, e2, _⟩
      · rw [e1, e2]
      rotate_left
      · simp only [e1, e2, Cs.get]
      · rw [e1, e2]
        have : k < q := by
         simp only [ABlk.inb, e1, Bool.and_eq_true, decide_eq_true_eq] at hi
         exact hi.1
        simp only [Cs.get]
        rw [e3 k this]
     rw [e] at hlow' ⊢
     exact γc_low hlow' g2
   · rw [hb.own] at ho
     obtain ⟨o1, o2, cs, o3, o4⟩ := hk.own ho hn
     refine ⟨o1, o2, cs, by rw [hb.ty]; exact o3, fun hrw => ?_⟩
     rw [hb.row] at hrw
     obtain ⟨r1, r2, q, f, r3, r4⟩ := o4 hrw
     rcases hb.cs with ⟨l', e1, e2⟩ | ⟨q', f', g, e1, e2, e3⟩ | ⟨o, o'', e1, e2, _⟩
     · rw [e1] at r3; cases r3
     rotate_left
     · rw [e1] at r3; cases r3
     · rw [e1] at r3
       cases r3
       exact ⟨by rw [hb.sz]; exact r1, by rw [hb.sz]; exact r2, _, g, e2, r4⟩
   · rcases hb.cs with ⟨l', e1, e2⟩ | ⟨q', f', g', e1, e2, e3⟩ | ⟨o, o'', e1, e2, _⟩
     · rw [e2] at hg; cases hg
     rotate_left
     · rw [e2] at hg; cases hg
     · rw [e2] at hg
       cases hg
       rw [← e3 i hi, hb.sz]
       exact hk.arrl _ f' e1 i hi
   · rw [hb.row] at hrw
     rcases hb.cs with ⟨l', e1, e2⟩ | ⟨q', f', g', e1, e2, e3⟩ | ⟨o, o'', e1, e2, _⟩
     · rw [e2] at hg; cases hg
     rotate_left
     · rw [e2] at hg; cases hg
     · rw [e2] at hg
       cases hg
       exact hk.rowc hrw hn _ f' e1
  rcases hm id x hx with (⟨c1, c2, c3⟩ | ⟨c1, c2, o, y, c3, c4, c5, c6⟩ | ⟨c1, c2, c3, c4, f, c5⟩ | ⟨c1, y, c4, c5, c6⟩) | ⟨c1, y, c4, k1, k2, k3, k4, l1, l2, k5, k6, k7, k8⟩
  rotate_left 4
  · obtain ⟨L, hL, hk⟩ := hr.blk id y c4
    refine ⟨L, by simp [rnm, c1, hL], ⟨by rw [← k4]; exact hk.sz, fun l hl => ?_, fun k j hi => ?_, hk.lt, fun ho hn => ?_, fun q g hg => (by rw [k6] at hg; cases hg), fun _ _ q g hg => (by rw [k6] at hg; cases hg)⟩, fun hn => ⟨id, y, ?_, c4, k1, hL⟩⟩
    · rw [← k4]; exact hk.lit l1 k5
    · have hi' : y.inb k (j + 1) = true := by
       rw [← hi]
       simp only [ABlk.inb, k5, k6, k4, k7]
      obtain ⟨g1, u, g2, g3, g4⟩ := hk.cells k j hi'
      refine ⟨g1, u, ?_, g3, g4⟩
      rw [k5] at g2
      rw [k6]
      simp only [Cs.get] at g2 ⊢
      exact k8 _ β u g2
    · rw [← k1] at ho
      obtain ⟨o1, o2, cs, o3, o4⟩ := hk.own ho hn
      refine ⟨o1, o2, cs, by rw [← k3]; exact o3, fun hrw => ?_⟩
      rw [← k2] at hrw
      obtain ⟨_, _, q, f, r3, _⟩ := o4 hrw
      rw [k5] at r3
      cases r3
    · unfold oldId
      have : (Nat.blt id n || Nat.ble n' id) = true := by
       rcases c1 with h | h
       · have : Nat.blt id n = true := by rw [Nat.blt_eq]; exact h
         rw [this]; rfl
       · rw [Nat.ble_eq_true_of_le h, Bool.or_true]
      rw [this]
  rotate_left 3
  · obtain ⟨L, hL, hk⟩ := hr.blk id y c4
    refine ⟨L, by simp [rnm, c1, hL], conv L y c5 c6 hk, fun hn => ⟨id, y, ?_, c4, c5.own.symm, hL⟩⟩
    unfold oldId
    have : (Nat.blt id n || Nat.ble n' id) = true := by
     rcases c1 with h | h
     · have : Nat.blt id n = true := by rw [Nat.blt_eq]; exact h
       rw [this]; rfl
     · rw [Nat.ble_eq_true_of_le h, Bool.or_true]
    rw [this]
  · obtain ⟨L, hL, hk⟩ := hr.blk id x c2
    refine ⟨L, by simp [rnm, c1, hL], conv L x (BEq.refl x) c3 hk, fun hn => ⟨id, x, ?_, c2, rfl, hL⟩⟩
    unfold oldId
    have : (Nat.blt id n || Nat.ble n' id) = true := by
     rcases c1 with h | h
     · have : Nat.blt id n = true := by rw [Nat.blt_eq]; exact h
       rw [this]; rfl
     · rw [Nat.ble_eq_true_of_le h, Bool.or_true]
    rw [this]
  · obtain ⟨L, hL, hk⟩ := hr.blk o y c4
    have hnot : ¬ (id < n ∨ n' ≤ id) := by omega
    refine ⟨L, by simp [rnm, hnot, c2, c3, hL], conv L y c5 c6 hk, fun hn => ⟨o, y, ?_, c4, c5.own.symm, hL⟩⟩
    unfold oldId
    have : (Nat.blt id n || Nat.ble n' id) = false := by
     rw [Bool.or_eq_false_iff]
     refine ⟨?_, ?_⟩
     · rw [Bool.eq_false_iff]; intro h; rw [Nat.blt_eq] at h; omega
     · rw [Bool.eq_false_iff]; intro h; have := Nat.le_of_ble_eq_true h; omega
    rw [this, c3]
  · have hnot : ¬ (id < n ∨ n' ≤ id) := by omega
    refine ⟨⟨0, 0, x.sz, 0, true⟩, by simp [rnm, hnot, c2, c3], ⟨rfl, fun l hl => (by rw [c5] at hl; cases hl), fun k j hi => ?_, fun h => (by cases h), fun _ h => (by cases h), fun q g hg i hi => ?_, fun _ h => (by cases h)⟩, fun h => (by cases h)⟩
    · simp [ABlk.inb, c5] at hi
    · rw [c5] at hg; cases hg; omega
 refine ⟨rnm n nh n' ρ β, fun id hid => by simp [rnm, hid], fun id hid1 hid2 => ?_, ⟨?_, fun t av ht => ?_⟩, hr.os, hr.tape, hr.output, hr.size, hr.base, hr.out, fun id x hx => ?_, ?_, fun g L hL => hr.glob g L (by rw [hgid g] at hL; exact hL), fun id x ob hx hxo => ?_⟩
 · have : ¬ (id < n ∨ n' ≤ id) := by omega
   simp [rnm, this, show ¬ id < nh by omega]
 · rw [mkFr, mkFrG_length, ← hlen]; exact hfr.1
 · rw [mkFr, mkFrG_get, Nat.zero_add] at ht
   split at ht
   · cases ht
     rcases @lkA_mem lv t with h | h
     · exact .inl h
     · obtain ⟨a1, e1, e2, e3⟩ := FrW_mem hf h
       rcases hfr.2 t a1 e1 with h4 | ⟨v, h4, h5⟩
       · exact absurd h4 e2
       · exact .inr ⟨v, e3 β v h4, h5⟩
   · cases ht
 · obtain ⟨L, hL, hk, _⟩ := hpl id x hx
   exact ⟨L, hL, hk⟩
 · intro id id' x x' L L' hx hx' hne ho hL hL' hn hn'
   obtain ⟨M, hM, _, hM2⟩ := hpl id x hx
   rw [hL] at hM
   cases hM
   obtain ⟨M', hM', _, hM2'⟩ := hpl id' x' hx'
   rw [hL'] at hM'
   cases hM'
   obtain ⟨o, y, o1, o2, o3, o4⟩ := hM2 hn
   obtain ⟨o', y', p1, p2, p3, p4⟩ := hM2' hn'
   have hoo : o ≠ o' := fun e => by
    subst e
    exact rnOk_apart hrn hx hx' hne _ o1 p1
   exact hr.sep o o' y y' L L' o2 p2 hoo (by rw [o3]; exact ho) o4 p4 hn hn'
 · obtain ⟨oi, y, q1, q2, q3, q4, q5⟩ : ∃ oi y, oldId n nh n' ρ id = some oi ∧ look m1 oi = some y ∧ (∃ ob', y.cs = .obj ob' ∧ OLe ob' ob) ∧ lowO n ob = true ∧ rnm n nh n' ρ β id = β oi := by
    rcases hm id x hx with (⟨c1, c2, c3⟩ | ⟨c1, c2, o, y, c3, c4, c5, c6⟩ | ⟨c1, c2, c3, c4, f, c5⟩ | ⟨c1, y, c4, c5, c6⟩) | ⟨c1, y, c4, k1, k2, k3, k4, l1, l2, k5, k6, k7, k8⟩
    rotate_left 4
    · rw [k6] at hxo; cases hxo
    rotate_left 3
    · refine ⟨id, y, ?_, c4, ?_, c6.2 ob hxo, by simp [rnm, c1]⟩
      · unfold oldId
        have : (Nat.blt id n || Nat.ble n' id) = true := by
         rcases c1 with h | h
         · have : Nat.blt id n = true := by rw [Nat.blt_eq]; exact h
           rw [this]; rfl
         · rw [Nat.ble_eq_true_of_le h, Bool.or_true]
        rw [this]
      · rcases c5.cs with ⟨l, e1, e2⟩ | ⟨q, f, g, e1, e2, _⟩ | ⟨o', o2, e1, e2, e3⟩
        · rw [hxo] at e2; cases e2
        · rw [hxo] at e2; cases e2
        · rw [hxo] at e2; cases e2; exact ⟨_, e1, e3⟩
    · refine ⟨id, x, ?_, c2, ⟨_, hxo, OLe.refl _⟩, c3.2 ob hxo, by simp [rnm, c1]⟩
      unfold oldId
      have : (Nat.blt id n || Nat.ble n' id) = true := by
       rcases c1 with h | h
       · have : Nat.blt id n = true := by rw [Nat.blt_eq]; exact h
         rw [this]; rfl
       · rw [Nat.ble_eq_true_of_le h, Bool.or_true]
      rw [this]
    · have hnot : ¬ (id < n ∨ n' ≤ id) := by omega
      refine ⟨o, y, ?_, c4, ?_, c6.2 ob hxo, by simp [rnm, hnot, c2, c3]⟩
      · unfold oldId
        have : (Nat.blt id n || Nat.ble n' id) = false := by
         rw [Bool.or_eq_false_iff]
         refine ⟨?_, ?_⟩
         · rw [Bool.eq_false_iff]; intro h; rw [Nat.blt_eq] at h; omega
         · rw [Bool.eq_false_iff]; intro h; have := Nat.le_of_ble_eq_true h; omega
        rw [this, c3]
      · rcases c5.cs with ⟨l, e1, e2⟩ | ⟨q, f, g, e1, e2, _⟩ | ⟨o', o2, e1, e2, e3⟩
        · rw [hxo] at e2; cases e2
        · rw [hxo] at e2; cases e2
        · rw [hxo] at e2; cases e2; exact ⟨_, e1, e3⟩
    · rw [hxo] at c5; cases c5
   obtain ⟨ob', q3, q6⟩ := q3
   obtain ⟨L, k1, k2, k3, k4, k5⟩ := hr.objs oi y ob' q2 q3
   refine ⟨L, by rw [q5]; exact k1, k2, k3, (k4.le q6).low q4, fun id' x' L' g1 g2 g3 g4 => ?_⟩
   obtain ⟨M', hM', _, hM2'⟩ := hpl id' x' g2
   rw [g3] at hM'
   cases hM'
   obtain ⟨o', y', p1, p2, p3, p4⟩ := hM2' g4
   refine k5 o' y' L' (fun e => ?_) p2 p4 g4
   subst e
   exact rnOk_apart hrn hx g2 (fun e => g1 e.symm) _ q1 p1
def MemV (n nh n' : Nat) (ρ : Rn) (mv : List (Nat × Option ABlk)) (id : Nat) (x : ABlk) : Prop :=
 (n ≤ id ∧ id < nh ∧ ∃ o y, ρ id = .inl o ∧ (o, some y) ∈ mv ∧ BEq y x ∧ lowB n x) ∨
 (n ≤ id ∧ id < nh ∧ ρ id = .inr x.sz ∧ 0 < x.sz ∧ ∃ f, x.cs = .arr 0 f) ∨
 ((id < n ∨ n' ≤ id) ∧ ∃ y, (id, some y) ∈ mv ∧ BEq y x ∧ lowB n x) ∨
 ((id < n ∨ n' ≤ id) ∧ ∃ y, (id, some y) ∈ mv ∧ y.own = x.own ∧ y.row = x.row ∧ y.ty = x.ty ∧ y.sz = x.sz ∧ ∃ l1 l2, y.cs = .lit l1 ∧ x.cs = .lit l2 ∧ l1.length = l2.length ∧ ∀ j, CW n nh n' ρ (l1.getD j nov) (l2.getD j nov))
structure Mt (n nh n' : Nat) (ρ : Rn) (tv : List (Nat × Option AV)) (mv : List (Nat × Option ABlk)) (lv : List (Nat × AV)) (mm : AMem) : Prop where
 rn : rnOk n nh n' ρ mm = true
 fr : ∀ q ∈ lv, ∃ a, (q.1, some a) ∈ tv ∧ a ≠ .any ∧ GW n nh n' ρ a q.2
 me : ∀ p ∈ mm, MemV n nh n' ρ mv p.1 p.2
theorem Mt.wk {N : Nat} {lv : List (Nat × AV)} {mm : AMem} {tv : List (Nat × Option AV)} {mv : List (Nat × Option ABlk)} (h : Mt n nh n' ρ tv mv lv mm) (h1 : n ≤ nh) (h2 : nh ≤ n') (h3 : n' ≤ lim) (hlen : tm1.length = N) (ht : ∀ q ∈ tv, tm1[q.1]? = q.2) (hm : ∀ p ∈ mv, look m1 p.1 = p.2) : Wk n nh n' tm1 m1 (mkFr N lv) mm := by
 refine wk_mkD (ρ := ρ) h1 h2 h3 hlen h.rn (fun id x hx => ?_) (FrW_of_mem fun q hq => ?_)
 · rcases h.me _ (look_mem hx) with ⟨a1, a2, o, y, a3, a4, a5, a6⟩ | h | ⟨a1, y, a2, a3, a4⟩ | ⟨a1, y, a2, a3⟩
   · exact .inl (.inr (.inl ⟨a1, a2, o, y, a3, hm _ a4, a5, a6⟩))
   · exact .inl (.inr (.inr (.inl h)))
   · exact .inl (.inr (.inr (.inr ⟨a1, y, hm _ a2, a3, a4⟩)))
   · exact .inr ⟨a1, y, hm _ a2, a3⟩
 · obtain ⟨a, b1, b2, b3⟩ := h.fr q hq
   exact ⟨a, ht _ b1, b2, b3⟩
end
theorem zip_map_all {α β : Type} {f : α → β} : ∀ {l : List α}, ∀ q ∈ l.zip (l.map f), f q.1 = q.2
 | [], q, h => by cases h
 | a :: l, q, h => by
  rcases List.mem_cons.1 h with e | h
  · rw [e]
  · exact zip_map_all q h
def StepM {S : Type} (n nh n' N : Nat) (hs vids gs ids : List Nat) (inv : S → Prop) (μ : S → Nat) (vals : S → List AV) (gb blks : S → List ABlk) (e : Exit) (out : List (Nat × AV)) (mF : AMem) (s : S) (r : VC) : Prop :=
 allT r.2.2.2.2.2.1 ∧ (∀ q ∈ r.2.2.2.2.2.2, q) ∧ r.2.2.2.2.1 ≤ n' ∧ r.2.2.2.1 = N ∧
  ((r.1 = .normal ∧ ∃ s', inv s' ∧ μ s' < μ s ∧ ∃ ρ : Rn, Mt n nh n' ρ (hs.zip r.2.1) (vids.zip r.2.2.1) (hs.zip (vals s')) (gs.zip (gb s') ++ ids.zip (blks s'))) ∨
   (r.1 ≠ .normal ∧ r.1 = e ∧ ∃ ρ : Rn, Mt n n' n' ρ (hs.zip r.2.1) (vids.zip r.2.2.1) out mF))
theorem loop_growM {E : Env} (hE : EnvOk E) {fuel : Nat} {body : Code} {S : Type} (inv : S → Prop) (μ : S → Nat) (hs vids gs ids eids : List Nat) (vals : S → List AV) (gb blks : S → List ABlk) {evals : List (Option AV)} {eblks : List (Option ABlk)} {N n nh n' str : Nat} {e : Exit} {out : List (Nat × AV)} {mF : AMem}
 (hn1 : n ≤ nh) (hn2 : nh ≤ n') (hn3 : n' ≤ lim) {s0 : S} (h0 : inv s0) (entry : ∃ ρ : Rn, Mt n nh n' ρ (hs.zip evals) (eids.zip eblks) (hs.zip (vals s0)) (gs.zip (gb s0) ++ ids.zip (blks s0)))
 (step : ∀ s, inv s → ∃ p lp r, view hs vids (fC E fuel body nh str ⟨mkFr N (hs.zip (vals s)), gs.zip (gb s) ++ ids.zip (blks s), 0, 0, false, p, [], [], [], none, lp⟩) = some r ∧ StepM n nh n' N hs vids gs ids inv μ vals gb blks e out mF s r) :
 LoopV E.P body hs eids evals eblks N n (mkFr N out) mF n' e none := by
 refine loop_ob hE (fuel := fuel) (str := str) inv μ (fun s => mkFr N (hs.zip (vals s))) (fun s => gs.zip (gb s) ++ ids.zip (blks s)) hn1 hn2 (fun _ h => by cases h) h0 (fun tm m g1 g2 g3 => ?_) fun s hi => ?_
 · obtain ⟨ρ, h⟩ := entry
   subst g1
   subst g2
   exact h.wk hn1 hn2 hn3 g3 zip_map_all zip_map_all
 · obtain ⟨p, lp, ⟨e', l, b, len1, n1, ob, po⟩, hv, hob, hpo, hn, hN, hw⟩ := step s hi
   simp only at hob hpo hn hN hw
   obtain ⟨st, v1, v2, v3, v4, v6, v7, v8⟩ := view_out hv
   subst v2
   subst v3
   refine ⟨p, lp, e', n1, st, v1, hn, ⟨by rw [v6]; exact hob, by rw [v7]; exact hpo⟩, v8, ?_⟩
   rcases hw with ⟨rfl, s', i1, i2, ρ, h⟩ | ⟨hne, rfl, ρ, h⟩
   · exact .inl ⟨rfl, s', i1, i2, h.wk hn1 hn2 hn3 (v4.trans hN) zip_map_all zip_map_all⟩
   · exact .inr ⟨hne, rfl, h.wk (by omega) (Nat.le_refl _) hn3 (v4.trans hN) zip_map_all zip_map_all⟩
end Go.Proofs.YtoelekmbmghicaaGreatDoor
end
/- The symbolic evaluator: a loop's next head where some blocks are given anew and all others are kept. No Go text is in sight. -/
section
namespace Go.Proofs.YtoelekmbmghicaaGreatDoor
open Go.RowKit
theorem kept_lt {n n' id : Nat} (h : keptB n n' id = true) : id < n ∨ n' ≤ id := by
 simp only [keptB, Bool.or_eq_true] at h
 exact h.imp (fun h => by rwa [Nat.blt_eq] at h) Nat.le_of_ble_eq_true
theorem mt_gen {n nh n' : Nat} {ρ : Rn} {hs gs ids : List Nat} {vals : List AV} {tv : List (Nat × Option AV)} {gb blks : List ABlk} {A mv : List (Nat × Option ABlk)} {kb : List (Option ABlk)} (hmv : mv = A ++ ids.zip kb) (hrn : rnOk n nh n' ρ (gs.zip gb ++ ids.zip blks) = true)
 (hfr : ∀ q ∈ hs.zip vals, ∃ a, (q.1, some a) ∈ tv ∧ a ≠ .any ∧ GW n nh n' ρ a q.2) (hg : ∀ p ∈ gs.zip gb, MemV n nh n' ρ mv p.1 p.2) (hk : ids.all (keptB n n') = true) (hlow : ∀ b ∈ blks, lowB n b) (hb : BL blks kb) :
 Mt n nh n' ρ tv mv (hs.zip vals) (gs.zip gb ++ ids.zip blks) := by
 refine ⟨hrn, hfr, fun p hp => ?_⟩
 rcases List.mem_append.1 hp with hp | hp
 · exact hg p hp
 · obtain ⟨y, h1, h2⟩ := hb.mem p hp
   exact .inr (.inr (.inl ⟨kept_lt (List.all_eq_true.1 hk _ (List.of_mem_zip hp).1), y, by rw [hmv]; exact List.mem_append_right _ h1, h2, hlow _ (List.of_mem_zip hp).2⟩))
theorem fr_cons {n nh n' : Nat} {ρ : Rn} {tv : List (Nat × Option AV)} {h : Nat} {a x : AV} {hs : List Nat} {vals : List AV} (h1 : (h, some a) ∈ tv) (h2 : a ≠ .any) (h3 : GW n nh n' ρ a x) (hr : ∀ q ∈ hs.zip vals, ∃ a, (q.1, some a) ∈ tv ∧ a ≠ .any ∧ GW n nh n' ρ a q.2) : ∀ q ∈ (h :: hs).zip (x :: vals), ∃ a, (q.1, some a) ∈ tv ∧ a ≠ .any ∧ GW n nh n' ρ a q.2 := by
 intro q hq
 rcases List.mem_cons.1 hq with rfl | hq
 · exact ⟨a, h1, h2, h3⟩
 · exact hr q hq
theorem fr_nil {n nh n' : Nat} {ρ : Rn} {tv : List (Nat × Option AV)} : ∀ q ∈ ([] : List Nat).zip ([] : List AV), ∃ a, (q.1, some a) ∈ tv ∧ a ≠ .any ∧ GW n nh n' ρ a q.2 := fun _ h => by cases h
theorem me_cons {P : Nat → ABlk → Prop} {g : Nat} {b : ABlk} {gs : List Nat} {gb : List ABlk} (h : P g b) (hr : ∀ p ∈ gs.zip gb, P p.1 p.2) : ∀ p ∈ (g :: gs).zip (b :: gb), P p.1 p.2 := by
 intro p hp
 rcases List.mem_cons.1 hp with rfl | hp
 · exact h
 · exact hr p hp
theorem me_nil {P : Nat → ABlk → Prop} : ∀ p ∈ ([] : List Nat).zip ([] : List ABlk), P p.1 p.2 := fun _ h => by cases h
theorem mv_new {n nh n' : Nat} {ρ : Rn} {mv : List (Nat × Option ABlk)} {id o : Nat} {x y : ABlk} (h1 : Nat.ble n id = true) (h2 : Nat.blt id nh = true) (h3 : ρ id = .inl o) (h4 : (o, some y) ∈ mv) (h5 : BEq y x) (h6 : lowB n x) : MemV n nh n' ρ mv id x := .inl ⟨Nat.le_of_ble_eq_true h1, by rwa [Nat.blt_eq] at h2, o, y, h3, h4, h5, h6⟩
theorem mv_nil {n nh n' : Nat} {ρ : Rn} {mv : List (Nat × Option ABlk)} {id : Nat} {x : ABlk} (h1 : Nat.ble n id = true) (h2 : Nat.blt id nh = true) (h3 : ρ id = .inr x.sz) (h4 : Nat.ble 1 x.sz = true) (h5 : ∃ f, x.cs = .arr 0 f) : MemV n nh n' ρ mv id x := .inr (.inl ⟨Nat.le_of_ble_eq_true h1, by rwa [Nat.blt_eq] at h2, h3, Nat.le_of_ble_eq_true h4, h5⟩)
end Go.Proofs.YtoelekmbmghicaaGreatDoor
end
/- What functions of one list that is known to have room up to its length (a row that is only read) read. No Go text is in sight. -/
section
namespace Go.Proofs.YtoelekmbmghicaaGreatDoor
open Go.RowKit
def rwBlk (ty sz n : Nat) (f : Nat → List Value) : ABlk := ⟨false, true, ty, sz, .arr n fun k => (f k).map .v⟩
def rowOf (s : Nat) (m : AMem) : AC → Option (Nat × (Nat → List AC) × Bool)
 | .sl id k 0 n none =>
  match look m id with
  | some x => match x.row, x.cs with | true, .arr q f => some (n, fun i => f (k + i), decide (x.sz = s ∧ k + n ≤ q)) | _, _ => none
  | none => none
 | _ => none
theorem rowOf_sub {m m2 : AMem} (hs : Sub m m2) {s : Nat} {a : AC} {r : Nat × (Nat → List AC) × Bool} (h : rowOf s m a = some r) : rowOf s m2 a = some r := by
 unfold rowOf at h ⊢
 split at h
 · split at h
   · rename_i x hx
     rw [hs _ _ hx]
     exact h
   · cases h
 · cases h
theorem blk_row {C : Ctx} {β : Nm} {m : AMem} {w : World} (hr : Rel C β m w) {s : Nat} {a : AC} {n : Nat} {F : Nat → List AC} (h : rowOf s m a = some (n, F, true)) {v : Value} (hv : γc β a = some v) (ty : Nat) {G : Nat → List Value}
 (hG : ∀ i, i < n → F i = (G i).map .v) (hGl : ∀ i, (G i).length = s) (C' : Ctx) (β' : Nm) (hC' : C' = loneC w) :
 ∃ L, BlkOk C' β' w L (rwBlk ty s n G) ∧ ∀ β2 : Nm, ∀ i, β2 i = some L → γc β2 (.sl i 0 0 n none) = some v := by
 subst hC'
 unfold rowOf at h
 split at h
 · rename_i id k n'
   split at h
   · rename_i x hx
     split at h
     · rename_i q f hrow hc
       simp only [Option.some.injEq, Prod.mk.injEq] at h
       obtain ⟨rfl, rfl, hb⟩ := h
       obtain ⟨hsz, hkn⟩ := of_decide_eq_true hb
       obtain ⟨L, hL, hk⟩ := hr.blk id x hx
       refine ⟨⟨L.b, L.o + k * L.s, s, L.cap - k, L.nil⟩, ⟨rfl, fun l hl => (by cases hl), fun k' j' hi => ?_, hk.lt, fun ho => (by cases ho), fun q f hf i _ => (by cases hf; simp [hGl, rwBlk]), fun _ hn q' f' hf => ?_⟩, fun β2 i h2 => ?_⟩
       · simp only [ABlk.inb, rwBlk, Bool.and_eq_true] at hi
         have hi1 : k' < n' := of_decide_eq_true hi.1
         have hi2 : j' + 1 ≤ s := of_decide_eq_true hi.2
         obtain ⟨g1, u, g2, g3, g4⟩ := hk.cells (k + k') j' (by simp only [ABlk.inb, hc, hsz, Bool.and_eq_true]; exact ⟨decide_eq_true (by omega), decide_eq_true hi2⟩)
         refine ⟨g1, u, ?_, g3, ?_⟩
         · rw [hc] at g2
           simp only [Cs.get, hG k' hi1] at g2
           have : j' < (G k').length := by rw [hGl]; omega
           simp only [rwBlk, Cs.get]
           simp only [List.getD, List.getElem?_map, List.getElem?_eq_getElem this, Option.map_some, Option.getD_some] at g2 ⊢
           exact g2
         · rw [← g4]
           congr 2
           rw [hk.sz, hsz, Nat.add_mul]
           dsimp only
           omega
       · cases hf
         have := hk.rowc hrow hn q f hc
         dsimp only
         omega
       · simp only [γc, hL] at hv
         simp only [γc, h2]
         split at hv
         · rename_i hn
           rw [if_pos hn]
           split at hv
           · rename_i hz
             rw [if_pos ⟨hz.1, rfl⟩]; exact hv
           · cases hv
         · rename_i hn
           rw [if_neg hn]
           simpa using hv
     · cases h
   · cases h
 · cases h
def rowRd {S : Type} (sz ty : Nat) (of : (Nat → List AC) → Nat → S) (cells : S → List Value) (hlen : ∀ x, (cells x).length = sz) (okF : Nat → (Nat → List AC) → Bool) (hok : ∀ {n : Nat} {F : Nat → List AC}, okF n F = true → ∀ i, i < n → F i = ((fun i => cells (of F i)) i).map .v) : Rd (LstS S) where
 dec := fun xs m =>
  match xs with
  | .c a :: rest =>
   match rowOf sz m a, plainL rest with
   | some (n, F, b1), true => some (⟨n, of F, rest⟩, b1 && okF n F)
   | _, _ => none
  | _ => none
 args := fun s => .c (.sl 0 0 0 s.n none) :: s.rest
 mem := fun s => [(0, rwBlk ty sz s.n fun i => cells (s.f i))]
 ok := by
  intro C β m m2 w xs s vs hs hr hd hv
  split at hd
  · rename_i a rest
    split at hd
    · rename_i n F b1 ha hpl
      simp only [Option.some.injEq, Prod.mk.injEq, Bool.and_eq_true] at hd
      obtain ⟨rfl, rfl, h3⟩ := hd
      simp only [γt, γ1] at hv
      split at hv
      · rename_i va us ea eus
        cases hv
        obtain ⟨L0, k0, z0⟩ := blk_row hr (rowOf_sub hs ha) ea ty (hok h3) (fun i => hlen _) (loneC w) (fun _ => none) rfl
        obtain ⟨r1, n1⟩ := rel_add_ro (C := loneC w) (β := fun _ => none) (m := []) (rel_nil w) (fun _ _ h => by cases h) (id := 0) rfl (fun g => by unfold gid; omega) rfl rfl k0
        refine ⟨_, r1, ?_, fun id h1 _ => ?_⟩
        · simp only [γt, γ1, z0 _ 0 (show ext1 (fun _ => none) 0 L0 0 = some L0 by simp [ext1]), plainL_γ hpl eus]
        · unfold ext1
          rw [if_neg (by omega)]
      · cases hv
    · cases hd
  · cases hd
end Go.Proofs.YtoelekmbmghicaaGreatDoor
end
