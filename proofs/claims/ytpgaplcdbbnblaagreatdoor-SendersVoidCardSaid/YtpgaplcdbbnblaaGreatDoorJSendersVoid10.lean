/- Parts, one behind the other. The symbolic evaluator, with the next name and the stride as arguments of their own (so that the kernel has them as numerals): it finds nothing that the other one doesn't. No Go text is in sight. -/
import Derived.Test.YtpgaplcdbbnblaaGreatDoorJSendersVoid9
import Derived.Test.YtpgaplcdbbnblaaGreatDoorJSendersVoid3
import Derived.IntWalk
set_option linter.unusedSimpArgs false
set_option linter.unusedVariables false
/- The symbolic evaluator, with the next name and the stride as arguments of their own (so that the kernel has them as numerals): it finds nothing that the other one doesn't. No Go text is in sight. -/
section
namespace Go.Proofs.YtpgaplcdbbnblaaGreatDoor
open Go.RowKit

def St.at_ (s : St) (n str : Nat) : St := { s with n := n, str := str }
def inR' (b str : Nat) : AMem → Bool
  | [] => true
  | (i, _) :: r => (Nat.ble b i && Nat.blt i (b + str)) && inR' b str r
def allOwn : AMem → Bool
  | [] => true
  | (_, b) :: r => b.own && allOwn r
abbrev CF := FuncId → List AV → Nat → Nat → St → Option (AV × Nat × St)
abbrev CY := Nat → List AV → Nat → Nat → St → Option (AV × Nat × St)
abbrev CR := Code → Nat → Nat → St → Option (Exit × Nat × St)

def fCallA (E : Env) (cf : CF) (f : FuncId) (args : List AV) (n str : Nat) (s : St) : Option (AV × Nat × St) :=
  match ctLook E.ct f args s.m n with
  | some (r, news, k, ob) => match Nat.ble (n + k) lim, s.need ob with | true, some s => some (r, n + k, { s with m := s.m ++ news }) | _, _ => none
  | none => cf f args n str s
def fOpS (E : Env) (cf : CF) (yf : CY) (ops : Array Oper) (o : Oper) (n str : Nat) (s : St) : Option (Nat × St) :=
  match guardA ops o s with
  | none => none
  | some (false, s) => some (n, s.put o.dst (.c (.v undef)))
  | some (true, s) =>
    match Nat.ble (n + 1) lim, aop E.P s.tm s.m n o.op with
    | true, some (.eff v news ob) => match s.need ob with | some s => some (n + 1, { s with m := s.m ++ news }.put o.dst v) | none => none
    | true, some (.upd v e ob) => match updOp o.op, s.need ob with | true, some s => some (n + 1, { s with m := e.on s.m }.put o.dst v) | _, _ => none
    | true, some (.call f args) => match callOp o.op, fCallA E cf f args n str s with | true, some (v, n', s) => some (n', s.put o.dst v) | _, _ => none
    | true, some (.yld id args) => match callOp o.op, yf id args n str s with | true, some (v, n', s) => some (n', s.put o.dst v) | _, _ => none
    | _, _ => none
def fOpsS (E : Env) (cf : CF) (yf : CY) (ops : Array Oper) : List Oper → Nat → Nat → St → Option (Nat × St)
  | [], n, _, s => some (n, s)
  | o :: r, n, str, s => match fOpS E cf yf ops o n str s with | some (n, s) => fOpsS E cf yf ops r n str s | none => none
def fOpQ (E : Env) (cf : CF) (ops : Array Oper) (o : Oper) (mi : AMem) (b str : Nat) (s : St) : Option (AV × AMem × St) :=
  match guardA ops o s with
  | none => none
  | some (false, s) => some (.c (.v undef), [], s)
  | some (true, s) =>
    match Nat.ble (b + str) lim && Nat.ble 1 str, aop E.P (mask (o.looksAt ops) 0 s.tm) mi b o.op with
    | true, some (.eff v news ob) => match inR' b str news, s.need ob with | true, some s => some (v, news, s) | _, _ => none
    | true, some (.call f args) =>
      match callOp o.op, ctLook E.ct f args mi b with
      | true, some (r, news, k, ob) => match Nat.ble k str && inR' b str news, s.need ob with | true, some s => some (r, news, s) | _, _ => none
      | true, none =>
        match cf f args b (str / 100000000) { s with m := roM mi, ms := [], rd := none } with
        | some (r, n', s') =>
          match Nat.ble n' (b + str) && (inR' b str (fromN b s'.m) && allOwn (fromN b s'.m)) with
          | true => some (r, fromN b s'.m, { s with path := s'.path, lp := s'.lp, ob := s'.ob, po := s'.po })
          | false => none
        | none => none
      | _, _ => none
    | _, _ => none
def fOpsQ (E : Env) (cf : CF) (ops : Array Oper) (n0 str : Nat) : List Oper → Nat → List (Nat × AMem) → St → Option (List (Nat × AMem) × St)
  | [], _, acc, s => some (acc, s)
  | o :: r, i, acc, s =>
    match fOpQ E cf ops o (s.m ++ newsOf ops i acc) (n0 + i * str) str s with
    | some (v, news, s) => fOpsQ E cf ops n0 str r (i + 1) (acc ++ [(i, news)]) (s.put o.dst v)
    | none => none
def fRegD (E : Env) (cf : CF) (yf : CY) (ops : Array Oper) (n str : Nat) (s : St) : Option (Nat × St) :=
  match drawOk ops (quietLen ops.toList) with
  | true =>
    match fOpsQ E cf ops n str (ops.toList.take (quietLen ops.toList)) 0 [] s with
    | some (acc, s') => fOpsS E cf yf ops (ops.toList.drop (quietLen ops.toList)) (n + quietLen ops.toList * str) str { s' with m := s'.m ++ newsAll acc }
    | none => none
  | false => none
def fOpW (E : Env) (cf : CF) (ops : Array Oper) (o : Oper) (mi : AMem) (b str : Nat) (s : St) : Option (AV × AStep × St) :=
  match guardA ops o s with
  | none => none
  | some (false, s) => some (.c (.v undef), .news [], s)
  | some (true, s) =>
    match Nat.ble (b + str) lim && Nat.ble 1 str, aop E.P (mask (o.looksAt ops) 0 s.tm) mi b o.op with
    | true, some (.call f args) =>
      match callOp o.op, ctLook E.ct f args mi b with
      | true, some (r, news, k, ob) => match Nat.ble k str && inR' b str news, s.need ob with | true, some s => some (r, .news news, s) | _, _ => none
      | true, none =>
        match cf f args b (str / 100000000) { s with m := woM mi, ms := [], rd := none } with
        | some (r, n', s') =>
          match Nat.ble n' (b + str) && (inR' b str (fromN b s'.m) && allOwn (fromN b s'.m)) with
          | true => some (r, .many (putsW s'.m (woM mi)) (fromN b s'.m), { s with path := s'.path, lp := s'.lp, ob := s'.ob, po := s'.po })
          | false => none
        | none => none
      | _, _ => none
    | _, _ => none
def fOpE (E : Env) (cf : CF) (wm : Bool) (ops : Array Oper) (o : Oper) (mi : AMem) (b str : Nat) (s : St) : Option (AV × AStep × St) :=
  match updOp o.op with
  | false =>
    match wm && wrCall E.P o.op with
    | false => match fOpQ E cf ops o mi b str s with | some (v, l, s) => some (v, .news l, s) | none => none
    | true => fOpW E cf ops o mi b str s
  | true =>
    match guardA ops o s with
    | none => none
    | some (false, s) => some (.c (.v undef), .news [], s)
    | some (true, s) =>
      match Nat.ble (b + str) lim && Nat.ble 1 str, aop E.P (mask (o.looksAt ops) 0 s.tm) mi b o.op with
      | true, some (.eff v l ob) => match inR' b str l, s.need ob with | true, some s => some (v, .news l, s) | _, _ => none
      | true, some (.upd v e ob) => match efxNe b e, s.need ob with | true, some s => some (v, .efx e, s) | _, _ => none
      | _, _ => none
def fOpsE (E : Env) (cf : CF) (wm : Bool) (ops : Array Oper) (vis : Nat → AMem → AMem) (n0 str : Nat) : List Oper → Nat → List (Nat × Nat) → St → Option (List (Nat × Nat) × St)
  | [], _, acc, s => some (acc, s)
  | o :: r, i, acc, s =>
    match fOpE E cf wm ops o (vis i s.m) (n0 + i * str) str s with
    | some (v, z, s) => fOpsE E cf wm ops vis n0 str r (i + 1) (acc ++ tidsOf i z) ({ s with m := z.on s.m }.put o.dst v)
    | none => none
def fRegE (E : Env) (cf : CF) (ops : Array Oper) (n str : Nat) (s : St) : Option (Nat × St) :=
  match drawE ops, fOpsE E cf false ops (filtE ops [] n str) n str ops.toList 0 [] s with
  | true, some (ts, _) =>
    match fOpsE E cf false ops (filtE ops ts n str) n str ops.toList 0 [] s with
    | some (ts', s') => match eqP ts' ts && chainE ops ts with | true => some (n + ops.size * str, s') | false => none
    | none => none
  | _, _ => none
def fRegW (E : Env) (cf : CF) (ops : Array Oper) (n str : Nat) (s : St) : Option (Nat × St) :=
  match fOpsE E cf true ops (visW ops n str) n str ops.toList 0 [] s with
  | some (_, s') => some (n + ops.size * str, s')
  | none => none
def fRegX (E : Env) (cf : CF) (yf : CY) (ops : Array Oper) (n str : Nat) (s : St) : Option (Nat × St) :=
  match wOk E.P ops with
  | true => fRegW E cf ops n str s
  | false =>
    match drawOk ops (quietLen ops.toList) with
    | true => fRegD E cf yf ops n str s
    | false => fRegE E cf ops n str s
def fCallF (E : Env) (run : CR) (f : FuncId) (args : List AV) (n str : Nat) (s : St) : Option (AV × Nat × St) :=
  match E.P.funcs[f]? with
  | some fn =>
    match fn.body with
    | some c =>
      match run c n str { s with tm := args ++ List.replicate (fn.ntmps - args.length) (.c (.v undef)), ms := [], rd := none } with
      | some (.ret, n', s') => match endF E.P fn s s' with | some (v, s') => some (v, n', s') | none => none
      | some (.normal, n', s') => match endF E.P fn s s' with | some (v, s') => some (v, n', s') | none => none
      | _ => none
    | none => none
  | none => none
def fYieldS (run : CR) (id : Nat) (args : List AV) (n str : Nat) (s : St) : Option (AV × Nat × St) :=
  match look s.m id with
  | some x =>
    match x.cs with
    | .obj (.loop _ _ tm ps as bd _) =>
      match Nat.beq args.length ps.size with
      | true =>
        match run as n str { s with tm := setPs ps.toList args tm, ms := [], rd := some id } with
        | some (.normal, n1, s1) =>
          match look s1.m id with
          | some x1 =>
            match x1.cs with
            | .obj (.loop .ready pd1 tm1 ps1 as1 bd1 dn1) =>
              match run bd n1 str { s1 with m := updM s1.m id { x1 with cs := .obj (.loop .busy pd1 tm1 ps1 as1 bd1 dn1) } } with
              | some (e, n2, s2) => match endY id e s s2 with | some (v, s') => some (v, n2, s') | none => none
              | none => none
            | _ => none
          | none => none
        | _ => none
      | false => none
    | _ => none
  | none => none
def fEnterA (n : Nat) (s : St) (ps : Array Tmp) (as bd : Code) : Option (AMem × List Nat) :=
  match s.rd with
  | none => some (s.m ++ [(n, oblk (.dfr true))] ++ [(n + 1, oblk (.loop .ready none s.tm ps as bd n))], n :: s.ms)
  | some r =>
    match look s.m r with
    | some x => match x.cs with | .obj (.loop _ _ _ _ _ _ dn) => some (s.m ++ [(n + 1, oblk (.loop .ready none s.tm ps as bd dn))], s.ms) | _ => none
    | none => none
def fScopeS (run : CR) (a : Code) : Nat → Code → Nat → Nat → St → Option (Exit × Nat × St)
  | 0, _, _, _, _ => none
  | k + 1, c, n, str, s =>
    match run c n str s with
    | some (.goto l, n, s) => match findLabel a l with | some c' => fScopeS run a k c' n str s | none => some (.goto l, n, s)
    | r => r
def fC (E : Env) : Nat → Code → Nat → Nat → St → Option (Exit × Nat × St)
  | 0, _, _, _, _ => none
  | g + 1, c, n, str, s =>
    match c with
    | .skip => some (.normal, n, s)
    | .label _ => some (.normal, n, s)
    | .region _ ops d =>
      match d with
      | false => match fOpsS E (fCallF E (fC E g)) (fYieldS (fC E g)) ops ops.toList n str s with | some (n, s) => some (.normal, n, s) | none => none
      | true => match fRegX E (fCallF E (fC E g)) (fYieldS (fC E g)) ops n str s with | some (n, s) => some (.normal, n, s) | none => none
    | .seq a b =>
      match fC E g a n str s with
      | some (.normal, n, s) => fC E g b n str s
      | r => r
    | .cond (.tmp t) a b =>
      match s.tm[t]? with
      | some (.c (.v (.bool x))) => match s.dec t x with | some (true, s) => fC E g a n str s | some (false, s) => fC E g b n str s | none => none
      | _ => none
    | .cond (.const (.bool x)) a b => match x with | true => fC E g a n str s | false => fC E g b n str s
    | .block id a =>
      match fC E g a n str s with
      | some (.exit id', n, s) => match Nat.beq id' id with | true => some (.normal, n, s) | false => some (.exit id', n, s)
      | r => r
    | .loop a =>
      match s.lp with
      | some ⟨slots, ids, tm, m, k, e⟩ :: p =>
        match Nat.ble n k && Nat.ble k lim with
        | true => some (e, k, { s with tm := tm, m := m, lp := p, po := LoopV E.P a slots ids (slots.map fun t => s.tm[t]?) (ids.map (look s.m)) s.tm.length n tm m k e s.rd :: s.po })
        | false => none
      | none :: p => match fC E g a n str { s with lp := p } with | some (.normal, n, s) => fC E g (.loop a) n str { s with lp := none :: s.lp } | r => r
      | [] => match fC E g a n str s with | some (.normal, n, s) => fC E g (.loop a) n str s | r => r
    | .exit id => some (.exit id, n, s)
    | .goto l => some (.goto l, n, s)
    | .scope a => fScopeS (fC E g) a 200 a n str s
    | .ret => some (.ret, n, s)
    | .rangeFunc f ps as bd =>
      match Nat.ble (n + 2) lim, evA s.tm s.m f, fEnterA n s ps as bd with
      | true, some v, some (m', ms') =>
        match aCall [.c (.yld (n + 1))] v with
        | some (.call g' args) =>
          match fCallF E (fC E g) g' args (n + 2) str { s with m := m' } with
          | some (_, n1, s1) => match leaveA (n + 1) { s1 with ms := ms' } with | some (e, s') => some (e, n1, s') | none => none
          | none => none
        | _ => none
      | _, _, _ => none
    | _ => none

section
variable {E : Env}
theorem inR_eq (b str : Nat) : ∀ l : AMem, inR' b str l = inR b str l
  | [] => rfl
  | (i, x) :: r => by simp only [inR', inR, List.all_cons]; rw [inR_eq b str r]; rfl
theorem allOwn_eq : ∀ l : AMem, allOwn l = l.all (fun x => x.2.own)
  | [] => rfl
  | (i, x) :: r => by simp only [allOwn, List.all_cons]; rw [allOwn_eq r]
theorem need_at {s s' : St} {l : List Bool} {n str : Nat} (h : s.need l = some s') : (s.at_ n str).need l = some (s'.at_ n str) := by
  obtain ⟨tm, m, n0, str0, sk, path, ob, po, ms0, rd0, lp0⟩ := s
  cases sk with
  | true =>
    simp only [St.need, St.at_] at h ⊢
    split at h
    · rename_i hl; cases h; rfl
    · cases h
  | false =>
    simp only [St.need, St.at_, Option.some.injEq] at h ⊢
    subst h; rfl
theorem dec_at {s s' : St} {t : Tmp} {b d : Bool} {n str : Nat} (h : s.dec t b = some (d, s')) : (s.at_ n str).dec t b = some (d, s'.at_ n str) := by
  obtain ⟨tm, m, n0, str0, sk, path, ob, po, ms0, rd0, lp0⟩ := s
  cases path with
  | nil => cases b <;> (simp only [St.dec, St.at_, Option.some.injEq, Prod.mk.injEq] at h ⊢; obtain ⟨rfl, rfl⟩ := h; exact ⟨rfl, rfl⟩)
  | cons q r =>
    cases q with
    | b d' => simp only [St.dec, St.at_, Option.some.injEq, Prod.mk.injEq] at h ⊢; obtain ⟨rfl, rfl⟩ := h; exact ⟨rfl, rfl⟩
    | _ => cases b <;> (simp only [St.dec, St.at_, Option.some.injEq, Prod.mk.injEq] at h ⊢; obtain ⟨rfl, rfl⟩ := h; exact ⟨rfl, rfl⟩)
theorem guard_at {ops : Array Oper} {o : Oper} {s s' : St} {d : Bool} {n str : Nat} (h : guardA ops o s = some (d, s')) : guardA ops o (s.at_ n str) = some (d, s'.at_ n str) := by
  unfold guardA at h ⊢
  split at h
  · cases h; rfl
  · rename_i j want hg
    split at h
    · cases h; rfl
    · rename_i t hd
      have htm : (s.at_ n str).tm = s.tm := rfl
      rw [htm]
      split at h
      · rename_i b hb
        split at h
        · rename_i d' s'' hdec
          rw [dec_at hdec]
          cases h; rfl
        · cases h
      · rename_i vs hb
        cases h; rfl
      · cases h
def SimY (yf : CY) (yf0 : Nat → List AV → St → Option (AV × St)) : Prop :=
  ∀ id args n str s r n' s', yf id args n str s = some (r, n', s') → yf0 id args (s.at_ n str) = some (r, s'.at_ n' str)
def SimF (cf : CF) (cf0 : FuncId → List AV → St → Option (AV × St)) : Prop :=
  ∀ f args n str s r n' s', cf f args n str s = some (r, n', s') → cf0 f args (s.at_ n str) = some (r, s'.at_ n' str)
theorem callA_sim {cf : CF} {cf0 : FuncId → List AV → St → Option (AV × St)} (h : SimF cf cf0) : SimF (fCallA E cf) (callA E cf0) := by
  intro f args n str s r n' s' hh
  unfold fCallA at hh
  unfold callA
  have e1 : (s.at_ n str).m = s.m := rfl
  have e2 : (s.at_ n str).n = n := rfl
  rw [e1, e2]
  split at hh
  · rename_i r' news k ob hct
    rw [hct]
    simp only
    split at hh
    · rename_i s1 hle hneed
      rw [hle, need_at hneed]
      cases hh; rfl
    · cases hh
  · rename_i hct
    rw [hct]
    exact h _ _ _ _ _ _ _ _ hh
theorem opS_sim {cf : CF} {cf0 : FuncId → List AV → St → Option (AV × St)} {yf : CY} {yf0 : Nat → List AV → St → Option (AV × St)} (hcf : SimF cf cf0) (hyf : SimY yf yf0) {ops : Array Oper} {o : Oper} {n str n' : Nat} {s s' : St} (h : fOpS E cf yf ops o n str s = some (n', s')) :
    opS E cf0 yf0 ops o (s.at_ n str) = some (s'.at_ n' str) := by
  unfold fOpS at h
  unfold opS
  split at h
  · cases h
  · rename_i s1 hg
    rw [guard_at hg]
    cases h; rfl
  · rename_i s1 hg
    rw [guard_at hg]
    simp only
    have e1 : (s1.at_ n str).m = s1.m := rfl
    have e2 : (s1.at_ n str).n = n := rfl
    have e3 : (s1.at_ n str).tm = s1.tm := rfl
    rw [e1, e2, e3]
    split at h
    · rename_i v news ob hle haop
      rw [hle, haop]
      simp only
      split at h
      · rename_i s2 hneed
        rw [need_at hneed]
        cases h; rfl
      · cases h
    · rename_i v m' ob hle haop
      rw [hle, haop]
      simp only
      split at h
      · rename_i s2 hup hneed
        rw [hup, need_at hneed]
        cases h; rfl
      · cases h
    · rename_i f args hle haop
      rw [hle, haop]
      simp only
      split at h
      · rename_i v n2 s2 hco hcall
        rw [hco, callA_sim hcf _ _ _ _ _ _ _ _ hcall]
        cases h; rfl
      · cases h
    · rename_i id args hle haop
      rw [hle, haop]
      simp only
      split at h
      · rename_i v n2 s2 hco hcall
        rw [hco, hyf _ _ _ _ _ _ _ _ hcall]
        cases h; rfl
      · cases h
    · cases h
theorem opsS_sim {cf : CF} {cf0 : FuncId → List AV → St → Option (AV × St)} {yf : CY} {yf0 : Nat → List AV → St → Option (AV × St)} (hcf : SimF cf cf0) (hyf : SimY yf yf0) {ops : Array Oper} : ∀ {l : List Oper} {n str n' : Nat} {s s' : St}, fOpsS E cf yf ops l n str s = some (n', s') → opsS E cf0 yf0 ops l (s.at_ n str) = some (s'.at_ n' str)
  | [], n, str, n', s, s', h => by simp only [fOpsS, Option.some.injEq, Prod.mk.injEq] at h; obtain ⟨rfl, rfl⟩ := h; rfl
  | o :: r, n, str, n', s, s', h => by
    simp only [fOpsS] at h
    simp only [opsS]
    split at h
    · rename_i n1 s1 h1
      rw [opS_sim hcf hyf h1]
      exact opsS_sim hcf hyf h
    · cases h
theorem opQ_sim {cf : CF} {cf0 : FuncId → List AV → St → Option (AV × St)} (hcf : SimF cf cf0) {ops : Array Oper} {o : Oper} {i n0 b str : Nat} {mi news : AMem} {v : AV} {s s' : St} (h : fOpQ E cf ops o mi b str s = some (v, news, s')) :
    opQ E cf0 ops i o mi b (s.at_ n0 str) = some (v, news, s'.at_ n0 str) := by
  unfold fOpQ at h
  unfold opQ
  split at h
  · cases h
  · rename_i s1 hg
    rw [guard_at hg]
    cases h; rfl
  · rename_i s1 hg
    rw [guard_at hg]
    simp only
    have e1 : (s1.at_ n0 str).str = str := rfl
    have e3 : (s1.at_ n0 str).tm = s1.tm := rfl
    rw [e1, e3]
    split at h
    · rename_i v' news' ob hle haop
      rw [hle, haop]
      simp only
      split at h
      · rename_i s2 hin hneed
        rw [inR_eq] at hin
        rw [hin, need_at hneed]
        cases h; rfl
      · cases h
    · rename_i f args hle haop
      rw [hle, haop]
      simp only
      split at h
      · rename_i r news' k ob hco hct
        rw [hco, hct]
        simp only
        split at h
        · rename_i s2 hin hneed
          rw [inR_eq] at hin
          rw [hin, need_at hneed]
          cases h; rfl
        · cases h
      · rename_i hco hct
        rw [hco, hct]
        simp only
        split at h
        · rename_i r n2 s2 hcall
          have := hcf _ _ _ _ _ _ _ _ hcall
          obtain ⟨tm1, m1, n1, str1, sk1, path1, ob1, po1, ms1, rd1, lp1⟩ := s1
          simp only [St.at_] at this ⊢
          rw [this]
          simp only
          split at h
          · rename_i hc
            rw [inR_eq, allOwn_eq] at hc
            rw [hc]
            cases h; rfl
          · cases h
        · cases h
      · cases h
    · cases h
theorem opsQ_sim {cf : CF} {cf0 : FuncId → List AV → St → Option (AV × St)} (hcf : SimF cf cf0) {ops : Array Oper} {n0 str : Nat} : ∀ {l : List Oper} {i : Nat} {acc acc' : List (Nat × AMem)} {s s' : St}, fOpsQ E cf ops n0 str l i acc s = some (acc', s') →
    opsQ E cf0 ops n0 l i acc (s.at_ n0 str) = some (acc', s'.at_ n0 str)
  | [], i, acc, acc', s, s', h => by simp only [fOpsQ, Option.some.injEq, Prod.mk.injEq] at h; obtain ⟨rfl, rfl⟩ := h; rfl
  | o :: r, i, acc, acc', s, s', h => by
    simp only [fOpsQ] at h
    simp only [opsQ]
    have e1 : (s.at_ n0 str).str = str := rfl
    have e2 : (s.at_ n0 str).m = s.m := rfl
    rw [e1, e2]
    split at h
    · rename_i v news s1 h1
      rw [opQ_sim hcf h1]
      exact opsQ_sim hcf h
    · cases h
theorem regD_sim {cf : CF} {cf0 : FuncId → List AV → St → Option (AV × St)} {yf : CY} {yf0 : Nat → List AV → St → Option (AV × St)} (hcf : SimF cf cf0) (hyf : SimY yf yf0) {ops : Array Oper} {n str n' : Nat} {s s' : St} (h : fRegD E cf yf ops n str s = some (n', s')) : regD E cf0 yf0 ops (s.at_ n str) = some (s'.at_ n' str) := by
  unfold fRegD at h
  unfold regD
  have e1 : (s.at_ n str).n = n := rfl
  rw [e1]
  split at h
  · rename_i hok
    rw [hok]
    simp only
    split at h
    · rename_i acc s1 hq
      rw [opsQ_sim hcf hq]
      exact opsS_sim hcf hyf h
    · cases h
  · cases h
theorem opW_sim {cf : CF} {cf0 : FuncId → List AV → St → Option (AV × St)} (hcf : SimF cf cf0) {ops : Array Oper} {o : Oper} {n0 b str : Nat} {mi : AMem} {z : AStep} {v : AV} {s s' : St} (h : fOpW E cf ops o mi b str s = some (v, z, s')) :
    opW E cf0 ops o mi b (s.at_ n0 str) = some (v, z, s'.at_ n0 str) := by
  unfold fOpW at h
  unfold opW
  split at h
  · cases h
  · rename_i s1 hg
    rw [guard_at hg]
    cases h; rfl
  · rename_i s1 hg
    rw [guard_at hg]
    simp only
    have e1 : (s1.at_ n0 str).str = str := rfl
    have e3 : (s1.at_ n0 str).tm = s1.tm := rfl
    rw [e1, e3]
    split at h
    · rename_i f args hle haop
      rw [hle, haop]
      simp only
      split at h
      · rename_i r news' k ob hco hct
        rw [hco, hct]
        simp only
        split at h
        · rename_i s2 hin hneed
          rw [inR_eq] at hin
          rw [hin, need_at hneed]
          cases h; rfl
        · cases h
      · rename_i hco hct
        rw [hco, hct]
        simp only
        split at h
        · rename_i r n2 s2 hcall
          have := hcf _ _ _ _ _ _ _ _ hcall
          obtain ⟨tm1, m1, n1, str1, sk1, path1, ob1, po1, ms1, rd1, lp1⟩ := s1
          simp only [St.at_] at this ⊢
          rw [this]
          simp only
          split at h
          · rename_i hc
            rw [inR_eq, allOwn_eq] at hc
            rw [hc]
            cases h; rfl
          · cases h
        · cases h
      · cases h
    · cases h
theorem opE_sim {cf : CF} {cf0 : FuncId → List AV → St → Option (AV × St)} (hcf : SimF cf cf0) {wm : Bool} {ops : Array Oper} {o : Oper} {i n0 b str : Nat} {mi : AMem} {z : AStep} {v : AV} {s s' : St} (h : fOpE E cf wm ops o mi b str s = some (v, z, s')) :
    opE E cf0 wm ops i o mi b (s.at_ n0 str) = some (v, z, s'.at_ n0 str) := by
  unfold fOpE at h
  unfold opE
  split at h
  · rename_i hu
    try rw [hu]
    try simp only
    split at h
    · rename_i hw
      try rw [hw]
      try simp only
      split at h
      · rename_i v' l s1 hq
        rw [opQ_sim hcf hq]
        cases h; rfl
      · cases h
    · rename_i hw
      try rw [hw]
      try simp only
      exact opW_sim hcf h
  · rename_i hu
    try rw [hu]
    try simp only
    split at h
    · cases h
    · rename_i s1 hg
      rw [guard_at hg]
      cases h; rfl
    · rename_i s1 hg
      rw [guard_at hg]
      simp only
      have e1 : (s1.at_ n0 str).str = str := rfl
      have e3 : (s1.at_ n0 str).tm = s1.tm := rfl
      rw [e1, e3]
      split at h
      · rename_i v' l ob hle haop
        rw [hle, haop]
        simp only
        split at h
        · rename_i s2 hin hneed
          rw [inR_eq] at hin
          rw [hin, need_at hneed]
          cases h; rfl
        · cases h
      · rename_i v' e ob hle haop
        rw [hle, haop]
        simp only
        split at h
        · rename_i s2 hne hneed
          rw [hne, need_at hneed]
          cases h; rfl
        · cases h
      · cases h
theorem opsE_sim {cf : CF} {cf0 : FuncId → List AV → St → Option (AV × St)} (hcf : SimF cf cf0) {wm : Bool} {ops : Array Oper} {vis : Nat → AMem → AMem} {n0 str : Nat} : ∀ {l : List Oper} {i : Nat} {acc acc' : List (Nat × Nat)} {s s' : St}, fOpsE E cf wm ops vis n0 str l i acc s = some (acc', s') →
    opsE E cf0 wm ops vis n0 l i acc (s.at_ n0 str) = some (acc', s'.at_ n0 str)
  | [], i, acc, acc', s, s', h => by simp only [fOpsE, Option.some.injEq, Prod.mk.injEq] at h; obtain ⟨rfl, rfl⟩ := h; rfl
  | o :: r, i, acc, acc', s, s', h => by
    simp only [fOpsE] at h
    simp only [opsE]
    have e1 : (s.at_ n0 str).str = str := rfl
    have e2 : (s.at_ n0 str).m = s.m := rfl
    rw [e1, e2]
    split at h
    · rename_i v z s1 h1
      rw [opE_sim hcf h1]
      exact opsE_sim hcf h
    · cases h
theorem regX_sim {cf : CF} {cf0 : FuncId → List AV → St → Option (AV × St)} {yf : CY} {yf0 : Nat → List AV → St → Option (AV × St)} (hcf : SimF cf cf0) (hyf : SimY yf yf0) {ops : Array Oper} {n str n' : Nat} {s s' : St} (h : fRegX E cf yf ops n str s = some (n', s')) : regX E cf0 yf0 ops (s.at_ n str) = some (s'.at_ n' str) := by
  unfold fRegX at h
  unfold regX
  split at h
  · rename_i hw
    try rw [hw]
    try simp only
    unfold fRegW at h
    unfold regW
    have e1 : (s.at_ n str).n = n := rfl
    have e2 : (s.at_ n str).str = str := rfl
    rw [e1, e2]
    split at h
    · rename_i ts s1 h1
      rw [opsE_sim hcf h1]
      cases h; rfl
    · cases h
  · rename_i hw
    try rw [hw]
    try simp only
    split at h
    · rename_i hd
      try rw [hd]
      exact regD_sim hcf hyf h
    · rename_i hd
      try rw [hd]
      simp only
      unfold fRegE at h
      unfold regE
      have e1 : (s.at_ n str).n = n := rfl
      have e2 : (s.at_ n str).str = str := rfl
      rw [e1, e2]
      split at h
      · rename_i ts s1 hok h1
        rw [hok, opsE_sim hcf h1]
        simp only
        split at h
        · rename_i ts' s2 h2
          rw [opsE_sim hcf h2]
          simp only
          split at h
          · rename_i hc
            rw [hc]
            cases h; rfl
          · cases h
        · cases h
      · cases h
theorem endF_at {P : Program} {fn : Func} {s s' s2 : St} {v : AV} {n n0 str str0 : Nat} (h : endF P fn s s' = some (v, s2)) : endF P fn (s.at_ n0 str0) (s'.at_ n str) = some (v, s2.at_ n str) := by
  unfold endF at h ⊢
  have e1 : (s'.at_ n str).ms = s'.ms := rfl
  have e2 : (s'.at_ n str).m = s'.m := rfl
  have e3 : (s'.at_ n str).tm = s'.tm := rfl
  rw [e1, e2, e3]
  split at h
  · rename_i m hm
    try rw [hm]
    try simp only
    split at h
    · rename_i l ob hl
      try rw [hl]
      try simp only
      split at h
      · rename_i s3 hneed
        rw [need_at hneed]
        cases h; rfl
      · cases h
    · cases h
  · cases h
theorem callF_sim {run : CR} {run0 : Code → St → Option (Exit × St)} (hr : ∀ c n str s e n' s', run c n str s = some (e, n', s') → run0 c (s.at_ n str) = some (e, s'.at_ n' str)) : SimF (fCallF E run) (callF E run0) := by
  intro f args n str s r n' s' h
  unfold fCallF at h
  unfold callF
  split at h
  · rename_i fn hfn
    rw [hfn]
    try simp only
    split at h
    · rename_i c hc
      try rw [hc]
      try simp only
      split at h
      · rename_i n1 s1 hr1
        have hr2 := hr _ _ _ _ _ _ _ hr1
        simp only [St.at_] at hr2 ⊢
        rw [hr2]
        try simp only
        split at h
        · rename_i v s2 he
          cases h
          exact endF_at he
        · cases h
      · rename_i n1 s1 hr1
        have hr2 := hr _ _ _ _ _ _ _ hr1
        simp only [St.at_] at hr2 ⊢
        rw [hr2]
        try simp only
        split at h
        · rename_i v s2 he
          cases h
          exact endF_at he
        · cases h
      · cases h
    · cases h
  · cases h
theorem endY_at {id : Nat} {e : Exit} {s s' s2 : St} {v : AV} {n n0 str str0 : Nat} (h : endY id e s s' = some (v, s2)) : endY id e (s.at_ n0 str0) (s'.at_ n str) = some (v, s2.at_ n str) := by
  unfold endY at h ⊢
  have e2 : (s'.at_ n str).m = s'.m := rfl
  rw [e2]
  split at h
  · rename_i j x hj hx
    try rw [hj, hx]
    try simp only
    split at h
    · rename_i hc
      try rw [hc]
      cases h; rfl
    · cases h
  · cases h
theorem leaveA_at {l : Nat} {e : Exit} {s s2 : St} {n str : Nat} (h : leaveA l s = some (e, s2)) : leaveA l (s.at_ n str) = some (e, s2.at_ n str) := by
  unfold leaveA at h ⊢
  have e2 : (s.at_ n str).m = s.m := rfl
  rw [e2]
  split at h
  · rename_i x hx
    try rw [hx]
    try simp only
    split at h
    · cases h
    · rename_i st pd tm ps as bd dn hne hc
      try rw [hc]
      cases st with
      | busy => exact (hne rfl).elim
      | _ =>
        try simp only
        split at h
        · cases h; rfl
        · cases h; rfl
        · cases h; rfl
        · cases h
    · cases h
  · cases h
theorem yieldS_sim {run : CR} {run0 : Code → St → Option (Exit × St)} (hr : ∀ c n str s e n' s', run c n str s = some (e, n', s') → run0 c (s.at_ n str) = some (e, s'.at_ n' str)) : SimY (fYieldS run) (yieldS run0) := by
  intro id args n str s r n' s' h
  unfold fYieldS at h
  unfold yieldS
  have e2 : (s.at_ n str).m = s.m := rfl
  rw [e2]
  split at h
  · rename_i x hx
    try rw [hx]
    try simp only
    split at h
    · rename_i hc
      try rw [hc]
      try simp only
      split at h
      · rename_i hlen
        try rw [hlen]
        try simp only
        split at h
        · rename_i n1 s1 h1
          have k1 := hr _ _ _ _ _ _ _ h1
          simp only [St.at_] at k1 ⊢
          rw [k1]
          try simp only
          split at h
          · rename_i x1 hx1
            try rw [hx1]
            try simp only
            split at h
            · rename_i hc1
              try rw [hc1]
              try simp only
              split at h
              · rename_i e n2 s2 h2
                have k2 := hr _ _ _ _ _ _ _ h2
                simp only [St.at_] at k2
                rw [k2]
                try simp only
                split at h
                · rename_i v s3 he
                  cases h
                  exact endY_at he
                · cases h
              · cases h
            · cases h
          · cases h
        · cases h
      · cases h
    · cases h
  · cases h
theorem enterA_at (n str : Nat) (s : St) (ps : Array Tmp) (as bd : Code) : enterA (s.at_ n str) ps as bd = fEnterA n s ps as bd := rfl
theorem scopeS_sim {run : CR} {run0 : Code → St → Option (Exit × St)} {x : Code} (hr : ∀ c n str s e n' s', run c n str s = some (e, n', s') → run0 c (s.at_ n str) = some (e, s'.at_ n' str)) : ∀ k c n str s e n' s', fScopeS run x k c n str s = some (e, n', s') → scopeS run0 x k c (s.at_ n str) = some (e, s'.at_ n' str) := by
  intro k
  induction k with
  | zero => intro c n str s e n' s' h; cases h
  | succ k ih =>
    intro c n str s e n' s' h
    unfold fScopeS at h
    unfold scopeS
    split at h
    · rename_i l n1 s1 h1
      rw [hr _ _ _ _ _ _ _ h1]
      simp only
      split at h
      · rename_i c' hf
        rw [hf]
        exact ih _ _ _ _ _ _ _ h
      · rename_i hf
        rw [hf]
        simp only [Option.some.injEq, Prod.mk.injEq] at h; obtain ⟨rfl, rfl, rfl⟩ := h
        rfl
    · rename_i hne
      rw [hr _ _ _ _ _ _ _ h]
      cases e with
      | goto l => exact absurd h (hne l _ _)
      | _ => rfl
theorem fC_sim : ∀ (g : Nat) (c : Code) (n str : Nat) (s : St) (e : Exit) (n' : Nat) (s' : St), fC E g c n str s = some (e, n', s') → sxC E g c (s.at_ n str) = some (e, s'.at_ n' str) := by
  intro g
  induction g with
  | zero => intro c n str s e n' s' h; cases h
  | succ g ih =>
    have hcf : SimF (fCallF E (fC E g)) (callF E (sxC E g)) := callF_sim ih
    have hyf : SimY (fYieldS (fC E g)) (yieldS (sxC E g)) := yieldS_sim ih
    intro c n str s e n' s' h
    cases c with
    | skip => simp only [fC, Option.some.injEq, Prod.mk.injEq] at h; obtain ⟨rfl, rfl, rfl⟩ := h; rfl
    | label l => simp only [fC, Option.some.injEq, Prod.mk.injEq] at h; obtain ⟨rfl, rfl, rfl⟩ := h; rfl
    | exit l => simp only [fC, Option.some.injEq, Prod.mk.injEq] at h; obtain ⟨rfl, rfl, rfl⟩ := h; rfl
    | goto l => simp only [fC, Option.some.injEq, Prod.mk.injEq] at h; obtain ⟨rfl, rfl, rfl⟩ := h; rfl
    | scope x =>
      simp only [fC] at h
      simp only [sxC]
      exact scopeS_sim ih 200 _ _ _ _ _ _ _ h
    | ret => simp only [fC, Option.some.injEq, Prod.mk.injEq] at h; obtain ⟨rfl, rfl, rfl⟩ := h; rfl
    | region id ops d =>
      simp only [fC] at h
      simp only [sxC]
      split at h
      · split at h
        · rename_i n1 s1 h1
          simp only [Option.some.injEq, Prod.mk.injEq] at h; obtain ⟨rfl, rfl, rfl⟩ := h
          rw [opsS_sim hcf hyf h1]
        · cases h
      · split at h
        · rename_i n1 s1 h1
          simp only [Option.some.injEq, Prod.mk.injEq] at h; obtain ⟨rfl, rfl, rfl⟩ := h
          rw [regX_sim hcf hyf h1]
        · cases h
    | seq x y =>
      simp only [fC] at h
      simp only [sxC]
      split at h
      · rename_i n1 s1 h1
        rw [ih _ _ _ _ _ _ _ h1]
        exact ih _ _ _ _ _ _ _ h
      · rename_i hne
        rw [ih _ _ _ _ _ _ _ h]
        cases e with
        | normal => exact absurd h (hne _ _)
        | _ => rfl
    | cond c x y =>
      cases c with
      | tmp t =>
        simp only [fC] at h
        simp only [sxC]
        have e3 : (s.at_ n str).tm = s.tm := rfl
        rw [e3]
        split at h
        · rename_i b hb
          rw [hb]
          simp only
          split at h
          · rename_i s1 hd1; rw [dec_at hd1]; exact ih _ _ _ _ _ _ _ h
          · rename_i s1 hd1; rw [dec_at hd1]; exact ih _ _ _ _ _ _ _ h
          · cases h
        · cases h
      | const v =>
        cases v with
        | bool b =>
          simp only [fC] at h
          simp only [sxC]
          split at h
          · exact ih _ _ _ _ _ _ _ h
          · exact ih _ _ _ _ _ _ _ h
        | _ => simp [fC] at h
      | _ => simp [fC] at h
    | block id x =>
      simp only [fC] at h
      simp only [sxC]
      split at h
      · rename_i id' n1 s1 h1
        rw [ih _ _ _ _ _ _ _ h1]
        simp only
        split at h
        · rename_i hid
          simp only [Option.some.injEq, Prod.mk.injEq] at h; obtain ⟨rfl, rfl, rfl⟩ := h
          rw [hid]
        · rename_i hid
          simp only [Option.some.injEq, Prod.mk.injEq] at h; obtain ⟨rfl, rfl, rfl⟩ := h
          rw [hid]
      · rename_i hne
        rw [ih _ _ _ _ _ _ _ h]
        cases e with
        | exit id' => exact absurd h (hne id' _ _)
        | _ => rfl
    | loop x =>
      simp only [fC] at h
      simp only [sxC]
      have e1 : (s.at_ n str).lp = s.lp := rfl
      have e2 : (s.at_ n str).n = n := rfl
      rw [e1, e2]
      split at h
      · rename_i slots ids tm m k e' p hpath
        rw [hpath]
        simp only
        split at h
        · rename_i hle
          rw [hle]
          simp only [Option.some.injEq, Prod.mk.injEq] at h; obtain ⟨rfl, rfl, rfl⟩ := h
          rfl
        · cases h
      · rename_i p hp
        rw [hp]
        simp only
        split at h
        · rename_i n1 s1 h1
          have k1 := ih _ _ _ _ _ _ _ h1
          simp only [St.at_] at k1 ⊢
          rw [k1]
          exact ih _ _ _ _ _ _ _ h
        · rename_i hne
          have k1 := ih _ _ _ _ _ _ _ h
          simp only [St.at_] at k1 ⊢
          rw [k1]
          cases e with
          | normal => exact absurd h (hne _ _)
          | _ => rfl
      · rename_i hp
        rw [hp]
        simp only
        split at h
        · rename_i n1 s1 h1
          rw [ih _ _ _ _ _ _ _ h1]
          exact ih _ _ _ _ _ _ _ h
        · rename_i hne
          rw [ih _ _ _ _ _ _ _ h]
          cases e with
          | normal => exact absurd h (hne _ _)
          | _ => rfl
    | rangeFunc f ps as bd =>
      simp only [fC] at h
      simp only [sxC]
      have e2 : (s.at_ n str).n = n := rfl
      have e3 : (s.at_ n str).tm = s.tm := rfl
      have e4 : (s.at_ n str).m = s.m := rfl
      rw [enterA_at, e2, e3, e4]
      split at h
      · rename_i v m' ms' hle hv hen
        rw [hle, hv, hen]
        simp only
        split at h
        · rename_i g' args hcall
          rw [hcall]
          simp only
          split at h
          · rename_i rv n1 s1 h1
            have k1 := hcf _ _ _ _ _ _ _ _ h1
            simp only [St.at_] at k1 ⊢
            rw [k1]
            simp only
            split at h
            · rename_i e' s2 he
              cases h
              exact leaveA_at he
            · cases h
          · cases h
        · cases h
      · cases h
    | _ => cases h
theorem fCallF_sim {g : Nat} : SimF (fCallF E (fC E g)) (callF E (sxC E g)) := callF_sim (fun _ _ _ _ _ _ _ => fC_sim g _ _ _ _ _ _ _)
end
end Go.Proofs.YtpgaplcdbbnblaaGreatDoor
end
/- The symbolic evaluator: loops by a relation at the head of each round; names given anew. No Go text is in sight. -/
section
namespace Go.Proofs.YtpgaplcdbbnblaaGreatDoor
open Go.RowKit

def lkA : List (Nat × AV) → Nat → AV
  | [], _ => .any
  | (i, v) :: r, t => match Nat.beq i t with | true => v | false => lkA r t
def mkFrG (lv : List (Nat × AV)) : Nat → Nat → List AV
  | 0, _ => []
  | n + 1, i => lkA lv i :: mkFrG lv n (i + 1)
/-- a frame of 'n' slots of which these are known -/
def mkFr (n : Nat) (lv : List (Nat × AV)) : List AV := mkFrG lv n 0
theorem mkFrG_length (lv : List (Nat × AV)) : ∀ n i, (mkFrG lv n i).length = n
  | 0, _ => rfl
  | n + 1, i => by simp [mkFrG, mkFrG_length lv n (i + 1)]
theorem mkFrG_get (lv : List (Nat × AV)) : ∀ n i t, (mkFrG lv n i)[t]? = if t < n then some (lkA lv (i + t)) else none
  | 0, _, t => by simp [mkFrG]
  | n + 1, i, 0 => by simp [mkFrG]
  | n + 1, i, t + 1 => by
    simp only [mkFrG, List.getElem?_cons_succ]
    rw [mkFrG_get lv n (i + 1) t, show i + 1 + t = i + (t + 1) by omega]
    simp
theorem lkA_mem : ∀ {lv : List (Nat × AV)} {t : Nat}, lkA lv t = .any ∨ (t, lkA lv t) ∈ lv
  | [], t => .inl rfl
  | (i, v) :: r, t => by
    simp only [lkA]
    split
    · rename_i h
      have := Nat.eq_of_beq_eq_true h
      subst this
      exact .inr (by simp)
    · rcases @lkA_mem r t with h | h
      · exact .inl h
      · exact .inr (List.mem_cons_of_mem _ h)

/-- what a name was: another one; or it is new, and nil (of a block of that stride) -/
abbrev Rn := Nat → Nat ⊕ Nat
def rnm (n nh n' : Nat) (ρ : Rn) (β : Nm) : Nm := fun id =>
  if id < n ∨ n' ≤ id then β id else if id < nh then (match ρ id with | .inl o => β o | .inr s => some ⟨0, 0, s, 0, true⟩) else none

/-- From one state to another one of the same frame and world: names of [n, nh) given anew, those of [nh, n') free. -/
def Wk (n nh n' : Nat) (tm1 : List AV) (m1 : AMem) (tm2 : List AV) (m2 : AMem) : Prop :=
  ∀ (C : Ctx) (β1 : Nm) (w : World) (tmps : Array Value), FrOk β1 tm1 tmps → Rel C β1 m1 w →
    ∃ β2 : Nm, (∀ id, id < n ∨ n' ≤ id → β2 id = β1 id) ∧ (∀ id, nh ≤ id → id < n' → β2 id = none) ∧ FrOk β2 tm2 tmps ∧ Rel C β2 m2 w

section
variable {n nh n' : Nat} {ρ : Rn} {tm1 : List AV} {m1 : AMem}

def GW (n nh n' : Nat) (ρ : Rn) (a1 a2 : AV) : Prop := ∀ (β : Nm) (v : Value), γ β a1 = some v → γ (rnm n nh n' ρ β) a2 = some v
def FrW (n nh n' : Nat) (ρ : Rn) (tm1 : List AV) : List (Nat × AV) → Prop
  | [] => True
  | (t, av) :: r => (∃ a1, tm1[t]? = some a1 ∧ a1 ≠ .any ∧ GW n nh n' ρ a1 av) ∧ FrW n nh n' ρ tm1 r
/-- cells that bear no name, or an old one -/
def lowC (n : Nat) : AC → Bool
  | .v _ => true
  | .ptr id _ _ => Nat.blt id n
  | .sl id _ _ _ _ => Nat.blt id n
  | .fn _ caps => caps.all fun p => Nat.blt p.1 n
  | .yld id => Nat.blt id n
  | .cap id _ => Nat.blt id n
  | .mv _ id _ _ => Nat.blt id n
mutual
def lowV (n : Nat) : AV → Bool
  | .c x => lowC n x
  | .agg l => l.all (lowC n)
  | .tup l => lowT n l
  | .any => true
def lowT (n : Nat) : List AV → Bool
  | [] => true
  | x :: r => lowV n x && lowT n r
end
def lowO (n : Nat) : AObj → Bool
  | .loop _ _ tm _ _ _ dn => lowT n tm && Nat.blt dn n
  | .dfr _ => true
def lowB (n : Nat) (x : ABlk) : Prop := (∀ k j, x.inb k (j + 1) = true → lowC n (x.cs.get k j) = true) ∧ ∀ o, x.cs = .obj o → lowO n o = true
/-- of a frame less is known -/
def tmLe (tm tm' : List AV) : Prop := tm.length = tm'.length ∧ ∀ (t : Nat) av, tm'[t]? = some av → av = .any ∨ tm[t]? = some av
def OLe : AObj → AObj → Prop
  | .loop st pd tm ps as bd dn, .loop st' pd' tm' ps' as' bd' dn' => st = st' ∧ pd = pd' ∧ tmLe tm tm' ∧ ps = ps' ∧ as = as' ∧ bd = bd' ∧ dn = dn'
  | .dfr a, .dfr b => a = b
  | _, _ => False
theorem tmLe.refl (tm : List AV) : tmLe tm tm := ⟨rfl, fun _ _ h => .inr h⟩
theorem OLe.refl : ∀ (o : AObj), OLe o o
  | .loop _ _ _ _ _ _ _ => ⟨rfl, rfl, tmLe.refl _, rfl, rfl, rfl, rfl⟩
  | .dfr _ => rfl
theorem FrOk.le {β : Nm} {tm tm' : List AV} {tmps : Array Value} (h : FrOk β tm tmps) (hl : tmLe tm tm') : FrOk β tm' tmps :=
  ⟨h.1.trans hl.1, fun t av ht => (hl.2 t av ht).elim .inl (h.2 t av)⟩
theorem ObjOk.le {β : Nm} {w : World} {b : Nat} {o o' : AObj} (h : ObjOk β w b o) (hl : OLe o o') : ObjOk β w b o' := by
  cases o with
  | loop st pd tm ps as bd dn =>
    cases o' with
    | loop st' pd' tm' ps' as' bd' dn' =>
      obtain ⟨rfl, rfl, hl, rfl, rfl, rfl, rfl⟩ := hl
      obtain ⟨fn, tmps, D, h1, h2, h3, h4⟩ := h
      exact ⟨fn, tmps, D, h1.le hl, h2, h3, h4⟩
    | dfr _ => exact hl.elim
  | dfr a =>
    cases o' with
    | loop _ _ _ _ _ _ _ => exact hl.elim
    | dfr _ => obtain rfl := hl; exact h
/-- two blocks alike -/
structure BEq (x y : ABlk) : Prop where
  own : y.own = x.own
  row : y.row = x.row
  ty : y.ty = x.ty
  sz : y.sz = x.sz
  cs : (∃ l, x.cs = .lit l ∧ y.cs = .lit l) ∨ (∃ q f g, x.cs = .arr q f ∧ y.cs = .arr q g ∧ ∀ k, k < q → f k = g k) ∨ ∃ o o', x.cs = .obj o ∧ y.cs = .obj o' ∧ OLe o o'
theorem BEq.refl (x : ABlk) : BEq x x := ⟨rfl, rfl, rfl, rfl, by cases h : x.cs with | lit l => exact .inl ⟨l, rfl, rfl⟩ | arr q f => exact .inr (.inl ⟨q, f, f, rfl, rfl, fun _ _ => rfl⟩) | obj o => exact .inr (.inr ⟨o, o, rfl, rfl, OLe.refl o⟩)⟩
def MemC (n nh n' : Nat) (ρ : Rn) (m1 : AMem) (id : Nat) (x : ABlk) : Prop :=
  ((id < n ∨ n' ≤ id) ∧ look m1 id = some x ∧ lowB n x) ∨
  (n ≤ id ∧ id < nh ∧ ∃ o y, ρ id = .inl o ∧ look m1 o = some y ∧ BEq y x ∧ lowB n x) ∨
  (n ≤ id ∧ id < nh ∧ ρ id = .inr x.sz ∧ 0 < x.sz ∧ ∃ f, x.cs = .arr 0 f) ∨
  ((id < n ∨ n' ≤ id) ∧ ∃ y, look m1 id = some y ∧ BEq y x ∧ lowB n x)
def MemW (n nh n' : Nat) (ρ : Rn) (m1 : AMem) : AMem → Prop
  | [] => True
  | (id, x) :: r => MemC n nh n' ρ m1 id x ∧ MemW n nh n' ρ m1 r
def oldId (n nh n' : Nat) (ρ : Rn) (id : Nat) : Option Nat :=
  match Nat.blt id n || Nat.ble n' id with
  | true => some id
  | false => match ρ id with | .inl o => some o | .inr _ => none
def rnOk (n nh n' : Nat) (ρ : Rn) : AMem → Bool
  | [] => true
  | (id, _) :: r => (r.all fun p => Nat.beq p.1 id || match oldId n nh n' ρ id, oldId n nh n' ρ p.1 with | some a, some b => !(Nat.beq a b) | _, _ => true) && rnOk n nh n' ρ r

theorem γc_low {β : Nm} {x : AC} {v : Value} (h : lowC n x = true) (e : γc β x = some v) : γc (rnm n nh n' ρ β) x = some v := by
  have hr : ∀ id, Nat.blt id n = true → rnm n nh n' ρ β id = β id := fun id hid => by
    rw [Nat.blt_eq] at hid
    simp [rnm, hid]
  cases x with
  | v x => exact e
  | ptr id k j => simp only [γc, ad] at e ⊢; rw [hr id h]; exact e
  | sl id k j len cap => simp only [γc] at e ⊢; rw [hr id h]; exact e
  | fn f caps =>
    simp only [γc] at e ⊢
    have key : ∀ {l : List (Nat × Nat × Nat)} {vs : List Value}, (l.all fun p => Nat.blt p.1 n) = true → γp β l = some vs → γp (rnm n nh n' ρ β) l = some vs := by
      intro l
      induction l with
      | nil => intro vs _ h; exact h
      | cons p r ih =>
        intro vs hl hp
        obtain ⟨id, k, j⟩ := p
        simp only [List.all_cons, Bool.and_eq_true] at hl
        simp only [γp] at hp ⊢
        split at hp
        · rename_i a us ha hus
          simp only [ad] at ha ⊢
          rw [hr id hl.1, ha, ih hl.2 hus]
          exact hp
        · cases hp
    split at e
    · rename_i vs hvs
      rw [key h hvs]
      exact e
    · cases e
  | yld id => simp only [γc] at e ⊢; rw [hr id h]; exact e
  | cap id k => simp only [γc] at e ⊢; rw [hr id h]; exact e
  | mv f id k j => simp only [γc, ad] at e ⊢; rw [hr id h]; exact e
theorem GW_agg {l : List AC} (h : l.all (lowC n) = true) : GW n nh n' ρ (.agg l) (.agg l) := fun β v e => by
  simp only [γ, γ1] at e ⊢
  split at e
  · rename_i vs hvs
    have : γs (rnm n nh n' ρ β) l = some vs := by
      rw [γs_iff]
      refine ⟨γs_length hvs, fun i x hx => ?_⟩
      obtain ⟨u, h1, h2⟩ := γs_get hvs hx
      exact ⟨u, h1, γc_low (List.all_eq_true.1 h x (List.mem_of_getElem? hx)) h2⟩
    rw [this]
    exact e
  · cases e
theorem γ1_low {β : Nm} {x : AV} {v : Value} (h : lowV n x = true) (e : γ1 β x = some v) : γ1 (rnm n nh n' ρ β) x = some v := by
  cases x with
  | c x => exact γc_low (by simpa [lowV] using h) e
  | agg l =>
    have := GW_agg (nh := nh) (n' := n') (ρ := ρ) (l := l) (by simpa [lowV] using h) β v e
    exact this
  | tup l => cases e
  | any => cases e
theorem γt_low {β : Nm} : ∀ {l : List AV} {vs : List Value}, lowT n l = true → γt β l = some vs → γt (rnm n nh n' ρ β) l = some vs
  | [], vs, _, e => e
  | x :: r, vs, h, e => by
    simp only [lowT, Bool.and_eq_true] at h
    simp only [γt] at e ⊢
    split at e
    · rename_i v us hv hus
      rw [γ1_low h.1 hv, γt_low h.2 hus]
      exact e
    · cases e
theorem γ_low {β : Nm} {x : AV} {v : Value} (h : lowV n x = true) (e : γ β x = some v) : γ (rnm n nh n' ρ β) x = some v := by
  cases x with
  | tup l =>
    simp only [γ] at e ⊢
    split at e
    · rename_i vs hvs
      rw [γt_low (by simpa [lowV] using h) hvs]
      exact e
    · cases e
  | c x => exact γ1_low (x := .c x) h e
  | agg l => exact γ1_low (x := .agg l) h e
  | any => cases e
theorem lowT_get : ∀ {l : List AV} {t : Nat} {x : AV}, lowT n l = true → l[t]? = some x → lowV n x = true
  | [], t, x, _, h => by simp at h
  | y :: r, 0, x, hl, h => by simp only [lowT, Bool.and_eq_true] at hl; simp at h; subst h; exact hl.1
  | y :: r, t + 1, x, hl, h => by simp only [lowT, Bool.and_eq_true] at hl; exact lowT_get hl.2 (by simpa using h)
theorem FrOk.low {β : Nm} {tm : List AV} {tmps : Array Value} (h : lowT n tm = true) (hf : FrOk β tm tmps) : FrOk (rnm n nh n' ρ β) tm tmps :=
  ⟨hf.1, fun t av ht => (hf.2 t av ht).imp id fun ⟨v, h1, h2⟩ => ⟨v, γ_low (lowT_get h ht) h1, h2⟩⟩
theorem ObjOk.low {β : Nm} {w : World} {b : Nat} {o : AObj} (h : lowO n o = true) (ho : ObjOk β w b o) : ObjOk (rnm n nh n' ρ β) w b o := by
  cases o with
  | loop st pd tm ps as bd dn =>
    simp only [lowO, Bool.and_eq_true] at h
    obtain ⟨fn, tmps, D, h1, h2, h3, h4⟩ := ho
    have hdn : dn < n := by have := h.2; rwa [Nat.blt_eq] at this
    exact ⟨fn, tmps, D, h1.low h.1, by simp [rnm, hdn, h2], h3, h4⟩
  | dfr op => exact ho
theorem FrW_mem : ∀ {lv : List (Nat × AV)}, FrW n nh n' ρ tm1 lv → ∀ {t av}, (t, av) ∈ lv → ∃ a1, tm1[t]? = some a1 ∧ a1 ≠ .any ∧ GW n nh n' ρ a1 av
  | (t', av') :: r, h, t, av, hm => by
    rcases List.mem_cons.1 hm with e | e
    · cases e; exact h.1
    · exact FrW_mem h.2 e
theorem MemW_look : ∀ {m2 : AMem}, MemW n nh n' ρ m1 m2 → ∀ {id x}, look m2 id = some x → MemC n nh n' ρ m1 id x
  | (i, b) :: r, h, id, x, hx => by
    simp only [look_cons] at hx
    split at hx
    · rename_i hb
      cases hx
      have := Nat.eq_of_beq_eq_true hb
      subst this
      exact h.1
    · exact MemW_look h.2 hx
theorem rnOk_apart : ∀ {m2 : AMem}, rnOk n nh n' ρ m2 = true → ∀ {id id' x x'}, look m2 id = some x → look m2 id' = some x' → id ≠ id' → ∀ a, oldId n nh n' ρ id = some a → oldId n nh n' ρ id' ≠ some a
  | (i, b) :: r, h, id, id', x, x', hx, hx', hne, a, ha => by
    simp only [rnOk, Bool.and_eq_true] at h
    have hall := fun p hp => List.all_eq_true.1 h.1 p hp
    simp only [look_cons] at hx hx'
    split at hx
    · rename_i hb
      have := Nat.eq_of_beq_eq_true hb
      subst this
      split at hx'
      · rename_i hb'
        exact absurd (Nat.eq_of_beq_eq_true hb') hne
      · have h1 := hall _ (look_mem hx')
        simp only [Bool.or_eq_true] at h1
        rcases h1 with h1 | h1
        · exact absurd (Nat.eq_of_beq_eq_true h1).symm hne
        · rw [ha] at h1
          intro e
          rw [e] at h1
          simp at h1
    · split at hx'
      · rename_i hb'
        have := Nat.eq_of_beq_eq_true hb'
        subst this
        have h1 := hall _ (look_mem hx)
        simp only [Bool.or_eq_true] at h1
        rcases h1 with h1 | h1
        · exact absurd (Nat.eq_of_beq_eq_true h1) hne
        · intro e
          rw [e, ha] at h1
          simp at h1
      · exact rnOk_apart h.2 hx hx' hne a ha

theorem inb_beq {x y : ABlk} (h : BEq x y) (k j : Nat) : y.inb k j = x.inb k j := by
  rcases h.cs with ⟨l, h1, h2⟩ | ⟨q, f, g, h1, h2, _⟩ | ⟨o, o', h1, h2, _⟩ <;> simp only [ABlk.inb, h1, h2, h.sz]

theorem wk_mk (h1 : n ≤ nh) (h2 : nh ≤ n') (h3 : n' ≤ lim) {N : Nat} {lv : List (Nat × AV)} {m2 : AMem} (hlen : tm1.length = N) (hrn : rnOk n nh n' ρ m2 = true) (hm : MemW n nh n' ρ m1 m2) (hf : FrW n nh n' ρ tm1 lv) :
    Wk n nh n' tm1 m1 (mkFr N lv) m2 := by
  intro C β w tmps hfr hr
  have hgid : ∀ g, rnm n nh n' ρ β (gid g) = β (gid g) := fun g => by
    have : n' ≤ gid g := by unfold gid; unfold lim at h3; omega
    simp [rnm, this]
  -- a block's place
  have hpl : ∀ id x, look m2 id = some x → ∃ L, rnm n nh n' ρ β id = some L ∧ BlkOk C (rnm n nh n' ρ β) w L x ∧ (L.nil = false → ∃ o y, oldId n nh n' ρ id = some o ∧ look m1 o = some y ∧ y.own = x.own ∧ β o = some L) := by
    intro id x hx
    have conv : ∀ (L : Loc) (y : ABlk), BEq y x → lowB n x → BlkOk C β w L y → BlkOk C (rnm n nh n' ρ β) w L x := by
      intro L y hb hlow hk
      refine ⟨by rw [hb.sz]; exact hk.sz, fun l hl => ?_, fun k j hi => ?_, hk.lt, fun ho hn => ?_, fun q g hg i hi => ?_, fun hrw hn q g hg => ?_⟩
      · rcases hb.cs with ⟨l', e1, e2⟩ | ⟨q, f, g, e1, e2, _⟩ | ⟨o, o'', e1, e2, _⟩
        · rw [hb.sz]; exact hk.lit l' e1
        · rw [e2] at hl; cases hl
        · rw [e2] at hl; cases hl
      · have hlow' := hlow.1 k j hi
        have hi' := hi
        rw [inb_beq hb] at hi
        obtain ⟨g1, u, g2, g3, g4⟩ := hk.cells k j hi
        refine ⟨g1, u, ?_, g3, g4⟩
        have e : x.cs.get k j = y.cs.get k j := by
          rcases hb.cs with ⟨l', e1, e2⟩ | ⟨q, f, g, e1, e2, e3⟩ | ⟨o, o'', e1, e2, _⟩
          · rw [e1, e2]
          rotate_left
          · simp only [e1, e2, Cs.get]
          · rw [e1, e2]
            have : k < q := by
              simp only [ABlk.inb, e1, Bool.and_eq_true, decide_eq_true_eq] at hi
              exact hi.1
            simp only [Cs.get]
            rw [e3 k this]
        rw [e] at hlow' ⊢
        exact γc_low hlow' g2
      · rw [hb.own] at ho
        obtain ⟨o1, o2, cs, o3, o4⟩ := hk.own ho hn
        refine ⟨o1, o2, cs, by rw [hb.ty]; exact o3, fun hrw => ?_⟩
        rw [hb.row] at hrw
        obtain ⟨r1, r2, q, f, r3, r4⟩ := o4 hrw
        rcases hb.cs with ⟨l', e1, e2⟩ | ⟨q', f', g, e1, e2, e3⟩ | ⟨o, o'', e1, e2, _⟩
        · rw [e1] at r3; cases r3
        rotate_left
        · rw [e1] at r3; cases r3
        · rw [e1] at r3
          cases r3
          exact ⟨by rw [hb.sz]; exact r1, by rw [hb.sz]; exact r2, _, g, e2, r4⟩
      · rcases hb.cs with ⟨l', e1, e2⟩ | ⟨q', f', g', e1, e2, e3⟩ | ⟨o, o'', e1, e2, _⟩
        · rw [e2] at hg; cases hg
        rotate_left
        · rw [e2] at hg; cases hg
        · rw [e2] at hg
          cases hg
          rw [← e3 i hi, hb.sz]
          exact hk.arrl _ f' e1 i hi
      · rw [hb.row] at hrw
        rcases hb.cs with ⟨l', e1, e2⟩ | ⟨q', f', g', e1, e2, e3⟩ | ⟨o, o'', e1, e2, _⟩
        · rw [e2] at hg; cases hg
        rotate_left
        · rw [e2] at hg; cases hg
        · rw [e2] at hg
          cases hg
          exact hk.rowc hrw hn _ f' e1
    rcases MemW_look hm hx with ⟨c1, c2, c3⟩ | ⟨c1, c2, o, y, c3, c4, c5, c6⟩ | ⟨c1, c2, c3, c4, f, c5⟩ | ⟨c1, y, c4, c5, c6⟩
    rotate_left 3
    · obtain ⟨L, hL, hk⟩ := hr.blk id y c4
      refine ⟨L, by simp [rnm, c1, hL], conv L y c5 c6 hk, fun hn => ⟨id, y, ?_, c4, c5.own.symm, hL⟩⟩
      unfold oldId
      have : (Nat.blt id n || Nat.ble n' id) = true := by
        rcases c1 with h | h
        · have : Nat.blt id n = true := by rw [Nat.blt_eq]; exact h
          rw [this]; rfl
        · rw [Nat.ble_eq_true_of_le h, Bool.or_true]
      rw [this]
    · obtain ⟨L, hL, hk⟩ := hr.blk id x c2
      refine ⟨L, by simp [rnm, c1, hL], conv L x (BEq.refl x) c3 hk, fun hn => ⟨id, x, ?_, c2, rfl, hL⟩⟩
      unfold oldId
      have : (Nat.blt id n || Nat.ble n' id) = true := by
        rcases c1 with h | h
        · have : Nat.blt id n = true := by rw [Nat.blt_eq]; exact h
          rw [this]; rfl
        · rw [Nat.ble_eq_true_of_le h, Bool.or_true]
      rw [this]
    · obtain ⟨L, hL, hk⟩ := hr.blk o y c4
      have hnot : ¬ (id < n ∨ n' ≤ id) := by omega
      refine ⟨L, by simp [rnm, hnot, c2, c3, hL], conv L y c5 c6 hk, fun hn => ⟨o, y, ?_, c4, c5.own.symm, hL⟩⟩
      unfold oldId
      have : (Nat.blt id n || Nat.ble n' id) = false := by
        rw [Bool.or_eq_false_iff]
        refine ⟨?_, ?_⟩
        · rw [Bool.eq_false_iff]; intro h; rw [Nat.blt_eq] at h; omega
        · rw [Bool.eq_false_iff]; intro h; have := Nat.le_of_ble_eq_true h; omega
      rw [this, c3]
    · have hnot : ¬ (id < n ∨ n' ≤ id) := by omega
      refine ⟨⟨0, 0, x.sz, 0, true⟩, by simp [rnm, hnot, c2, c3], ⟨rfl, fun l hl => (by rw [c5] at hl; cases hl), fun k j hi => ?_, fun h => (by cases h), fun _ h => (by cases h), fun q g hg i hi => ?_, fun _ h => (by cases h)⟩, fun h => (by cases h)⟩
      · simp [ABlk.inb, c5] at hi
      · rw [c5] at hg; cases hg; omega
  refine ⟨rnm n nh n' ρ β, fun id hid => by simp [rnm, hid], fun id hid1 hid2 => ?_, ⟨?_, fun t av ht => ?_⟩, hr.os, hr.tape, hr.output, hr.size, hr.base, hr.out, fun id x hx => ?_, ?_, fun g L hL => hr.glob g L (by rw [hgid g] at hL; exact hL), fun id x ob hx hxo => ?_⟩
  · have : ¬ (id < n ∨ n' ≤ id) := by omega
    simp [rnm, this, show ¬ id < nh by omega]
  · rw [mkFr, mkFrG_length, ← hlen]; exact hfr.1
  · rw [mkFr, mkFrG_get, Nat.zero_add] at ht
    split at ht
    · cases ht
      rcases @lkA_mem lv t with h | h
      · exact .inl h
      · obtain ⟨a1, e1, e2, e3⟩ := FrW_mem hf h
        rcases hfr.2 t a1 e1 with h4 | ⟨v, h4, h5⟩
        · exact absurd h4 e2
        · exact .inr ⟨v, e3 β v h4, h5⟩
    · cases ht
  · obtain ⟨L, hL, hk, _⟩ := hpl id x hx
    exact ⟨L, hL, hk⟩
  · intro id id' x x' L L' hx hx' hne ho hL hL' hn hn'
    obtain ⟨M, hM, _, hM2⟩ := hpl id x hx
    rw [hL] at hM
    cases hM
    obtain ⟨M', hM', _, hM2'⟩ := hpl id' x' hx'
    rw [hL'] at hM'
    cases hM'
    obtain ⟨o, y, o1, o2, o3, o4⟩ := hM2 hn
    obtain ⟨o', y', p1, p2, p3, p4⟩ := hM2' hn'
    have hoo : o ≠ o' := fun e => by
      subst e
      exact rnOk_apart hrn hx hx' hne _ o1 p1
    exact hr.sep o o' y y' L L' o2 p2 hoo (by rw [o3]; exact ho) o4 p4 hn hn'
  · obtain ⟨oi, y, q1, q2, q3, q4, q5⟩ : ∃ oi y, oldId n nh n' ρ id = some oi ∧ look m1 oi = some y ∧ (∃ ob', y.cs = .obj ob' ∧ OLe ob' ob) ∧ lowO n ob = true ∧ rnm n nh n' ρ β id = β oi := by
      rcases MemW_look hm hx with ⟨c1, c2, c3⟩ | ⟨c1, c2, o, y, c3, c4, c5, c6⟩ | ⟨c1, c2, c3, c4, f, c5⟩ | ⟨c1, y, c4, c5, c6⟩
      rotate_left 3
      · refine ⟨id, y, ?_, c4, ?_, c6.2 ob hxo, by simp [rnm, c1]⟩
        · unfold oldId
          have : (Nat.blt id n || Nat.ble n' id) = true := by
            rcases c1 with h | h
            · have : Nat.blt id n = true := by rw [Nat.blt_eq]; exact h
              rw [this]; rfl
            · rw [Nat.ble_eq_true_of_le h, Bool.or_true]
          rw [this]
        · rcases c5.cs with ⟨l, e1, e2⟩ | ⟨q, f, g, e1, e2, _⟩ | ⟨o', o2, e1, e2, e3⟩
          · rw [hxo] at e2; cases e2
          · rw [hxo] at e2; cases e2
          · rw [hxo] at e2; cases e2; exact ⟨_, e1, e3⟩
      · refine ⟨id, x, ?_, c2, ⟨_, hxo, OLe.refl _⟩, c3.2 ob hxo, by simp [rnm, c1]⟩
        unfold oldId
        have : (Nat.blt id n || Nat.ble n' id) = true := by
          rcases c1 with h | h
          · have : Nat.blt id n = true := by rw [Nat.blt_eq]; exact h
            rw [this]; rfl
          · rw [Nat.ble_eq_true_of_le h, Bool.or_true]
        rw [this]
      · have hnot : ¬ (id < n ∨ n' ≤ id) := by omega
        refine ⟨o, y, ?_, c4, ?_, c6.2 ob hxo, by simp [rnm, hnot, c2, c3]⟩
        · unfold oldId
          have : (Nat.blt id n || Nat.ble n' id) = false := by
            rw [Bool.or_eq_false_iff]
            refine ⟨?_, ?_⟩
            · rw [Bool.eq_false_iff]; intro h; rw [Nat.blt_eq] at h; omega
            · rw [Bool.eq_false_iff]; intro h; have := Nat.le_of_ble_eq_true h; omega
          rw [this, c3]
        · rcases c5.cs with ⟨l, e1, e2⟩ | ⟨q, f, g, e1, e2, _⟩ | ⟨o', o2, e1, e2, e3⟩
          · rw [hxo] at e2; cases e2
          · rw [hxo] at e2; cases e2
          · rw [hxo] at e2; cases e2; exact ⟨_, e1, e3⟩
      · rw [hxo] at c5; cases c5
    obtain ⟨ob', q3, q6⟩ := q3
    obtain ⟨L, k1, k2, k3, k4, k5⟩ := hr.objs oi y ob' q2 q3
    refine ⟨L, by rw [q5]; exact k1, k2, k3, (k4.le q6).low q4, fun id' x' L' g1 g2 g3 g4 => ?_⟩
    obtain ⟨M', hM', _, hM2'⟩ := hpl id' x' g2
    rw [g3] at hM'
    cases hM'
    obtain ⟨o', y', p1, p2, p3, p4⟩ := hM2' g4
    refine k5 o' y' L' (fun e => ?_) p2 p4 g4
    subst e
    exact rnOk_apart hrn hx g2 (fun e => g1 e.symm) _ q1 p1
end

/-- what is looked at in a call's result -/
def viewF (ids : List Nat) (r : Option (AV × Nat × St)) : Option (AV × List (Option ABlk) × Nat × List Bool × List Prop) :=
  match r with
  | some (v, n, s) => some (v, ids.map (look s.m), n, s.ob, s.po)
  | none => none
theorem viewF_out {ids : List Nat} {r : Option (AV × Nat × St)} {v : AV} {b : List (Option ABlk)} {n : Nat} {ob : List Bool} {po : List Prop} (h : viewF ids r = some (v, b, n, ob, po)) :
    ∃ s, r = some (v, n, s) ∧ ids.map (look s.m) = b ∧ s.ob = ob ∧ s.po = po := by
  unfold viewF at h
  split at h
  · rename_i v' n' s
    simp only [Option.some.injEq, Prod.mk.injEq] at h
    obtain ⟨rfl, h1, rfl, h3, h4⟩ := h
    exact ⟨s, rfl, h1, h3, h4⟩
  · cases h
/-- A function that the evaluator runs through. -/
theorem calls_f {E : Env} (hE : EnvOk E) {g : Nat} {f : FuncId} {args : List AV} {n str n' : Nat} {s s' : St} {r : AV} (h : fCallF E (fC E g) f args n str s = some (r, n', s')) (ho : Obs s') {C : Ctx} {β : Nm} {w : World} {vs : List Value}
    (hvs : γt β args = some vs) (hr : Rel C β s.m w) (hfree : ∀ id, n ≤ id → id < n' → β id = none) :
    Calls E.P f vs.toArray w (fun e w' => ∃ β' v, e = .returned v ∧ Ext β β' ∧ (∀ id, id < n ∨ n' ≤ id → β' id = β id) ∧ γ β' r = some v ∧ Rel C β' s'.m w') :=
  calls_sx hE (fCallF_sim _ _ _ _ _ _ _ _ h) (ho.congr rfl rfl) hvs hr hfree
def stA (m : AMem) (path : List Dec) (lp : List (Option LSum)) : St := ⟨[], m, 0, 0, false, path, [], [], [], none, lp⟩
end Go.Proofs.YtpgaplcdbbnblaaGreatDoor
end
/- The symbolic evaluator: words for its use. -/
section
namespace Go.Proofs.YtpgaplcdbbnblaaGreatDoor
open Go.RowKit
/-- what is seen of a call's end, of a code's -/
abbrev VF := AV × List (Option ABlk) × Nat × List Bool × List Prop
def i64 (n : Int) : AV := .c (.v (.int .i64 n))
def bo (b : Bool) : AV := .c (.v (.bool b))
def ag (l : List Value) : AV := .agg (l.map .v)
/-- an own list that may grow -/
def wBlk (ty sz n : Nat) (f : Nat → List Value) : ABlk := ⟨true, true, ty, sz, .arr n fun k => (f k).map .v⟩
def E1 (P : Program) : Env := ⟨P, []⟩
def namesB (P : Program) : Bool := P.funcs.toList.all fun fn => fn.body.isNone || !(fn.name == "runtime.NumGoroutine")
theorem envOk {P : Program} {ct : List (FuncId × CtF)} (hc : ∀ f g, (f, g) ∈ ct → CtOk P f g) (hm : P.follows .mixedOrders = true) (hn : namesB P = true) : EnvOk ⟨P, ct⟩ :=
  ⟨hc, hm, fun f fn c h1 h2 => by
    have hmem : fn ∈ P.funcs.toList := by
      rw [← Array.getElem?_toList] at h1
      exact List.mem_of_getElem? h1
    have := List.all_eq_true.1 hn fn hmem
    simpa [h2] using this⟩
/-- a closed run -/
def stC (m : AMem) : St := ⟨[], m, 0, 0, true, [], [], [], [], none, []⟩
/-- a path told by a number, to the base 3 -/
def pD : Nat → Nat → List Dec
  | 0, _ => []
  | n + 1, m => (match m % 3 with | 0 => Dec.a | 1 => Dec.b true | _ => Dec.b false) :: pD n (m / 3)
end Go.Proofs.YtpgaplcdbbnblaaGreatDoor
end
/- A call that hands out one new list of plain cells: from what it does alone to what it does anywhere. No Go text is in sight. -/
section
namespace Go.Proofs.YtpgaplcdbbnblaaGreatDoor
open Go.RowKit

theorem γc_plain {β β' : Nm} {c : AC} {u : Value} (h : ∃ v, c = .v v) (e : γc β c = some u) : γc β' c = some u := by
  obtain ⟨v, rfl⟩ := h
  exact e
theorem rel_fresh {C : Ctx} {β β1 : Nm} {m m1 : AMem} {w w' : World} (h : Rel C β m w) (hb : Below w.heap.size w w') {id : Nat} (hid : β id = none) (hg : ∀ g, id ≠ gid g) (h1 : Rel (loneC w) β1 m1 w') {i1 : Nat} {x : ABlk} (hx : look m1 i1 = some x) (hown : x.own = true)
    {n : Nat} {f : Nat → List AC} (hcs : x.cs = .arr n f) (hpl : ∀ k j, x.inb k (j + 1) = true → ∃ v, x.cs.get k j = .v v) {L : Loc} (hL1 : β1 i1 = some L) :
    Rel C (ext1 β id L) (m ++ [(id, x)]) w' := by
  have hw' : Rel C β m w' := h.below hb
  obtain ⟨L', e, hbk⟩ := h1.blk i1 x hx
  rw [hL1] at e
  cases e
  have hnewb : L.nil = false → w.heap.size ≤ L.b := fun hn => by
    obtain ⟨_, h2, _⟩ := hbk.own hown hn
    rcases h2 with h2 | h2
    · exact h2
    · exact h2.elim
  have hbase : C.base ≤ w.heap.size := by have := h.size; have := h.base; omega
  have he : Ext β (ext1 β id L) := ext1_ext hid
  have hno : look m id = none := by
    cases e : look m id with
    | none => rfl
    | some x => obtain ⟨L, hL, _⟩ := h.blk id x e; rw [hid] at hL; cases hL
  have hlk : ∀ i y, look (m ++ [(id, x)]) i = some y → (look m i = some y ∧ i ≠ id) ∨ (i = id ∧ y = x) := by
    intro i y e
    rw [look_append] at e
    cases e' : look m i with
    | some z =>
      rw [e'] at e
      cases e
      exact .inl ⟨rfl, fun h' => by subst h'; rw [hno] at e'; cases e'⟩
    | none =>
      rw [e'] at e
      simp only [look_cons] at e
      cases hb : Nat.beq id i with
      | true => rw [hb] at e; cases e; exact .inr ⟨(Nat.eq_of_beq_eq_true hb).symm, rfl⟩
      | false => rw [hb] at e; cases e
  refine ⟨hw'.os, hw'.tape, hw'.output, hw'.size, hw'.base, hw'.out, fun i y e => ?_, ?_, ?_, ?_⟩
  · rcases hlk i y e with ⟨e1, hne⟩ | ⟨rfl, rfl⟩
    · obtain ⟨M, hM, hk⟩ := hw'.blk i y e1
      exact ⟨M, he i M hM, hk.keep he (Nat.le_refl _) (fun _ => rfl)⟩
    · refine ⟨L, ext1_same, hbk.sz, hbk.lit, fun k j hi => ?_, hbk.lt, fun ho hn => ?_, hbk.arrl, hbk.rowc⟩
      · obtain ⟨g1, u, g2, g3, g4⟩ := hbk.cells k j hi
        exact ⟨g1, u, γc_plain (hpl k j hi) g2, g3, g4⟩
      · obtain ⟨g1, _, g3⟩ := hbk.own ho hn
        exact ⟨g1, .inl (by have := hnewb hn; omega), g3⟩
  · intro i i' y y' M M' e e' hne ho hM hM' hn hn'
    rcases hlk i y e with ⟨e1, g1⟩ | ⟨rfl, rfl⟩
    · rcases hlk i' y' e' with ⟨e2, g2⟩ | ⟨rfl, rfl⟩
      · simp only [ext1, g1, g2, if_false] at hM hM'
        exact hw'.sep i i' y y' M M' e1 e2 hne ho hM hM' hn hn'
      · simp only [ext1, g1, if_false, if_true] at hM hM'
        cases hM'
        obtain ⟨K, hK, hk⟩ := h.blk i y e1
        rw [hK] at hM
        cases hM
        have := hk.lt hn
        have := hnewb hn'
        omega
    · rcases hlk i' y' e' with ⟨e2, g2⟩ | ⟨rfl, rfl⟩
      · simp only [ext1, g2, if_false, if_true] at hM hM'
        cases hM
        obtain ⟨K, hK, hk⟩ := h.blk i' y' e2
        rw [hK] at hM'
        cases hM'
        have := hk.lt hn'
        have := hnewb hn
        omega
      · exact absurd rfl hne
  · intro g M e
    have : gid g ≠ id := fun e => hg g e.symm
    simp only [ext1, this, if_false] at e
    exact h.glob g M e
  · intro i y o e ho
    rcases hlk i y e with ⟨e1, hne⟩ | ⟨rfl, rfl⟩
    · obtain ⟨M, g1, g2, g3, g4, g5⟩ := hw'.objs i y o e1 ho
      obtain ⟨M', hM', hk⟩ := h.blk i y e1
      rw [g1] at hM'
      cases hM'
      refine ⟨M, he i M g1, g2, g3, g4.keep he rfl, fun i' y' K q1 q2 q3 q4 => ?_⟩
      rcases hlk i' y' q2 with ⟨e2, hne2⟩ | ⟨rfl, rfl⟩
      · simp only [ext1, hne2, if_false] at q3
        exact g5 i' y' K q1 e2 q3 q4
      · simp only [ext1, if_true] at q3
        cases q3
        have := hk.lt g2
        have := hnewb q4
        omega
    · rw [hcs] at ho; cases ho
theorem not_gid {id : Nat} (h : id < lim) (g : Nat) : id ≠ gid g := by unfold lim at h; unfold gid; omega
end Go.Proofs.YtpgaplcdbbnblaaGreatDoor
end
/- Closed runs that read package variables, as contracts. No Go text is in sight. -/
section
namespace Go.Proofs.YtpgaplcdbbnblaaGreatDoor
open Go.RowKit

def eqAC : AC → AC → Bool
  | .v (.int k x), .v (.int k' y) => decide (k = k') && decide (x = y)
  | .v (.bool a), .v (.bool b) => a == b
  | _, _ => false
theorem eqAC_eq {x y : AC} (h : eqAC x y = true) : x = y := by
  unfold eqAC at h
  split at h
  · simp only [Bool.and_eq_true, decide_eq_true_eq] at h; rw [h.1, h.2]
  · simp at h; rw [h]
  · cases h
def eqLs : List AC → List AC → Bool
  | [], [] => true
  | x :: r, y :: q => eqAC x y && eqLs r q
  | _, _ => false
theorem eqLs_eq : ∀ {l q : List AC}, eqLs l q = true → l = q
  | [], [], _ => rfl
  | [], _ :: _, h => by simp [eqLs] at h
  | _ :: _, [], h => by simp [eqLs] at h
  | x :: r, y :: q, h => by
    simp only [eqLs, Bool.and_eq_true] at h
    rw [eqAC_eq h.1, eqLs_eq h.2]
def eqBk (x y : ABlk) : Bool :=
  match x.cs, y.cs with
  | .lit l, .lit q => eqLs l q && (x.row == y.row && (Nat.beq x.ty y.ty && Nat.beq x.sz y.sz))
  | _, _ => false
theorem eqBk_eq {x y : ABlk} (h : eqBk x y = true) : { x with own := false } = ({ y with own := false } : ABlk) := by
  obtain ⟨o, rw, t, s, c⟩ := x
  obtain ⟨o', rw', t', s', c'⟩ := y
  unfold eqBk at h
  split at h
  · rename_i l q h1 h2
    simp only at h1 h2
    subst h1; subst h2
    simp only [Bool.and_eq_true, beq_iff_eq] at h
    obtain ⟨e1, e2, e3, e4⟩ := h
    rw [eqLs_eq e1, e2, Nat.eq_of_beq_eq_true e3, Nat.eq_of_beq_eq_true e4]
  · cases h
/-- are these blocks there? -/
def subB (g m : AMem) : Bool := g.all fun p => match look m p.1 with | some b => !p.2.own && eqBk b p.2 | none => false
/-- names of variables alone -/
def nmG (β : Nm) : Nm := fun id => if lim ≤ id then β id else none
theorem rel_glob {C : Ctx} {β : Nm} {m m2 g : AMem} {w : World} (hr : Rel C β m2 w) (hs : Sub m m2) (hg : subB g m = true) (hlim : (g.all fun p => Nat.ble lim p.1) = true) : Rel (loneC w) (nmG β) g w := by
  have hlk : ∀ id x, look g id = some x → lim ≤ id ∧ x.own = false ∧ ∃ b, look m2 id = some b ∧ ({ b with own := false } : ABlk) = x ∧ isO x = false := by
    intro id x hx
    have hm := look_mem hx
    have h1 := List.all_eq_true.1 hg _ hm
    have h2 := List.all_eq_true.1 hlim _ hm
    simp only at h1 h2
    split at h1
    · rename_i b hb
      simp only [Bool.and_eq_true, Bool.not_eq_true'] at h1
      have e := eqBk_eq h1.2
      have ho : x = { x with own := false } := by rw [← h1.1]
      refine ⟨Nat.le_of_ble_eq_true h2, h1.1, b, hs _ _ hb, by rw [e, ← ho], ?_⟩
      have h3 := h1.2
      unfold eqBk at h3
      split at h3
      · rename_i l q _ hq; simp [isO, hq]
      · cases h3
    · cases h1
  refine ⟨rfl, rfl, rfl, Nat.le_refl _, Nat.le_refl _, fun _ _ _ => rfl, fun id x hx => ?_, fun id id' x x' L L' hx _ _ ho => ?_, fun k L hL => ?_, fun id x o hx ho => ?_⟩
  · obtain ⟨h1, h2, b, h3, h4, _⟩ := hlk id x hx
    obtain ⟨L, hL, hb⟩ := hr.blk id b h3
    subst h4
    refine ⟨L, by simp [nmG, h1, hL], hb.sz, hb.lit, fun k j hi => ?_, hb.lt, fun h => (by cases h), hb.arrl, hb.rowc⟩
    obtain ⟨g1, u, g2, g3, g4⟩ := hb.cells k j hi
    obtain ⟨_, _, b', h3', h4', _⟩ := hlk id _ hx
    have hm := look_mem hx
    have h5 := List.all_eq_true.1 hg _ hm
    simp only at h5
    -- the cells are plain values
    split at h5
    · rename_i b2 hb2
      simp only [Bool.and_eq_true] at h5
      have h6 := h5.2
      unfold eqBk at h6
      split at h6
      · rename_i l q hl hq
        have hplain : ∀ {l q : List AC}, eqLs l q = true → ∀ x ∈ q, ∃ v, x = .v v := by
          intro l
          induction l with
          | nil => intro q h x hx; cases q with
            | nil => cases hx
            | cons _ _ => simp [eqLs] at h
          | cons a r ih => intro q h x hx; cases q with
            | nil => simp [eqLs] at h
            | cons c q =>
              simp only [eqLs, Bool.and_eq_true] at h
              rcases List.mem_cons.1 hx with rfl | hx
              · have := h.1
                unfold eqAC at this
                split at this
                · exact ⟨_, rfl⟩
                · exact ⟨_, rfl⟩
                · cases this
              · exact ih h.2 x hx
        simp only [Bool.and_eq_true] at h6
        have hq : b.cs = .lit q := hq
        refine ⟨g1, u, ?_, g3, g4⟩
        simp only [hq, Cs.get] at g2 ⊢
        have hgv : ∃ v, q.getD j nov = .v v := by
          simp only [List.getD]
          cases hj : q[j]? with
          | none => exact ⟨_, rfl⟩
          | some x => exact hplain h6.1 x (List.mem_of_getElem? hj)
        obtain ⟨v, hv⟩ := hgv
        rw [hv] at g2 ⊢
        exact g2
      · cases h6
    · cases h5
  · obtain ⟨_, h2, _⟩ := hlk id x hx
    rw [h2] at ho
    cases ho
  · have : nmG β (gid k) = β (gid k) := by
      unfold nmG
      rw [if_pos (by unfold gid lim; omega)]
    rw [this] at hL
    exact hr.glob k L hL
  · obtain ⟨_, _, _, _, _, h5⟩ := hlk id x hx
    simp [isO, ho] at h5
/-- a contract: where these variables are so, it returns true and writes nothing -/
def ctTG (g : AMem) : CtF
  | [], m, _ => match subB g m with | true => some (.c (.v (.bool true)), [], 0, []) | false => none
  | _, _, _ => none
theorem below_lone {w w' : World} {β : Nm} {m : AMem} (h : Rel (loneC w) β m w') : Below w.heap.size w w' := ⟨h.os, h.tape, h.output, h.size, fun b hb => h.out b hb fun h => h⟩
theorem ctTG_of {E : Env} (hE : EnvOk E) {f : FuncId} {g : AMem} {k n str n' : Nat} (hf : ∃ (fn : Func) (c : Code), E.P.funcs[f]? = some fn ∧ fn.body = some c) (hlim : (g.all fun p => Nat.ble lim p.1) = true) (hn : n' ≤ lim)
    (h : viewF [] (fCallF E (fC E k) f [] n str (stC g)) = some (bo true, [], n', [], [])) : CtOk E.P f (ctTG g) := by
  refine ⟨hf, fun C β m m2 w args ib r news k' ob vs hct ho hs hr hfree hlim' hv => ?_⟩
  unfold ctTG at hct
  split at hct
  · split at hct
    · rename_i hsub
      simp only [Option.some.injEq, Prod.mk.injEq] at hct
      obtain ⟨rfl, rfl, rfl, rfl⟩ := hct
      cases hv
      obtain ⟨s', r1, r2, r3, r4⟩ := viewF_out h
      refine (calls_f hE r1 ⟨by rw [r3]; simp [allT], by rw [r4]; simp⟩ (C := loneC w) (β := nmG β) (w := w) (vs := []) rfl (rel_glob hr hs hsub hlim) (fun id h1 h2 => by unfold nmG; rw [if_neg (by omega)])).mono ?_
      rintro e w' ⟨β', v, rfl, _, _, hv, hr'⟩
      cases hv
      exact ⟨β, _, rfl, Ext.refl _, fun _ _ => rfl, rfl, by rw [List.append_nil]; exact hr.below (below_lone hr')⟩
    · cases hct
  · cases hct
end Go.Proofs.YtpgaplcdbbnblaaGreatDoor
end
/- Contracts of functions that write nothing and answer by plain values, by what they read. No Go text is in sight. -/
section
namespace Go.Proofs.YtpgaplcdbbnblaaGreatDoor
open Go.RowKit

/-! ### plain values -/
def plainC : AC → Bool
  | .v _ => true
  | _ => false
def plainA : AV → Bool
  | .c x => plainC x
  | .agg l => l.all plainC
  | _ => false
def plainL (l : List AV) : Bool := l.all plainA
theorem plainC_γ {x : AC} (h : plainC x = true) {β1 β2 : Nm} {u : Value} (e : γc β1 x = some u) : γc β2 x = some u := by
  cases x with
  | v x => exact e
  | _ => cases h
theorem plainS_γ : ∀ {l : List AC}, l.all plainC = true → ∀ {β1 β2 : Nm} {us : List Value}, γs β1 l = some us → γs β2 l = some us
  | [], _, _, _, _, e => e
  | x :: r, h, β1, β2, us, e => by
    simp only [List.all_cons, Bool.and_eq_true] at h
    simp only [γs] at e ⊢
    cases hx : γc β1 x with
    | none => rw [hx] at e; cases e
    | some u =>
      cases hr : γs β1 r with
      | none => rw [hx, hr] at e; cases e
      | some us' => rw [plainC_γ h.1 hx, plainS_γ h.2 hr]; rw [hx, hr] at e; exact e
theorem plainA_γ1 {x : AV} (h : plainA x = true) {β1 β2 : Nm} {u : Value} (e : γ1 β1 x = some u) : γ1 β2 x = some u := by
  cases x with
  | c x => exact plainC_γ h e
  | agg l =>
    simp only [γ1] at e ⊢
    cases hl : γs β1 l with
    | none => rw [hl] at e; cases e
    | some us => rw [plainS_γ h hl]; rw [hl] at e; exact e
  | _ => cases h
theorem plainL_γ : ∀ {l : List AV}, plainL l = true → ∀ {β1 β2 : Nm} {us : List Value}, γt β1 l = some us → γt β2 l = some us
  | [], _, _, _, _, e => e
  | x :: r, h, β1, β2, us, e => by
    simp only [plainL, List.all_cons, Bool.and_eq_true] at h
    simp only [γt] at e ⊢
    cases hx : γ1 β1 x with
    | none => rw [hx] at e; cases e
    | some u =>
      cases hr : γt β1 r with
      | none => rw [hx, hr] at e; cases e
      | some us' => rw [plainA_γ1 h.1 hx, plainL_γ (l := r) h.2 hr]; rw [hx, hr] at e; exact e
/-- what a function reads: told off its arguments and the memory; the same in a memory of its own -/
structure Rd (S : Type) where
  dec : List AV → AMem → Option (S × Bool)
  args : S → List AV
  mem : S → AMem
  ok : ∀ {C : Ctx} {β : Nm} {m m2 : AMem} {w : World} {xs : List AV} {s : S} {vs : List Value}, Sub m m2 → Rel C β m2 w → dec xs m = some (s, true) → γt β xs = some vs →
    ∃ β', Rel (loneC w) β' (mem s) w ∧ γt β' (args s) = some vs ∧ ∀ id, 1000 ≤ id → id < lim → β' id = none
/-- plain arguments alone, and variables -/
def pureRd (G : AMem) (hG : (G.all fun p => Nat.ble lim p.1) = true) : Rd (List AV) where
  dec := fun xs m => match plainL xs, subB G m with | true, true => some (xs, true) | _, _ => none
  args := fun xs => xs
  mem := fun _ => G
  ok := by
    intro C β m m2 w xs s vs hs hr hd hv
    split at hd
    · rename_i h1 h2
      cases hd
      exact ⟨nmG β, rel_glob hr hs h2 hG, plainL_γ h1 hv, fun id _ h => by unfold nmG; rw [if_neg (by omega)]⟩
    · cases hd
end Go.Proofs.YtpgaplcdbbnblaaGreatDoor
end
/- A call that reads what an 'Rd' says and hands out one new list of plain cells: its contract. No Go text is in sight. -/
section
namespace Go.Proofs.YtpgaplcdbbnblaaGreatDoor
open Go.RowKit

theorem low_plain {n : Nat} {y : ABlk} {q : Nat} {F : Nat → List AC} (hcs : y.cs = .arr q F) (hpl : ∀ k j, y.inb k (j + 1) = true → ∃ v, y.cs.get k j = .v v) : lowB n y := by
  refine ⟨fun k j hi => ?_, fun o e => by rw [hcs] at e; cases e⟩
  obtain ⟨v, hv⟩ := hpl k j hi
  rw [hv]
  rfl
theorem rel_sub1 {C : Ctx} {β : Nm} {m : AMem} {w : World} (hr : Rel C β m w) {g : Nat} {x y : ABlk} (hx : look m g = some x) (hb : BEq x y) {q : Nat} {F : Nat → List AC} (hcs : y.cs = .arr q F) (hpl : ∀ k j, y.inb k (j + 1) = true → ∃ v, y.cs.get k j = .v v) :
    ∃ β2 : Nm, (∀ id, β2 id = β id) ∧ Rel C β2 [(g, y)] w := by
  obtain ⟨β2, h1, _, _, h4⟩ := wk_mk (n := 0) (nh := 0) (n' := 0) (ρ := fun _ => .inr 1) (tm1 := []) (m1 := m) (Nat.le_refl _) (Nat.le_refl _) (Nat.zero_le _) (N := 0) (lv := []) (m2 := [(g, y)]) rfl (by simp [rnOk]) ⟨.inr (.inr (.inr ⟨.inr (Nat.zero_le _), x, hx, hb, low_plain hcs hpl⟩)), trivial⟩ trivial C β w #[] ⟨rfl, fun t av h => by simp at h⟩ hr
  exact ⟨β2, fun id => h1 id (.inr (Nat.zero_le _)), h4⟩
theorem wBlk_pl {ty sz n : Nat} {f : Nat → List Value} (hf : ∀ k, (f k).length = sz) (k j : Nat) (h : (wBlk ty sz n f).inb k (j + 1) = true) : ∃ v, (wBlk ty sz n f).cs.get k j = .v v := by
  simp only [ABlk.inb, wBlk, Bool.and_eq_true, decide_eq_true_eq] at h
  have h2 : j + 1 ≤ sz := of_decide_eq_true h.2
  have hj : j < (f k).length := by rw [hf]; omega
  exact ⟨(f k)[j], by simp [Cs.get, wBlk, List.getD, List.getElem?_map, List.getElem?_eq_getElem hj]⟩
/-! the same, where the list is handed out to be read alone -/
end Go.Proofs.YtpgaplcdbbnblaaGreatDoor
end
/- A call that hands out one new list of plain cells, and a plain value beside it: its contract. No Go text is in sight. -/
section
namespace Go.Proofs.YtpgaplcdbbnblaaGreatDoor
open Go.RowKit

def ctRdT {S : Type} (rd : Rd S) (len : S → Nat) (cp : S → Option Nat) (blk : S → ABlk) (e : S → AV) (pre : S → Bool) : CtF := fun xs m ib =>
  match rd.dec xs m with
  | some (s, b) => some (.tup [.c (.sl ib 0 0 (len s) (cp s)), e s], [(ib, blk s)], 1, [b, pre s])
  | none => none
def GoodT (g n : Nat) (cp : Option Nat) (b : ABlk) (e : AV) (r : VF) : Prop := r.1 = .tup [.c (.sl g 0 0 n cp), e] ∧ (∃ y, r.2.1 = [some y] ∧ BEq y b) ∧ r.2.2.1 ≤ lim ∧ allT r.2.2.2.1 ∧ ∀ q ∈ r.2.2.2.2, q
theorem ctRdT_of {S : Type} {E : Env} (hE : EnvOk E) {f : FuncId} (rd : Rd S) {len : S → Nat} {cp : S → Option Nat} {blk : S → ABlk} {ev : S → AV} {pre : S → Bool} (g : Nat) (hf : ∃ (fn : Func) (c : Code), E.P.funcs[f]? = some fn ∧ fn.body = some c)
    (hown : ∀ s, (blk s).own = true) (hcs : ∀ s, ∃ q F, (blk s).cs = .arr q F) (hpl : ∀ s k j, (blk s).inb k (j + 1) = true → ∃ v, (blk s).cs.get k j = .v v) (hev : ∀ s, plainA (ev s) = true) {fuel str : Nat}
    (run : ∀ s, pre s = true → ∃ p lp r, viewF [g] (fCallF E (fC E fuel) f (rd.args s) 1000 str (stA (rd.mem s) p lp)) = some r ∧ GoodT g (len s) (cp s) (blk s) (ev s) r) : CtOk E.P f (ctRdT rd len cp blk ev pre) := by
  refine ⟨hf, fun C β m m2 w args ib r news k' ob vs hct ho hs hr hfree hlim hv => ?_⟩
  unfold ctRdT at hct
  split at hct
  · rename_i s b hd
    simp only [Option.some.injEq, Prod.mk.injEq] at hct
    obtain ⟨rfl, rfl, rfl, rfl⟩ := hct
    simp only [allT, List.forall_mem_cons] at ho
    obtain ⟨rfl, o2, _⟩ := ho
    obtain ⟨p, lp, ⟨v, b', n', ob, po⟩, hrun, hvr, ⟨y, hy, hb⟩, hn, hob, hpo⟩ := run s o2
    obtain ⟨s', r1, r2, r3, r4⟩ := viewF_out hrun
    simp only at hvr hy hn hob hpo
    subst hvr
    obtain ⟨β1, q1, q2, q3⟩ := rd.ok hs hr hd hv
    refine (calls_f hE r1 ⟨by rw [r3]; exact hob, by rw [r4]; exact hpo⟩ (C := loneC w) (β := β1) (w := w) (vs := vs) q2 q1 (fun id h1 h2 => q3 id h1 (by omega))).mono ?_
    rintro e w' ⟨β', u, rfl, _, _, hu, hr'⟩
    rw [hy] at r2
    simp only [List.map_cons, List.map_nil, List.cons.injEq, and_true] at r2
    obtain ⟨q, F, hq⟩ := hcs s
    obtain ⟨β2, e2, hr2⟩ := rel_sub1 hr' r2 hb hq (hpl s)
    obtain ⟨L, hL, _⟩ := hr2.blk g (blk s) (by simp [look_cons])
    have hid : β ib = none := hfree ib (Nat.le_refl _) (by omega)
    refine ⟨ext1 β ib L, u, rfl, ext1_ext hid, fun id h => ?_, ?_, ?_⟩
    · unfold ext1
      rw [if_neg (by omega)]
    · have hL' : β' g = some L := by rw [← e2]; exact hL
      have hsl : γc β' (.sl g 0 0 (len s) (cp s)) = γc (ext1 β ib L) (.sl ib 0 0 (len s) (cp s)) := by simp only [γc, hL', ext1_same]
      have key : ∀ x, γt β' [.c (.sl g 0 0 (len s) (cp s)), ev s] = some x → γt (ext1 β ib L) [.c (.sl ib 0 0 (len s) (cp s)), ev s] = some x := by
        intro x hx
        have e1 : γ1 β' (.c (.sl g 0 0 (len s) (cp s))) = γ1 (ext1 β ib L) (.c (.sl ib 0 0 (len s) (cp s))) := hsl
        simp only [γt] at hx ⊢
        rw [← e1]
        cases he : γ1 β' (ev s) with
        | none => rw [he] at hx; revert hx; cases γ1 β' (.c (.sl g 0 0 (len s) (cp s))) <;> simp
        | some z => rw [plainA_γ1 (hev s) (β2 := ext1 β ib L) he]; rw [he] at hx; exact hx
      simp only [γ] at hu ⊢
      cases hx : γt β' [.c (.sl g 0 0 (len s) (cp s)), ev s] with
      | none => rw [hx] at hu; cases hu
      | some x => rw [hx] at hu; rw [key x hx]; exact hu
    · exact rel_fresh hr (below_lone hr') hid (not_gid (by omega)) hr2 (i1 := g) (by simp [look_cons]) (hown s) hq (hpl s) hL
  · cases hct
/-! a result, looked at in short -/
def obsB : Option ABlk → Option (Bool × Bool × Nat × Nat × Nat × List (List AC))
  | some ⟨o, r, t, sz, .arr q f⟩ => some (o, r, t, sz, q, (List.range q).map f)
  | _ => none
def seeT (r : Option VF) : Option (AV × List (Option (Bool × Bool × Nat × Nat × Nat × List (List AC))) × Nat × Bool × List Prop) := match r with | some r => some (r.1, r.2.1.map obsB, r.2.2.1, r.2.2.2.1.all (fun b => b), r.2.2.2.2) | none => none
theorem seeT_out {r : Option VF} {v : AV} {o row : Bool} {ty sz q n : Nat} {l : List (List AC)} (h : seeT r = some (v, [some (o, row, ty, sz, q, l)], n, true, [])) : ∃ f b, r = some (v, [some ⟨o, row, ty, sz, .arr q f⟩], n, b, []) ∧ allT b ∧ (List.range q).map f = l := by
  unfold seeT at h
  split at h
  · rename_i r
    obtain ⟨v', bs, n', ob, po⟩ := r
    simp only [Option.some.injEq, Prod.mk.injEq] at h
    obtain ⟨rfl, h2, rfl, h4, rfl⟩ := h
    match bs, h2 with
    | [x], h2 =>
      simp only [List.map_cons, List.map_nil, List.cons.injEq, and_true] at h2
      unfold obsB at h2
      split at h2
      · rename_i o' r' t' sz' q' f'
        simp only [Option.some.injEq, Prod.mk.injEq] at h2
        obtain ⟨rfl, rfl, rfl, rfl, rfl, rfl⟩ := h2
        exact ⟨f', ob, rfl, fun b hb => List.all_eq_true.1 h4 b hb, rfl⟩
      · cases h2
    | [], h2 => simp at h2
    | _ :: _ :: _, h2 => simp at h2
  · cases h
end Go.Proofs.YtpgaplcdbbnblaaGreatDoor
end
