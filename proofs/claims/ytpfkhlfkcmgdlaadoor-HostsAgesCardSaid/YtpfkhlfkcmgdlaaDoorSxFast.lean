/- The symbolic evaluator, with the next name and the stride as arguments of their own (so that the kernel has them as numerals): it finds nothing that the other one doesn't. No Go text is in sight. -/
import Derived.Test.YtpfkhlfkcmgdlaaDoorSxSound4
set_option linter.unusedSimpArgs false
set_option linter.unusedVariables false
namespace Go.Proofs.YtpfkhlfkcmgdlaaDoor
open Go.RowKit

def St.at_ (s : St) (n str : Nat) : St := { s with n := n, str := str }
def inR' (b str : Nat) : AMem → Bool
  | [] => true
  | (i, _) :: r => (Nat.ble b i && Nat.blt i (b + str)) && inR' b str r
def allOwn : AMem → Bool
  | [] => true
  | (_, b) :: r => b.own && allOwn r
abbrev CF := FuncId → List AV → Nat → Nat → St → Option (AV × Nat × St)
abbrev CY := Nat → List AV → Nat → Nat → St → Option (AV × Nat × St)
abbrev CR := Code → Nat → Nat → St → Option (Exit × Nat × St)

def fCallA (E : Env) (cf : CF) (f : FuncId) (args : List AV) (n str : Nat) (s : St) : Option (AV × Nat × St) :=
  match ctLook E.ct f args s.m n with
  | some (r, news, k, ob) => match Nat.ble (n + k) lim, s.need ob with | true, some s => some (r, n + k, { s with m := s.m ++ news }) | _, _ => none
  | none => cf f args n str s
def fOpS (E : Env) (cf : CF) (yf : CY) (ops : Array Oper) (o : Oper) (n str : Nat) (s : St) : Option (Nat × St) :=
  match guardA ops o s with
  | none => none
  | some (false, s) => some (n, s.put o.dst (.c (.v undef)))
  | some (true, s) =>
    match Nat.ble (n + 1) lim, aop E.P s.tm s.m n o.op with
    | true, some (.eff v news ob) => match s.need ob with | some s => some (n + 1, { s with m := s.m ++ news }.put o.dst v) | none => none
    | true, some (.upd v e ob) => match updOp o.op, s.need ob with | true, some s => some (n + 1, { s with m := e.on s.m }.put o.dst v) | _, _ => none
    | true, some (.call f args) => match callOp o.op, fCallA E cf f args n str s with | true, some (v, n', s) => some (n', s.put o.dst v) | _, _ => none
    | true, some (.yld id args) => match callOp o.op, yf id args n str s with | true, some (v, n', s) => some (n', s.put o.dst v) | _, _ => none
    | _, _ => none
def fOpsS (E : Env) (cf : CF) (yf : CY) (ops : Array Oper) : List Oper → Nat → Nat → St → Option (Nat × St)
  | [], n, _, s => some (n, s)
  | o :: r, n, str, s => match fOpS E cf yf ops o n str s with | some (n, s) => fOpsS E cf yf ops r n str s | none => none
def fOpQ (E : Env) (cf : CF) (ops : Array Oper) (o : Oper) (mi : AMem) (b str : Nat) (s : St) : Option (AV × AMem × St) :=
  match guardA ops o s with
  | none => none
  | some (false, s) => some (.c (.v undef), [], s)
  | some (true, s) =>
    match Nat.ble (b + str) lim && Nat.ble 1 str, aop E.P (mask (o.looksAt ops) 0 s.tm) mi b o.op with
    | true, some (.eff v news ob) => match inR' b str news, s.need ob with | true, some s => some (v, news, s) | _, _ => none
    | true, some (.call f args) =>
      match callOp o.op, ctLook E.ct f args mi b with
      | true, some (r, news, k, ob) => match Nat.ble k str && inR' b str news, s.need ob with | true, some s => some (r, news, s) | _, _ => none
      | true, none =>
        match cf f args b (str / 100000000) { s with m := roM mi, ms := [], rd := none } with
        | some (r, n', s') =>
          match Nat.ble n' (b + str) && (inR' b str (fromN b s'.m) && allOwn (fromN b s'.m)) with
          | true => some (r, fromN b s'.m, { s with path := s'.path, lp := s'.lp, ob := s'.ob, po := s'.po })
          | false => none
        | none => none
      | _, _ => none
    | _, _ => none
def fOpsQ (E : Env) (cf : CF) (ops : Array Oper) (n0 str : Nat) : List Oper → Nat → List (Nat × AMem) → St → Option (List (Nat × AMem) × St)
  | [], _, acc, s => some (acc, s)
  | o :: r, i, acc, s =>
    match fOpQ E cf ops o (s.m ++ newsOf ops i acc) (n0 + i * str) str s with
    | some (v, news, s) => fOpsQ E cf ops n0 str r (i + 1) (acc ++ [(i, news)]) (s.put o.dst v)
    | none => none
def fRegD (E : Env) (cf : CF) (yf : CY) (ops : Array Oper) (n str : Nat) (s : St) : Option (Nat × St) :=
  match drawOk ops (quietLen ops.toList) with
  | true =>
    match fOpsQ E cf ops n str (ops.toList.take (quietLen ops.toList)) 0 [] s with
    | some (acc, s') => fOpsS E cf yf ops (ops.toList.drop (quietLen ops.toList)) (n + quietLen ops.toList * str) str { s' with m := s'.m ++ newsAll acc }
    | none => none
  | false => none
def fOpW (E : Env) (cf : CF) (ops : Array Oper) (o : Oper) (mi : AMem) (b str : Nat) (s : St) : Option (AV × AStep × St) :=
  match guardA ops o s with
  | none => none
  | some (false, s) => some (.c (.v undef), .news [], s)
  | some (true, s) =>
    match Nat.ble (b + str) lim && Nat.ble 1 str, aop E.P (mask (o.looksAt ops) 0 s.tm) mi b o.op with
    | true, some (.call f args) =>
      match callOp o.op, ctLook E.ct f args mi b with
      | true, some (r, news, k, ob) => match Nat.ble k str && inR' b str news, s.need ob with | true, some s => some (r, .news news, s) | _, _ => none
      | true, none =>
        match cf f args b (str / 100000000) { s with m := woM mi, ms := [], rd := none } with
        | some (r, n', s') =>
          match Nat.ble n' (b + str) && (inR' b str (fromN b s'.m) && allOwn (fromN b s'.m)) with
          | true => some (r, .many (putsW s'.m (woM mi)) (fromN b s'.m), { s with path := s'.path, lp := s'.lp, ob := s'.ob, po := s'.po })
          | false => none
        | none => none
      | _, _ => none
    | _, _ => none
def fOpE (E : Env) (cf : CF) (wm : Bool) (ops : Array Oper) (o : Oper) (mi : AMem) (b str : Nat) (s : St) : Option (AV × AStep × St) :=
  match updOp o.op with
  | false =>
    match wm && wrCall E.P o.op with
    | false => match fOpQ E cf ops o mi b str s with | some (v, l, s) => some (v, .news l, s) | none => none
    | true => fOpW E cf ops o mi b str s
  | true =>
    match guardA ops o s with
    | none => none
    | some (false, s) => some (.c (.v undef), .news [], s)
    | some (true, s) =>
      match Nat.ble (b + str) lim && Nat.ble 1 str, aop E.P (mask (o.looksAt ops) 0 s.tm) mi b o.op with
      | true, some (.eff v l ob) => match inR' b str l, s.need ob with | true, some s => some (v, .news l, s) | _, _ => none
      | true, some (.upd v e ob) => match efxNe b e, s.need ob with | true, some s => some (v, .efx e, s) | _, _ => none
      | _, _ => none
def fOpsE (E : Env) (cf : CF) (wm : Bool) (ops : Array Oper) (vis : Nat → AMem → AMem) (n0 str : Nat) : List Oper → Nat → List (Nat × Nat) → St → Option (List (Nat × Nat) × St)
  | [], _, acc, s => some (acc, s)
  | o :: r, i, acc, s =>
    match fOpE E cf wm ops o (vis i s.m) (n0 + i * str) str s with
    | some (v, z, s) => fOpsE E cf wm ops vis n0 str r (i + 1) (acc ++ tidsOf i z) ({ s with m := z.on s.m }.put o.dst v)
    | none => none
def fRegE (E : Env) (cf : CF) (ops : Array Oper) (n str : Nat) (s : St) : Option (Nat × St) :=
  match drawE ops, fOpsE E cf false ops (filtE ops [] n str) n str ops.toList 0 [] s with
  | true, some (ts, _) =>
    match fOpsE E cf false ops (filtE ops ts n str) n str ops.toList 0 [] s with
    | some (ts', s') => match eqP ts' ts && chainE ops ts with | true => some (n + ops.size * str, s') | false => none
    | none => none
  | _, _ => none
def fRegW (E : Env) (cf : CF) (ops : Array Oper) (n str : Nat) (s : St) : Option (Nat × St) :=
  match fOpsE E cf true ops (visW ops n str) n str ops.toList 0 [] s with
  | some (_, s') => some (n + ops.size * str, s')
  | none => none
def fRegX (E : Env) (cf : CF) (yf : CY) (ops : Array Oper) (n str : Nat) (s : St) : Option (Nat × St) :=
  match wOk E.P ops with
  | true => fRegW E cf ops n str s
  | false =>
    match drawOk ops (quietLen ops.toList) with
    | true => fRegD E cf yf ops n str s
    | false => fRegE E cf ops n str s
def fCallF (E : Env) (run : CR) (f : FuncId) (args : List AV) (n str : Nat) (s : St) : Option (AV × Nat × St) :=
  match E.P.funcs[f]? with
  | some fn =>
    match fn.body with
    | some c =>
      match run c n str { s with tm := args ++ List.replicate (fn.ntmps - args.length) (.c (.v undef)), ms := [], rd := none } with
      | some (.ret, n', s') => match endF E.P fn s s' with | some (v, s') => some (v, n', s') | none => none
      | some (.normal, n', s') => match endF E.P fn s s' with | some (v, s') => some (v, n', s') | none => none
      | _ => none
    | none => none
  | none => none
def fYieldS (run : CR) (id : Nat) (args : List AV) (n str : Nat) (s : St) : Option (AV × Nat × St) :=
  match look s.m id with
  | some x =>
    match x.cs with
    | .obj (.loop _ _ tm ps as bd _) =>
      match Nat.beq args.length ps.size with
      | true =>
        match run as n str { s with tm := setPs ps.toList args tm, ms := [], rd := some id } with
        | some (.normal, n1, s1) =>
          match look s1.m id with
          | some x1 =>
            match x1.cs with
            | .obj (.loop .ready pd1 tm1 ps1 as1 bd1 dn1) =>
              match run bd n1 str { s1 with m := updM s1.m id { x1 with cs := .obj (.loop .busy pd1 tm1 ps1 as1 bd1 dn1) } } with
              | some (e, n2, s2) => match endY id e s s2 with | some (v, s') => some (v, n2, s') | none => none
              | none => none
            | _ => none
          | none => none
        | _ => none
      | false => none
    | _ => none
  | none => none
def fEnterA (n : Nat) (s : St) (ps : Array Tmp) (as bd : Code) : Option (AMem × List Nat) :=
  match s.rd with
  | none => some (s.m ++ [(n, oblk (.dfr true))] ++ [(n + 1, oblk (.loop .ready none s.tm ps as bd n))], n :: s.ms)
  | some r =>
    match look s.m r with
    | some x => match x.cs with | .obj (.loop _ _ _ _ _ _ dn) => some (s.m ++ [(n + 1, oblk (.loop .ready none s.tm ps as bd dn))], s.ms) | _ => none
    | none => none
def fC (E : Env) : Nat → Code → Nat → Nat → St → Option (Exit × Nat × St)
  | 0, _, _, _, _ => none
  | g + 1, c, n, str, s =>
    match c with
    | .skip => some (.normal, n, s)
    | .label _ => some (.normal, n, s)
    | .region _ ops d =>
      match d with
      | false => match fOpsS E (fCallF E (fC E g)) (fYieldS (fC E g)) ops ops.toList n str s with | some (n, s) => some (.normal, n, s) | none => none
      | true => match fRegX E (fCallF E (fC E g)) (fYieldS (fC E g)) ops n str s with | some (n, s) => some (.normal, n, s) | none => none
    | .seq a b =>
      match fC E g a n str s with
      | some (.normal, n, s) => fC E g b n str s
      | r => r
    | .cond (.tmp t) a b =>
      match s.tm[t]? with
      | some (.c (.v (.bool x))) => match s.dec t x with | some (true, s) => fC E g a n str s | some (false, s) => fC E g b n str s | none => none
      | _ => none
    | .cond (.const (.bool x)) a b => match x with | true => fC E g a n str s | false => fC E g b n str s
    | .block id a =>
      match fC E g a n str s with
      | some (.exit id', n, s) => match Nat.beq id' id with | true => some (.normal, n, s) | false => some (.exit id', n, s)
      | r => r
    | .loop a =>
      match s.lp with
      | some ⟨slots, ids, tm, m, k, e⟩ :: p =>
        match Nat.ble n k && Nat.ble k lim with
        | true => some (e, k, { s with tm := tm, m := m, lp := p, po := LoopV E.P a slots ids (slots.map fun t => s.tm[t]?) (ids.map (look s.m)) s.tm.length n tm m k e s.rd :: s.po })
        | false => none
      | none :: p => match fC E g a n str { s with lp := p } with | some (.normal, n, s) => fC E g (.loop a) n str { s with lp := none :: s.lp } | r => r
      | [] => match fC E g a n str s with | some (.normal, n, s) => fC E g (.loop a) n str s | r => r
    | .exit id => some (.exit id, n, s)
    | .ret => some (.ret, n, s)
    | .rangeFunc f ps as bd =>
      match Nat.ble (n + 2) lim, evA s.tm s.m f, fEnterA n s ps as bd with
      | true, some v, some (m', ms') =>
        match aCall [.c (.yld (n + 1))] v with
        | some (.call g' args) =>
          match fCallF E (fC E g) g' args (n + 2) str { s with m := m' } with
          | some (_, n1, s1) => match leaveA (n + 1) { s1 with ms := ms' } with | some (e, s') => some (e, n1, s') | none => none
          | none => none
        | _ => none
      | _, _, _ => none
    | _ => none

section
variable {E : Env}
theorem inR_eq (b str : Nat) : ∀ l : AMem, inR' b str l = inR b str l
  | [] => rfl
  | (i, x) :: r => by simp only [inR', inR, List.all_cons]; rw [inR_eq b str r]; rfl
theorem allOwn_eq : ∀ l : AMem, allOwn l = l.all (fun x => x.2.own)
  | [] => rfl
  | (i, x) :: r => by simp only [allOwn, List.all_cons]; rw [allOwn_eq r]
theorem need_at {s s' : St} {l : List Bool} {n str : Nat} (h : s.need l = some s') : (s.at_ n str).need l = some (s'.at_ n str) := by
  obtain ⟨tm, m, n0, str0, sk, path, ob, po, ms0, rd0, lp0⟩ := s
  cases sk with
  | true =>
    simp only [St.need, St.at_] at h ⊢
    split at h
    · rename_i hl; cases h; rfl
    · cases h
  | false =>
    simp only [St.need, St.at_, Option.some.injEq] at h ⊢
    subst h; rfl
theorem dec_at {s s' : St} {t : Tmp} {b d : Bool} {n str : Nat} (h : s.dec t b = some (d, s')) : (s.at_ n str).dec t b = some (d, s'.at_ n str) := by
  obtain ⟨tm, m, n0, str0, sk, path, ob, po, ms0, rd0, lp0⟩ := s
  cases path with
  | nil => cases b <;> (simp only [St.dec, St.at_, Option.some.injEq, Prod.mk.injEq] at h ⊢; obtain ⟨rfl, rfl⟩ := h; exact ⟨rfl, rfl⟩)
  | cons q r =>
    cases q with
    | b d' => simp only [St.dec, St.at_, Option.some.injEq, Prod.mk.injEq] at h ⊢; obtain ⟨rfl, rfl⟩ := h; exact ⟨rfl, rfl⟩
    | _ => cases b <;> (simp only [St.dec, St.at_, Option.some.injEq, Prod.mk.injEq] at h ⊢; obtain ⟨rfl, rfl⟩ := h; exact ⟨rfl, rfl⟩)
theorem guard_at {ops : Array Oper} {o : Oper} {s s' : St} {d : Bool} {n str : Nat} (h : guardA ops o s = some (d, s')) : guardA ops o (s.at_ n str) = some (d, s'.at_ n str) := by
  unfold guardA at h ⊢
  split at h
  · cases h; rfl
  · rename_i j want hg
    split at h
    · cases h; rfl
    · rename_i t hd
      have htm : (s.at_ n str).tm = s.tm := rfl
      rw [htm]
      split at h
      · rename_i b hb
        split at h
        · rename_i d' s'' hdec
          rw [dec_at hdec]
          cases h; rfl
        · cases h
      · rename_i vs hb
        cases h; rfl
      · cases h
def SimY (yf : CY) (yf0 : Nat → List AV → St → Option (AV × St)) : Prop :=
  ∀ id args n str s r n' s', yf id args n str s = some (r, n', s') → yf0 id args (s.at_ n str) = some (r, s'.at_ n' str)
def SimF (cf : CF) (cf0 : FuncId → List AV → St → Option (AV × St)) : Prop :=
  ∀ f args n str s r n' s', cf f args n str s = some (r, n', s') → cf0 f args (s.at_ n str) = some (r, s'.at_ n' str)
theorem callA_sim {cf : CF} {cf0 : FuncId → List AV → St → Option (AV × St)} (h : SimF cf cf0) : SimF (fCallA E cf) (callA E cf0) := by
  intro f args n str s r n' s' hh
  unfold fCallA at hh
  unfold callA
  have e1 : (s.at_ n str).m = s.m := rfl
  have e2 : (s.at_ n str).n = n := rfl
  rw [e1, e2]
  split at hh
  · rename_i r' news k ob hct
    rw [hct]
    simp only
    split at hh
    · rename_i s1 hle hneed
      rw [hle, need_at hneed]
      cases hh; rfl
    · cases hh
  · rename_i hct
    rw [hct]
    exact h _ _ _ _ _ _ _ _ hh
theorem opS_sim {cf : CF} {cf0 : FuncId → List AV → St → Option (AV × St)} {yf : CY} {yf0 : Nat → List AV → St → Option (AV × St)} (hcf : SimF cf cf0) (hyf : SimY yf yf0) {ops : Array Oper} {o : Oper} {n str n' : Nat} {s s' : St} (h : fOpS E cf yf ops o n str s = some (n', s')) :
    opS E cf0 yf0 ops o (s.at_ n str) = some (s'.at_ n' str) := by
  unfold fOpS at h
  unfold opS
  split at h
  · cases h
  · rename_i s1 hg
    rw [guard_at hg]
    cases h; rfl
  · rename_i s1 hg
    rw [guard_at hg]
    simp only
    have e1 : (s1.at_ n str).m = s1.m := rfl
    have e2 : (s1.at_ n str).n = n := rfl
    have e3 : (s1.at_ n str).tm = s1.tm := rfl
    rw [e1, e2, e3]
    split at h
    · rename_i v news ob hle haop
      rw [hle, haop]
      simp only
      split at h
      · rename_i s2 hneed
        rw [need_at hneed]
        cases h; rfl
      · cases h
    · rename_i v m' ob hle haop
      rw [hle, haop]
      simp only
      split at h
      · rename_i s2 hup hneed
        rw [hup, need_at hneed]
        cases h; rfl
      · cases h
    · rename_i f args hle haop
      rw [hle, haop]
      simp only
      split at h
      · rename_i v n2 s2 hco hcall
        rw [hco, callA_sim hcf _ _ _ _ _ _ _ _ hcall]
        cases h; rfl
      · cases h
    · rename_i id args hle haop
      rw [hle, haop]
      simp only
      split at h
      · rename_i v n2 s2 hco hcall
        rw [hco, hyf _ _ _ _ _ _ _ _ hcall]
        cases h; rfl
      · cases h
    · cases h
theorem opsS_sim {cf : CF} {cf0 : FuncId → List AV → St → Option (AV × St)} {yf : CY} {yf0 : Nat → List AV → St → Option (AV × St)} (hcf : SimF cf cf0) (hyf : SimY yf yf0) {ops : Array Oper} : ∀ {l : List Oper} {n str n' : Nat} {s s' : St}, fOpsS E cf yf ops l n str s = some (n', s') → opsS E cf0 yf0 ops l (s.at_ n str) = some (s'.at_ n' str)
  | [], n, str, n', s, s', h => by simp only [fOpsS, Option.some.injEq, Prod.mk.injEq] at h; obtain ⟨rfl, rfl⟩ := h; rfl
  | o :: r, n, str, n', s, s', h => by
    simp only [fOpsS] at h
    simp only [opsS]
    split at h
    · rename_i n1 s1 h1
      rw [opS_sim hcf hyf h1]
      exact opsS_sim hcf hyf h
    · cases h
theorem opQ_sim {cf : CF} {cf0 : FuncId → List AV → St → Option (AV × St)} (hcf : SimF cf cf0) {ops : Array Oper} {o : Oper} {i n0 b str : Nat} {mi news : AMem} {v : AV} {s s' : St} (h : fOpQ E cf ops o mi b str s = some (v, news, s')) :
    opQ E cf0 ops i o mi b (s.at_ n0 str) = some (v, news, s'.at_ n0 str) := by
  unfold fOpQ at h
  unfold opQ
  split at h
  · cases h
  · rename_i s1 hg
    rw [guard_at hg]
    cases h; rfl
  · rename_i s1 hg
    rw [guard_at hg]
    simp only
    have e1 : (s1.at_ n0 str).str = str := rfl
    have e3 : (s1.at_ n0 str).tm = s1.tm := rfl
    rw [e1, e3]
    split at h
    · rename_i v' news' ob hle haop
      rw [hle, haop]
      simp only
      split at h
      · rename_i s2 hin hneed
        rw [inR_eq] at hin
        rw [hin, need_at hneed]
        cases h; rfl
      · cases h
    · rename_i f args hle haop
      rw [hle, haop]
      simp only
      split at h
      · rename_i r news' k ob hco hct
        rw [hco, hct]
        simp only
        split at h
        · rename_i s2 hin hneed
          rw [inR_eq] at hin
          rw [hin, need_at hneed]
          cases h; rfl
        · cases h
      · rename_i hco hct
        rw [hco, hct]
        simp only
        split at h
        · rename_i r n2 s2 hcall
          have := hcf _ _ _ _ _ _ _ _ hcall
          obtain ⟨tm1, m1, n1, str1, sk1, path1, ob1, po1, ms1, rd1, lp1⟩ := s1
          simp only [St.at_] at this ⊢
          rw [this]
          simp only
          split at h
          · rename_i hc
            rw [inR_eq, allOwn_eq] at hc
            rw [hc]
            cases h; rfl
          · cases h
        · cases h
      · cases h
    · cases h
theorem opsQ_sim {cf : CF} {cf0 : FuncId → List AV → St → Option (AV × St)} (hcf : SimF cf cf0) {ops : Array Oper} {n0 str : Nat} : ∀ {l : List Oper} {i : Nat} {acc acc' : List (Nat × AMem)} {s s' : St}, fOpsQ E cf ops n0 str l i acc s = some (acc', s') →
    opsQ E cf0 ops n0 l i acc (s.at_ n0 str) = some (acc', s'.at_ n0 str)
  | [], i, acc, acc', s, s', h => by simp only [fOpsQ, Option.some.injEq, Prod.mk.injEq] at h; obtain ⟨rfl, rfl⟩ := h; rfl
  | o :: r, i, acc, acc', s, s', h => by
    simp only [fOpsQ] at h
    simp only [opsQ]
    have e1 : (s.at_ n0 str).str = str := rfl
    have e2 : (s.at_ n0 str).m = s.m := rfl
    rw [e1, e2]
    split at h
    · rename_i v news s1 h1
      rw [opQ_sim hcf h1]
      exact opsQ_sim hcf h
    · cases h
theorem regD_sim {cf : CF} {cf0 : FuncId → List AV → St → Option (AV × St)} {yf : CY} {yf0 : Nat → List AV → St → Option (AV × St)} (hcf : SimF cf cf0) (hyf : SimY yf yf0) {ops : Array Oper} {n str n' : Nat} {s s' : St} (h : fRegD E cf yf ops n str s = some (n', s')) : regD E cf0 yf0 ops (s.at_ n str) = some (s'.at_ n' str) := by
  unfold fRegD at h
  unfold regD
  have e1 : (s.at_ n str).n = n := rfl
  rw [e1]
  split at h
  · rename_i hok
    rw [hok]
    simp only
    split at h
    · rename_i acc s1 hq
      rw [opsQ_sim hcf hq]
      exact opsS_sim hcf hyf h
    · cases h
  · cases h
theorem opW_sim {cf : CF} {cf0 : FuncId → List AV → St → Option (AV × St)} (hcf : SimF cf cf0) {ops : Array Oper} {o : Oper} {n0 b str : Nat} {mi : AMem} {z : AStep} {v : AV} {s s' : St} (h : fOpW E cf ops o mi b str s = some (v, z, s')) :
    opW E cf0 ops o mi b (s.at_ n0 str) = some (v, z, s'.at_ n0 str) := by
  unfold fOpW at h
  unfold opW
  split at h
  · cases h
  · rename_i s1 hg
    rw [guard_at hg]
    cases h; rfl
  · rename_i s1 hg
    rw [guard_at hg]
    simp only
    have e1 : (s1.at_ n0 str).str = str := rfl
    have e3 : (s1.at_ n0 str).tm = s1.tm := rfl
    rw [e1, e3]
    split at h
    · rename_i f args hle haop
      rw [hle, haop]
      simp only
      split at h
      · rename_i r news' k ob hco hct
        rw [hco, hct]
        simp only
        split at h
        · rename_i s2 hin hneed
          rw [inR_eq] at hin
          rw [hin, need_at hneed]
          cases h; rfl
        · cases h
      · rename_i hco hct
        rw [hco, hct]
        simp only
        split at h
        · rename_i r n2 s2 hcall
          have := hcf _ _ _ _ _ _ _ _ hcall
          obtain ⟨tm1, m1, n1, str1, sk1, path1, ob1, po1, ms1, rd1, lp1⟩ := s1
          simp only [St.at_] at this ⊢
          rw [this]
          simp only
          split at h
          · rename_i hc
            rw [inR_eq, allOwn_eq] at hc
            rw [hc]
            cases h; rfl
          · cases h
        · cases h
      · cases h
    · cases h
theorem opE_sim {cf : CF} {cf0 : FuncId → List AV → St → Option (AV × St)} (hcf : SimF cf cf0) {wm : Bool} {ops : Array Oper} {o : Oper} {i n0 b str : Nat} {mi : AMem} {z : AStep} {v : AV} {s s' : St} (h : fOpE E cf wm ops o mi b str s = some (v, z, s')) :
    opE E cf0 wm ops i o mi b (s.at_ n0 str) = some (v, z, s'.at_ n0 str) := by
  unfold fOpE at h
  unfold opE
  split at h
  · rename_i hu
    try rw [hu]
    try simp only
    split at h
    · rename_i hw
      try rw [hw]
      try simp only
      split at h
      · rename_i v' l s1 hq
        rw [opQ_sim hcf hq]
        cases h; rfl
      · cases h
    · rename_i hw
      try rw [hw]
      try simp only
      exact opW_sim hcf h
  · rename_i hu
    try rw [hu]
    try simp only
    split at h
    · cases h
    · rename_i s1 hg
      rw [guard_at hg]
      cases h; rfl
    · rename_i s1 hg
      rw [guard_at hg]
      simp only
      have e1 : (s1.at_ n0 str).str = str := rfl
      have e3 : (s1.at_ n0 str).tm = s1.tm := rfl
      rw [e1, e3]
      split at h
      · rename_i v' l ob hle haop
        rw [hle, haop]
        simp only
        split at h
        · rename_i s2 hin hneed
          rw [inR_eq] at hin
          rw [hin, need_at hneed]
          cases h; rfl
        · cases h
      · rename_i v' e ob hle haop
        rw [hle, haop]
        simp only
        split at h
        · rename_i s2 hne hneed
          rw [hne, need_at hneed]
          cases h; rfl
        · cases h
      · cases h
theorem opsE_sim {cf : CF} {cf0 : FuncId → List AV → St → Option (AV × St)} (hcf : SimF cf cf0) {wm : Bool} {ops : Array Oper} {vis : Nat → AMem → AMem} {n0 str : Nat} : ∀ {l : List Oper} {i : Nat} {acc acc' : List (Nat × Nat)} {s s' : St}, fOpsE E cf wm ops vis n0 str l i acc s = some (acc', s') →
    opsE E cf0 wm ops vis n0 l i acc (s.at_ n0 str) = some (acc', s'.at_ n0 str)
  | [], i, acc, acc', s, s', h => by simp only [fOpsE, Option.some.injEq, Prod.mk.injEq] at h; obtain ⟨rfl, rfl⟩ := h; rfl
  | o :: r, i, acc, acc', s, s', h => by
    simp only [fOpsE] at h
    simp only [opsE]
    have e1 : (s.at_ n0 str).str = str := rfl
    have e2 : (s.at_ n0 str).m = s.m := rfl
    rw [e1, e2]
    split at h
    · rename_i v z s1 h1
      rw [opE_sim hcf h1]
      exact opsE_sim hcf h
    · cases h
theorem regX_sim {cf : CF} {cf0 : FuncId → List AV → St → Option (AV × St)} {yf : CY} {yf0 : Nat → List AV → St → Option (AV × St)} (hcf : SimF cf cf0) (hyf : SimY yf yf0) {ops : Array Oper} {n str n' : Nat} {s s' : St} (h : fRegX E cf yf ops n str s = some (n', s')) : regX E cf0 yf0 ops (s.at_ n str) = some (s'.at_ n' str) := by
  unfold fRegX at h
  unfold regX
  split at h
  · rename_i hw
    try rw [hw]
    try simp only
    unfold fRegW at h
    unfold regW
    have e1 : (s.at_ n str).n = n := rfl
    have e2 : (s.at_ n str).str = str := rfl
    rw [e1, e2]
    split at h
    · rename_i ts s1 h1
      rw [opsE_sim hcf h1]
      cases h; rfl
    · cases h
  · rename_i hw
    try rw [hw]
    try simp only
    split at h
    · rename_i hd
      try rw [hd]
      exact regD_sim hcf hyf h
    · rename_i hd
      try rw [hd]
      simp only
      unfold fRegE at h
      unfold regE
      have e1 : (s.at_ n str).n = n := rfl
      have e2 : (s.at_ n str).str = str := rfl
      rw [e1, e2]
      split at h
      · rename_i ts s1 hok h1
        rw [hok, opsE_sim hcf h1]
        simp only
        split at h
        · rename_i ts' s2 h2
          rw [opsE_sim hcf h2]
          simp only
          split at h
          · rename_i hc
            rw [hc]
            cases h; rfl
          · cases h
        · cases h
      · cases h
theorem endF_at {P : Program} {fn : Func} {s s' s2 : St} {v : AV} {n n0 str str0 : Nat} (h : endF P fn s s' = some (v, s2)) : endF P fn (s.at_ n0 str0) (s'.at_ n str) = some (v, s2.at_ n str) := by
  unfold endF at h ⊢
  have e1 : (s'.at_ n str).ms = s'.ms := rfl
  have e2 : (s'.at_ n str).m = s'.m := rfl
  have e3 : (s'.at_ n str).tm = s'.tm := rfl
  rw [e1, e2, e3]
  split at h
  · rename_i m hm
    try rw [hm]
    try simp only
    split at h
    · rename_i l ob hl
      try rw [hl]
      try simp only
      split at h
      · rename_i s3 hneed
        rw [need_at hneed]
        cases h; rfl
      · cases h
    · cases h
  · cases h
theorem callF_sim {run : CR} {run0 : Code → St → Option (Exit × St)} (hr : ∀ c n str s e n' s', run c n str s = some (e, n', s') → run0 c (s.at_ n str) = some (e, s'.at_ n' str)) : SimF (fCallF E run) (callF E run0) := by
  intro f args n str s r n' s' h
  unfold fCallF at h
  unfold callF
  split at h
  · rename_i fn hfn
    rw [hfn]
    try simp only
    split at h
    · rename_i c hc
      try rw [hc]
      try simp only
      split at h
      · rename_i n1 s1 hr1
        have hr2 := hr _ _ _ _ _ _ _ hr1
        simp only [St.at_] at hr2 ⊢
        rw [hr2]
        try simp only
        split at h
        · rename_i v s2 he
          cases h
          exact endF_at he
        · cases h
      · rename_i n1 s1 hr1
        have hr2 := hr _ _ _ _ _ _ _ hr1
        simp only [St.at_] at hr2 ⊢
        rw [hr2]
        try simp only
        split at h
        · rename_i v s2 he
          cases h
          exact endF_at he
        · cases h
      · cases h
    · cases h
  · cases h
theorem endY_at {id : Nat} {e : Exit} {s s' s2 : St} {v : AV} {n n0 str str0 : Nat} (h : endY id e s s' = some (v, s2)) : endY id e (s.at_ n0 str0) (s'.at_ n str) = some (v, s2.at_ n str) := by
  unfold endY at h ⊢
  have e2 : (s'.at_ n str).m = s'.m := rfl
  rw [e2]
  split at h
  · rename_i j x hj hx
    try rw [hj, hx]
    try simp only
    split at h
    · rename_i hc
      try rw [hc]
      cases h; rfl
    · cases h
  · cases h
theorem leaveA_at {l : Nat} {e : Exit} {s s2 : St} {n str : Nat} (h : leaveA l s = some (e, s2)) : leaveA l (s.at_ n str) = some (e, s2.at_ n str) := by
  unfold leaveA at h ⊢
  have e2 : (s.at_ n str).m = s.m := rfl
  rw [e2]
  split at h
  · rename_i x hx
    try rw [hx]
    try simp only
    split at h
    · cases h
    · rename_i st pd tm ps as bd dn hne hc
      try rw [hc]
      cases st with
      | busy => exact (hne rfl).elim
      | _ =>
        try simp only
        split at h
        · cases h; rfl
        · cases h; rfl
        · cases h; rfl
        · cases h
    · cases h
  · cases h
theorem yieldS_sim {run : CR} {run0 : Code → St → Option (Exit × St)} (hr : ∀ c n str s e n' s', run c n str s = some (e, n', s') → run0 c (s.at_ n str) = some (e, s'.at_ n' str)) : SimY (fYieldS run) (yieldS run0) := by
  intro id args n str s r n' s' h
  unfold fYieldS at h
  unfold yieldS
  have e2 : (s.at_ n str).m = s.m := rfl
  rw [e2]
  split at h
  · rename_i x hx
    try rw [hx]
    try simp only
    split at h
    · rename_i hc
      try rw [hc]
      try simp only
      split at h
      · rename_i hlen
        try rw [hlen]
        try simp only
        split at h
        · rename_i n1 s1 h1
          have k1 := hr _ _ _ _ _ _ _ h1
          simp only [St.at_] at k1 ⊢
          rw [k1]
          try simp only
          split at h
          · rename_i x1 hx1
            try rw [hx1]
            try simp only
            split at h
            · rename_i hc1
              try rw [hc1]
              try simp only
              split at h
              · rename_i e n2 s2 h2
                have k2 := hr _ _ _ _ _ _ _ h2
                simp only [St.at_] at k2
                rw [k2]
                try simp only
                split at h
                · rename_i v s3 he
                  cases h
                  exact endY_at he
                · cases h
              · cases h
            · cases h
          · cases h
        · cases h
      · cases h
    · cases h
  · cases h
theorem enterA_at (n str : Nat) (s : St) (ps : Array Tmp) (as bd : Code) : enterA (s.at_ n str) ps as bd = fEnterA n s ps as bd := rfl
theorem fC_sim : ∀ (g : Nat) (c : Code) (n str : Nat) (s : St) (e : Exit) (n' : Nat) (s' : St), fC E g c n str s = some (e, n', s') → sxC E g c (s.at_ n str) = some (e, s'.at_ n' str) := by
  intro g
  induction g with
  | zero => intro c n str s e n' s' h; cases h
  | succ g ih =>
    have hcf : SimF (fCallF E (fC E g)) (callF E (sxC E g)) := callF_sim ih
    have hyf : SimY (fYieldS (fC E g)) (yieldS (sxC E g)) := yieldS_sim ih
    intro c n str s e n' s' h
    cases c with
    | skip => simp only [fC, Option.some.injEq, Prod.mk.injEq] at h; obtain ⟨rfl, rfl, rfl⟩ := h; rfl
    | label l => simp only [fC, Option.some.injEq, Prod.mk.injEq] at h; obtain ⟨rfl, rfl, rfl⟩ := h; rfl
    | exit l => simp only [fC, Option.some.injEq, Prod.mk.injEq] at h; obtain ⟨rfl, rfl, rfl⟩ := h; rfl
    | ret => simp only [fC, Option.some.injEq, Prod.mk.injEq] at h; obtain ⟨rfl, rfl, rfl⟩ := h; rfl
    | region id ops d =>
      simp only [fC] at h
      simp only [sxC]
      split at h
      · split at h
        · rename_i n1 s1 h1
          simp only [Option.some.injEq, Prod.mk.injEq] at h; obtain ⟨rfl, rfl, rfl⟩ := h
          rw [opsS_sim hcf hyf h1]
        · cases h
      · split at h
        · rename_i n1 s1 h1
          simp only [Option.some.injEq, Prod.mk.injEq] at h; obtain ⟨rfl, rfl, rfl⟩ := h
          rw [regX_sim hcf hyf h1]
        · cases h
    | seq x y =>
      simp only [fC] at h
      simp only [sxC]
      split at h
      · rename_i n1 s1 h1
        rw [ih _ _ _ _ _ _ _ h1]
        exact ih _ _ _ _ _ _ _ h
      · rename_i hne
        rw [ih _ _ _ _ _ _ _ h]
        cases e with
        | normal => exact absurd h (hne _ _)
        | _ => rfl
    | cond c x y =>
      cases c with
      | tmp t =>
        simp only [fC] at h
        simp only [sxC]
        have e3 : (s.at_ n str).tm = s.tm := rfl
        rw [e3]
        split at h
        · rename_i b hb
          rw [hb]
          simp only
          split at h
          · rename_i s1 hd1; rw [dec_at hd1]; exact ih _ _ _ _ _ _ _ h
          · rename_i s1 hd1; rw [dec_at hd1]; exact ih _ _ _ _ _ _ _ h
          · cases h
        · cases h
      | const v =>
        cases v with
        | bool b =>
          simp only [fC] at h
          simp only [sxC]
          split at h
          · exact ih _ _ _ _ _ _ _ h
          · exact ih _ _ _ _ _ _ _ h
        | _ => simp [fC] at h
      | _ => simp [fC] at h
    | block id x =>
      simp only [fC] at h
      simp only [sxC]
      split at h
      · rename_i id' n1 s1 h1
        rw [ih _ _ _ _ _ _ _ h1]
        simp only
        split at h
        · rename_i hid
          simp only [Option.some.injEq, Prod.mk.injEq] at h; obtain ⟨rfl, rfl, rfl⟩ := h
          rw [hid]
        · rename_i hid
          simp only [Option.some.injEq, Prod.mk.injEq] at h; obtain ⟨rfl, rfl, rfl⟩ := h
          rw [hid]
      · rename_i hne
        rw [ih _ _ _ _ _ _ _ h]
        cases e with
        | exit id' => exact absurd h (hne id' _ _)
        | _ => rfl
    | loop x =>
      simp only [fC] at h
      simp only [sxC]
      have e1 : (s.at_ n str).lp = s.lp := rfl
      have e2 : (s.at_ n str).n = n := rfl
      rw [e1, e2]
      split at h
      · rename_i slots ids tm m k e' p hpath
        rw [hpath]
        simp only
        split at h
        · rename_i hle
          rw [hle]
          simp only [Option.some.injEq, Prod.mk.injEq] at h; obtain ⟨rfl, rfl, rfl⟩ := h
          rfl
        · cases h
      · rename_i p hp
        rw [hp]
        simp only
        split at h
        · rename_i n1 s1 h1
          have k1 := ih _ _ _ _ _ _ _ h1
          simp only [St.at_] at k1 ⊢
          rw [k1]
          exact ih _ _ _ _ _ _ _ h
        · rename_i hne
          have k1 := ih _ _ _ _ _ _ _ h
          simp only [St.at_] at k1 ⊢
          rw [k1]
          cases e with
          | normal => exact absurd h (hne _ _)
          | _ => rfl
      · rename_i hp
        rw [hp]
        simp only
        split at h
        · rename_i n1 s1 h1
          rw [ih _ _ _ _ _ _ _ h1]
          exact ih _ _ _ _ _ _ _ h
        · rename_i hne
          rw [ih _ _ _ _ _ _ _ h]
          cases e with
          | normal => exact absurd h (hne _ _)
          | _ => rfl
    | rangeFunc f ps as bd =>
      simp only [fC] at h
      simp only [sxC]
      have e2 : (s.at_ n str).n = n := rfl
      have e3 : (s.at_ n str).tm = s.tm := rfl
      have e4 : (s.at_ n str).m = s.m := rfl
      rw [enterA_at, e2, e3, e4]
      split at h
      · rename_i v m' ms' hle hv hen
        rw [hle, hv, hen]
        simp only
        split at h
        · rename_i g' args hcall
          rw [hcall]
          simp only
          split at h
          · rename_i rv n1 s1 h1
            have k1 := hcf _ _ _ _ _ _ _ _ h1
            simp only [St.at_] at k1 ⊢
            rw [k1]
            simp only
            split at h
            · rename_i e' s2 he
              cases h
              exact leaveA_at he
            · cases h
          · cases h
        · cases h
      · cases h
    | _ => cases h
theorem fCallF_sim {g : Nat} : SimF (fCallF E (fC E g)) (callF E (sxC E g)) := callF_sim (fun _ _ _ _ _ _ _ => fC_sim g _ _ _ _ _ _ _)
end
end Go.Proofs.YtpfkhlfkcmgdlaaDoor
