/- The symbolic evaluator, with the next name and the stride as arguments of their own (so that the kernel has them as numerals): it finds nothing that the other one doesn't. No Go text is in sight. -/
import Derived.Test.YtjmiocacnilchaaSxSound4
set_option linter.unusedSimpArgs false
set_option linter.unusedVariables false
namespace Go.Proofs.Ytjmiocacnilchaa
open Go.RowKit

def St.at_ (s : St) (n str : Nat) : St := { s with n := n, str := str }
def inR' (b str : Nat) : AMem → Bool
  | [] => true
  | (i, _) :: r => (Nat.ble b i && Nat.blt i (b + str)) && inR' b str r
def allOwn : AMem → Bool
  | [] => true
  | (_, b) :: r => b.own && allOwn r
abbrev CF := FuncId → List AV → Nat → Nat → St → Option (AV × Nat × St)
abbrev CR := Code → Nat → Nat → St → Option (Exit × Nat × St)

def fCallA (E : Env) (cf : CF) (f : FuncId) (args : List AV) (n str : Nat) (s : St) : Option (AV × Nat × St) :=
  match ctLook E.ct f args s.m n with
  | some (r, news, k, ob) => match Nat.ble (n + k) lim, s.need ob with | true, some s => some (r, n + k, { s with m := s.m ++ news }) | _, _ => none
  | none => cf f args n str s
def fOpS (E : Env) (cf : CF) (ops : Array Oper) (o : Oper) (n str : Nat) (s : St) : Option (Nat × St) :=
  match guardA ops o s with
  | none => none
  | some (false, s) => some (n, s.put o.dst (.c (.v undef)))
  | some (true, s) =>
    match Nat.ble (n + 1) lim, aop E.P s.tm s.m n o.op with
    | true, some (.eff v news ob) => match s.need ob with | some s => some (n + 1, { s with m := s.m ++ news }.put o.dst v) | none => none
    | true, some (.upd v m ob) => match updOp o.op, s.need ob with | true, some s => some (n + 1, { s with m := m }.put o.dst v) | _, _ => none
    | true, some (.call f args) => match callOp o.op, fCallA E cf f args n str s with | true, some (v, n', s) => some (n', s.put o.dst v) | _, _ => none
    | _, _ => none
def fOpsS (E : Env) (cf : CF) (ops : Array Oper) : List Oper → Nat → Nat → St → Option (Nat × St)
  | [], n, _, s => some (n, s)
  | o :: r, n, str, s => match fOpS E cf ops o n str s with | some (n, s) => fOpsS E cf ops r n str s | none => none
def fOpQ (E : Env) (cf : CF) (ops : Array Oper) (o : Oper) (mi : AMem) (b str : Nat) (s : St) : Option (AV × AMem × St) :=
  match guardA ops o s with
  | none => none
  | some (false, s) => some (.c (.v undef), [], s)
  | some (true, s) =>
    match Nat.ble (b + str) lim && Nat.ble 1 str, aop E.P (mask (o.looksAt ops) 0 s.tm) mi b o.op with
    | true, some (.eff v news ob) => match inR' b str news, s.need ob with | true, some s => some (v, news, s) | _, _ => none
    | true, some (.call f args) =>
      match callOp o.op, ctLook E.ct f args mi b with
      | true, some (r, news, k, ob) => match Nat.ble k str && inR' b str news, s.need ob with | true, some s => some (r, news, s) | _, _ => none
      | true, none =>
        match cf f args b (str / 64) { s with m := roM mi } with
        | some (r, n', s') =>
          match Nat.ble n' (b + str) && (inR' b str (fromN b s'.m) && allOwn (fromN b s'.m)) with
          | true => some (r, fromN b s'.m, { s with path := s'.path, ob := s'.ob, po := s'.po })
          | false => none
        | none => none
      | _, _ => none
    | _, _ => none
def fOpsQ (E : Env) (cf : CF) (ops : Array Oper) (n0 str : Nat) : List Oper → Nat → List (Nat × AMem) → St → Option (List (Nat × AMem) × St)
  | [], _, acc, s => some (acc, s)
  | o :: r, i, acc, s =>
    match fOpQ E cf ops o (s.m ++ newsOf ops i acc) (n0 + i * str) str s with
    | some (v, news, s) => fOpsQ E cf ops n0 str r (i + 1) (acc ++ [(i, news)]) (s.put o.dst v)
    | none => none
def fRegD (E : Env) (cf : CF) (ops : Array Oper) (n str : Nat) (s : St) : Option (Nat × St) :=
  match drawOk ops (quietLen ops.toList) with
  | true =>
    match fOpsQ E cf ops n str (ops.toList.take (quietLen ops.toList)) 0 [] s with
    | some (acc, s') => fOpsS E cf ops (ops.toList.drop (quietLen ops.toList)) (n + quietLen ops.toList * str) str { s' with m := s'.m ++ newsAll acc }
    | none => none
  | false => none
def fCallF (E : Env) (run : CR) (f : FuncId) (args : List AV) (n str : Nat) (s : St) : Option (AV × Nat × St) :=
  match E.P.funcs[f]? with
  | some fn =>
    match fn.body with
    | some c =>
      match run c n str { s with tm := args ++ List.replicate (fn.ntmps - args.length) (.c (.v undef)) } with
      | some (.ret, n', s') =>
        match resA E.P s'.tm s'.m fn.results.toList with
        | some (l, ob) => match s'.need ob with | some s' => some (tupA l, n', { s' with tm := s.tm }) | none => none
        | none => none
      | some (.normal, n', s') =>
        match resA E.P s'.tm s'.m fn.results.toList with
        | some (l, ob) => match s'.need ob with | some s' => some (tupA l, n', { s' with tm := s.tm }) | none => none
        | none => none
      | _ => none
    | none => none
  | none => none
def fC (E : Env) : Nat → Code → Nat → Nat → St → Option (Exit × Nat × St)
  | 0, _, _, _, _ => none
  | g + 1, c, n, str, s =>
    match c with
    | .skip => some (.normal, n, s)
    | .label _ => some (.normal, n, s)
    | .region _ ops d =>
      match d with
      | false => match fOpsS E (fCallF E (fC E g)) ops ops.toList n str s with | some (n, s) => some (.normal, n, s) | none => none
      | true => match fRegD E (fCallF E (fC E g)) ops n str s with | some (n, s) => some (.normal, n, s) | none => none
    | .seq a b =>
      match fC E g a n str s with
      | some (.normal, n, s) => fC E g b n str s
      | r => r
    | .cond (.tmp t) a b =>
      match s.tm[t]? with
      | some (.c (.v (.bool x))) => match s.dec t x with | some (true, s) => fC E g a n str s | some (false, s) => fC E g b n str s | none => none
      | _ => none
    | .cond (.const (.bool x)) a b => match x with | true => fC E g a n str s | false => fC E g b n str s
    | .block id a =>
      match fC E g a n str s with
      | some (.exit id', n, s) => match Nat.beq id' id with | true => some (.normal, n, s) | false => some (.exit id', n, s)
      | r => r
    | .loop a =>
      match s.path with
      | .loop slots ids tm m k e :: p =>
        match Nat.ble n k && Nat.ble k lim with
        | true => some (e, k, { s with tm := tm, m := m, path := p, po := LoopV E.P a slots ids (slots.map fun t => s.tm[t]?) (ids.map (look s.m)) s.tm.length n tm m k e :: s.po })
        | false => none
      | _ => match fC E g a n str s with | some (.normal, n, s) => fC E g (.loop a) n str s | r => r
    | .exit id => some (.exit id, n, s)
    | .ret => some (.ret, n, s)
    | _ => none

section
variable {E : Env}
theorem inR_eq (b str : Nat) : ∀ l : AMem, inR' b str l = inR b str l
  | [] => rfl
  | (i, x) :: r => by simp only [inR', inR, List.all_cons]; rw [inR_eq b str r]; rfl
theorem allOwn_eq : ∀ l : AMem, allOwn l = l.all (fun x => x.2.own)
  | [] => rfl
  | (i, x) :: r => by simp only [allOwn, List.all_cons]; rw [allOwn_eq r]
theorem need_at {s s' : St} {l : List Bool} {n str : Nat} (h : s.need l = some s') : (s.at_ n str).need l = some (s'.at_ n str) := by
  obtain ⟨tm, m, n0, str0, sk, path, ob, po⟩ := s
  cases sk with
  | true =>
    simp only [St.need, St.at_] at h ⊢
    split at h
    · rename_i hl; cases h; rfl
    · cases h
  | false =>
    simp only [St.need, St.at_, Option.some.injEq] at h ⊢
    subst h; rfl
theorem dec_at {s s' : St} {t : Tmp} {b d : Bool} {n str : Nat} (h : s.dec t b = some (d, s')) : (s.at_ n str).dec t b = some (d, s'.at_ n str) := by
  obtain ⟨tm, m, n0, str0, sk, path, ob, po⟩ := s
  cases path with
  | nil => cases b <;> (simp only [St.dec, St.at_, Option.some.injEq, Prod.mk.injEq] at h ⊢; obtain ⟨rfl, rfl⟩ := h; exact ⟨rfl, rfl⟩)
  | cons q r =>
    cases q with
    | b d' => simp only [St.dec, St.at_, Option.some.injEq, Prod.mk.injEq] at h ⊢; obtain ⟨rfl, rfl⟩ := h; exact ⟨rfl, rfl⟩
    | _ => cases b <;> (simp only [St.dec, St.at_, Option.some.injEq, Prod.mk.injEq] at h ⊢; obtain ⟨rfl, rfl⟩ := h; exact ⟨rfl, rfl⟩)
theorem guard_at {ops : Array Oper} {o : Oper} {s s' : St} {d : Bool} {n str : Nat} (h : guardA ops o s = some (d, s')) : guardA ops o (s.at_ n str) = some (d, s'.at_ n str) := by
  unfold guardA at h ⊢
  split at h
  · cases h; rfl
  · rename_i j want hg
    split at h
    · cases h; rfl
    · rename_i t hd
      have htm : (s.at_ n str).tm = s.tm := rfl
      rw [htm]
      split at h
      · rename_i b hb
        split at h
        · rename_i d' s'' hdec
          rw [dec_at hdec]
          cases h; rfl
        · cases h
      · rename_i vs hb
        cases h; rfl
      · cases h
def SimF (cf : CF) (cf0 : FuncId → List AV → St → Option (AV × St)) : Prop :=
  ∀ f args n str s r n' s', cf f args n str s = some (r, n', s') → cf0 f args (s.at_ n str) = some (r, s'.at_ n' str)
theorem callA_sim {cf : CF} {cf0 : FuncId → List AV → St → Option (AV × St)} (h : SimF cf cf0) : SimF (fCallA E cf) (callA E cf0) := by
  intro f args n str s r n' s' hh
  unfold fCallA at hh
  unfold callA
  have e1 : (s.at_ n str).m = s.m := rfl
  have e2 : (s.at_ n str).n = n := rfl
  rw [e1, e2]
  split at hh
  · rename_i r' news k ob hct
    rw [hct]
    simp only
    split at hh
    · rename_i s1 hle hneed
      rw [hle, need_at hneed]
      cases hh; rfl
    · cases hh
  · rename_i hct
    rw [hct]
    exact h _ _ _ _ _ _ _ _ hh
theorem opS_sim {cf : CF} {cf0 : FuncId → List AV → St → Option (AV × St)} (hcf : SimF cf cf0) {ops : Array Oper} {o : Oper} {n str n' : Nat} {s s' : St} (h : fOpS E cf ops o n str s = some (n', s')) :
    opS E cf0 ops o (s.at_ n str) = some (s'.at_ n' str) := by
  unfold fOpS at h
  unfold opS
  split at h
  · cases h
  · rename_i s1 hg
    rw [guard_at hg]
    cases h; rfl
  · rename_i s1 hg
    rw [guard_at hg]
    simp only
    have e1 : (s1.at_ n str).m = s1.m := rfl
    have e2 : (s1.at_ n str).n = n := rfl
    have e3 : (s1.at_ n str).tm = s1.tm := rfl
    rw [e1, e2, e3]
    split at h
    · rename_i v news ob hle haop
      rw [hle, haop]
      simp only
      split at h
      · rename_i s2 hneed
        rw [need_at hneed]
        cases h; rfl
      · cases h
    · rename_i v m' ob hle haop
      rw [hle, haop]
      simp only
      split at h
      · rename_i s2 hup hneed
        rw [hup, need_at hneed]
        cases h; rfl
      · cases h
    · rename_i f args hle haop
      rw [hle, haop]
      simp only
      split at h
      · rename_i v n2 s2 hco hcall
        rw [hco, callA_sim hcf _ _ _ _ _ _ _ _ hcall]
        cases h; rfl
      · cases h
    · cases h
theorem opsS_sim {cf : CF} {cf0 : FuncId → List AV → St → Option (AV × St)} (hcf : SimF cf cf0) {ops : Array Oper} : ∀ {l : List Oper} {n str n' : Nat} {s s' : St}, fOpsS E cf ops l n str s = some (n', s') → opsS E cf0 ops l (s.at_ n str) = some (s'.at_ n' str)
  | [], n, str, n', s, s', h => by simp only [fOpsS, Option.some.injEq, Prod.mk.injEq] at h; obtain ⟨rfl, rfl⟩ := h; rfl
  | o :: r, n, str, n', s, s', h => by
    simp only [fOpsS] at h
    simp only [opsS]
    split at h
    · rename_i n1 s1 h1
      rw [opS_sim hcf h1]
      exact opsS_sim hcf h
    · cases h
theorem opQ_sim {cf : CF} {cf0 : FuncId → List AV → St → Option (AV × St)} (hcf : SimF cf cf0) {ops : Array Oper} {o : Oper} {i n0 b str : Nat} {mi news : AMem} {v : AV} {s s' : St} (h : fOpQ E cf ops o mi b str s = some (v, news, s')) :
    opQ E cf0 ops i o mi b (s.at_ n0 str) = some (v, news, s'.at_ n0 str) := by
  unfold fOpQ at h
  unfold opQ
  split at h
  · cases h
  · rename_i s1 hg
    rw [guard_at hg]
    cases h; rfl
  · rename_i s1 hg
    rw [guard_at hg]
    simp only
    have e1 : (s1.at_ n0 str).str = str := rfl
    have e3 : (s1.at_ n0 str).tm = s1.tm := rfl
    rw [e1, e3]
    split at h
    · rename_i v' news' ob hle haop
      rw [hle, haop]
      simp only
      split at h
      · rename_i s2 hin hneed
        rw [inR_eq] at hin
        rw [hin, need_at hneed]
        cases h; rfl
      · cases h
    · rename_i f args hle haop
      rw [hle, haop]
      simp only
      split at h
      · rename_i r news' k ob hco hct
        rw [hco, hct]
        simp only
        split at h
        · rename_i s2 hin hneed
          rw [inR_eq] at hin
          rw [hin, need_at hneed]
          cases h; rfl
        · cases h
      · rename_i hco hct
        rw [hco, hct]
        simp only
        split at h
        · rename_i r n2 s2 hcall
          have := hcf _ _ _ _ _ _ _ _ hcall
          obtain ⟨tm1, m1, n1, str1, sk1, path1, ob1, po1⟩ := s1
          simp only [St.at_] at this ⊢
          rw [this]
          simp only
          split at h
          · rename_i hc
            rw [inR_eq, allOwn_eq] at hc
            rw [hc]
            cases h; rfl
          · cases h
        · cases h
      · cases h
    · cases h
theorem opsQ_sim {cf : CF} {cf0 : FuncId → List AV → St → Option (AV × St)} (hcf : SimF cf cf0) {ops : Array Oper} {n0 str : Nat} : ∀ {l : List Oper} {i : Nat} {acc acc' : List (Nat × AMem)} {s s' : St}, fOpsQ E cf ops n0 str l i acc s = some (acc', s') →
    opsQ E cf0 ops n0 l i acc (s.at_ n0 str) = some (acc', s'.at_ n0 str)
  | [], i, acc, acc', s, s', h => by simp only [fOpsQ, Option.some.injEq, Prod.mk.injEq] at h; obtain ⟨rfl, rfl⟩ := h; rfl
  | o :: r, i, acc, acc', s, s', h => by
    simp only [fOpsQ] at h
    simp only [opsQ]
    have e1 : (s.at_ n0 str).str = str := rfl
    have e2 : (s.at_ n0 str).m = s.m := rfl
    rw [e1, e2]
    split at h
    · rename_i v news s1 h1
      rw [opQ_sim hcf h1]
      exact opsQ_sim hcf h
    · cases h
theorem regD_sim {cf : CF} {cf0 : FuncId → List AV → St → Option (AV × St)} (hcf : SimF cf cf0) {ops : Array Oper} {n str n' : Nat} {s s' : St} (h : fRegD E cf ops n str s = some (n', s')) : regD E cf0 ops (s.at_ n str) = some (s'.at_ n' str) := by
  unfold fRegD at h
  unfold regD
  have e1 : (s.at_ n str).n = n := rfl
  rw [e1]
  split at h
  · rename_i hok
    rw [hok]
    simp only
    split at h
    · rename_i acc s1 hq
      rw [opsQ_sim hcf hq]
      exact opsS_sim hcf h
    · cases h
  · cases h
theorem callF_sim {run : CR} {run0 : Code → St → Option (Exit × St)} (hr : ∀ c n str s e n' s', run c n str s = some (e, n', s') → run0 c (s.at_ n str) = some (e, s'.at_ n' str)) : SimF (fCallF E run) (callF E run0) := by
  intro f args n str s r n' s' h
  unfold fCallF at h
  unfold callF
  split at h
  · rename_i fn hfn
    rw [hfn]
    simp only
    split at h
    · rename_i c hc
      rw [hc]
      simp only
      obtain ⟨tm0, m0, n0, str0, sk0, path0, ob0, po0⟩ := s
      simp only [St.at_]
      split at h
      · rename_i n1 s1 hr1
        have hr2 := hr _ _ _ _ _ _ _ hr1
        simp only [St.at_] at hr2
        rw [hr2]
        simp only
        split at h
        · rename_i l ob hl
          rw [hl]
          simp only
          split at h
          · rename_i s2 hneed
            have hn2 := need_at (n := n1) (str := str) hneed
            simp only [St.at_] at hn2
            rw [hn2]
            cases h; rfl
          · cases h
        · cases h
      · rename_i n1 s1 hr1
        have hr2 := hr _ _ _ _ _ _ _ hr1
        simp only [St.at_] at hr2
        rw [hr2]
        simp only
        split at h
        · rename_i l ob hl
          rw [hl]
          simp only
          split at h
          · rename_i s2 hneed
            have hn2 := need_at (n := n1) (str := str) hneed
            simp only [St.at_] at hn2
            rw [hn2]
            cases h; rfl
          · cases h
        · cases h
      · cases h
    · cases h
  · cases h
theorem fC_sim : ∀ (g : Nat) (c : Code) (n str : Nat) (s : St) (e : Exit) (n' : Nat) (s' : St), fC E g c n str s = some (e, n', s') → sxC E g c (s.at_ n str) = some (e, s'.at_ n' str) := by
  intro g
  induction g with
  | zero => intro c n str s e n' s' h; cases h
  | succ g ih =>
    have hcf : SimF (fCallF E (fC E g)) (callF E (sxC E g)) := callF_sim ih
    intro c n str s e n' s' h
    cases c with
    | skip => simp only [fC, Option.some.injEq, Prod.mk.injEq] at h; obtain ⟨rfl, rfl, rfl⟩ := h; rfl
    | label l => simp only [fC, Option.some.injEq, Prod.mk.injEq] at h; obtain ⟨rfl, rfl, rfl⟩ := h; rfl
    | exit l => simp only [fC, Option.some.injEq, Prod.mk.injEq] at h; obtain ⟨rfl, rfl, rfl⟩ := h; rfl
    | ret => simp only [fC, Option.some.injEq, Prod.mk.injEq] at h; obtain ⟨rfl, rfl, rfl⟩ := h; rfl
    | region id ops d =>
      simp only [fC] at h
      simp only [sxC]
      split at h
      · split at h
        · rename_i n1 s1 h1
          simp only [Option.some.injEq, Prod.mk.injEq] at h; obtain ⟨rfl, rfl, rfl⟩ := h
          rw [opsS_sim hcf h1]
        · cases h
      · split at h
        · rename_i n1 s1 h1
          simp only [Option.some.injEq, Prod.mk.injEq] at h; obtain ⟨rfl, rfl, rfl⟩ := h
          rw [regD_sim hcf h1]
        · cases h
    | seq x y =>
      simp only [fC] at h
      simp only [sxC]
      split at h
      · rename_i n1 s1 h1
        rw [ih _ _ _ _ _ _ _ h1]
        exact ih _ _ _ _ _ _ _ h
      · rename_i hne
        rw [ih _ _ _ _ _ _ _ h]
        cases e with
        | normal => exact absurd h (hne _ _)
        | _ => rfl
    | cond c x y =>
      cases c with
      | tmp t =>
        simp only [fC] at h
        simp only [sxC]
        have e3 : (s.at_ n str).tm = s.tm := rfl
        rw [e3]
        split at h
        · rename_i b hb
          rw [hb]
          simp only
          split at h
          · rename_i s1 hd1; rw [dec_at hd1]; exact ih _ _ _ _ _ _ _ h
          · rename_i s1 hd1; rw [dec_at hd1]; exact ih _ _ _ _ _ _ _ h
          · cases h
        · cases h
      | const v =>
        cases v with
        | bool b =>
          simp only [fC] at h
          simp only [sxC]
          split at h
          · exact ih _ _ _ _ _ _ _ h
          · exact ih _ _ _ _ _ _ _ h
        | _ => simp [fC] at h
      | _ => simp [fC] at h
    | block id x =>
      simp only [fC] at h
      simp only [sxC]
      split at h
      · rename_i id' n1 s1 h1
        rw [ih _ _ _ _ _ _ _ h1]
        simp only
        split at h
        · rename_i hid
          simp only [Option.some.injEq, Prod.mk.injEq] at h; obtain ⟨rfl, rfl, rfl⟩ := h
          rw [hid]
        · rename_i hid
          simp only [Option.some.injEq, Prod.mk.injEq] at h; obtain ⟨rfl, rfl, rfl⟩ := h
          rw [hid]
      · rename_i hne
        rw [ih _ _ _ _ _ _ _ h]
        cases e with
        | exit id' => exact absurd h (hne id' _ _)
        | _ => rfl
    | loop x =>
      simp only [fC] at h
      simp only [sxC]
      have e1 : (s.at_ n str).path = s.path := rfl
      have e2 : (s.at_ n str).n = n := rfl
      rw [e1, e2]
      split at h
      · rename_i slots ids tm m k e' p hpath
        rw [hpath]
        simp only
        split at h
        · rename_i hle
          rw [hle]
          simp only [Option.some.injEq, Prod.mk.injEq] at h; obtain ⟨rfl, rfl, rfl⟩ := h
          rfl
        · cases h
      · rename_i hnp
        have hgen : ∀ {X Y : Option (Exit × St)}, (match s.path with | .loop slots ids tm m k e :: p => X | _ => Y) = Y ∨ ∃ a b c d e f g, s.path = .loop a b c d e f :: g := by
          intro X Y
          cases hp : s.path with
          | nil => exact .inl rfl
          | cons d r =>
            cases d with
            | loop a b c d e f => exact .inr ⟨a, b, c, d, e, f, r, rfl⟩
            | _ => exact .inl rfl
        split
        · rename_i a b c d k' f g hp
          exact absurd hp (hnp _ _ _ _ _ _ _)
        · split at h
          · rename_i n1 s1 h1
            rw [ih _ _ _ _ _ _ _ h1]
            exact ih _ _ _ _ _ _ _ h
          · rename_i hne
            rw [ih _ _ _ _ _ _ _ h]
            cases e with
            | normal => exact absurd h (hne _ _)
            | _ => rfl
    | _ => cases h
theorem fCallF_sim {g : Nat} : SimF (fCallF E (fC E g)) (callF E (sxC E g)) := callF_sim (fun _ _ _ _ _ _ _ => fC_sim g _ _ _ _ _ _ _)
end
end Go.Proofs.Ytjmiocacnilchaa
