/- The symbolic evaluator says of the model's code what is so: what it finds is what every run finds. No Go text is in sight. -/
import Derived.Test.YtpfkhlfkcmgdlaaDoorSxReg
set_option linter.unusedSimpArgs false
set_option linter.unusedVariables false
namespace Go.Proofs.YtpfkhlfkcmgdlaaDoor
open Go.RowKit

/-! ### what must hold -/
def Obs (s : St) : Prop := allT s.ob ∧ ∀ p ∈ s.po, p
structure Grow (s s' : St) : Prop where
  n : s.n ≤ s'.n
  ob : ∀ b ∈ s.ob, b ∈ s'.ob
  po : ∀ p ∈ s.po, p ∈ s'.po
  str : s'.str = s.str
  rd : s'.rd = s.rd
theorem Grow.refl (s : St) : Grow s s := ⟨Nat.le_refl _, fun _ h => h, fun _ h => h, rfl, rfl⟩
theorem Grow.trans {a b c : St} (h : Grow a b) (k : Grow b c) : Grow a c := ⟨Nat.le_trans h.n k.n, fun x hx => k.ob x (h.ob x hx), fun x hx => k.po x (h.po x hx), k.str.trans h.str, k.rd.trans h.rd⟩
theorem Obs.of {s s' : St} (h : Obs s') (g : Grow s s') : Obs s := ⟨fun b hb => h.1 b (g.ob b hb), fun p hp => h.2 p (g.po p hp)⟩
/-- states that are alike but for the frame and the memory -/
theorem Obs.congr {s s' : St} (h : Obs s) (h1 : s'.ob = s.ob) (h2 : s'.po = s.po) : Obs s' := ⟨by rw [h1]; exact h.1, by rw [h2]; exact h.2⟩

theorem need_ok {s s' : St} {l : List Bool} (h : s.need l = some s') : s'.tm = s.tm ∧ s'.m = s.m ∧ s'.n = s.n ∧ s'.ms = s.ms ∧ Grow s s' ∧ (Obs s' → allT l) := by
  unfold St.need at h
  split at h
  · split at h
    · rename_i hl
      cases h
      exact ⟨rfl, rfl, rfl, rfl, Grow.refl s, fun _ b hb => List.all_eq_true.1 hl b hb⟩
    · cases h
  · cases h
    exact ⟨rfl, rfl, rfl, rfl, ⟨Nat.le_refl _, fun b hb => List.mem_append.2 (.inr hb), fun p hp => hp, rfl, rfl⟩, fun ho b hb => ho.1 b (List.mem_append.2 (.inl hb))⟩

theorem FrOk.lit {β : Nm} {tm : List AV} {tmps : Array Value} {t : Nat} {b d : Bool} (hf : FrOk β tm tmps) (ht : tm[t]? = some (.c (.v (.bool b)))) (hb : b = d) : FrOk β (tm.set t (.c (.v (.bool d)))) tmps := by
  subst hb
  refine ⟨by simp [hf.1], fun i av hi => ?_⟩
  rw [List.getElem?_set] at hi
  split at hi
  · rename_i e
    subst e
    split at hi
    · cases hi; exact hf.2 t _ ht
    · cases hi
  · exact hf.2 i av hi

theorem dec_ok {s s' : St} {t : Tmp} {b d : Bool} (h : s.dec t b = some (d, s')) (ht : s.tm[t]? = some (.c (.v (.bool b)))) : s'.m = s.m ∧ s'.n = s.n ∧ s'.ms = s.ms ∧ Grow s s' ∧ (Obs s' → b = d) ∧ (s'.tm = s.tm ∨ (s'.tm = s.tm.set t (.c (.v (.bool d))))) := by
  unfold St.dec at h
  split at h
  · cases h
    exact ⟨rfl, rfl, rfl, ⟨Nat.le_refl _, fun b hb => List.mem_cons_of_mem _ hb, fun p hp => hp, rfl, rfl⟩, fun ho => by simpa using ho.1 _ (List.mem_cons_self ..), .inr rfl⟩
  · split at h <;> cases h <;> exact ⟨rfl, rfl, rfl, ⟨Nat.le_refl _, fun b hb => hb, fun p hp => hp, rfl, rfl⟩, fun _ => rfl, .inl rfl⟩
  · split at h <;> cases h <;> exact ⟨rfl, rfl, rfl, Grow.refl s, fun _ => rfl, .inl rfl⟩
theorem dec_fr {s s' : St} {t : Tmp} {b d : Bool} (h : s.dec t b = some (d, s')) (ht : s.tm[t]? = some (.c (.v (.bool b)))) {β : Nm} {tmps : Array Value} (ho : Obs s') (hf : FrOk β s.tm tmps) : FrOk β s'.tm tmps := by
  obtain ⟨_, _, _, _, h1, h2⟩ := dec_ok h ht
  rcases h2 with h2 | h2
  · rw [h2]; exact hf
  · rw [h2]; exact hf.lit ht (h1 ho)

theorem guard_ok {ops : Array Oper} {o : Oper} {s s' : St} {d : Bool} (h : guardA ops o s = some (d, s')) : s'.m = s.m ∧ s'.n = s.n ∧ s'.ms = s.ms ∧ Grow s s' ∧
    ∀ {β : Nm} {tmps : Array Value}, Obs s' → FrOk β s.tm tmps → FrOk β s'.tm tmps ∧ Region.wanted o (yielded ops tmps) = d := by
  unfold guardA at h
  split at h
  · rename_i hg
    cases h
    exact ⟨rfl, rfl, rfl, Grow.refl s, fun _ hf => ⟨hf, by simp [Region.wanted, hg]⟩⟩
  · rename_i j want hg
    split at h
    · rename_i hd
      cases h
      exact ⟨rfl, rfl, rfl, Grow.refl s, fun _ hf => ⟨hf, by simp [Region.wanted, hg, yielded, hd]⟩⟩
    · rename_i t hd
      split at h
      · rename_i b hb
        split at h
        · rename_i d' s'' hdec
          cases h
          obtain ⟨h1, h2, hms, h3, h4, _⟩ := dec_ok hdec hb
          refine ⟨h1, h2, hms, h3, fun ho hf => ⟨dec_fr hdec hb ho hf, ?_⟩⟩
          rcases hf.2 t _ hb with h5 | ⟨v, h5, h6⟩
          · cases h5
          · have := γ_v h5
            subst this
            simp [Region.wanted, hg, yielded, hd, h6, h4 ho]
        · cases h
      · rename_i vs hb
        cases h
        refine ⟨rfl, rfl, rfl, Grow.refl s, fun ho hf => ⟨hf, ?_⟩⟩
        rcases hf.2 t _ hb with h5 | ⟨v, h5, h6⟩
        · cases h5
        · have := γ_v h5
          subst this
          simp [Region.wanted, hg, yielded, hd, h6]
      · cases h

/-! ### contracts -/
def CtOk (P : Program) (f : FuncId) (g : CtF) : Prop :=
  (∃ (fn : Func) (c : Code), P.funcs[f]? = some fn ∧ fn.body = some c) ∧
  ∀ (C : Ctx) (β : Nm) (m m2 : AMem) (w : World) (args : List AV) (ib : Nat) (r : AV) (news : AMem) (k : Nat) (ob : List Bool) (vs : List Value),
    g args m ib = some (r, news, k, ob) → allT ob → Sub m m2 → Rel C β m2 w → (∀ id, ib ≤ id → id < ib + k → β id = none) → ib + k ≤ lim → γt β args = some vs →
    Calls P f vs.toArray w (fun e w' => ∃ β' v, e = .returned v ∧ Ext β β' ∧ (∀ id, id < ib ∨ ib + k ≤ id → β' id = β id) ∧ γ β' r = some v ∧ Rel C β' (m2 ++ news) w')
structure EnvOk (E : Env) : Prop where
  ct : ∀ f g, (f, g) ∈ E.ct → CtOk E.P f g
  mixed : E.P.follows .mixedOrders = true
  names : ∀ (f : FuncId) (fn : Func) (c : Code), E.P.funcs[f]? = some fn → fn.body = some c → (fn.name == "runtime.NumGoroutine") = false

theorem run_enter {P : Program} {f : FuncId} {fn : Func} {c : Code} (hf : P.funcs[f]? = some fn) (hname : (fn.name == "runtime.NumGoroutine") = false) (hb : fn.body = some c) (args : Array Value) (w : World) :
    (callFunc f args).run P w = .ok (.enter f args) w := by
  have h1 : fn.name ≠ "runtime.NumGoroutine" := by simpa using hname
  simp [callFunc, hf, h1, hb]

theorem ctLook_mem : ∀ {l : List (FuncId × CtF)} {f : FuncId} {args : List AV} {m : AMem} {n : Nat} {r : AV × AMem × Nat × List Bool}, ctLook l f args m n = some r → ∃ g, (f, g) ∈ l ∧ g args m n = some r
  | [], _, _, _, _, _, h => by cases h
  | (g, c) :: q, f, args, m, n, r, h => by
    simp only [ctLook] at h
    split at h
    · rename_i hb
      have := Nat.eq_of_beq_eq_true hb
      subst this
      exact ⟨c, by simp, h⟩
    · obtain ⟨g', h1, h2⟩ := ctLook_mem h
      exact ⟨g', by simp [h1], h2⟩

/-- what a way of calling must be good for -/
def CallOk (E : Env) (cf : FuncId → List AV → St → Option (AV × St)) : Prop :=
  ∀ f args s r s', cf f args s = some (r, s') → s'.tm = s.tm ∧ s'.ms = s.ms ∧ Grow s s' ∧ (∃ (fn : Func) (c : Code), E.P.funcs[f]? = some fn ∧ fn.body = some c) ∧
    (Obs s' → ∀ (C : Ctx) (β : Nm) (w : World) (vs : List Value), γt β args = some vs → Rel C β s.m w → (∀ id, s.n ≤ id → id < s'.n → β id = none) →
      Calls E.P f vs.toArray w (fun e w' => ∃ β' v, e = .returned v ∧ Ext β β' ∧ (∀ id, id < s.n ∨ s'.n ≤ id → β' id = β id) ∧ γ β' r = some v ∧ Rel C β' s'.m w'))
/-- what a way of calling yield must be good for -/
def YldOk (E : Env) (yf : Nat → List AV → St → Option (AV × St)) : Prop :=
  ∀ id args s r s', yf id args s = some (r, s') → s'.tm = s.tm ∧ s'.ms = s.ms ∧ Grow s s' ∧ ∃ x st pd tm ps as bd dn, look s.m id = some x ∧ x.cs = .obj (.loop st pd tm ps as bd dn) ∧ args.length = ps.size ∧
    (Obs s' → ∀ (C : Ctx) (β : Nm) (w : World) (vs : List Value) (L : Loc) (f : FuncId) (tmps : Array Value), γt β args = some vs → Rel C β s.m w → (∀ id, s.n ≤ id → id < s'.n → β id = none) → β id = some L → L.nil = false → FrOk β tm tmps →
      RoundIn Fence.wide 0 E.P L.b f ((ps.zip vs.toArray).foldl (fun tmps (t, a) => tmps.setIfInBounds t a) tmps) as bd w (fun e w' => ∃ β' v, e = .returned v ∧ Ext β β' ∧ (∀ id, id < s.n ∨ s'.n ≤ id → β' id = β id) ∧ γ β' r = some v ∧ Rel C β' s'.m w'))
/-- the marks among the deferred calls, ahead of others -/
def DfOk (β : Nm) : List Nat → List Deferred → List Deferred → Prop
  | [], D, ds => ds = D
  | id :: r, D, ds => ∃ L t, β id = some L ∧ ds = { target := .collected L.b, args := #[] } :: t ∧ DfOk β r D t
theorem DfOk.ext {β β' : Nm} (he : Ext β β') {D : List Deferred} : ∀ {ms : List Nat} {ds : List Deferred}, DfOk β ms D ds → DfOk β' ms D ds
  | [], _, h => h
  | _ :: _, _, ⟨L, t, h1, h2, h3⟩ => ⟨L, t, he _ _ h1, h2, h3.ext he⟩

section
variable {E : Env} {cf : FuncId → List AV → St → Option (AV × St)} {yf : Nat → List AV → St → Option (AV × St)}

theorem callA_ok (hE : EnvOk E) (hcf : CallOk E cf) : CallOk E (callA E cf) := by
  intro f args s r s' h
  unfold callA at h
  split at h
  · rename_i r' news k ob hct
    obtain ⟨g, hg, hgr⟩ := ctLook_mem hct
    have hok := hE.ct f g hg
    split at h
    · rename_i s1 hle hneed
      cases h
      obtain ⟨h1, h2, h3, hms, h4, h5⟩ := need_ok hneed
      have hle : s.n + k ≤ lim := Nat.le_of_ble_eq_true hle
      refine ⟨h1, hms, ⟨by simp [h3], h4.ob, h4.po, h4.str, h4.rd⟩, hok.1, fun ho C β w vs hvs hr hfree => ?_⟩
      have hob := h5 (ho.congr (s := s1) rfl rfl |> fun h => h)
      have := hok.2 C β s.m s.m w args s.n _ news k ob vs hgr hob (Sub.refl _) hr (by simpa [h3] using hfree) hle hvs
      refine this.mono fun e w' ⟨β', v, e1, e2, e3, e4, e5⟩ => ⟨β', v, e1, e2, by simpa [h3] using e3, e4, by simpa [h2] using e5⟩
    · cases h
  · exact hcf f args s r s' h

theorem gid_ne {n : Nat} (h : n + 1 ≤ lim) (g : Nat) : n ≠ gid g := by unfold lim at h; unfold gid; omega

theorem St.put_eq (s : St) (d : Option Tmp) (v : AV) : (s.put d v).tm = putA s.tm d v ∧ (s.put d v).m = s.m ∧ (s.put d v).n = s.n ∧ (s.put d v).ob = s.ob ∧ (s.put d v).po = s.po ∧ (s.put d v).str = s.str := ⟨rfl, rfl, rfl, rfl, rfl, rfl⟩

theorem put_defers (a : Act) (d : Option Tmp) (v : Value) : (a.put d v).defers = a.defers := by cases d <;> rfl

theorem semAt_of {P : Program} {tm : List AV} {m : AMem} {ib : Nat} {o : Oper} {x : ARes} (h : aop P tm m ib o.op = some x) (ro : Option Nat) (ρ : Operand → Value) : o.semAt ro ρ = execOp ρ o :=
  Oper.semAt_eq ro ρ o fun c hc => by rw [hc] at h; simp [aop] at h

/-- one operation, in its turn -/
theorem opS_ok (hE : EnvOk E) (hcf : CallOk E cf) (hyf : YldOk E yf) {ops : Array Oper} {o : Oper} {s s' : St} (h : opS E cf yf ops o s = some s') : Grow s s' ∧ s'.ms = s.ms ∧
    (Obs s' → ∀ (ro : Option Nat) (C : Ctx) (β : Nm) (a : Act) (w : World) (K : Act → World → Prop) (Q : Exit → Act → World → Prop), FrOk β s.tm a.tmps → Rel C β s.m w → (∀ id, s.n ≤ id → id < s'.n → β id = none) →
      (∀ β' a' w', Ext β β' → (∀ id, id < s.n ∨ s'.n ≤ id → β' id = β id) → FrOk β' s'.tm a'.tmps → a'.defers = a.defers → Rel C β' s'.m w' → K a' w') →
      if Region.wanted o (yielded ops a.tmps) then o.wpIn (FW ro) 0 E.P a w K Q else (∀ f, o.about E.P w a.eval = some f → (FW ro).fn f) ∧ K (a.put o.dst undef) w) := by
  have hcf' := callA_ok hE hcf
  unfold opS at h
  split at h
  · cases h
  · rename_i s1 hg
    cases h
    obtain ⟨g1, g2, gm, g3, g4⟩ := guard_ok hg
    refine ⟨⟨by show s.n ≤ s1.n; omega, g3.ob, g3.po, g3.str, g3.rd⟩, gm, fun ho ro C β a w K Q hf hr hfree hK => ?_⟩
    obtain ⟨f1, f2⟩ := g4 (ho.congr (s' := s1) rfl rfl) hf
    rw [f2]
    simp only [Bool.false_eq_true, if_false]
    refine ⟨fun _ _ => trivial, hK β _ w (Ext.refl β) (fun _ _ => rfl) (f1.put rfl) (put_defers _ _ _) ?_⟩
    show Rel C β s1.m w
    rw [g1]; exact hr
  · rename_i s1 hg
    obtain ⟨g1, g2, gm, g3, g4⟩ := guard_ok hg
    split at h
    · rename_i v news ob hle haop
      have hle : s1.n + 1 ≤ lim := Nat.le_of_ble_eq_true hle
      split at h
      · rename_i s2 hneed
        cases h
        obtain ⟨n1, n2, n3, nm, n4, n5⟩ := need_ok hneed
        refine ⟨⟨by show s.n ≤ s2.n + 1; omega, fun b hb => n4.ob b (g3.ob b hb), fun p hp => n4.po p (g3.po p hp), n4.str.trans g3.str, n4.rd.trans g3.rd⟩, nm.trans gm, fun ho ro C β a w K Q hf hr hfree hK => ?_⟩
        have ho2 : Obs s2 := ho.congr (s' := s2) rfl rfl
        obtain ⟨f1, f2⟩ := g4 (ho2.of n4) hf
        rw [f2]
        simp only [if_true]
        rw [← g1] at hr
        obtain ⟨β', u, w', e1, e2, e3, e4, e5⟩ := aop_eff haop (n5 ho2) f1 hr (Sub.refl _) (hfree s1.n (by omega) (by show s1.n < s2.n + 1; omega)) (gid_ne hle)
        refine ⟨fun _ _ => trivial, ?_⟩
        rw [semAt_of haop, e1]
        refine hK β' _ w' e2 (fun id hid => e3 id ?_) ?_ (put_defers _ _ _) ?_
        · have : id < s.n ∨ s2.n + 1 ≤ id := hid
          omega
        · show FrOk β' (putA s2.tm o.dst v) _
          rw [n1]; exact (f1.ext e2).put e4
        · show Rel C β' (s2.m ++ news) w'
          rw [n2]; exact e5
      · cases h
    · rename_i v m' ob hle haop
      have hle : s1.n + 1 ≤ lim := Nat.le_of_ble_eq_true hle
      split at h
      · rename_i s2 hup hneed
        cases h
        obtain ⟨n1, n2, n3, nm, n4, n5⟩ := need_ok hneed
        refine ⟨⟨by show s.n ≤ s2.n + 1; omega, fun b hb => n4.ob b (g3.ob b hb), fun p hp => n4.po p (g3.po p hp), n4.str.trans g3.str, n4.rd.trans g3.rd⟩, nm.trans gm, fun ho ro C β a w K Q hf hr hfree hK => ?_⟩
        have ho2 : Obs s2 := ho.congr (s' := s2) rfl rfl
        obtain ⟨f1, f2⟩ := g4 (ho2.of n4) hf
        rw [f2]
        simp only [if_true]
        rw [← g1] at hr
        obtain ⟨β', u, w', e1, e2, e3, e4, e5⟩ := aop_upd haop hup (n5 ho2) f1 hr (hfree s1.n (by omega) (by show s1.n < s2.n + 1; omega)) (gid_ne hle)
        have hKK : K (a.put o.dst u) w' := by
          refine hK β' _ w' e2 (fun id hid => e3 id ?_) ?_ (put_defers _ _ _) (by show Rel C β' (m'.on s2.m) w'; rw [n2]; exact e5)
          · have : id < s.n ∨ s2.n + 1 ≤ id := hid
            omega
          · show FrOk β' (putA s2.tm o.dst v) _
            rw [n1]; exact (f1.ext e2).put e4
        refine ⟨fun _ _ => trivial, ?_⟩
        rw [semAt_of haop]
        rcases e1 with e1 | ⟨e1, rfl⟩
        · rw [e1]; exact hKK
        · rw [e1]; exact hKK
      · cases h
    · rename_i f args hle haop
      split at h
      · rename_i v s2 hco hcall
        cases h
        obtain ⟨c1, cm, c2, ⟨fn, c, c3, c4⟩, c5⟩ := hcf' f args s1 v s2 hcall
        refine ⟨⟨by show s.n ≤ s2.n; have := c2.n; omega, fun b hb => c2.ob b (g3.ob b hb), fun p hp => c2.po p (g3.po p hp), c2.str.trans g3.str, c2.rd.trans g3.rd⟩, cm.trans gm, fun ho ro C β a w K Q hf hr hfree hK => ?_⟩
        have ho2 : Obs s2 := ho.congr (s' := s2) rfl rfl
        obtain ⟨f1, f2⟩ := g4 (ho2.of c2) hf
        rw [f2]
        simp only [if_true]
        rw [← g1] at hr
        obtain ⟨vs, hvs, hrun⟩ := aop_call haop hco f1 hr (Sub.refl _)
        have hcalls := (c5 ho2) C β w vs hvs hr (fun id h1 h2 => hfree id (by omega) h2)
        refine ⟨fun _ _ => trivial, ?_⟩
        rw [semAt_of haop, hrun, run_enter c3 (hE.names _ _ _ c3 c4) c4]
        refine ⟨fun h => (by cases h), CallsIn.mono (callsIn_wide.2 hcalls) fun e w' ⟨β', u, e1, e2, e3, e4, e5⟩ => ?_⟩
        subst e1
        refine hK β' _ w' e2 (fun id hid => e3 id ?_) ?_ (put_defers _ _ _) e5
        · have : id < s.n ∨ s2.n ≤ id := hid
          omega
        · show FrOk β' (putA s2.tm o.dst v) _
          rw [c1]; exact (f1.ext e2).put e4
      · cases h
    · rename_i id args hle haop
      split at h
      · rename_i v s2 hco hcall
        cases h
        obtain ⟨c1, cm, c2, x, st, pd, tm, ps, as, bd, dn, c3, c4, c6, c5⟩ := hyf id args s1 v s2 hcall
        refine ⟨⟨by show s.n ≤ s2.n; have := c2.n; omega, fun b hb => c2.ob b (g3.ob b hb), fun p hp => c2.po p (g3.po p hp), c2.str.trans g3.str, c2.rd.trans g3.rd⟩, cm.trans gm, fun ho ro C β a w K Q hf hr hfree hK => ?_⟩
        have ho2 : Obs s2 := ho.congr (s' := s2) rfl rfl
        obtain ⟨f1, f2⟩ := g4 (ho2.of c2) hf
        rw [f2]
        simp only [if_true]
        rw [← g1] at hr
        obtain ⟨L, hL, hn, _, ⟨fn, tmps, D, q1, q2, q3, q4⟩, _⟩ := hr.objs id x _ c3 c4
        obtain ⟨vs, hvs, hrun⟩ := aop_yld haop hco f1 hr (Sub.refl _) hL hn q4 c6
        have hround := (c5 ho2) C β w vs L fn tmps hvs hr (fun id h1 h2 => hfree id (by omega) h2) hL hn q1
        refine ⟨fun _ _ => trivial, ?_⟩
        rw [semAt_of haop, hrun]
        refine ⟨fun h => (by cases h), RoundIn.mono hround fun e w' ⟨β', u, e1, e2, e3, e4, e5⟩ => ?_⟩
        subst e1
        refine hK β' _ w' e2 (fun id hid => e3 id ?_) ?_ (put_defers _ _ _) e5
        · have : id < s.n ∨ s2.n ≤ id := hid
          omega
        · show FrOk β' (putA s2.tm o.dst v) _
          rw [c1]; exact (f1.ext e2).put e4
      · cases h
    · cases h

theorem opsS_ok (hE : EnvOk E) (hcf : CallOk E cf) (hyf : YldOk E yf) {ops : Array Oper} : ∀ {l : List Oper} {s s' : St}, opsS E cf yf ops l s = some s' → Grow s s' ∧ s'.ms = s.ms ∧
    (Obs s' → ∀ (ro : Option Nat) (C : Ctx) (β : Nm) (a : Act) (w : World) (Q : Exit → Act → World → Prop), FrOk β s.tm a.tmps → Rel C β s.m w → (∀ id, s.n ≤ id → id < s'.n → β id = none) →
      (∀ β' a' w', Ext β β' → (∀ id, id < s.n ∨ s'.n ≤ id → β' id = β id) → FrOk β' s'.tm a'.tmps → a'.defers = a.defers → Rel C β' s'.m w' → Q .normal a' w') → wpListIn (FW ro) 0 E.P ops Q l a w)
  | [], s, s', h => by
    simp only [opsS, Option.some.injEq] at h
    subst h
    exact ⟨Grow.refl s, rfl, fun _ ro C β a w Q hf hr _ hQ => hQ β a w (Ext.refl β) (fun _ _ => rfl) hf rfl hr⟩
  | o :: r, s, s', h => by
    simp only [opsS] at h
    split at h
    · rename_i s1 h1
      obtain ⟨g1, m1, k1⟩ := opS_ok hE hcf hyf h1
      obtain ⟨g2, m2, k2⟩ := opsS_ok hE hcf hyf h
      refine ⟨g1.trans g2, m2.trans m1, fun ho ro C β a w Q hf hr hfree hQ => ?_⟩
      have := k1 (ho.of g2) ro C β a w (wpListIn (FW ro) 0 E.P ops Q r) Q hf hr (fun id h1 h2 => hfree id h1 (by have := g2.n; omega)) fun β' a' w' x1 x2 x3 x4 x5 => ?_
      · exact this
      · refine k2 ho ro C β' a' w' Q x3 x5 (fun id h1 h2 => ?_) fun β'' a'' w'' y1 y2 y3 y4 y5 => ?_
        · rw [x2 id (.inr h1)]
          exact hfree id (by have := g1.n; omega) h2
        · refine hQ β'' a'' w'' (x1.trans y1) (fun id hid => ?_) y3 (y4.trans x4) y5
          have i1 := g1.n
          have i2 := g2.n
          rw [y2 id (by omega), x2 id (by omega)]
    · cases h
end
end Go.Proofs.YtpfkhlfkcmgdlaaDoor
