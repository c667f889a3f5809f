/- The symbolic evaluator: soundness of calls in place, of loops, of ranges over functions, of whole functions. No Go text is in sight. -/
import Derived.Test.YtpfkhlfkcmgdlaaDoorSxSound3
set_option linter.unusedSimpArgs false
set_option linter.unusedVariables false
namespace Go.Proofs.YtpfkhlfkcmgdlaaDoor
open Go.RowKit

theorem FW_room (r : Option Nat) (k : Nat) : (FW r).room k := fun _ h => by simp [FW, Fence.wide] at h
section
variable {r : Option Nat} {P : Program} {Q : Exit → Act → World → Prop} {a : Act} {w : World} {c : Code}
theorem FW_calm {b : Frame} {k : List Item} {cs : List Frame} (ha : (b.atR a k).about P w = none) : (lone (b.atR a k) cs w).fenced P (FW r) := fenced_calm (n := 0) trivial (FW_room r _) ha
theorem wp_of_lwp (h : lwp r P c Q a w) : (Code.loop c).wpIn (FW r) 0 P Q a w := by
  intro b k cs hro _ _
  obtain ⟨e, a', w', hq, harr⟩ := h b k cs hro
  exact ⟨e, a', w', hq, .of_steps (.one (FW_calm rfl) stepR_loop) harr⟩
theorem lwp_peel (h : c.wpIn (FW r) 0 P (Exit.then (lwp r P c Q) Q) a w) : lwp r P c Q a w := by
  intro b k cs hro
  obtain ⟨e, a₁, w₁, hq, harr⟩ := h b (.inLoop c :: k) cs hro trivial (FW_room r _)
  cases e with
  | normal =>
    obtain ⟨e₂, a₂, w₂, hq₂, harr₂⟩ := hq b k cs hro
    exact ⟨e₂, a₂, w₂, hq₂, .of_steps (StepsIn.trans harr (.one (FW_calm rfl) stepR_inLoop)) harr₂⟩
  | exit id => exact ⟨_, a₁, w₁, hq, .pass (x := .inLoop c) rfl (fun _ _ => .inl (by simp)) harr⟩
  | goto l => exact ⟨_, a₁, w₁, hq, .pass (x := .inLoop c) rfl (fun _ _ => .inl (by simp)) harr⟩
  | ret => exact ⟨_, a₁, w₁, hq, .pass (x := .inLoop c) rfl (fun _ _ => .inl (by simp)) harr⟩
  | panic ch => exact ⟨_, a₁, w₁, hq, .pass (x := .inLoop c) rfl (fun _ _ => .inl (by simp)) harr⟩
  | outgrown => exact ⟨_, a₁, w₁, hq, .pass (x := .inLoop c) rfl (fun _ _ => .inl (by simp)) harr⟩
theorem lwp_mono {Q' : Exit → Act → World → Prop} (h : lwp r P c Q a w) (hq : ∀ e a w, Q e a w → Q' e a w) : lwp r P c Q' a w :=
  fun b k cs hro => let ⟨e, a', w', q, x⟩ := h b k cs hro; ⟨e, a', w', hq _ _ _ q, x⟩
/-- a loop, by induction on a number -/
theorem lwp_ind (I : Nat → Act → World → Prop) (round : ∀ n a w, I n a w → c.wpIn (FW r) 0 P (Exit.then (fun a' w' => ∃ n', n' < n ∧ I n' a' w') Q) a w) : ∀ n a w, I n a w → lwp r P c Q a w := by
  intro n
  induction n using Nat.strongRecOn with
  | _ n ih =>
    intro a w h
    refine lwp_peel (wpIn_mono (round n a w h) fun e a' w' hq => ?_)
    cases e with
    | normal => obtain ⟨n', h1, h2⟩ := hq; exact ih n' h1 a' w' h2
    | _ => exact hq
end

/-- a loop in the stronger sense -/
def wpL (r : Option Nat) (P : Program) (c : Code) (Q : Exit → Act → World → Prop) (a : Act) (w : World) : Prop :=
  match c with
  | .loop b => lwp r P b Q a w
  | c => c.wpIn (FW r) 0 P Q a w
theorem wp_of_wpL {r : Option Nat} {P : Program} {c : Code} {Q : Exit → Act → World → Prop} {a : Act} {w : World} (h : wpL r P c Q a w) : c.wpIn (FW r) 0 P Q a w := by
  unfold wpL at h
  split at h
  · exact wp_of_lwp h
  · exact h

section
variable {E : Env}

/-- what a state's way ends in -/
def PostS (C : Ctx) (β : Nm) (n n' : Nat) (tm' : List AV) (m' : AMem) (ms' : List Nat) (D : List Deferred) (e : Exit) : Exit → Act → World → Prop :=
  fun e' a' w' => e' = e ∧ ∃ β', Ext β β' ∧ (∀ id, id < n ∨ n' ≤ id → β' id = β id) ∧ FrOk β' tm' a'.tmps ∧ DfOk β' ms' D a'.defers ∧ Rel C β' m' w'

def CodeOkL (E : Env) (run : Code → St → Option (Exit × St)) : Prop :=
  ∀ c s e s', run c s = some (e, s') → Grow s s' ∧ (Obs s' → ∀ (ro : Option Nat) (D : List Deferred) (C : Ctx) (β : Nm) (a : Act) (w : World), RdOk β s.rd ro → FrOk β s.tm a.tmps → DfOk β s.ms D a.defers → Rel C β s.m w → (∀ id, s.n ≤ id → id < s'.n → β id = none) →
    wpL ro E.P c (PostS C β s.n s'.n s'.tm s'.m s'.ms D e) a w)

theorem leaves_ok {P : Program} {fn : Func} {tmps : Array Value} {R : Ending → World → Prop} {C : Ctx} {β : Nm} {m' : AMem} (hR : ∀ w', Rel C β m' w' → ∃ v, (results fn tmps).run P w' = .ok v w' ∧ R (.returned v) w') :
    ∀ (ms : List Nat) (m : AMem) (ds : List Deferred) (w : World), closeM ms m = some m' → DfOk β ms [] ds → Rel C β m w → LeavesInM Fence.wide 0 P fn tmps R ds .returning w
  | [], m, ds, w, hc, hd, hr => by
    have hd : ds = [] := hd
    subst hd
    simp only [closeM, Option.some.injEq] at hc
    subst hc
    exact hR w hr
  | id :: r, m, ds, w, hc, hd, hr => by
    obtain ⟨L, t, h1, rfl, h3⟩ := hd
    simp only [closeM] at hc
    split at hc
    · rename_i x hx
      split at hc
      · rename_i ho
        obtain ⟨L', g1, g2, _, g4, _⟩ := hr.objs id x _ hx ho
        rw [h1] at g1
        cases g1
        have g4 : w.heap[L.b]? = some (.deferred (some [])) := g4
        exact ⟨fun e => (by cases e), .inl ⟨L.b, _, rfl, run_takeDeferred g4, leaves_ok hR r _ t _ hc h3 (hr.putO (o := .dfr false) (ob := .deferred none) hx ho h1 fun w' h => h)⟩⟩
      · cases hc
    · cases hc

theorem callF_ok (hE : EnvOk E) {run : Code → St → Option (Exit × St)} (hrun : CodeOkL E run) : CallOk E (callF E run) := by
  intro f args s r s' h
  unfold callF at h
  split at h
  · rename_i fn hfn
    split at h
    · rename_i c hc
      have main : ∀ e s1, (e = .ret ∨ e = .normal) → run c { s with tm := args ++ List.replicate (fn.ntmps - args.length) (.c (.v undef)), ms := [], rd := none } = some (e, s1) →
          endF E.P fn s s1 = some (r, s') →
          s'.tm = s.tm ∧ s'.ms = s.ms ∧ Grow s s' ∧ (∃ (fn : Func) (c : Code), E.P.funcs[f]? = some fn ∧ fn.body = some c) ∧
          (Obs s' → ∀ (C : Ctx) (β : Nm) (w : World) (vs : List Value), γt β args = some vs → Rel C β s.m w → (∀ id, s.n ≤ id → id < s'.n → β id = none) →
            Calls E.P f vs.toArray w (fun e w' => ∃ β' v, e = .returned v ∧ Ext β β' ∧ (∀ id, id < s.n ∨ s'.n ≤ id → β' id = β id) ∧ γ β' r = some v ∧ Rel C β' s'.m w')) := by
        intro e s1 he hrunc hres
        unfold endF at hres
        split at hres
        · rename_i m1 hm1
          split at hres
          · rename_i l ob hl
            split at hres
            · rename_i s2 hneed
              simp only [Option.some.injEq, Prod.mk.injEq] at hres
              obtain ⟨rfl, rfl⟩ := hres
              obtain ⟨n1, n2, n3, nm, n4, n5⟩ := need_ok hneed
              obtain ⟨g1, g2⟩ := hrun _ _ _ _ hrunc
              refine ⟨rfl, rfl, ⟨by show s.n ≤ s2.n; rw [n3]; exact g1.n, fun b hb => n4.ob b (g1.ob b hb), fun p hp => n4.po p (g1.po p hp), n4.str.trans g1.str, rfl⟩, ⟨fn, c, hfn, hc⟩, fun ho C β w vs hvs hr hfree => ?_⟩
              · have ho2 : Obs s2 := ho.congr (s' := s2) rfl rfl
                have hlen : vs.length = args.length := γt_length hvs
                have hfr : FrOk β (args ++ List.replicate (fn.ntmps - args.length) (.c (.v undef))) (vs.toArray ++ Array.replicate (fn.ntmps - vs.toArray.size) undef) := by
                  refine ⟨by simp [hlen], fun t av ht => .inr ?_⟩
                  by_cases hlt : t < args.length
                  · rw [List.getElem?_append_left hlt] at ht
                    obtain ⟨v, h1, h2⟩ := γt_fr hvs ht
                    refine ⟨v, h1, ?_⟩
                    rw [Array.getElem?_append_left (by simp; omega)]
                    simpa using h2
                  · rw [List.getElem?_append_right (by omega), List.getElem?_replicate] at ht
                    split at ht
                    · cases ht
                      refine ⟨undef, rfl, ?_⟩
                      rename_i hlt2
                      rw [Array.getElem?_append_right (by simp; omega), Array.getElem?_replicate, if_pos (by simp [hlen]; omega)]
                    · cases ht
                have hwp := g2 (ho2.of n4) none [] C β { tmps := vs.toArray ++ Array.replicate (fn.ntmps - vs.toArray.size) undef, defers := [] } w trivial hfr rfl hr (fun id h1 h2 => hfree id h1 (by show id < s2.n; rw [n3]; exact h2))
                have hwp' := wp_of_wpL hwp
                refine callsIn_wide.1 (callsIn_of_wp_marks (n := 0) hfn hc trivial (wpIn_mono hwp' fun e' a' w' ⟨he', β', x1, x2, x3, xd, x4⟩ => ?_))
                subst he'
                have hpost : LeavesInM Fence.wide 0 E.P fn a'.tmps (fun e w' => ∃ β' v, e = .returned v ∧ Ext β β' ∧ (∀ id, id < s.n ∨ s2.n ≤ id → β' id = β id) ∧ γ β' (tupA l) = some v ∧ Rel C β' m1 w') a'.defers .returning w' := by
                  refine leaves_ok (β := β') (m' := m1) (C := C) (fun w2 hr2 => ?_) s1.ms s1.m a'.defers w' hm1 xd x4
                  obtain ⟨us, hu1, hu2⟩ := resA_ok x3 hr2 hl (n5 ho2)
                  have hres2 : (results fn a'.tmps).run E.P w2 = .ok (if h : us.toArray.size = 1 then us.toArray[0] else .tuple us.toArray) w2 := by
                    have hm : (fn.results.mapM (resS a'.tmps)).run E.P w2 = .ok us.toArray w2 := by
                      rw [Array.mapM_eq_mapM_toList]
                      simp [hu2]
                    show (do let vs ← fn.results.mapM (resS a'.tmps); pure (if h : vs.size = 1 then vs[0] else .tuple vs) : Sem Value).run E.P w2 = _
                    rw [Sem.run_bind, hm]
                    rfl
                  exact ⟨_, hres2, β', _, rfl, x1, fun id hid => x2 id (by rw [n3] at hid; exact hid), tupA_ok hu1, hr2⟩
                rcases he with rfl | rfl <;> exact hpost
            · cases hres
          · cases hres
        · cases hres
      split at h
      · rename_i s1 hr1
        exact main _ s1 (.inl rfl) hr1 h
      · rename_i s1 hr1
        exact main _ s1 (.inr rfl) hr1 h
      · cases h
    · cases h
  · cases h

theorem roundPost_ok {P : Program} {l : Nat} {R : Ending → World → Prop} {e : Exit} {j : Option Code} {a : Act} {w : World} (hj : jumpOf e = some j) (h : ∃ v w', (Instr.endRound l j).run P w = .ok v w' ∧ R (.returned v) w') : roundPost P l R e a w := by
  cases e <;> simp only [jumpOf, Option.some.injEq, reduceCtorEq] at hj <;> subst hj <;> exact h

theorem setPs_fr {β : Nm} : ∀ {ps : List Tmp} {args : List AV} {vs : List Value} {tm : List AV} {tmps : Array Value}, γt β args = some vs → FrOk β tm tmps →
    FrOk β (setPs ps args tm) ((ps.zip vs).foldl (fun tmps (t, a) => tmps.setIfInBounds t a) tmps)
  | [], args, vs, tm, tmps, _, hf => by cases args <;> exact hf
  | t :: ts, [], vs, tm, tmps, hv, hf => by cases hv; exact hf
  | t :: ts, x :: xs, vs, tm, tmps, hv, hf => by
    simp only [γt] at hv
    split at hv
    · rename_i v us hv1 hv2
      cases hv
      simp only [setPs, List.zip_cons_cons, List.foldl_cons]
      refine setPs_fr hv2 ?_
      have := hf.put (a := { tmps := tmps, defers := [] }) (d := some t) (γ_of1 hv1)
      exact this
    · cases hv

theorem yieldS_ok {run : Code → St → Option (Exit × St)} (hrun : CodeOkL E run) : YldOk E (yieldS run) := by
  intro id args s r s' h
  unfold yieldS at h
  split at h
  · rename_i x hx
    split at h
    · rename_i st pd tm ps as bd dn hc
      split at h
      · rename_i hlen
        split at h
        · rename_i s1 h1
          split at h
          · rename_i x1 hx1
            split at h
            · rename_i pd1 tm1 ps1 as1 bd1 dn1 hc1
              split at h
              · rename_i e s2 h2
                unfold endY at h
                split at h
                · rename_i j x2 hj hx2
                  split at h
                  · rename_i st2 pd2 tm2 ps2 as2 bd2 dn2 hc2
                    simp only [Option.some.injEq, Prod.mk.injEq] at h
                    obtain ⟨rfl, rfl⟩ := h
                    obtain ⟨g1, k1⟩ := hrun _ _ _ _ h1
                    obtain ⟨g2, k2⟩ := hrun _ _ _ _ h2
                    have i1 := g1.n
                    have i2 := g2.n
                    simp only at i1 i2
                    refine ⟨rfl, rfl, ⟨by show s.n ≤ s2.n; omega, fun b hb => g2.ob b (g1.ob b hb), fun p hp => g2.po p (g1.po p hp), g2.str.trans g1.str, rfl⟩, x, st, pd, tm, ps, as, bd, dn, hx, hc, Nat.eq_of_beq_eq_true hlen, fun ho C β w vs L f tmps hvs hr hfree hL hn hf => ?_⟩
                    have ho2 : Obs s2 := ho.congr (s' := s2) rfl rfl
                    have ho1 : Obs s1 := ⟨fun b hb => ho2.1 b (g2.ob b hb), fun p hp => ho2.2 p (g2.po p hp)⟩
                    refine roundIn_of_wpIn (F := Fence.wide) trivial ?_
                    have hfr : FrOk β (setPs ps.toList args tm) ((ps.zip vs.toArray).foldl (fun tmps (t, a) => tmps.setIfInBounds t a) tmps) := by
                      have := setPs_fr (ps := ps.toList) hvs hf
                      have e : (ps.zip vs.toArray).foldl (fun tmps (t, a) => tmps.setIfInBounds t a) tmps = (ps.toList.zip vs).foldl (fun tmps (t, a) => tmps.setIfInBounds t a) tmps := by
                        rw [← Array.foldl_toList]; simp
                      rw [e]; exact this
                    have hw1 := wp_of_wpL (k1 ho1 (some L.b) [] C β { tmps := (ps.zip vs.toArray).foldl (fun tmps (t, a) => tmps.setIfInBounds t a) tmps, defers := [] } w ⟨L, hL, hn, rfl⟩ hfr rfl hr fun id h1 h2 => hfree id h1 (by show id < s2.n; omega))
                    refine wpIn_mono hw1 fun e' a1 w1 ⟨he', β1, x1', x2', x3', xd', x4'⟩ => ?_
                    subst he'
                    obtain ⟨L1, q1, q2, q3, ⟨fn1, tmps1, D1, q4, q5, q6, q7⟩, _⟩ := x4'.objs id x1 _ hx1 hc1
                    have hL1 := x1' id L hL
                    rw [hL1] at q1
                    cases q1
                    refine ⟨_, run_beginRound q7 rfl, ?_⟩
                    have hr2 := x4'.putO (o := .loop .busy pd1 tm1 ps1 as1 bd1 dn1) (ob := .loop { state := .busy, pending := pd1, fn := fn1, tmps := tmps1, params := ps1, assign := as1, body := bd1, defers := D1.b }) hx1 hc1 hL1 fun w' hw' => ⟨fn1, tmps1, D1, q4, q5, q6, hw'⟩
                    have hrd : RdOk β1 s1.rd (some L.b) := by
                      have : s1.rd = some id := g1.rd
                      rw [this]; exact ⟨L, hL1, hn, rfl⟩
                    have hw2 := wp_of_wpL (k2 ho2 (some L.b) [] C β1 a1 _ hrd x3' xd' hr2 fun id h1 h2 => by
                      rw [x2' id (.inr h1)]
                      exact hfree id (by have h1 : s1.n ≤ id := h1; omega) h2)
                    refine wpIn_mono hw2 fun e'' a2 w2 ⟨he'', β2, y1, y2, y3, _, y4⟩ => ?_
                    subst he''
                    obtain ⟨L2, p1, p2, p3, ⟨fn2, tmps2, D2, p4, p5, p6, p7⟩, _⟩ := y4.objs id x2 _ hx2 hc2
                    have hL2 := y1 id L hL1
                    rw [hL2] at p1
                    cases p1
                    refine roundPost_ok hj ⟨_, _, run_endRound j p7, β2, _, rfl, x1'.trans y1, fun id hid => ?_, ?_, ?_⟩
                    · have hid : id < s.n ∨ s2.n ≤ id := hid
                      rw [y2 id (by show id < s1.n ∨ s2.n ≤ id; omega), x2' id (by show id < s.n ∨ s1.n ≤ id; omega)]
                    · cases j <;> rfl
                    · cases j with
                      | none => exact y4.putO (o := .loop .ready none tm2 ps2 as2 bd2 dn2) hx2 hc2 hL2 fun w' hw' => ⟨fn2, tmps2, D2, p4, p5, p6, hw'⟩
                      | some c => exact y4.putO (o := .loop .done (some c) tm2 ps2 as2 bd2 dn2) hx2 hc2 hL2 fun w' hw' => ⟨fn2, tmps2, D2, p4, p5, p6, hw'⟩
                  · cases h
                · cases h
              · cases h
            · cases h
          · cases h
        · cases h
      · cases h
    · cases h
  · cases h

/-! ### ranges over functions -/
theorem aCall_res {v : AV} {args args' : List AV} {g : FuncId} {β : Nm} {fv : Value} {us : List Value} (h : aCall args v = some (.call g args')) (hv : γ β v = some fv) (hu : γt β args = some us) :
    ∃ caps : List Value, fv = .func (.func g) #[] caps.toArray ∧ γt β args' = some (us ++ caps) := by
  unfold aCall at h
  split at h
  · cases h
    have := γ_v hv
    exact ⟨[], by simpa using this, by simpa using hu⟩
  · cases h
    simp only [γ, γ1, γc] at hv
    split at hv
    · rename_i vs hvs
      exact ⟨vs, (Option.some.inj hv).symm, γt_append hu (γt_caps hvs)⟩
    · cases hv
  · cases h
  · cases h
theorem run_enterLoop_inner {P : Program} {w : World} {b : Nat} {r : Loop} (h : w.heap[b]? = some (.loop r)) (fn : FuncId) (tmps : Array Value) (ps : Array Tmp) (as bd : Code) :
    (Instr.enterLoop fn tmps ps as bd (some b)).run P w = .ok (w.heap.size, []) (w.alloc (.loop { state := .ready, pending := none, fn, tmps, params := ps, assign := as, body := bd, defers := r.defers })) := by
  unfold Instr.enterLoop
  simp only [Sem.run_bind, run_getLoop h, run_newObj_alloc, Result.andThen, Sem.run_pure]
theorem leaveA_ok {l : Nat} {s s' : St} {e : Exit} (h : leaveA l s = some (e, s')) : ∃ x st pd tm ps as bd dn, look s.m l = some x ∧ x.cs = .obj (.loop st pd tm ps as bd dn) ∧ st ≠ .busy ∧
    ((pd = none ∧ e = .normal) ∨ (pd = some .ret ∧ e = .ret) ∨ ∃ id, pd = some (.exit id) ∧ e = .exit id) ∧ s' = { s with m := updM s.m l { x with cs := .obj (.loop .exhausted pd tm ps as bd dn) } } := by
  unfold leaveA at h
  split at h
  · rename_i x hx
    split at h
    · cases h
    · rename_i st pd tm ps as bd dn hne hc
      split at h
      · cases h; exact ⟨x, st, _, tm, ps, as, bd, dn, hx, hc, fun e => (by subst e; exact hne rfl), .inl ⟨rfl, rfl⟩, rfl⟩
      · cases h; exact ⟨x, st, _, tm, ps, as, bd, dn, hx, hc, fun e => (by subst e; exact hne rfl), .inr (.inl ⟨rfl, rfl⟩), rfl⟩
      · cases h; exact ⟨x, st, _, tm, ps, as, bd, dn, hx, hc, fun e => (by subst e; exact hne rfl), .inr (.inr ⟨_, rfl, rfl⟩), rfl⟩
      · cases h
    · cases h
  · cases h

/-- what entering leaves -/
theorem enter_ok {P : Program} {s : St} {ps : Array Tmp} {as bd : Code} {m' : AMem} {ms' : List Nat} (h : enterA s ps as bd = some (m', ms')) (hn : s.n + 2 ≤ lim) {ro : Option Nat} {D : List Deferred} {C : Ctx} {β : Nm} {a : Act} {w : World}
    (hrd : RdOk β s.rd ro) (hf : FrOk β s.tm a.tmps) (hdf : DfOk β s.ms D a.defers) (hr : Rel C β s.m w) (h0 : β s.n = none) (h1 : β (s.n + 1) = none) (fn : FuncId) :
    ∃ (l : Nat) (mark : List Deferred) (w₁ : World) (β' : Nm) (L : Loc), (Instr.enterLoop fn a.tmps ps as bd ro).run P w = .ok (l, mark) w₁ ∧ Ext β β' ∧ (∀ id, id < s.n ∨ s.n + 2 ≤ id → β' id = β id) ∧
      β' (s.n + 1) = some L ∧ L.nil = false ∧ L.b = l ∧ Rel C β' m' w₁ ∧ DfOk β' ms' D (mark ++ a.defers) := by
  have hg0 : ∀ g, s.n ≠ gid g := gid_ne (by omega)
  have hg1 : ∀ g, s.n + 1 ≠ gid g := gid_ne (by omega)
  unfold enterA at h
  split at h
  · rename_i hs
    rw [hs] at hrd
    cases ro with
    | some b => exact hrd.elim
    | none =>
      simp only [Option.some.injEq, Prod.mk.injEq] at h
      obtain ⟨rfl, rfl⟩ := h
      have hr1 := hr.newO (o := .dfr true) (ob := .deferred (some [])) h0 hg0 fun w' hw' => hw'
      have e1 : Ext β (ext1 β s.n ⟨w.heap.size, 0, 0, 0, false⟩) := ext1_ext h0
      have h1' : ext1 β s.n ⟨w.heap.size, 0, 0, 0, false⟩ (s.n + 1) = none := by simp [ext1, h1]
      have hD : ext1 β s.n ⟨w.heap.size, 0, 0, 0, false⟩ s.n = some ⟨w.heap.size, 0, 0, 0, false⟩ := ext1_same
      have hr2 := hr1.newO (o := .loop .ready none s.tm ps as bd s.n) (ob := .loop { state := .ready, pending := none, fn := fn, tmps := a.tmps, params := ps, assign := as, body := bd, defers := w.heap.size }) h1' hg1
        fun w' hw' => ⟨fn, a.tmps, _, hf.ext e1, hD, rfl, hw'⟩
      refine ⟨_, _, _, _, _, run_enterLoop_outer fn a.tmps ps as bd, e1.trans (ext1_ext h1'), fun id hid => ?_, ext1_same, rfl, by simp, hr2, ?_⟩
      · simp only [ext1]
        rw [if_neg (by omega), if_neg (by omega)]
      · exact ⟨_, _, ext1_ext h1' _ _ hD, rfl, (hdf.ext e1).ext (ext1_ext h1')⟩
  · rename_i r hs
    rw [hs] at hrd
    cases ro with
    | none => exact hrd.elim
    | some b =>
      obtain ⟨Lr, k1, k2, rfl⟩ := hrd
      split at h
      · rename_i x hx
        split at h
        · rename_i st pd tm0 ps0 as0 bd0 dn hc
          simp only [Option.some.injEq, Prod.mk.injEq] at h
          obtain ⟨rfl, rfl⟩ := h
          obtain ⟨L0, q1, q2, _, ⟨fn0, tmps0, D0, q4, q5, q6, q7⟩, _⟩ := hr.objs r x _ hx hc
          rw [k1] at q1
          cases q1
          have hr2 := hr.newO (o := .loop .ready none s.tm ps as bd dn) (ob := .loop { state := .ready, pending := none, fn := fn, tmps := a.tmps, params := ps, assign := as, body := bd, defers := D0.b }) h1 hg1
            fun w' hw' => ⟨fn, a.tmps, D0, hf, q5, q6, hw'⟩
          refine ⟨_, _, _, _, _, run_enterLoop_inner q7 fn a.tmps ps as bd, ext1_ext h1, fun id hid => ?_, ext1_same, rfl, rfl, hr2, hdf.ext (ext1_ext h1)⟩
          simp only [ext1]
          rw [if_neg (by omega)]
        · cases h
      · cases h

theorem sxC_ok (hE : EnvOk E) : ∀ n, CodeOkL E (sxC E n) := by
  intro n
  induction n with
  | zero => intro c s e s' h; cases h
  | succ n ih =>
    have hcf : CallOk E (callF E (sxC E n)) := callF_ok hE ih
    have hyf : YldOk E (yieldS (sxC E n)) := yieldS_ok ih
    intro c s e s' h
    cases c with
    | skip =>
      simp only [sxC, Option.some.injEq, Prod.mk.injEq] at h
      obtain ⟨rfl, rfl⟩ := h
      exact ⟨Grow.refl s, fun _ ro D C β a w _ hf hd hr _ => wpIn_skip ⟨rfl, β, Ext.refl β, fun _ _ => rfl, hf, hd, hr⟩⟩
    | label l =>
      simp only [sxC, Option.some.injEq, Prod.mk.injEq] at h
      obtain ⟨rfl, rfl⟩ := h
      exact ⟨Grow.refl s, fun _ ro D C β a w _ hf hd hr _ => wpIn_label ⟨rfl, β, Ext.refl β, fun _ _ => rfl, hf, hd, hr⟩⟩
    | exit id =>
      simp only [sxC, Option.some.injEq, Prod.mk.injEq] at h
      obtain ⟨rfl, rfl⟩ := h
      exact ⟨Grow.refl s, fun _ ro D C β a w _ hf hd hr _ => wpIn_exit ⟨rfl, β, Ext.refl β, fun _ _ => rfl, hf, hd, hr⟩⟩
    | ret =>
      simp only [sxC, Option.some.injEq, Prod.mk.injEq] at h
      obtain ⟨rfl, rfl⟩ := h
      exact ⟨Grow.refl s, fun _ ro D C β a w _ hf hd hr _ => wpIn_ret ⟨rfl, β, Ext.refl β, fun _ _ => rfl, hf, hd, hr⟩⟩
    | region id ops d =>
      simp only [sxC] at h
      split at h
      · split at h
        · rename_i s1 h1
          simp only [Option.some.injEq, Prod.mk.injEq] at h
          obtain ⟨rfl, rfl⟩ := h
          obtain ⟨g1, gm, g2⟩ := opsS_ok hE hcf hyf h1
          exact ⟨g1, fun ho ro D C β a w _ hf hd hr hfree => wpIn_region_list (g2 ho ro C β a w _ hf hr hfree fun β' a' w' x1 x2 x3 x4 x5 => ⟨rfl, β', x1, x2, x3, by rw [x4, gm]; exact hd.ext x1, x5⟩)⟩
        · cases h
      · split at h
        · rename_i s1 h1
          simp only [Option.some.injEq, Prod.mk.injEq] at h
          obtain ⟨rfl, rfl⟩ := h
          obtain ⟨g1, gm, g2⟩ := regX_ok (id := id) hE hcf hyf h1
          exact ⟨g1, fun ho ro D C β a w _ hf hd hr hfree => g2 ho ro C β a w _ hf hr hfree fun β' a' w' x1 x2 x3 x4 x5 => ⟨rfl, β', x1, x2, x3, by rw [x4, gm]; exact hd.ext x1, x5⟩⟩
        · cases h
    | seq x y =>
      simp only [sxC] at h
      split at h
      · rename_i s1 h1
        obtain ⟨g1, k1⟩ := ih _ _ _ _ h1
        obtain ⟨g2, k2⟩ := ih _ _ _ _ h
        refine ⟨g1.trans g2, fun ho ro D C β a w hrd hf hd hr hfree => wpIn_seq (wpIn_mono (wp_of_wpL (k1 (ho.of g2) ro D C β a w hrd hf hd hr fun id h1 h2 => hfree id h1 (by have := g2.n; omega))) fun e' a' w' ⟨he, β', x1, x2, x3, hd', x4⟩ => ?_)⟩
        subst he
        refine wpIn_mono (wp_of_wpL (k2 ho ro D C β' a' w' (by rw [g1.rd]; exact hrd.ext x1) x3 hd' x4 fun id h1 h2 => ?_)) fun e'' a'' w'' ⟨he'', β'', y1, y2, y3, hd'', y4⟩ => ⟨he'', β'', x1.trans y1, fun id hid => ?_, y3, hd'', y4⟩
        · rw [x2 id (.inr h1)]
          exact hfree id (by have := g1.n; omega) h2
        · have i1 := g1.n
          have i2 := g2.n
          rw [y2 id (by omega), x2 id (by omega)]
      · rename_i hne
        obtain ⟨g1, k1⟩ := ih _ _ _ _ h
        refine ⟨g1, fun ho ro D C β a w hrd hf hd hr hfree => wpIn_seq (wpIn_mono (wp_of_wpL (k1 ho ro D C β a w hrd hf hd hr hfree)) fun e' a' w' hp => ?_)⟩
        have he : e' = e := hp.1
        have hen : e ≠ .normal := fun hn => by subst hn; exact hne _ h
        subst he
        cases e' with
        | normal => exact absurd rfl hen
        | _ => exact hp
    | cond c x y =>
      cases c with
      | tmp t =>
        simp only [sxC] at h
        split at h
        · rename_i b hb
          have key : ∀ (d : Bool) (z : Code) (s1 : St), s.dec t b = some (d, s1) → sxC E n z s1 = some (e, s') → (z = if d then x else y) → Grow s s' ∧ (Obs s' → ∀ (ro : Option Nat) (D : List Deferred) (C : Ctx) (β : Nm) (a : Act) (w : World), RdOk β s.rd ro → FrOk β s.tm a.tmps → DfOk β s.ms D a.defers → Rel C β s.m w → (∀ id, s.n ≤ id → id < s'.n → β id = none) →
              wpL ro E.P (.cond (.tmp t) x y) (PostS C β s.n s'.n s'.tm s'.m s'.ms D e) a w) := by
            intro d z s1 hd1 hz hzd
            obtain ⟨d1, d2, dm, d3, d4, _⟩ := dec_ok hd1 hb
            obtain ⟨g1, k1⟩ := ih _ _ _ _ hz
            refine ⟨d3.trans g1, fun ho ro D C β a w hrd hf hd hr hfree => ?_⟩
            have ho1 := ho.of g1
            have hev : a.eval (.tmp t) = .bool d := by
              rcases hf.2 t _ hb with h5 | ⟨v, h5, h6⟩
              · cases h5
              · have := γ_v h5
                subst this
                simp [Act.eval, h6, d4 ho1]
            refine wpIn_cond hev ?_
            rw [← hzd]
            have := k1 ho ro D C β a w (by rw [d3.rd]; exact hrd) (dec_fr hd1 hb ho1 hf) (by rw [dm]; exact hd) (by rw [d1]; exact hr) (fun id h1 h2 => hfree id (by omega) h2)
            rw [d2] at this
            exact wp_of_wpL this
          split at h
          · rename_i s1 hd1
            exact key true x s1 hd1 h rfl
          · rename_i s1 hd1
            exact key false y s1 hd1 h rfl
          · cases h
        · cases h
      | const v =>
        cases v with
        | bool b =>
          simp only [sxC] at h
          split at h
          · obtain ⟨g1, k1⟩ := ih _ _ _ _ h
            exact ⟨g1, fun ho ro D C β a w hrd hf hd hr hfree => wpIn_cond_true rfl (wp_of_wpL (k1 ho ro D C β a w hrd hf hd hr hfree))⟩
          · obtain ⟨g1, k1⟩ := ih _ _ _ _ h
            exact ⟨g1, fun ho ro D C β a w hrd hf hd hr hfree => wpIn_cond_false rfl (wp_of_wpL (k1 ho ro D C β a w hrd hf hd hr hfree))⟩
        | _ => simp [sxC] at h
      | _ => simp [sxC] at h
    | block id x =>
      simp only [sxC] at h
      split at h
      · rename_i id' s1 h1
        obtain ⟨g1, k1⟩ := ih _ _ _ _ h1
        split at h
        · rename_i hid
          have hid := Nat.eq_of_beq_eq_true hid
          subst hid
          simp only [Option.some.injEq, Prod.mk.injEq] at h
          obtain ⟨rfl, rfl⟩ := h
          refine ⟨g1, fun ho ro D C β a w hrd hf hd hr hfree => wpIn_block (wpIn_mono (wp_of_wpL (k1 ho ro D C β a w hrd hf hd hr hfree)) fun e' a' w' hp => ?_)⟩
          obtain ⟨rfl, hp⟩ := hp
          simp only [Exit.inBlock, if_true]
          exact ⟨rfl, hp⟩
        · rename_i hid
          simp only [Option.some.injEq, Prod.mk.injEq] at h
          obtain ⟨rfl, rfl⟩ := h
          refine ⟨g1, fun ho ro D C β a w hrd hf hd hr hfree => wpIn_block (wpIn_mono (wp_of_wpL (k1 ho ro D C β a w hrd hf hd hr hfree)) fun e' a' w' hp => ?_)⟩
          obtain ⟨rfl, hp⟩ := hp
          have : id' ≠ id := fun e => by subst e; rw [Nat.beq_refl] at hid; cases hid
          simp only [Exit.inBlock, this, if_false]
          exact ⟨rfl, hp⟩
      · rename_i hne
        obtain ⟨g1, k1⟩ := ih _ _ _ _ h
        refine ⟨g1, fun ho ro D C β a w hrd hf hd hr hfree => wpIn_block (wpIn_mono (wp_of_wpL (k1 ho ro D C β a w hrd hf hd hr hfree)) fun e' a' w' hp => ?_)⟩
        have he : e' = e := hp.1
        subst he
        cases e' with
        | exit id' => exact absurd h (hne id' _)
        | _ => exact hp
    | loop x =>
      simp only [sxC] at h
      have unr : ∀ (t : St) (q : List (Option LSum) → List (Option LSum)), t.tm = s.tm → t.m = s.m → t.n = s.n → t.str = s.str → t.ob = s.ob → t.po = s.po → t.ms = s.ms → t.rd = s.rd →
          (match sxC E n x t with | some (.normal, s1) => sxC E n (.loop x) { s1 with lp := q s1.lp } | r => r) = some (e, s') → Grow s s' ∧ (Obs s' → ∀ (ro : Option Nat) (D : List Deferred) (C : Ctx) (β : Nm) (a : Act) (w : World), RdOk β s.rd ro → FrOk β s.tm a.tmps → DfOk β s.ms D a.defers → Rel C β s.m w → (∀ id, s.n ≤ id → id < s'.n → β id = none) →
            wpL ro E.P (.loop x) (PostS C β s.n s'.n s'.tm s'.m s'.ms D e) a w) := by
        intro t q t1 t2 t3 t4 t5 t6 t7 t8 h
        have gt : Grow s t := ⟨by omega, fun b hb => by rw [t5]; exact hb, fun p hp => by rw [t6]; exact hp, t4, t8⟩
        split at h
        · rename_i s1 h1
          obtain ⟨g1, k1⟩ := ih _ _ _ _ h1
          obtain ⟨g2, k2⟩ := ih _ _ _ _ h
          have g2' : Grow s1 s' := ⟨g2.n, g2.ob, g2.po, g2.str, g2.rd⟩
          refine ⟨gt.trans (g1.trans g2'), fun ho ro D C β a w hrd hf hd hr hfree => lwp_peel (wpIn_mono (wp_of_wpL (k1 (ho.of g2') ro D C β a w (by rw [t8]; exact hrd) (by rw [t1]; exact hf) (by rw [t7]; exact hd) (by rw [t2]; exact hr) fun id h1 h2 => hfree id (by omega) (by have := g2'.n; omega))) fun e' a' w' ⟨he, β', x1, x2, x3, hd', x4⟩ => ?_)⟩
          subst he
          have := k2 ho ro D C β' a' w' (by show RdOk β' s1.rd ro; rw [g1.rd, t8]; exact hrd.ext x1) x3 hd' x4 fun id h1 h2 => by
            rw [x2 id (.inr h1)]
            exact hfree id (by have := g1.n; have h1 : s1.n ≤ id := h1; omega) h2
          refine lwp_mono this fun e'' a'' w'' ⟨he'', β'', y1, y2, y3, hd'', y4⟩ => ⟨he'', β'', x1.trans y1, fun id hid => ?_, y3, hd'', y4⟩
          have i1 := g1.n
          have i2 := g2'.n
          rw [y2 id (by show id < s1.n ∨ s'.n ≤ id; omega), x2 id (by omega)]
        · rename_i hne
          obtain ⟨g1, k1⟩ := ih _ _ _ _ h
          refine ⟨gt.trans g1, fun ho ro D C β a w hrd hf hd hr hfree => lwp_peel (wpIn_mono (wp_of_wpL (k1 ho ro D C β a w (by rw [t8]; exact hrd) (by rw [t1]; exact hf) (by rw [t7]; exact hd) (by rw [t2]; exact hr) fun id h1 h2 => hfree id (by omega) h2)) fun e' a' w' hp => ?_)⟩
          rw [t3] at hp
          have he : e' = e := hp.1
          have hen : e ≠ .normal := fun hn => by subst hn; exact hne _ h
          subst he
          cases e' with
          | normal => exact absurd rfl hen
          | _ => exact hp
      split at h
      · rename_i slots ids tm m k e' p hpath
        split at h
        · rename_i hle
          simp only [Bool.and_eq_true] at hle
          simp only [Option.some.injEq, Prod.mk.injEq] at h
          obtain ⟨rfl, rfl⟩ := h
          refine ⟨⟨Nat.le_of_ble_eq_true hle.1, fun b hb => hb, fun p hp => List.mem_cons_of_mem _ hp, rfl, rfl⟩, fun ho ro D C β a w hrd hf hd hr hfree => ?_⟩
          exact lwp_mono (ho.2 _ (List.mem_cons_self ..) s.tm s.m rfl rfl rfl ro C β a w hrd hf hr hfree) fun e'' a'' w'' ⟨h1, h2, β', h3, h4, h5, h6⟩ => ⟨h1, β', h3, h4, h5, by rw [h2]; exact hd.ext h3, h6⟩
        · cases h
      · rename_i p hp
        exact unr { s with lp := p } (fun l => none :: l) rfl rfl rfl rfl rfl rfl rfl rfl h
      · exact unr s (fun l => l) rfl rfl rfl rfl rfl rfl rfl rfl h
    | rangeFunc f ps as bd =>
      simp only [sxC] at h
      split at h
      · rename_i v m' ms' hle hv hen
        have hle : s.n + 2 ≤ lim := Nat.le_of_ble_eq_true hle
        split at h
        · rename_i g args hcall
          split at h
          · rename_i rv s1 h1
            obtain ⟨c1, cm, c2, ⟨fn0, c, c3, c4⟩, c5⟩ := callF_ok hE ih _ _ _ _ _ h1
            obtain ⟨x, st, pd, tm, ps1, as1, bd1, dn, l1, l2, l3, l4, rfl⟩ := leaveA_ok h
            have i1 := c2.n
            simp only at i1
            refine ⟨⟨by show s.n ≤ s1.n; omega, c2.ob, c2.po, c2.str, c2.rd⟩, fun ho ro D C β a w hrd hf hd hr hfree => ?_⟩
            have ho1 : Obs s1 := ho.congr (s' := s1) rfl rfl
            show (Code.rangeFunc f ps as bd).wpIn (FW ro) 0 E.P _ a w
            refine wpIn_rangeFunc fun fn _ => ?_
            have hfr' : ∀ id, s.n ≤ id → id < s1.n → β id = none := hfree
            obtain ⟨l, mark, w₁, β1, L, e1, e2, e3, e4, e5, e6, e7, e8⟩ := enter_ok (P := E.P) hen hle hrd hf hd hr (hfr' s.n (Nat.le_refl _) (by omega)) (hfr' (s.n + 1) (by omega) (by omega)) fn
            subst e6
            have hvv : γ β v = some (a.eval f) := (evA_ok hf hr (Sub.refl _) hv).resolve_left fun e => by subst e; simp [aCall] at hcall
            obtain ⟨caps, hfv, hargs⟩ := aCall_res (us := [.func (.yield L.b) #[] #[]]) hcall (γ_ext e2 hvv) (by simp [γt, γ1, γc, e4, e5])
            have hres : (resolve a.eval (rangeCall f L.b) 0).run E.P w₁ = .ok { target := .fn (.func g) caps.toArray, args := #[.func (.yield L.b) #[] #[]] } w₁ := by
              simp only [resolve, hfv, Deferred.ofValue]
              rw [Sem.run_pure]
              simp [Act.eval]
            have hinv : (invoke (.fn (.func g) caps.toArray) #[.func (.yield L.b) #[] #[]]).run E.P w₁ = .ok (.enter g ([Value.func (.yield L.b) #[] #[]] ++ caps).toArray) w₁ := by
              simp only [invoke]
              rw [run_enter c3 (hE.names _ _ _ c3 c4) c4]
              simp
            have hcalls := (c5 ho1) C β1 w₁ _ hargs e7 fun id h1 h2 => by
              have h1 : s.n + 2 ≤ id := h1
              rw [e3 id (.inr h1)]; exact hfr' id (by omega) h2
            refine ⟨L.b, mark, w₁, _, w₁, g, _, w₁, e1, hres, fun _ _ => trivial, hinv, fun h => (by cases h), CallsIn.mono (callsIn_wide.2 hcalls) fun en w3 ⟨β3, u, z1, z2, z3, _, z5⟩ => ?_⟩
            subst z1
            obtain ⟨L3, k1, k2, k3, ⟨fn3, tmps3, D3, k4, k5, k6, k7⟩, _⟩ := z5.objs _ x _ l1 l2
            have hL3 := z2 _ _ e4
            rw [hL3] at k1
            cases k1
            have hpost : ∀ w4, Rel C β3 (updM s1.m (s.n + 1) { x with cs := .obj (.loop .exhausted pd tm ps1 as1 bd1 dn) }) w4 → PostS C β s.n s1.n s1.tm (updM s1.m (s.n + 1) { x with cs := .obj (.loop .exhausted pd tm ps1 as1 bd1 dn) }) ms' D e e { a with defers := mark ++ a.defers } w4 := fun w4 hr4 => by
              refine ⟨rfl, β3, e2.trans z2, fun id hid => ?_, ?_, e8.ext z2, hr4⟩
              · rw [z3 id (by show id < s.n + 2 ∨ s1.n ≤ id; omega), e3 id (by omega)]
              · rw [c1]; exact hf.ext (e2.trans z2)
            refine ⟨pd, _, run_endLoop k7 l3, ?_⟩
            have hr4 := z5.putO (o := .loop .exhausted pd tm ps1 as1 bd1 dn) (ob := .loop { state := .exhausted, pending := pd, fn := fn3, tmps := tmps3, params := ps1, assign := as1, body := bd1, defers := D3.b }) l1 l2 hL3 fun w' hw' => ⟨fn3, tmps3, D3, k4, k5, k6, hw'⟩
            rcases l4 with ⟨rfl, rfl⟩ | ⟨rfl, rfl⟩ | ⟨id, rfl, rfl⟩
            · exact hpost _ hr4
            · exact wpIn_ret (hpost _ hr4)
            · exact wpIn_exit (hpost _ hr4)
          · cases h
        · cases h
      · cases h
    | _ => cases h

/-- A function that the evaluator runs through. -/
theorem calls_sx (hE : EnvOk E) {n : Nat} {f : FuncId} {args : List AV} {s s' : St} {r : AV} (h : callF E (sxC E n) f args s = some (r, s')) (ho : Obs s') {C : Ctx} {β : Nm} {w : World} {vs : List Value}
    (hvs : γt β args = some vs) (hr : Rel C β s.m w) (hfree : ∀ id, s.n ≤ id → id < s'.n → β id = none) :
    Calls E.P f vs.toArray w (fun e w' => ∃ β' v, e = .returned v ∧ Ext β β' ∧ (∀ id, id < s.n ∨ s'.n ≤ id → β' id = β id) ∧ γ β' r = some v ∧ Rel C β' s'.m w') :=
  (callF_ok hE (sxC_ok hE n) f args s r s' h).2.2.2.2 ho C β w vs hvs hr hfree
end
end Go.Proofs.YtpfkhlfkcmgdlaaDoor
