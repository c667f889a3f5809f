/- The symbolic evaluator: soundness of calls in place, of loops, of whole functions. No Go text is in sight. -/
import Derived.Test.YtjmiocacnilchaaSxSound3
set_option linter.unusedSimpArgs false
set_option linter.unusedVariables false
namespace Go.Proofs.Ytjmiocacnilchaa
open Go.RowKit

section
variable {P : Program} {Q : Exit → Act → World → Prop} {a : Act} {w : World} {c : Code}
theorem wp_of_lwp (h : lwp P c Q a w) : (Code.loop c).wp P Q a w := by
  intro b k cs
  obtain ⟨e, a', w', hq, harr⟩ := h b k cs
  exact ⟨e, a', w', hq, .of_steps (.one step_loop) harr⟩
theorem lwp_peel (h : c.wp P (Exit.then (lwp P c Q) Q) a w) : lwp P c Q a w := by
  intro b k cs
  obtain ⟨e, a₁, w₁, hq, harr⟩ := h b (.inLoop c :: k) cs
  cases e with
  | normal =>
    obtain ⟨e₂, a₂, w₂, hq₂, harr₂⟩ := hq b k cs
    exact ⟨e₂, a₂, w₂, hq₂, .of_steps (Steps.trans harr (.one step_inLoop)) harr₂⟩
  | exit id => exact ⟨_, a₁, w₁, hq, .pass (x := .inLoop c) rfl (fun _ _ => .inl (by simp)) harr⟩
  | goto l => exact ⟨_, a₁, w₁, hq, .pass (x := .inLoop c) rfl (fun _ _ => .inl (by simp)) harr⟩
  | ret => exact ⟨_, a₁, w₁, hq, .pass (x := .inLoop c) rfl (fun _ _ => .inl (by simp)) harr⟩
  | panic ch => exact ⟨_, a₁, w₁, hq, .pass (x := .inLoop c) rfl (fun _ _ => .inl (by simp)) harr⟩
  | outgrown => exact ⟨_, a₁, w₁, hq, .pass (x := .inLoop c) rfl (fun _ _ => .inl (by simp)) harr⟩
theorem lwp_mono {Q' : Exit → Act → World → Prop} (h : lwp P c Q a w) (hq : ∀ e a w, Q e a w → Q' e a w) : lwp P c Q' a w :=
  fun b k cs => let ⟨e, a', w', q, r⟩ := h b k cs; ⟨e, a', w', hq _ _ _ q, r⟩
/-- a loop, by induction on a number -/
theorem lwp_ind (I : Nat → Act → World → Prop) (round : ∀ n a w, I n a w → c.wp P (Exit.then (fun a' w' => ∃ n', n' < n ∧ I n' a' w') Q) a w) : ∀ n a w, I n a w → lwp P c Q a w := by
  intro n
  induction n using Nat.strongRecOn with
  | _ n ih =>
    intro a w h
    refine lwp_peel (wp_mono (round n a w h) fun e a' w' hq => ?_)
    cases e with
    | normal => obtain ⟨n', h1, h2⟩ := hq; exact ih n' h1 a' w' h2
    | _ => exact hq
end

/-- a loop in the stronger sense -/
def wpL (P : Program) (c : Code) (Q : Exit → Act → World → Prop) (a : Act) (w : World) : Prop :=
  match c with
  | .loop b => lwp P b Q a w
  | c => c.wp P Q a w
theorem wp_of_wpL {P : Program} {c : Code} {Q : Exit → Act → World → Prop} {a : Act} {w : World} (h : wpL P c Q a w) : c.wp P Q a w := by
  unfold wpL at h
  split at h
  · exact wp_of_lwp h
  · exact h

section
variable {E : Env}

/-- what a state's way ends in -/
def PostS (C : Ctx) (β : Nm) (n n' : Nat) (tm' : List AV) (m' : AMem) (e : Exit) : Exit → Act → World → Prop :=
  fun e' a' w' => e' = e ∧ a'.defers = [] ∧ ∃ β', Ext β β' ∧ (∀ id, id < n ∨ n' ≤ id → β' id = β id) ∧ FrOk β' tm' a'.tmps ∧ Rel C β' m' w'

def CodeOkL (E : Env) (run : Code → St → Option (Exit × St)) : Prop :=
  ∀ c s e s', run c s = some (e, s') → Grow s s' ∧ (Obs s' → ∀ (C : Ctx) (β : Nm) (a : Act) (w : World), FrOk β s.tm a.tmps → a.defers = [] → Rel C β s.m w → (∀ id, s.n ≤ id → id < s'.n → β id = none) →
    wpL E.P c (PostS C β s.n s'.n s'.tm s'.m e) a w)

theorem callF_ok (hE : EnvOk E) {run : Code → St → Option (Exit × St)} (hrun : CodeOkL E run) : CallOk E (callF E run) := by
  intro f args s r s' h
  unfold callF at h
  split at h
  · rename_i fn hfn
    split at h
    · rename_i c hc
      have main : ∀ e s1, (e = .ret ∨ e = .normal) → run c { s with tm := args ++ List.replicate (fn.ntmps - args.length) (.c (.v undef)) } = some (e, s1) →
          (match resA E.P s1.tm s1.m fn.results.toList with
            | some (l, ob) => match s1.need ob with | some s' => some (tupA l, { s' with tm := s.tm }) | none => none
            | none => none) = some (r, s') →
          s'.tm = s.tm ∧ Grow s s' ∧ (∃ (fn : Func) (c : Code), E.P.funcs[f]? = some fn ∧ fn.body = some c) ∧
          (Obs s' → ∀ (C : Ctx) (β : Nm) (w : World) (vs : List Value), γt β args = some vs → Rel C β s.m w → (∀ id, s.n ≤ id → id < s'.n → β id = none) →
            Calls E.P f vs.toArray w (fun e w' => ∃ β' v, e = .returned v ∧ Ext β β' ∧ (∀ id, id < s.n ∨ s'.n ≤ id → β' id = β id) ∧ γ β' r = some v ∧ Rel C β' s'.m w')) := by
        intro e s1 he hrunc hres
        split at hres
        · rename_i l ob hl
          split at hres
          · rename_i s2 hneed
            simp only [Option.some.injEq, Prod.mk.injEq] at hres
            obtain ⟨rfl, rfl⟩ := hres
            obtain ⟨n1, n2, n3, n4, n5⟩ := need_ok hneed
            obtain ⟨g1, g2⟩ := hrun _ _ _ _ hrunc
            refine ⟨rfl, ⟨by show s.n ≤ s2.n; rw [n3]; exact g1.n, fun b hb => n4.ob b (g1.ob b hb), fun p hp => n4.po p (g1.po p hp), n4.str.trans g1.str⟩, ⟨fn, c, hfn, hc⟩, fun ho C β w vs hvs hr hfree => ?_⟩
            · have ho2 : Obs s2 := ho.congr (s' := s2) rfl rfl
              have hlen : vs.length = args.length := γt_length hvs
              have hfr : FrOk β (args ++ List.replicate (fn.ntmps - args.length) (.c (.v undef))) (vs.toArray ++ Array.replicate (fn.ntmps - vs.toArray.size) undef) := by
                refine ⟨by simp [hlen], fun t av ht => .inr ?_⟩
                by_cases hlt : t < args.length
                · rw [List.getElem?_append_left hlt] at ht
                  obtain ⟨v, h1, h2⟩ := γt_fr hvs ht
                  refine ⟨v, h1, ?_⟩
                  rw [Array.getElem?_append_left (by simp; omega)]
                  simpa using h2
                · rw [List.getElem?_append_right (by omega), List.getElem?_replicate] at ht
                  split at ht
                  · cases ht
                    refine ⟨undef, rfl, ?_⟩
                    rename_i hlt2
                    rw [Array.getElem?_append_right (by simp; omega), Array.getElem?_replicate, if_pos (by simp [hlen]; omega)]
                  · cases ht
              have hwp := g2 (ho2.of n4) C β { tmps := vs.toArray ++ Array.replicate (fn.ntmps - vs.toArray.size) undef, defers := [] } w hfr rfl hr (fun id h1 h2 => hfree id h1 (by show id < s2.n; rw [n3]; exact h2))
              refine calls_of_wp hfn hc (wp_mono (wp_of_wpL hwp) fun e' a' w' ⟨he', hd', β', x1, x2, x3, x4⟩ => ?_)
              subst he'
              obtain ⟨us, hu1, hu2⟩ := resA_ok x3 x4 hl (n5 ho2)
              have hres2 : (results fn a'.tmps).run E.P w' = .ok (if h : us.toArray.size = 1 then us.toArray[0] else .tuple us.toArray) w' := by
                have hm : (fn.results.mapM (resS a'.tmps)).run E.P w' = .ok us.toArray w' := by
                  rw [Array.mapM_eq_mapM_toList]
                  simp [hu2]
                show (do let vs ← fn.results.mapM (resS a'.tmps); pure (if h : vs.size = 1 then vs[0] else .tuple vs) : Sem Value).run E.P w' = _
                rw [Sem.run_bind, hm]
                rfl
              have hpost : a'.defers = [] ∧ ∃ v, (results fn a'.tmps).run E.P w' = .ok v w' ∧ (∃ β' u, Ending.returned v = .returned u ∧ Ext β β' ∧ (∀ id, id < s.n ∨ s2.n ≤ id → β' id = β id) ∧ γ β' (tupA l) = some u ∧ Rel C β' s2.m w') :=
                ⟨hd', _, hres2, β', _, rfl, x1, fun id hid => x2 id (by rw [n3] at hid; exact hid), tupA_ok hu1, by rw [n2]; exact x4⟩
              rcases he with rfl | rfl <;> exact hpost
          · cases hres
        · cases hres
      split at h
      · rename_i s1 hr1
        exact main _ s1 (.inl rfl) hr1 h
      · rename_i s1 hr1
        exact main _ s1 (.inr rfl) hr1 h
      · cases h
    · cases h
  · cases h

theorem PostS.mono {C : Ctx} {β : Nm} {n n' : Nat} {tm' : List AV} {m' : AMem} {e e' : Exit} {a : Act} {w : World} (h : PostS C β n n' tm' m' e e' a w) : e' = e := h.1

theorem sxC_ok (hE : EnvOk E) : ∀ n, CodeOkL E (sxC E n) := by
  intro n
  induction n with
  | zero => intro c s e s' h; cases h
  | succ n ih =>
    have hcf : CallOk E (callF E (sxC E n)) := callF_ok hE ih
    intro c s e s' h
    cases c with
    | skip =>
      simp only [sxC, Option.some.injEq, Prod.mk.injEq] at h
      obtain ⟨rfl, rfl⟩ := h
      exact ⟨Grow.refl s, fun _ C β a w hf hd hr _ => wp_skip ⟨rfl, hd, β, Ext.refl β, fun _ _ => rfl, hf, hr⟩⟩
    | label l =>
      simp only [sxC, Option.some.injEq, Prod.mk.injEq] at h
      obtain ⟨rfl, rfl⟩ := h
      exact ⟨Grow.refl s, fun _ C β a w hf hd hr _ => wp_label ⟨rfl, hd, β, Ext.refl β, fun _ _ => rfl, hf, hr⟩⟩
    | exit id =>
      simp only [sxC, Option.some.injEq, Prod.mk.injEq] at h
      obtain ⟨rfl, rfl⟩ := h
      exact ⟨Grow.refl s, fun _ C β a w hf hd hr _ => wp_exit ⟨rfl, hd, β, Ext.refl β, fun _ _ => rfl, hf, hr⟩⟩
    | ret =>
      simp only [sxC, Option.some.injEq, Prod.mk.injEq] at h
      obtain ⟨rfl, rfl⟩ := h
      exact ⟨Grow.refl s, fun _ C β a w hf hd hr _ => wp_ret ⟨rfl, hd, β, Ext.refl β, fun _ _ => rfl, hf, hr⟩⟩
    | region id ops d =>
      simp only [sxC] at h
      split at h
      · split at h
        · rename_i s1 h1
          simp only [Option.some.injEq, Prod.mk.injEq] at h
          obtain ⟨rfl, rfl⟩ := h
          obtain ⟨g1, g2⟩ := opsS_ok hE hcf h1
          exact ⟨g1, fun ho C β a w hf hd hr hfree => wp_region_list (g2 ho C β a w _ hf hd hr hfree fun β' a' w' x1 x2 x3 x4 x5 => ⟨rfl, x4, β', x1, x2, x3, x5⟩)⟩
        · cases h
      · split at h
        · rename_i s1 h1
          simp only [Option.some.injEq, Prod.mk.injEq] at h
          obtain ⟨rfl, rfl⟩ := h
          obtain ⟨g1, g2⟩ := regD_ok (id := id) hE hcf h1
          exact ⟨g1, fun ho C β a w hf hd hr hfree => g2 ho C β a w _ hf hd hr hfree fun β' a' w' x1 x2 x3 x4 x5 => ⟨rfl, x4, β', x1, x2, x3, x5⟩⟩
        · cases h
    | seq x y =>
      simp only [sxC] at h
      split at h
      · rename_i s1 h1
        obtain ⟨g1, k1⟩ := ih _ _ _ _ h1
        obtain ⟨g2, k2⟩ := ih _ _ _ _ h
        refine ⟨g1.trans g2, fun ho C β a w hf hd hr hfree => wp_seq (wp_mono (wp_of_wpL (k1 (ho.of g2) C β a w hf hd hr fun id h1 h2 => hfree id h1 (by have := g2.n; omega))) fun e' a' w' ⟨he, hd', β', x1, x2, x3, x4⟩ => ?_)⟩
        subst he
        refine wp_mono (wp_of_wpL (k2 ho C β' a' w' x3 hd' x4 fun id h1 h2 => ?_)) fun e'' a'' w'' ⟨he'', hd'', β'', y1, y2, y3, y4⟩ => ⟨he'', hd'', β'', x1.trans y1, fun id hid => ?_, y3, y4⟩
        · rw [x2 id (.inr h1)]
          exact hfree id (by have := g1.n; omega) h2
        · have i1 := g1.n
          have i2 := g2.n
          rw [y2 id (by omega), x2 id (by omega)]
      · rename_i hne
        obtain ⟨g1, k1⟩ := ih _ _ _ _ h
        refine ⟨g1, fun ho C β a w hf hd hr hfree => wp_seq (wp_mono (wp_of_wpL (k1 ho C β a w hf hd hr hfree)) fun e' a' w' hp => ?_)⟩
        have he : e' = e := hp.1
        have hen : e ≠ .normal := fun hn => by subst hn; exact hne _ h
        subst he
        cases e' with
        | normal => exact absurd rfl hen
        | _ => exact hp
    | cond c x y =>
      cases c with
      | tmp t =>
        simp only [sxC] at h
        split at h
        · rename_i b hb
          have key : ∀ (d : Bool) (z : Code) (s1 : St), s.dec t b = some (d, s1) → sxC E n z s1 = some (e, s') → (z = if d then x else y) → Grow s s' ∧ (Obs s' → ∀ (C : Ctx) (β : Nm) (a : Act) (w : World), FrOk β s.tm a.tmps → a.defers = [] → Rel C β s.m w → (∀ id, s.n ≤ id → id < s'.n → β id = none) →
              wpL E.P (.cond (.tmp t) x y) (PostS C β s.n s'.n s'.tm s'.m e) a w) := by
            intro d z s1 hd1 hz hzd
            obtain ⟨d1, d2, d3, d4, _⟩ := dec_ok hd1 hb
            obtain ⟨g1, k1⟩ := ih _ _ _ _ hz
            refine ⟨d3.trans g1, fun ho C β a w hf hd hr hfree => ?_⟩
            have ho1 := ho.of g1
            have hev : a.eval (.tmp t) = .bool d := by
              rcases hf.2 t _ hb with h5 | ⟨v, h5, h6⟩
              · cases h5
              · have := γ_v h5
                subst this
                simp [Act.eval, h6, d4 ho1]
            refine wp_cond hev ?_
            rw [← hzd]
            have := k1 ho C β a w (dec_fr hd1 hb ho1 hf) hd (by rw [d1]; exact hr) (fun id h1 h2 => hfree id (by omega) h2)
            rw [d2] at this
            exact wp_of_wpL this
          split at h
          · rename_i s1 hd1
            exact key true x s1 hd1 h rfl
          · rename_i s1 hd1
            exact key false y s1 hd1 h rfl
          · cases h
        · cases h
      | const v =>
        cases v with
        | bool b =>
          simp only [sxC] at h
          split at h
          · obtain ⟨g1, k1⟩ := ih _ _ _ _ h
            exact ⟨g1, fun ho C β a w hf hd hr hfree => wp_cond_true rfl (wp_of_wpL (k1 ho C β a w hf hd hr hfree))⟩
          · obtain ⟨g1, k1⟩ := ih _ _ _ _ h
            exact ⟨g1, fun ho C β a w hf hd hr hfree => wp_cond_false rfl (wp_of_wpL (k1 ho C β a w hf hd hr hfree))⟩
        | _ => simp [sxC] at h
      | _ => simp [sxC] at h
    | block id x =>
      simp only [sxC] at h
      split at h
      · rename_i id' s1 h1
        obtain ⟨g1, k1⟩ := ih _ _ _ _ h1
        split at h
        · rename_i hid
          have hid := Nat.eq_of_beq_eq_true hid
          subst hid
          simp only [Option.some.injEq, Prod.mk.injEq] at h
          obtain ⟨rfl, rfl⟩ := h
          refine ⟨g1, fun ho C β a w hf hd hr hfree => wp_block (wp_mono (wp_of_wpL (k1 ho C β a w hf hd hr hfree)) fun e' a' w' hp => ?_)⟩
          obtain ⟨rfl, hp⟩ := hp
          simp only [Exit.inBlock, if_true]
          exact ⟨rfl, hp⟩
        · rename_i hid
          simp only [Option.some.injEq, Prod.mk.injEq] at h
          obtain ⟨rfl, rfl⟩ := h
          refine ⟨g1, fun ho C β a w hf hd hr hfree => wp_block (wp_mono (wp_of_wpL (k1 ho C β a w hf hd hr hfree)) fun e' a' w' hp => ?_)⟩
          obtain ⟨rfl, hp⟩ := hp
          have : id' ≠ id := fun e => by subst e; rw [Nat.beq_refl] at hid; cases hid
          simp only [Exit.inBlock, this, if_false]
          exact ⟨rfl, hp⟩
      · rename_i hne
        obtain ⟨g1, k1⟩ := ih _ _ _ _ h
        refine ⟨g1, fun ho C β a w hf hd hr hfree => wp_block (wp_mono (wp_of_wpL (k1 ho C β a w hf hd hr hfree)) fun e' a' w' hp => ?_)⟩
        have he : e' = e := hp.1
        subst he
        cases e' with
        | exit id' => exact absurd h (hne id' _)
        | _ => exact hp
    | loop x =>
      simp only [sxC] at h
      split at h
      · rename_i slots ids tm m k e' p hpath
        split at h
        · rename_i hle
          simp only [Bool.and_eq_true] at hle
          simp only [Option.some.injEq, Prod.mk.injEq] at h
          obtain ⟨rfl, rfl⟩ := h
          refine ⟨⟨Nat.le_of_ble_eq_true hle.1, fun b hb => hb, fun p hp => List.mem_cons_of_mem _ hp, rfl⟩, fun ho C β a w hf hd hr hfree => ?_⟩
          exact ho.2 _ (List.mem_cons_self ..) s.tm s.m rfl rfl rfl C β a w hf hd hr hfree
        · cases h
      · split at h
        · rename_i s1 h1
          obtain ⟨g1, k1⟩ := ih _ _ _ _ h1
          obtain ⟨g2, k2⟩ := ih _ _ _ _ h
          refine ⟨g1.trans g2, fun ho C β a w hf hd hr hfree => lwp_peel (wp_mono (wp_of_wpL (k1 (ho.of g2) C β a w hf hd hr fun id h1 h2 => hfree id h1 (by have := g2.n; omega))) fun e' a' w' ⟨he, hd', β', x1, x2, x3, x4⟩ => ?_)⟩
          subst he
          have := k2 ho C β' a' w' x3 hd' x4 fun id h1 h2 => by
            rw [x2 id (.inr h1)]
            exact hfree id (by have := g1.n; omega) h2
          refine lwp_mono this fun e'' a'' w'' ⟨he'', hd'', β'', y1, y2, y3, y4⟩ => ⟨he'', hd'', β'', x1.trans y1, fun id hid => ?_, y3, y4⟩
          have i1 := g1.n
          have i2 := g2.n
          rw [y2 id (by omega), x2 id (by omega)]
        · rename_i hne
          obtain ⟨g1, k1⟩ := ih _ _ _ _ h
          refine ⟨g1, fun ho C β a w hf hd hr hfree => lwp_peel (wp_mono (wp_of_wpL (k1 ho C β a w hf hd hr hfree)) fun e' a' w' hp => ?_)⟩
          have he : e' = e := hp.1
          have hen : e ≠ .normal := fun hn => by subst hn; exact hne _ h
          subst he
          cases e' with
          | normal => exact absurd rfl hen
          | _ => exact hp
    | _ => cases h

/-- A function that the evaluator runs through. -/
theorem calls_sx (hE : EnvOk E) {n : Nat} {f : FuncId} {args : List AV} {s s' : St} {r : AV} (h : callF E (sxC E n) f args s = some (r, s')) (ho : Obs s') {C : Ctx} {β : Nm} {w : World} {vs : List Value}
    (hvs : γt β args = some vs) (hr : Rel C β s.m w) (hfree : ∀ id, s.n ≤ id → id < s'.n → β id = none) :
    Calls E.P f vs.toArray w (fun e w' => ∃ β' v, e = .returned v ∧ Ext β β' ∧ (∀ id, id < s.n ∨ s'.n ≤ id → β' id = β id) ∧ γ β' r = some v ∧ Rel C β' s'.m w') :=
  (callF_ok hE (sxC_ok hE n) f args s r s' h).2.2.2 ho C β w vs hvs hr hfree
end
end Go.Proofs.Ytjmiocacnilchaa
