/- The symbolic evaluator: soundness of code. No Go text is in sight. -/
import Derived.Test.YtpfkhlfkcmgdlaaDoorSxDraw
set_option linter.unusedSimpArgs false
set_option linter.unusedVariables false
namespace Go.Proofs.YtpfkhlfkcmgdlaaDoor
open Go.RowKit

section
variable {E : Env} {cf : FuncId → List AV → St → Option (AV × St)} {yf : Nat → List AV → St → Option (AV × St)}


theorem nwD_false (N : Nat → AMem) : ∀ k, nwD N (fun _ => false) k = []
  | 0 => rfl
  | k + 1 => by simp only [nwD]; rw [nwD_false N k]; rfl
theorem frD_false (ops : Array Oper) (V : Nat → AV) (tm : List AV) : ∀ k, frD ops V tm (fun _ => false) k = tm
  | 0 => rfl
  | k + 1 => by simp only [frD]; rw [frD_false ops V tm k]; rfl

theorem wpAnyIn_of_seq {F : Fence} {n : Nat} {P : Program} {ops : Array Oper} {md : Region.Mode} {Q' : Exit → Act → World → Prop} : ∀ (l : List Oper) (k : Nat) (listed : Array Bool) (a : Act) (w : World), (∀ j, l[j]? = ops[k + j]?) →
    Region.seqB md ops l.length k listed = true → wpListIn F n P ops Q' l a w → wpAnyIn F n P md ops Q' l.length listed a w
  | [], _, _, _, _, _, hB, h => ⟨by simpa [Region.seqB] using hB, h⟩
  | o :: l, k, listed, a, w, hl, hB, h => by
    have h0 : ops[k]? = some o := by simpa using (hl 0).symm
    simp only [List.length_cons, Region.seqB, Bool.and_eq_true, decide_eq_true_eq] at hB
    refine ⟨fun h1 => (by rw [hB.1] at h1; cases h1), fun i hi => ?_⟩
    rw [hB.1] at hi
    have hik : i = k := by simpa using hi
    subst hik
    have hw : wpOpIn F n P ops Q' i (wpListIn F n P ops Q' l) a w := by unfold wpOpIn; simp only [h0]; exact h
    exact wpOpIn_mono (fun a' w' h' => wpAnyIn_of_seq l (i + 1) _ a' w' (fun j => by have := hl (j + 1); simpa [Nat.add_assoc, Nat.add_comm 1 j] using this) hB.2 h') hw

theorem regD_ok (hE : EnvOk E) (hcf : CallOk E cf) (hyf : YldOk E yf) {ops : Array Oper} {s s' : St} {id : Nat} (h : regD E cf yf ops s = some s') : Grow s s' ∧ s'.ms = s.ms ∧
    (Obs s' → ∀ (ro : Option Nat) (C : Ctx) (β : Nm) (a : Act) (w : World) (Q : Exit → Act → World → Prop), FrOk β s.tm a.tmps → Rel C β s.m w → (∀ id, s.n ≤ id → id < s'.n → β id = none) →
      (∀ β' a' w', Ext β β' → (∀ id, id < s.n ∨ s'.n ≤ id → β' id = β id) → FrOk β' s'.tm a'.tmps → a'.defers = a.defers → Rel C β' s'.m w' → Q .normal a' w') → (Code.region id ops true).wpIn (FW ro) 0 E.P Q a w) := by
  unfold regD at h
  split at h
  · rename_i hok
    split at h
    · rename_i acc s1 hq
      generalize hqd : quietLen ops.toList = q at *
      simp only [drawOk, Bool.and_eq_true, Bool.or_eq_true] at hok
      obtain ⟨k1, k2, k3, k4, k5, k6⟩ := hok
      have k4 : q ≤ ops.size := Nat.le_of_ble_eq_true k4
      have hlen : (ops.toList.take q).length = q := by simp; omega
      obtain ⟨V, N, _, h2, h3, h4, h5, hms, h6, h7⟩ := opsQ_ok hE hcf (tm0 := s.tm) (V0 := fun _ => .any) (N0 := fun _ => []) (i := 0) hq (fun j hj => by
        rw [hlen] at hj
        simp [List.getElem?_take, hj])
      rw [hlen, Nat.zero_add] at h2 h6 h7
      subst h2
      rw [newsAll_acc] at h
      obtain ⟨g1, gm, g2⟩ := opsS_ok hE hcf hyf h
      have hstr : s1.str = s.str := h3.str
      have gmid : Grow s1 { s1 with m := s1.m ++ nwD N (fun _ => true) q, n := s1.n + q * s1.str } := ⟨by show s1.n ≤ s1.n + q * s1.str; omega, fun b hb => hb, fun p hp => hp, rfl, rfl⟩
      have g0 := h3.trans (gmid.trans g1)
      refine ⟨g0, gm.trans hms, fun ho ro C β a w Q hf hr hfree hQ => ?_⟩
      have ho1 : Obs s1 := (ho.of g1).congr (s' := s1) rfl rfl
      obtain ⟨t1, t2⟩ := h7 ho1 rfl
      have hn' : s.n + q * s.str ≤ s'.n := by have := g1.n; simp only at this; rw [h5, hstr] at this; exact this
      refine wpIn_region_any hE.mixed ?_
      have hN : ∀ j id x, look ((fun j => if j < q then N j else []) j) id = some x → rng s.n s.str j id := by
        intro j id x hx
        by_cases hj : j < q
        · simp only [hj, if_true] at hx; exact h6 j (Nat.zero_le _) hj id x hx
        · simp only [hj, if_false] at hx; cases hx
      have hNn : ∀ (l : Nat → Bool) k, k ≤ q → nwD (fun j => if j < q then N j else []) l k = nwD N l k := by
        intro l k
        induction k with
        | zero => intro _; rfl
        | succ k ih => intro hk; simp only [nwD]; rw [ih (by omega), if_pos (show k < q by omega)]
      have hgo := draw_go (r := ro) (D := a.defers) (P := E.P) (C := C) (ops := ops) (V := V) (N := fun j => if j < q then N j else []) (tm0 := s.tm) (m0 := s.m) (b := s.n) (str := s.str) (q := q) (β0 := β) (Q := Q)
        (mi := fun j => s.m ++ newsOf ops j (accN N j)) k1 k2 k3 k4 (by
          rcases k6 with h | h
          · exact .inl (Nat.eq_of_beq_eq_true h)
          · exact .inr h) hN ?_ ?_ ?_ q (Array.replicate ops.size false) a { w with drawn := w.drawn + 1 } β ?_ ?_ ?_
      · rwa [show q + (ops.size - q) = ops.size by omega] at hgo
      · intro i hi id x hx
        rw [look_append] at hx
        cases hm : look s.m id with
        | some y => rw [hm] at hx; cases hx; exact .inl rfl
        | none =>
          rw [hm] at hx
          obtain ⟨p, p1, p2, p3⟩ := look_newsOf hx
          simp only [accN, List.mem_map, List.mem_range] at p1
          obtain ⟨j, hj, rfl⟩ := p1
          exact .inr ⟨rfl, j, hj, p2, by simp only [show j < q by omega, if_true]; exact p3⟩
      · intro i hi o hoi
        rw [frD_true ops V s.tm i q (by omega), if_pos hi]
        exact t2 i (Nat.zero_le _) hi o hoi ro C
      · intro a' w' β' f1 f2 f3 f4 f5
        rw [hNn _ q (Nat.le_refl _)] at f3
        have hwl : wpListIn (FW ro) 0 E.P ops Q (ops.toList.drop q) a' w' := by
          refine g2 ho ro C β' a' w' Q ?_ ?_ (fun id h1 h2 => ?_) fun β'' a'' w'' y1 y2 y3 y4 y5 => ?_
          · show FrOk β' s1.tm _
            rw [t1]; exact f1
          · show Rel C β' (s1.m ++ _) w'
            rw [h4]; exact f3
          · have h1 : s1.n + q * s1.str ≤ id := h1
            rw [h5, hstr] at h1
            rw [f5 id (.inr h1)]
            exact hfree id (by omega) h2
          · refine hQ β'' a'' w'' (f4.trans y1) (fun id hid => ?_) y3 (y4.trans f2) y5
            have i1 := g1.n
            simp only at i1
            rw [y2 id (by
              show id < s1.n + q * s1.str ∨ s'.n ≤ id
              rw [h5, hstr]
              rcases hid with h | h
              · exact .inl (by omega)
              · exact .inr h), f5 id (by
              rcases hid with h | h
              · exact .inl h
              · exact .inr (by omega))]
        have := wpAnyIn_of_seq (F := FW ro) (n := 0) (P := E.P) (md := .any) (Q' := Q) (ops.toList.drop q) q (firstN ops q) a' w' (fun j => by simp [List.getElem?_drop]) (by simpa using k5) hwl
        simpa using this
      · refine ⟨by simp, fun j oj _ hl => (by rw [getD_replicate_false] at hl; cases hl), fun t _ ht => getD_in (by simpa using ht) (getD_replicate_false _ _)⟩
      · have : (fun j => !(Array.replicate ops.size false).getD j false) = fun _ => true := by funext j; rw [getD_replicate_false]; rfl
        rw [this]; simp
      · have e : (fun j => (Array.replicate ops.size false).getD j false) = fun _ => false := by funext j; exact getD_replicate_false _ _
        refine ⟨by rw [e, frD_false]; exact hf, rfl, by rw [e, nwD_false, List.append_nil]; exact hr.drew1, fun j hj _ id hrg => ?_, Ext.refl β, fun _ _ => rfl⟩
        refine hfree id (by unfold rng at hrg; omega) ?_
        have : j * s.str + s.str ≤ q * s.str := by rw [← Nat.succ_mul]; exact Nat.mul_le_mul_right _ hj
        unfold rng at hrg
        omega
    · cases h
  · cases h

theorem regX_ok (hE : EnvOk E) (hcf : CallOk E cf) (hyf : YldOk E yf) {ops : Array Oper} {s s' : St} {id : Nat} (h : regX E cf yf ops s = some s') : Grow s s' ∧ s'.ms = s.ms ∧
    (Obs s' → ∀ (ro : Option Nat) (C : Ctx) (β : Nm) (a : Act) (w : World) (Q : Exit → Act → World → Prop), FrOk β s.tm a.tmps → Rel C β s.m w → (∀ id, s.n ≤ id → id < s'.n → β id = none) →
      (∀ β' a' w', Ext β β' → (∀ id, id < s.n ∨ s'.n ≤ id → β' id = β id) → FrOk β' s'.tm a'.tmps → a'.defers = a.defers → Rel C β' s'.m w' → Q .normal a' w') → (Code.region id ops true).wpIn (FW ro) 0 E.P Q a w) := by
  unfold regX at h
  split at h
  · rename_i hw
    exact regW_ok hE hcf hw h
  · split at h
    · exact regD_ok hE hcf hyf h
    · exact regE_ok hE hcf h

/-! ### results -/
def resS (tmps : Array Value) : ResultVar → Sem Value
  | .tmp t => pure (tmps.getD t undef)
  | .cell a t => do loadVar t (← asAddr (tmps.getD a undef))
theorem resA_ok {P : Program} {C : Ctx} {β : Nm} {tm : List AV} {m : AMem} {w : World} {tmps : Array Value} (hf : FrOk β tm tmps) (hr : Rel C β m w) : ∀ {l : List ResultVar} {rs : List AV} {ob : List Bool}, resA P tm m l = some (rs, ob) → allT ob →
    ∃ vs, γt β rs = some vs ∧ (l.mapM (resS tmps)).run P w = .ok vs w
  | [], rs, ob, h, _ => by simp only [resA, Option.some.injEq, Prod.mk.injEq] at h; obtain ⟨rfl, rfl⟩ := h; exact ⟨[], rfl, rfl⟩
  | .tmp t :: r, rs, ob, h, ho => by
    simp only [resA] at h
    split at h
    · rename_i x l ob' hx hl
      simp only [Option.some.injEq, Prod.mk.injEq] at h
      obtain ⟨rfl, rfl⟩ := h
      obtain ⟨vs, h1, h2⟩ := resA_ok hf hr hl ho
      rcases hf.2 t _ hx with h3 | ⟨v, h3, h4⟩
      · cases h3
      · refine ⟨v :: vs, ?_, ?_⟩
        · simp only [γt]
          rw [show γ1 β (.c x) = some v from h3, h1]
        · rw [List.mapM_cons, Sem.run_bind]
          have e : (resS tmps (.tmp t)).run P w = .ok v w := by simp [resS, h4]
          rw [e]
          simp [h2]
    · rename_i x l ob' hx hl
      simp only [Option.some.injEq, Prod.mk.injEq] at h
      obtain ⟨rfl, rfl⟩ := h
      obtain ⟨vs, h1, h2⟩ := resA_ok hf hr hl ho
      rcases hf.2 t _ hx with h3 | ⟨v, h3, h4⟩
      · cases h3
      · refine ⟨v :: vs, ?_, ?_⟩
        · simp only [γt]
          rw [show γ1 β (.agg x) = some v from h3, h1]
        · rw [List.mapM_cons, Sem.run_bind]
          have e : (resS tmps (.tmp t)).run P w = .ok v w := by simp [resS, h4]
          rw [e]
          simp [h2]
    · cases h
  | .cell a t :: r, rs, ob, h, ho => by
    simp only [resA] at h
    split at h
    · rename_i x l ob' hx hl
      split at h
      · rename_i u news ob'' hload
        simp only [Option.some.injEq, Prod.mk.injEq] at h
        obtain ⟨rfl, rfl⟩ := h
        rw [allT_append] at ho
        obtain ⟨vs, h1, h2⟩ := resA_ok hf hr hl ho.2
        rcases hf.2 a _ hx with h3 | ⟨v, h3, h4⟩
        · subst h3; simp [aLoad] at hload
        · obtain ⟨β', y, w', e1, e2, e3, e4, e5⟩ := aLoad_ok (lo := 0) (hi := 0) hload ho.1 h3 hr (Sub.refl m)
          have hβ : β' = β := by funext i; exact e3 i (.inr (Nat.zero_le _))
          subst hβ
          -- the address
          have hptr : ∃ id k j, x = .c (.ptr id k j) ∧ ((∃ z, u = .c z) ∨ ∃ z, u = .agg z) := by
            unfold aLoad at hload
            split at hload
            · split at hload
              · cases hload; exact ⟨_, _, _, rfl, .inr ⟨_, rfl⟩⟩
              · cases hload; exact ⟨_, _, _, rfl, .inl ⟨_, rfl⟩⟩
              · cases hload
            · cases hload
          obtain ⟨id, k, j, rfl, hu⟩ := hptr
          obtain ⟨L, hL, hn, rfl⟩ := γc_ptr h3
          have hrun : (loadVar t ⟨L.b, L.o + (k * L.s + j), none⟩).run P w = .ok y w' := by
            have e1' : (liftV (loadVar t ⟨L.b, L.o + (k * L.s + j), none⟩)).run P w = .ok (.value y) w' := e1
            unfold liftV at e1'
            rw [Sem.run_bind] at e1'
            cases hlv : (loadVar t ⟨L.b, L.o + (k * L.s + j), none⟩).run P w with
            | ok z w2 => rw [hlv] at e1'; simp at e1'; obtain ⟨rfl, rfl⟩ := e1'; rfl
            | halt z w2 => rw [hlv] at e1'; cases e1'
          -- a load leaves the world
          have hw : w' = w := by
            obtain ⟨β2, y2, w2, d1, d2⟩ : ∃ (b2 : Nm) (y2 : Value) (w2 : World), (liftV (Instr.loadAt t (.pointer (some ⟨L.b, L.o + (k * L.s + j), none⟩)))).run P w = .ok (.value y2) w2 ∧ w2 = w := by
              unfold aLoad at hload
              simp only at hload
              split at hload
              · rename_i yb ks hyb hlay
                obtain ⟨q1, q2, _, _⟩ := lay_some hlay
                cases hload
                rw [allT_cons] at ho
                obtain ⟨L', hL', hb⟩ := hr.blk id yb hyb
                rw [hL] at hL'
                cases hL'
                obtain ⟨us, hus, hc⟩ := rd_ok hb ks j ho.1.1 ho.1.2
                have hvl : us.length = ks.length := by rw [γs_length hus, rd_length]
                have hl2 := run_loadCells_list (P := P) w ⟨L.b, L.o + (k * L.s + j), none⟩ us (fun i u hu => by
                  rw [Addr.add_lit]
                  have := (hc i u hu).2
                  rwa [show L.o + (k * L.s + (j + i)) = L.o + (k * L.s + j) + i by omega] at this)
                exact ⟨β', .agg us.toArray, w, run_liftV (by simp [Instr.loadAt, Instr.sureAddr, loadVar, Sem.run_bind, run_aggB q1 w, run_sizeA q2 w, ← hvl, hl2]), rfl⟩
              · rename_i yb ks hyb hlay
                obtain ⟨q1, q2, q3, _⟩ := lay_some hlay
                cases hload
                rw [allT_cons] at ho
                obtain ⟨L', hL', hb⟩ := hr.blk id yb hyb
                rw [hL] at hL'
                cases hL'
                obtain ⟨us, hus, hc⟩ := rd_ok hb ks j ho.1.1 ho.1.2
                have q3 : ks.length = 1 := by simpa using q3
                have hul : us.length = 1 := by rw [γs_length hus, rd_length, q3]
                obtain ⟨z, rfl⟩ := List.length_eq_one_iff.1 hul
                have := (hc 0 z rfl).2
                simp only [Nat.add_zero] at this
                exact ⟨β', z, w, run_liftV (by simp [Instr.loadAt, Instr.sureAddr, loadVar, Sem.run_bind, run_aggB q1 w, load, Sem.run, this]), rfl⟩
              · cases hload
            rw [e1] at d1
            simp at d1
            rw [d1.2, d2]
          subst hw
          refine ⟨y :: vs, ?_, ?_⟩
          · have hy : γ1 β' u = some y := by
              rcases hu with ⟨z, rfl⟩ | ⟨z, rfl⟩ <;> exact e4
            simp only [γt]
            rw [hy, h1]
          · rw [List.mapM_cons, Sem.run_bind]
            have e : (resS tmps (.cell a t)).run P w' = .ok y w' := by simp [resS, h4, asAddr, Sem.run_bind, hrun]
            rw [e]
            simp [h2]
      · cases h
    · cases h

theorem tupA_ok {β : Nm} {rs : List AV} {vs : List Value} (h : γt β rs = some vs) : γ β (tupA rs) = some (if h : vs.toArray.size = 1 then vs.toArray[0] else .tuple vs.toArray) := by
  match rs, vs, h with
  | [], vs, h => simp only [γt, Option.some.injEq] at h; subst h; simp [tupA, γ, γt]
  | [x], vs, h =>
    simp only [γt] at h
    split at h
    · rename_i q qs hq hqs
      cases h
      cases hqs
      simp [tupA, γ_of1 hq]
    · cases h
  | x :: y :: r, vs, h =>
    have hl : vs.length = r.length + 2 := by
      have key : ∀ {l : List AV} {us : List Value}, γt β l = some us → us.length = l.length := by
        intro l
        induction l with
        | nil => intro us hu; simp only [γt, Option.some.injEq] at hu; subst hu; rfl
        | cons p t ih =>
          intro us hu
          simp only [γt] at hu
          split at hu
          · rename_i q qs hq hqs; cases hu; simp [ih hqs]
          · cases hu
      have := key h
      simpa using this
    have hne : ¬ vs.toArray.size = 1 := by simp; omega
    simp only [tupA, γ]
    rw [h, dif_neg hne]

theorem γt_fr {β : Nm} : ∀ {args : List AV} {vs : List Value} {t : Nat} {av : AV}, γt β args = some vs → args[t]? = some av → ∃ v, γ β av = some v ∧ vs[t]? = some v
  | args, vs, t, av, h, ht => by
    obtain ⟨q, hq, hg⟩ := γt_get h ht
    exact ⟨q, γ_of1 hg, hq⟩
theorem γt_length {β : Nm} : ∀ {l : List AV} {us : List Value}, γt β l = some us → us.length = l.length
  | [], us, hu => by simp only [γt, Option.some.injEq] at hu; subst hu; rfl
  | p :: t, us, hu => by
    simp only [γt] at hu
    split at hu
    · rename_i q qs hq hqs; cases hu; simp [γt_length hqs]
    · cases hu
end
end Go.Proofs.YtpfkhlfkcmgdlaaDoor
