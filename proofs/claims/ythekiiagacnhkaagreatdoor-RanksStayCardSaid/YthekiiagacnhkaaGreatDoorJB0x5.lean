/- The symbolic evaluator: slices. No Go text is in sight. -/
import Derived.Test.YthekiiagacnhkaaGreatDoorJB0x2
import Derived.Test.YthekiiagacnhkaaGreatDoorJB0x4
set_option linter.unusedSimpArgs false
set_option linter.unusedVariables false
section
namespace Go.Proofs.YthekiiagacnhkaaGreatDoor
open Go.RowKit

section
variable {P : Program} {C : Ctx} {β : Nm} {m m2 : AMem} {w : World} {tm : List AV} {a : Act} {news : AMem} {ob : List Bool} {lo hi : Nat} {x y val : AV} {u v : Value}

theorem flatParts_ok (s : Nat) : ∀ {ps : List (Nat × AV)} {i : Nat} {l : List AC} {qs : List (Nat × Value)}, flatParts s i ps = some l → ps.map (·.1) = qs.map (·.1) → γt β (ps.map (·.2)) = some (qs.map (·.2)) →
    l.all AC.one = true ∧ γs β l = some (qs.flatMap (·.2.cells.toList)) ∧ fullFrom s i qs = true
  | [], i, l, [], h, _, _ => by simp only [flatParts, Option.some.injEq] at h; subst h; exact ⟨rfl, rfl, rfl⟩
  | (j, p) :: r, i, l, (j', q) :: qs, h, hi, hg => by
    simp only [List.map_cons, List.cons.injEq] at hi
    obtain ⟨rfl, hi⟩ := hi
    simp only [List.map_cons, γt] at hg
    split at hg
    · rename_i q' qs' hq hqs
      simp only [Option.some.injEq, List.cons.injEq] at hg
      obtain ⟨rfl, rfl⟩ := hg
      simp only [flatParts] at h
      split at h
      · rename_i vs l' hvs hl'
        split at h
        · rename_i hc
          simp only [Bool.and_eq_true] at hc
          obtain ⟨h1, h2, h3⟩ := hc
          cases h
          obtain ⟨us, hus, hcells, _⟩ := γ_cells hvs (γ_of1 hq)
          have hcl : q'.cells.toList = us := hcells (List.all_eq_true.2 (one_γs h3 hus))
          obtain ⟨i1, i2, i3⟩ := flatParts_ok s hl' hi hqs
          have hul := γs_length hus
          refine ⟨by rw [List.all_append, h3, i1]; rfl, ?_, ?_⟩
          · rw [List.flatMap_cons, hcl]
            exact γs_append hus i2
          · unfold fullFrom
            have e1 : (j == i) = true := by have := Nat.eq_of_beq_eq_true h1; simp [this]
            have e2 : (q'.cells.size == s) = true := by
              have := Nat.eq_of_beq_eq_true h2
              simp [← Array.length_toList, hcl, hul, this]
            rw [e1, e2, i3]; rfl
        · cases h
      · cases h
    · cases hg
  | [], _, _, _ :: _, _, hi, _ => by simp at hi
  | _ :: _, _, _, [], _, hi, _ => by simp at hi

theorem aBuildSlice_ok {ib : Nat} {t : TypeId} {n : Nat} {ps : List (Nat × AV)} {qs : List (Nat × Value)} (h : aBuildSlice P ib t n ps = some (.eff val news ob)) (hi : ps.map (·.1) = qs.map (·.1)) (hg : γt β (ps.map (·.2)) = some (qs.map (·.2))) (hr : Rel C β m2 w)
    (hid : β ib = none) (hgl : ∀ g, ib ≠ gid g) : EffOk P C m2 w β ib (ib + 1) val news (liftV (Instr.buildSlice t n qs.toArray)) := by
  unfold aBuildSlice at h
  split at h
  · rename_i e hu
    split at h
    · rename_i s z l hs hz hl
      split at h
      · rename_i hc
        simp only [Bool.and_eq_true] at hc
        obtain ⟨h1, h2, h3, h4⟩ := hc
        cases h
        obtain ⟨i, hinf, hsz⟩ := sizeA_some hs
        obtain ⟨i', q, hi', hq, rfl, _⟩ := zeroA_ok hz
        rw [hinf] at hi'
        cases hi'
        rw [hs, Option.getD_some] at hl
        obtain ⟨f1, f2, f3⟩ := flatParts_ok s hl hi hg
        have hlen : qs.length = n := by
          have e1 : ps.length = n := Nat.eq_of_beq_eq_true h1
          have e2 := congrArg List.length hi
          simp at e2
          omega
        have hrun := run_bsAt (P := P) hu hinf hq n qs.toArray w
        rw [if_pos ⟨by rw [hsz]; exact f3, by simp [hlen], by rw [hsz]; exact Nat.le_of_ble_eq_true h2, by rw [hsz]; exact Nat.le_of_ble_eq_true h3⟩] at hrun
        refine ⟨ext1 β ib ⟨w.heap.size, 0, 0, 0, false⟩, .slice (some ⟨w.heap.size, 0, none⟩) n n, _, run_liftV hrun, ext1_ext hid, fun id hid' => ?_, ?_, Rel.new (t := e) hr hid hgl f2 (one_γs f1 f2)⟩
        · simp [ext1]; intro e; omega
        · simp [γ, γ1, γc, ext1]
      · cases h
    · cases h
  · cases h

theorem aLen_ok {t : TypeId} {ty : TypeId} {ts : List TypeId} {xs : List Value} (h : aLen P t x = some (.eff val news ob)) (hx : γ β x = some v) (hr : Rel C β m2 w) :
    EffOk P C m2 w β lo hi val news (liftV (Builtin.len_ (t :: ts).toArray ty (v :: xs).toArray)) := by
  unfold aLen at h
  split at h
  · obtain ⟨L, hL, hsl⟩ := γ_sl hx
    split at h
    · rename_i e hu
      cases h
      refine EffOk.still hr ?_ rfl
      rcases hsl with ⟨_, rfl, _, rfl⟩ | ⟨_, rfl⟩ <;> simp [Builtin.len_, Sem.run_bind, run_underlying hu]
    · cases h
  · have := γ_v hx; subst this
    split at h
    · rename_i e hu
      cases h
      refine EffOk.still hr ?_ rfl
      simp [Builtin.len_, Sem.run_bind, run_underlying hu]
    · cases h
  · have := γ_v hx; subst this
    split at h
    · rename_i hu
      cases h
      refine EffOk.still hr ?_ rfl
      simp [Builtin.len_, Sem.run_bind, run_underlying hu]
    · cases h
  · cases h

theorem aCap_ok {t : TypeId} {ty : TypeId} {ts : List TypeId} {xs : List Value} (h : aCap P t x = some (.eff val news ob)) (hx : γ β x = some v) (hr : Rel C β m2 w) :
    EffOk P C m2 w β lo hi val news (liftV (Builtin.cap_ (t :: ts).toArray ty (v :: xs).toArray)) := by
  unfold aCap at h
  split at h
  · obtain ⟨L, hL, hsl⟩ := γ_sl hx
    split at h
    · rename_i e hu
      cases h
      refine EffOk.still hr ?_ rfl
      rcases hsl with ⟨_, _, hc, rfl⟩ | ⟨_, rfl⟩
      · simp only [Option.getD_some] at hc
        subst hc
        simp [Builtin.cap_, Sem.run_bind, run_underlying hu]
      · simp [Builtin.cap_, Sem.run_bind, run_underlying hu]
    · cases h
  · have := γ_v hx; subst this
    split at h
    · rename_i e hu
      cases h
      refine EffOk.still hr ?_ rfl
      simp [Builtin.cap_, Sem.run_bind, run_underlying hu]
    · cases h
  · cases h

theorem minL_ok {k : IntKind} : ∀ {r : List AV} {n p : Int} {vs : List Value}, minL k n r = some p → γt β r = some vs → ∀ w, (vs.foldlM Builtin.min2 (.int k n)).run P w = .ok (.int k p) w
  | [], n, p, vs, h, hg, w => by simp only [minL, Option.some.injEq] at h; simp only [γt, Option.some.injEq] at hg; subst h; subst hg; rfl
  | .c (.v (.int k' q)) :: r, n, p, vs, h, hg, w => by
    simp only [minL] at h
    simp only [γt, γ1, γc] at hg
    split at hg
    · rename_i q' qs hq hqs
      cases hq
      cases hg
      rw [List.foldlM_cons, Sem.run_bind]
      simp only [Builtin.min2, Sem.run_pure, Result.andThen_ok]
      exact minL_ok h hqs w
    · cases hg
theorem maxL_ok {k : IntKind} : ∀ {r : List AV} {n p : Int} {vs : List Value}, maxL k n r = some p → γt β r = some vs → ∀ w, (vs.foldlM Builtin.max2 (.int k n)).run P w = .ok (.int k p) w
  | [], n, p, vs, h, hg, w => by simp only [maxL, Option.some.injEq] at h; simp only [γt, Option.some.injEq] at hg; subst h; subst hg; rfl
  | .c (.v (.int k' q)) :: r, n, p, vs, h, hg, w => by
    simp only [maxL] at h
    simp only [γt, γ1, γc] at hg
    split at hg
    · rename_i q' qs hq hqs
      cases hq
      cases hg
      rw [List.foldlM_cons, Sem.run_bind]
      simp only [Builtin.max2, Sem.run_pure, Result.andThen_ok]
      exact maxL_ok h hqs w
    · cases hg

/-! ### slice expressions -/
theorem run_sliceBound {k : IntKind} {i : Int} {n : Nat} {c : BoundsCode} (h0 : 0 ≤ i) (h1 : i ≤ n) (w : World) : (Instr.sliceBound (.int k i) n c).run P w = .ok i.toNat w := by
  simp [Instr.sliceBound, asIntOf, Sem.run_bind, h0, h1]
def optV (k : Option IntKind) : Option Int → Option Value
  | none => none
  | some i => some (.int (k.getD .i64) i)
theorem run_bounds {len cap : Nat} {kl kh km : Option IntKind} {l h m : Option Int} (hm0 : m.isNone = true ∨ h.isSome = true) (h1 : 0 ≤ l.getD 0) (h2 : l.getD 0 ≤ h.getD (len : Int)) (h3 : h.getD (len : Int) ≤ m.getD (cap : Int)) (h4 : m.getD (cap : Int) ≤ cap) (w : World) :
    (Instr.sliceBounds true len cap (optV kl l) (optV kh h) (optV km m)).run P w = .ok ((l.getD 0).toNat, (h.getD (len : Int)).toNat, (m.getD (cap : Int)).toNat) w := by
  cases l <;> cases h <;> cases m <;> simp at hm0 h1 h2 h3 h4 ⊢ <;> simp [Instr.sliceBounds, optV, Sem.run_bind] <;>
    (repeat (first | rw [run_sliceBound (by omega) (by omega)] | (rw [Sem.run_bind])) <;> simp [run_sliceBound, *] <;> try omega)

theorem run_sliceAt {t e : TypeId} {s : Nat} {A : Option Addr} {len cap : Nat} {kl kh km : Option IntKind} {l h q : Option Int} (hu : P.underlying t = some (.slice e)) (hs : sizeA P e = some s)
    (hm0 : q.isNone = true ∨ h.isSome = true) (h1 : 0 ≤ l.getD 0) (h2 : l.getD 0 ≤ h.getD (len : Int)) (h3 : h.getD (len : Int) ≤ q.getD (cap : Int)) (h4 : q.getD (cap : Int) ≤ cap) (w : World) :
    (Instr.sliceAt t (.slice A len cap) (optV kl l) (optV kh h) (optV km q)).run P w =
      .ok (.slice (if (q.getD (cap : Int)).toNat = (l.getD 0).toNat then A else A.map (·.add ((l.getD 0).toNat * s))) ((h.getD (len : Int)).toNat - (l.getD 0).toNat) ((q.getD (cap : Int)).toNat - (l.getD 0).toNat)) w := by
  have hb := run_bounds (P := P) (kl := kl) (kh := kh) (km := km) hm0 h1 h2 h3 h4 w
  unfold Instr.sliceAt
  rw [Sem.run_bind, run_underlying hu]
  simp only [Result.andThen_ok]
  unfold Instr.slice
  rw [Sem.run_bind, run_underlying hu]
  simp only [Result.andThen_ok]
  rw [Sem.run_bind, hb]
  simp only [Result.andThen_ok]
  rw [Sem.run_bind, run_sizeA hs]
  rfl

theorem aSlice_ok {t : TypeId} {l h' q : Option Int} {kl kh km : Option IntKind} (h : aSlice P m t l h' q x = some (.eff val news ob)) (hob : allT ob) (hx : γ β x = some v) (hr : Rel C β m2 w) (hs : Sub m m2) :
    EffOk P C m2 w β lo hi val news (liftV (Instr.sliceAt t v (optV kl l) (optV kh h') (optV km q))) := by
  unfold aSlice at h
  split at h
  · have := γ_v hx; subst this
    split at h
    · rename_i e hu
      split at h
      · rename_i s hsz
        cases h
        simp only [allT, List.mem_cons, List.not_mem_nil, or_false, forall_eq_or_imp, forall_eq, decide_eq_true_eq, Bool.or_eq_true] at hob
        obtain ⟨⟨e1, e2, e3⟩, hm0⟩ := hob
        have hh : h'.getD ((0 : Nat) : Int) = 0 := e2
        have hq : q.getD ((0 : Nat) : Int) = 0 := e3
        refine EffOk.still hr ?_ rfl
        rw [run_sliceAt hu hsz hm0 (by omega) (by omega) (by omega) (by omega), e1, hh, hq]
        rfl
      · cases h
    · cases h
  · rename_i id k j len cap
    obtain ⟨L, hL, hsl⟩ := γ_sl hx
    split at h
    · rename_i e b hu hb
      obtain ⟨L', hL', hbk⟩ := hr.blk id b (hs _ _ hb)
      rw [hL] at hL'
      cases hL'
      split at h
      · rename_i s hsz
        have key : ∀ (k' j' : Nat), (cap = none → k' = k + (l.getD 0).toNat) → k' * L.s + j' = k * L.s + j + (l.getD 0).toNat * s → allT (slOb cap b k len l h' q) →
            EffOk P C m2 w β lo hi (.c (.sl id k' j' (h'.getD (len : Int) - l.getD 0).toNat (slCap cap (l.getD 0) q))) [] (liftV (Instr.sliceAt t v (optV kl l) (optV kh h') (optV km q))) := by
          intro k' j' hk' hpos hob
          simp only [slOb, allT, List.mem_cons, List.not_mem_nil, or_false, forall_eq_or_imp, forall_eq, decide_eq_true_eq, Bool.or_eq_true] at hob
          obtain ⟨⟨o1, o2, o3⟩, o4, o5, hm0, o6⟩ := hob
          rcases hsl with ⟨hn, h2, h3, rfl⟩ | ⟨hn, rfl⟩
          · subst h2
            have hc0 : cap.getD 0 = 0 := h3
            have hq0 : slC cap 0 q = 0 := by
              have h9 : 0 ≤ slC cap 0 q := by omega
              rw [hc0] at o5
              omega
            have hqd : q.getD ((0 : Nat) : Int) = 0 := by cases q <;> simp_all [slC]
            rw [hq0] at o3
            have hcap : (slCap cap (l.getD 0) q).getD 0 = 0 := by
              cases q with
              | some M => simp [slC] at hq0; simp [slCap, hq0]; omega
              | none =>
                cases cap with
                | none => rfl
                | some c => simp at hc0; simp [slCap, hc0]
            refine EffOk.still hr (v := .slice none 0 0) ?_ ?_
            · rw [run_sliceAt hu hsz hm0 (by omega) (by omega) (by omega) (by omega)]
              rw [show (h'.getD ((0 : Nat) : Int)).toNat - (l.getD 0).toNat = 0 by omega, show (q.getD ((0 : Nat) : Int)).toNat - (l.getD 0).toNat = 0 by omega]
              simp
            · simp only [γ, γ1, γc, hL, hn, if_true]
              rw [if_pos ⟨by omega, hcap⟩]
          · -- the real capacity
            have hrow : cap = none → ∃ n f, b.cs = .arr n f ∧ b.row = true ∧ k + len ≤ n := fun hc => by
              subst hc
              cases hbc : b.cs with
              | lit _ => simp [slRow, hbc] at o6
              | obj _ => simp [slRow, hbc] at o6
              | arr n f =>
                simp [slRow, hbc] at o6
                exact ⟨n, f, rfl, o6.1, o6.2⟩
            have hreal : ((cap.getD len : Nat) : Int) ≤ (cap.getD (L.cap - k) : Nat) := by
              cases cap with
              | none =>
                obtain ⟨n, f, r1, r2, r3⟩ := hrow rfl
                have := hbk.rowc r2 hn n f r1
                simp; omega
              | some c => simp
            have hq1 : q.getD ((cap.getD (L.cap - k) : Nat) : Int) ≤ (cap.getD (L.cap - k) : Nat) := by
              cases q with
              | none => simp
              | some M => simp [slC] at o5 ⊢; omega
            have hq2 : slC cap len q ≤ q.getD ((cap.getD (L.cap - k) : Nat) : Int) := by
              cases q with
              | none => simpa [slC] using hreal
              | some M => simp [slC]
            refine EffOk.still hr (run_sliceAt hu hsz hm0 o1 o2 (by omega) hq1 w) ?_
            simp only [γ, γ1, γc, hL, hn, Bool.false_eq_true, if_false, Option.some.injEq, Value.slice.injEq]
            refine ⟨?_, by omega, ?_⟩
            · by_cases h0 : l.getD 0 = 0
              · rw [h0] at hpos ⊢
                simp at hpos
                simp [Addr.add_lit, hpos]
              · rw [if_neg (by omega)]
                simp [Addr.add_lit]
                try omega
            · cases q with
              | some M => simp [slCap]; try omega
              | none =>
                cases cap with
                | none =>
                  have := hk' rfl
                  simp [slCap, this]
                  try omega
                | some c => simp [slCap]
        split at h
        · rename_i hss
          cases h
          exact key _ _ (fun _ => rfl) (by rw [hbk.sz, hss, Nat.add_mul]; omega) hob
        · split at h
          · rename_i hss
            cases h
            exact key _ _ (fun hc => by rw [hc] at hss; exact absurd hss.2 (by simp)) (by omega) hob
          · cases h
      · cases h
    · cases h
  · cases h
end
end Go.Proofs.YthekiiagacnhkaaGreatDoor
end
