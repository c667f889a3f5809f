/- The symbolic evaluator: regions that draw their order, with operations that write anywhere: one walk in the text's order serves every order. No Go text is in sight. -/
import Derived.Test.YtpfkhlfkcmgdlaaDoorSxSound2
set_option linter.unusedSimpArgs false
set_option linter.unusedVariables false
namespace Go.Proofs.YtpfkhlfkcmgdlaaDoor
open Go.RowKit

/-! ### memory as a function of names -/
def stepF : AStep → (Nat → Option ABlk) → Nat → Option ABlk
  | .news l, f, id => match f id with | some x => some x | none => look l id
  | .efx (.put t b), f, id => if id = t then some b else f id
  | .efx (.app t ib b), f, id => if id = t then none else match f id with | some x => some x | none => if id = ib then some b else none
  | .many ps l, f, id => match look (putsOf ps) id with | some x => some x | none => if id ∈ ps.map (·.1) then look l id else match f id with | some x => some x | none => look l id
theorem stepF_point {z : AStep} {f g : Nat → Option ABlk} {id : Nat} (h : f id = g id) : stepF z f id = stepF z g id := by
  cases z with
  | news l => simp only [stepF, h]
  | efx e => cases e <;> simp only [stepF, h]
  | many ps l => simp only [stepF, h]
theorem look_putsOf : ∀ {ps : List (Nat × Option ABlk)} {id : Nat} {x : ABlk}, look (putsOf ps) id = some x → (id, some x) ∈ ps
  | [], _, _, h => by cases h
  | (i, some b) :: r, id, x, h => by
    simp only [putsOf, look_cons] at h
    split at h
    · rename_i hb
      cases h
      have := Nat.eq_of_beq_eq_true hb
      subst this
      exact List.mem_cons_self ..
    · exact List.mem_cons_of_mem _ (look_putsOf h)
  | (i, none) :: r, id, x, h => List.mem_cons_of_mem _ (look_putsOf (ps := r) (by simpa only [putsOf] using h))
theorem look_delK : ∀ (ps : List (Nat × Option ABlk)) (m : AMem) (id : Nat), look (delK ps m) id = if id ∈ ps.map (·.1) then none else look m id
  | [], m, id => by simp [delK]
  | (i, y) :: r, m, id => by
    simp only [delK, look_delM, look_delK r m id, List.map_cons, List.mem_cons]
    by_cases h : id = i
    · simp [h]
    · rw [if_neg h]; simp only [h, false_or]
theorem look_on {z : AStep} {m : AMem} {f : Nat → Option ABlk} (hf : ∀ id, look m id = f id) (ht : ∀ t ∈ z.tids, ∃ x, look m t = some x) (hib : ∀ t ib b, z = .efx (.app t ib b) → ib ≠ t) (id : Nat) : look (z.on m) id = stepF z f id := by
  cases z with
  | news l =>
    simp only [AStep.on, stepF, look_append, hf]
    cases f id <;> rfl
  | efx e =>
    cases e with
    | put t b =>
      obtain ⟨x, hx⟩ := ht t (by simp [AStep.tids, Efx.tid])
      simp only [AStep.on, Efx.on, stepF]
      rw [look_updM m t id b x hx, hf]
    | app t ib b =>
      have hne := hib t ib b rfl
      simp only [AStep.on, Efx.on, stepF, look_append, look_delM]
      by_cases h : id = t
      · subst h
        rw [if_pos rfl, if_pos rfl]
        simp only [look_cons]
        cases hb : Nat.beq ib id with
        | true => exact absurd (Nat.eq_of_beq_eq_true hb) hne
        | false => rfl
      · rw [if_neg h, if_neg h, hf]
        cases f id with
        | some x => rfl
        | none =>
          simp only [look_cons]
          cases hb : Nat.beq ib id with
          | true => rw [if_pos (Nat.eq_of_beq_eq_true hb).symm]
          | false => rw [if_neg (fun e => by subst e; rw [Nat.beq_refl] at hb; cases hb)]; rfl
  | many ps l =>
    simp only [AStep.on, stepF, look_append, look_delK, ← hf]
    cases look (putsOf ps) id with
    | some x => rfl
    | none =>
      by_cases h : id ∈ ps.map (·.1)
      · simp only [h, if_true]
      · simp only [h, if_false]
        cases look m id <;> rfl
def memF (Z : Nat → AStep) (f0 : Nat → Option ABlk) (l : Nat → Bool) : Nat → Nat → Option ABlk
  | 0 => f0
  | k + 1 => if l k then stepF (Z k) (memF Z f0 l k) else memF Z f0 l k
/-- an operation's names: its own, the one that it writes -/
def InD (n0 str : Nat) (z : AStep) (k id : Nat) : Prop := rng n0 str k id ∨ id ∈ z.tids
structure ZOk (Z : Nat → AStep) (n0 str N : Nat) : Prop where
  news : ∀ k l id x, k < N → Z k = .news l → look l id = some x → rng n0 str k id
  app : ∀ k t ib b, k < N → Z k = .efx (.app t ib b) → rng n0 str k ib
  many : ∀ k ps l id x, k < N → Z k = .many ps l → look l id = some x → rng n0 str k id

section
variable {Z : Nat → AStep} {f0 : Nat → Option ABlk} {n0 str N : Nat}
theorem stepF_other (hZ : ZOk Z n0 str N) {k id : Nat} (hk : k < N) (h : ¬ InD n0 str (Z k) k id) (f : Nat → Option ABlk) : stepF (Z k) f id = f id := by
  cases hz : Z k with
  | news l =>
    simp only [stepF]
    cases hf : f id with
    | some x => rfl
    | none =>
      cases hl : look l id with
      | none => rfl
      | some x => exact absurd (.inl (hZ.news k l id x hk hz hl)) h
  | efx e =>
    have ht : id ≠ e.tid := fun e' => h (.inr (by rw [hz, e']; simp [AStep.tids]))
    cases e with
    | put t b =>
      have ht : id ≠ t := ht
      simp only [stepF]; rw [if_neg ht]
    | app t ib b =>
      have ht : id ≠ t := ht
      simp only [stepF]
      rw [if_neg ht]
      cases hf : f id with
      | some x => rfl
      | none => rw [if_neg (fun e' => h (.inl (by rw [e']; exact hZ.app k t ib b hk hz)))]
  | many ps l =>
    have ht : id ∉ ps.map (·.1) := fun e' => h (.inr (by rw [hz]; exact e'))
    simp only [stepF]
    cases hp : look (putsOf ps) id with
    | some x => exact absurd (List.mem_map_of_mem (f := (·.1)) (look_putsOf hp)) ht
    | none =>
      simp only [ht, if_false]
      cases hf : f id with
      | some x => rfl
      | none =>
        cases hl : look l id with
        | none => rfl
        | some x => exact absurd (.inl (hZ.many k ps l id x hk hz hl)) h
theorem memF_agree (hZ : ZOk Z n0 str N) {l l' : Nat → Bool} {id : Nat} : ∀ K, K ≤ N → (∀ k, k < K → InD n0 str (Z k) k id → l k = l' k) → memF Z f0 l K id = memF Z f0 l' K id
  | 0, _, _ => rfl
  | K + 1, hK, h => by
    have ih := memF_agree hZ (l := l) (l' := l') (id := id) K (by omega) fun k hk => h k (by omega)
    simp only [memF]
    by_cases hd : InD n0 str (Z K) K id
    · rw [h K (by omega) hd]
      split
      · exact stepF_point ih
      · exact ih
    · split <;> split
      · exact stepF_point ih
      · rw [stepF_other hZ (by omega) hd]; exact ih
      · rw [stepF_other hZ (by omega) hd]; exact ih
      · exact ih
theorem memF_skip (hZ : ZOk Z n0 str N) {l : Nat → Bool} {id K : Nat} : ∀ d, K + d ≤ N → (∀ k, K ≤ k → k < K + d → l k = true → ¬ InD n0 str (Z k) k id) → memF Z f0 l (K + d) id = memF Z f0 l K id
  | 0, _, _ => rfl
  | d + 1, hK, h => by
    have ih := memF_skip hZ (l := l) (id := id) (K := K) d (by omega) fun k h1 h2 => h k h1 (by omega)
    rw [show K + (d + 1) = (K + d) + 1 by omega]
    simp only [memF]
    split
    · rename_i hl
      rw [stepF_other hZ (by omega) (h _ (by omega) (by omega) hl)]; exact ih
    · exact ih
end

/-- Operation 'i' yields 'v' and does 'z', wherever the frame is so and this memory is there. -/
def XStep (r : Option Nat) (P : Program) (C : Ctx) (ops : Array Oper) (i : Nat) (tmR : List AV) (mi : AMem) (lo hi : Nat) (v : AV) (z : AStep) : Prop :=
  ∀ (β : Nm) (a : Act) (w : World) (m2 : AMem) (K : Act → World → Prop) (Q : Exit → Act → World → Prop), FrOk β tmR a.tmps → Sub mi m2 → Rel C β m2 w → (∀ id, lo ≤ id → id < hi → β id = none) →
    (∀ β' u w', Ext β β' → (∀ id, id < lo ∨ hi ≤ id → β' id = β id) → γ β' v = some u → Rel C β' (z.on m2) w' → K (a.put ((ops[i]?).bind (·.dst)) u) w') → wpOpIn (FW r) 0 P ops Q i K a w

structure EInv (C : Ctx) (ops : Array Oper) (V : Nat → AV) (Z : Nat → AStep) (tm0 : List AV) (f0 : Nat → Option ABlk) (b str q : Nat) (β0 : Nm) (D : List Deferred) (listed : Array Bool) (a : Act) (w : World) (β : Nm) : Prop where
  fr : FrOk β (frD ops V tm0 (fun j => listed.getD j false) q) a.tmps
  df : a.defers = D
  mem : ∃ m, (∀ id, look m id = memF Z f0 (fun j => listed.getD j false) q id) ∧ Rel C β m w
  free : ∀ j, j < q → listed.getD j false = false → ∀ id, rng b str j id → β id = none
  ext : Ext β0 β
  same : ∀ id, id < b ∨ b + q * str ≤ id → β id = β0 id

section
variable {P : Program} {C : Ctx} {ops : Array Oper}
theorem draw_goE {r : Option Nat} {D : List Deferred} {V : Nat → AV} {Z : Nat → AStep} {tm0 : List AV} {f0 : Nat → Option ABlk} {b str q : Nat} {β0 : Nm} {Q : Exit → Act → World → Prop} {mi : Nat → AMem}
    (hdown : downB ops = true) (hap : apartB ops q = true) (hq : q = ops.size) (hZ : ZOk Z b str q)
    (hvis : ∀ i, i < q → ∀ t ∈ (Z i).tids, ∃ x, look (mi i) t = some x)
    (hord : ∀ i j, i < q → j < q → ∀ t ∈ (Z i).tids, ∀ t' ∈ (Z j).tids, i < j → waits ops j i = true)
    (hmi : ∀ i, i < q → ∀ id x, look (mi i) id = some x → memF Z f0 (fun j => decide (j < i)) q id = some x ∧ (∀ j, j < q → rng b str j id → waits ops i j = true) ∧
      ∀ j, j < q → id ∈ (Z j).tids → waits ops i j = true ∨ waits ops j i = true ∨ i = j)
    (hstep : ∀ i, i < q → ∀ o, ops[i]? = some o → XStep r P C ops i (mask (o.looksAt ops) 0 (frD ops V tm0 (fun j => decide (j < i)) q)) (mi i) (b + i * str) (b + i * str + str) (V i) (Z i))
    (hQ : ∀ a w β m, FrOk β (frD ops V tm0 (fun _ => true) q) a.tmps → a.defers = D → (∀ id, look m id = memF Z f0 (fun _ => true) q id) → Rel C β m w → Ext β0 β → (∀ id, id < b ∨ b + q * str ≤ id → β id = β0 id) → Q .normal a w) :
    ∀ (f : Nat) (listed : Array Bool) (a : Act) (w : World) (β : Nm), HeadInv .any ops q listed → ((List.range q).countP fun j => !listed.getD j false) = f → EInv C ops V Z tm0 f0 b str q β0 D listed a w β →
      wpAnyIn (FW r) 0 P .any ops Q f listed a w := by
  have hwd : ∀ i j, waits ops i j = true → j < i := by
    intro i j hw
    have hr := waits_reach hw
    have one : ∀ {i : Nat} {o : Oper} {e : Edge}, ops[i]? = some o → e ∈ o.after.toList → Region.binds .any e = true → e.on < i := by
      intro i o e ho he hb
      have hi : i < ops.size := (Array.getElem?_eq_some_iff.1 ho).1
      have h1 := List.all_eq_true.1 hdown i (List.mem_range.2 hi)
      rw [ho] at h1
      have h2 := List.all_eq_true.1 h1 e he
      simp only [hb, Bool.not_true, Bool.false_or] at h2
      rwa [Nat.blt_eq] at h2
    have key : ∀ {i j : Nat}, Reach ops i j → j < i := by
      intro i j h
      induction h with
      | one ho he hb => exact one ho he hb
      | step ho he hb _ ih => exact Nat.lt_trans ih (one ho he hb)
    exact key hr
  intro f
  induction f with
  | zero =>
    intro listed a w β inv hcnt hd
    have hall : ∀ j, j < q → listed.getD j false = true := by
      intro j hj
      have := List.countP_eq_zero.1 hcnt j (List.mem_range.2 hj)
      simpa using this
    have e1 : frD ops V tm0 (fun j => listed.getD j false) q = frD ops V tm0 (fun _ => true) q := by
      apply List.ext_getElem?
      intro t
      exact frD_agree q fun j hj _ => hall j hj
    obtain ⟨m, hm, hrel⟩ := hd.mem
    refine ⟨?_, ?_⟩
    · refine List.eq_nil_iff_forall_not_mem.2 fun i hi => ?_
      obtain ⟨hun, oi, hoi, _⟩ := mem_ready.1 hi
      have his : i < ops.size := (Array.getElem?_eq_some_iff.1 hoi).1
      have := hall i (by omega)
      rw [getD_both hun] at this
      cases this
    · have hfr := hd.fr
      rw [e1] at hfr
      exact hQ a w β m hfr hd.df (fun id => by rw [hm id]; exact memF_agree hZ q (Nat.le_refl _) fun k hk _ => hall k hk) hrel hd.ext hd.same
  | succ f ih =>
    intro listed a w β inv hcnt hd
    have hex : ∃ j, j < q ∧ listed.getD j false = false := by
      have hpos : 0 < (List.range q).countP fun j => !listed.getD j false := by omega
      obtain ⟨j, hj, hl⟩ := List.countP_pos_iff.1 hpos
      exact ⟨j, List.mem_range.1 hj, by simpa using hl⟩
    refine ⟨fun hnil => ?_, fun i hi => ?_⟩
    · exfalso
      have hmin : ∀ n, (∀ j, j < n → j < q → listed.getD j false = true) ∨ ∃ j, j < n ∧ j < q ∧ listed.getD j false = false ∧ ∀ j', j' < j → listed.getD j' false = true := by
        intro n
        induction n with
        | zero => exact .inl fun j h => by omega
        | succ n ihn =>
          rcases ihn with h | ⟨j, h1, h2⟩
          · by_cases hn : n < q ∧ listed.getD n false = false
            · exact .inr ⟨n, by omega, hn.1, hn.2, fun j' hj' => h j' hj' (by omega)⟩
            · refine .inl fun j hj hjq => ?_
              by_cases e : j = n
              · subst e
                cases hl : listed.getD j false with
                | true => rfl
                | false => exact absurd ⟨hjq, hl⟩ hn
              · exact h j (by omega) hjq
          · exact .inr ⟨j, by omega, h2⟩
      obtain ⟨j0, hj0, hl0⟩ := hex
      rcases hmin q with h | ⟨j, _, hjq, hl, hbelow⟩
      · rw [h j0 hj0 hj0] at hl0; cases hl0
      · have hjs : j < ops.size := by omega
        have hoj : ops[j]? = some ops[j] := Array.getElem?_eq_getElem hjs
        have hready : j ∈ Region.ready .any ops listed := by
          refine mem_ready.2 ⟨getD_in (by rw [inv.size]; exact hjs) hl, _, hoj, fun e he hb => ?_⟩
          have h1 := List.all_eq_true.1 hdown j (List.mem_range.2 hjs)
          rw [hoj] at h1
          have h2 := List.all_eq_true.1 h1 e (Array.mem_toList_iff.2 he)
          simp only [hb, Bool.not_true, Bool.false_or] at h2
          rw [Nat.blt_eq] at h2; exact hbelow e.on h2
        rw [hnil] at hready
        cases hready
    · obtain ⟨hun, oi, hoi, hpre⟩ := mem_ready.1 hi
      have hio : i < ops.size := (Array.getElem?_eq_some_iff.1 hoi).1
      have hiq : i < q := by omega
      have his : i < listed.size := by rw [inv.size]; omega
      have hunf : listed.getD i false = false := getD_both hun
      have hreach : ∀ j, waits ops i j = true → listed.getD j false = true := fun j hw =>
        reach_done inv.closed (waits_reach hw) fun o ho e he hb => by
          rw [hoi] at ho
          cases ho
          exact hpre e he hb
      have hback : ∀ j, waits ops j i = true → listed.getD j false = false := by
        intro j hw
        cases hl : listed.getD j false with
        | false => rfl
        | true =>
          have := reach_done inv.closed (waits_reach hw) fun o ho e he hb => inv.closed j o ho hl e he hb
          rw [hunf] at this
          cases this
      have hpair : ∀ j, j < q → j < i → ∀ oj, ops[j]? = some oj → waits ops i j = true ∨ oj.apart ops oi = true := by
        intro j hj hji oj hoj
        have h1 := List.all_eq_true.1 hap i (List.mem_range.2 hiq)
        have h2 := List.all_eq_true.1 h1 j (List.mem_range.2 hji)
        rw [hoi, hoj] at h2
        simpa using h2
      have hpair2 : ∀ j, j < q → i < j → ∀ oj, ops[j]? = some oj → waits ops j i = true ∨ oi.apart ops oj = true := by
        intro j hj hji oj hoj
        have h1 := List.all_eq_true.1 hap j (List.mem_range.2 hj)
        have h2 := List.all_eq_true.1 h1 i (List.mem_range.2 hji)
        rw [hoi, hoj] at h2
        simpa using h2
      have hop : ∀ j, j < q → ∃ oj, ops[j]? = some oj := fun j hj => ⟨_, Array.getElem?_eq_getElem (by omega : j < ops.size)⟩
      obtain ⟨m, hm, hrel⟩ := hd.mem
      -- what it may see is as it was in the text's order
      have hsee : ∀ id, (∀ j, j < q → rng b str j id → waits ops i j = true) → (∀ j, j < q → id ∈ (Z j).tids → waits ops i j = true ∨ waits ops j i = true ∨ i = j) →
          memF Z f0 (fun j => listed.getD j false) q id = memF Z f0 (fun j => decide (j < i)) q id := by
        intro id h1 h2
        refine memF_agree hZ q (Nat.le_refl _) fun k hk hin => ?_
        have key : waits ops i k = true ∨ waits ops k i = true ∨ i = k := by
          rcases hin with h | ht
          · exact .inl (h1 k hk h)
          · exact h2 k hk ht
        rcases key with h | h | h
        · have := hwd _ _ h
          simp only [hreach k h, this, decide_true]
        · have := hwd _ _ h
          simp only [hback k h, show ¬ k < i by omega, decide_false]
        · subst h; simp [hunf]
      have hsub : Sub (mi i) m := fun id x hx => by
        obtain ⟨h1, h2, h3⟩ := hmi i hiq id x hx
        rw [hm id, hsee id h2 h3, h1]
      refine hstep i hiq oi hoi β a w m _ Q ⟨?_, fun t av ht => ?_⟩ hsub hrel (fun id h1 h2 => hd.free i hiq hunf id ⟨h1, h2⟩) ?_
      · rw [mask_length, frD_length, hd.fr.1, frD_length]
      · rw [mask_get] at ht
        rw [Nat.zero_add] at ht
        by_cases hlk : (oi.looksAt ops).contains t = true
        · have hag : (frD ops V tm0 (fun j => listed.getD j false) q)[t]? = (frD ops V tm0 (fun j => decide (j < i)) q)[t]? := by
            refine frD_agree q fun j hj hdj => ?_
            obtain ⟨oj, hoj⟩ := hop j hj
            rw [hoj] at hdj
            have hdj : oj.dst = some t := hdj
            have hmem : t ∈ oi.looksAt ops := by simpa using hlk
            rcases Nat.lt_trichotomy j i with h | h | h
            · rcases hpair j hj h oj hoj with hw | hp
              · simp only [h, decide_true]; exact hreach j hw
              · exact absurd hmem ((Oper.apart_spec hp).1 t hdj)
            · subst h; simp [hunf]
            · rcases hpair2 j hj h oj hoj with hw | hp
              · simp only [show ¬ j < i by omega, decide_false]; exact hback j hw
              · exact absurd hmem ((Oper.apart_spec hp).2.2 t hdj)
          simp only [hlk, if_true, Option.map_id'] at ht
          rw [← hag] at ht
          exact hd.fr.2 t av ht
        · simp only [hlk, if_false] at ht
          cases hx : (frD ops V tm0 (fun j => decide (j < i)) q)[t]? with
          | none => rw [hx] at ht; cases ht
          | some y => rw [hx] at ht; simp at ht; exact .inl ht.symm
      · intro β' u w' hext hsame hu hrel'
        have hset : ∀ j, (listed.setIfInBounds i true).getD j false = (j == i || listed.getD j false) := fun j => getD_set_bool listed i j his
        refine ih (listed.setIfInBounds i true) _ w' β' (inv.set hi hiq) ?_ ⟨?_, by cases h : (ops[i]?).bind (·.dst) <;> simp [Act.put, hd.df], ⟨_, fun id => ?_, hrel'⟩, ?_, hd.ext.trans hext, fun id hid => ?_⟩
        · have hc : ((List.range q).countP fun j => !(listed.setIfInBounds i true).getD j false) + 1 = (List.range q).countP fun j => !listed.getD j false := by
            have e : (fun j => !(listed.setIfInBounds i true).getD j false) = fun j => !(j == i) && !listed.getD j false := by
              funext j; rw [hset j, Bool.not_or]
            rw [e]
            have gen : ∀ l : List Nat, l.Nodup → i ∈ l → (l.countP fun j => !(j == i) && !listed.getD j false) + 1 = l.countP fun j => !listed.getD j false := by
              intro l
              induction l with
              | nil => intro _ h; cases h
              | cons y r ihr =>
                intro hnd hm
                simp only [List.nodup_cons] at hnd
                rw [List.countP_cons, List.countP_cons]
                by_cases e : y = i
                · subst e
                  have : (r.countP fun j => !(j == y) && !listed.getD j false) = r.countP fun j => !listed.getD j false := by
                    refine List.countP_congr fun j hj => ?_
                    have : j ≠ y := fun e => hnd.1 (e ▸ hj)
                    simp [this]
                  rw [this]
                  simp only [beq_self_eq_true, Bool.not_true, Bool.false_and, Bool.false_eq_true, if_false, Nat.add_zero, hunf, Bool.not_false, if_true]
                · have := ihr hnd.2 (by rcases List.mem_cons.1 hm with h | h; exact absurd h.symm e; exact h)
                  have hyi : (y == i) = false := by simp [e]
                  rw [hyi]
                  simp only [Bool.not_false, Bool.true_and]
                  omega
            exact gen _ List.nodup_range (List.mem_range.2 hiq)
          omega
        · have hfp : ∀ t : Nat, (frD ops V tm0 (fun j => (listed.setIfInBounds i true).getD j false) q)[t]? = (putA (frD ops V tm0 (fun j => listed.getD j false) q) ((ops[i]?).bind (·.dst)) (V i))[t]? := by
            intro t
            have e : (fun j => (listed.setIfInBounds i true).getD j false) = fun j => j == i || listed.getD j false := funext hset
            rw [e]
            refine frD_put q hiq (fun j hj hjq hl d hdi hdj => ?_) hunf t
            obtain ⟨oj, hoj⟩ := hop j hjq
            rw [hoi] at hdi
            rw [hoj] at hdj
            rcases hpair2 j hjq hj oj hoj with hw | hp
            · have := hback j hw
              rw [hl] at this
              cases this
            · exact (Oper.apart_spec hp).2.1 d hdi hdj
          have e : frD ops V tm0 (fun j => (listed.setIfInBounds i true).getD j false) q = putA (frD ops V tm0 (fun j => listed.getD j false) q) ((ops[i]?).bind (·.dst)) (V i) := List.ext_getElem? hfp
          rw [e]
          exact (hd.fr.ext hext).put hu
        · -- the memory
          have hvi : ∀ t ∈ (Z i).tids, ∃ x, look m t = some x := fun t ht => by
            obtain ⟨x, hx⟩ := hvis i hiq t ht
            exact ⟨x, hsub _ _ hx⟩
          have hib : ∀ t ib bk, Z i = .efx (.app t ib bk) → ib ≠ t := fun t ib bk he e => by
            obtain ⟨x, hx⟩ := hvi t (by rw [he]; simp [AStep.tids, Efx.tid])
            obtain ⟨L, hL, _⟩ := hrel.blk t x hx
            rw [hd.free i hiq hunf t (by rw [← e]; exact hZ.app i t ib bk hiq he)] at hL
            cases hL
          rw [look_on hm hvi hib id]
          have e : (fun j => (listed.setIfInBounds i true).getD j false) = fun j => j == i || listed.getD j false := funext hset
          rw [e]
          by_cases hin : InD b str (Z i) i id
          · -- nobody behind it in the text, and done, has this name
            have hno : ∀ k, i + 1 ≤ k → k < q → (k == i || listed.getD k false) = true → ¬ InD b str (Z k) k id := by
              intro k h1 h2 hl hk
              have hki : (k == i) = false := by simp; omega
              rw [hki, Bool.false_or] at hl
              have hnw : waits ops k i = true → False := fun hw => by
                have := hback k hw
                rw [hl] at this
                cases this
              rcases hin with h3 | ht3
              · rcases hk with h4 | ht4
                · have := rng_apart h3 h4; omega
                · obtain ⟨x, hx⟩ := hvis k h2 id ht4
                  exact hnw ((hmi k h2 id x hx).2.1 i hiq h3)
              · rcases hk with h4 | ht4
                · obtain ⟨x, hx⟩ := hvis i hiq id ht3
                  have := hwd _ _ ((hmi i hiq id x hx).2.1 k h2 h4)
                  omega
                · exact hnw (hord i k hiq h2 id ht3 id ht4 (by omega))
            have s1 := memF_skip (f0 := f0) hZ (l := fun j => j == i || listed.getD j false) (id := id) (K := i + 1) (q - (i + 1)) (by omega) fun k h1 h2 hl => hno k h1 (by omega) hl
            have s2 := memF_skip (f0 := f0) hZ (l := fun j => listed.getD j false) (id := id) (K := i + 1) (q - (i + 1)) (by omega) fun k h1 h2 hl => hno k h1 (by omega) (by simp only [hl, Bool.or_true])
            rw [show i + 1 + (q - (i + 1)) = q by omega] at s1 s2
            rw [s1]
            simp only [memF, beq_self_eq_true, Bool.true_or, if_true]
            refine stepF_point ?_
            rw [s2]
            simp only [memF, hunf, Bool.false_eq_true, if_false]
            exact (memF_agree hZ i (by omega) fun k hk _ => by simp [show ¬ k = i by omega]).symm
          · rw [stepF_other hZ hiq hin]
            refine memF_agree hZ q (Nat.le_refl _) fun k hk hkd => ?_
            by_cases hki : k = i
            · subst hki; exact absurd hkd hin
            · simp [hki]
        · intro j hj hl id hr
          have h2 := hset j
          rw [hl] at h2
          have h2 : (j == i) = false ∧ listed.getD j false = false := by simpa using h2.symm
          have hne : j ≠ i := by simpa using h2.1
          rw [hsame id (by
            rcases Nat.lt_or_ge id (b + i * str) with h | h
            · exact .inl h
            · rcases Nat.lt_or_ge id (b + i * str + str) with h' | h'
              · exact absurd (rng_apart hr ⟨h, h'⟩) hne
              · exact .inr h')]
          exact hd.free j hj h2.2 id hr
        · rw [hsame id ?_]
          · exact hd.same id hid
          · have h1 : i * str + str ≤ q * str := by rw [← Nat.succ_mul]; exact Nat.mul_le_mul_right _ hiq
            rcases hid with h | h
            · exact .inl (by omega)
            · exact .inr (by omega)
end

section
variable {E : Env} {cf : FuncId → List AV → St → Option (AV × St)} {yf : Nat → List AV → St → Option (AV × St)}
theorem look_woM : ∀ {m : AMem} {id : Nat} {x : ABlk}, look (woM m) id = some x → look m id = some x ∧ isO x = false
  | [], _, _, h => by cases h
  | (i, b) :: r, id, x, h => by
    simp only [woM] at h
    split at h
    · rw [look_delM] at h
      split at h
      · cases h
      · rename_i hne
        obtain ⟨h1, h2⟩ := look_woM h
        exact ⟨by rw [look_ne hne]; exact h1, h2⟩
    · rename_i ho
      by_cases e : id = i
      · subst e
        rw [look_eq] at h
        cases h
        exact ⟨look_eq _ _ _, ho⟩
      · rw [look_ne e] at h
        obtain ⟨h1, h2⟩ := look_woM h
        exact ⟨by rw [look_ne e]; exact h1, h2⟩
theorem mem_look {m : AMem} {id : Nat} {x : ABlk} (h : (id, x) ∈ m) : ∃ y, look m id = some y := by
  induction m with
  | nil => cases h
  | cons p r ih =>
    obtain ⟨i, b⟩ := p
    simp only [look_cons]
    cases hb : Nat.beq i id with
    | true => exact ⟨b, rfl⟩
    | false =>
      rcases List.mem_cons.1 h with e | e
      · cases e; rw [Nat.beq_refl] at hb; cases hb
      · exact ih e
theorem putsW_mem {m' : AMem} : ∀ {m : AMem} {p : Nat × Option ABlk}, p ∈ putsW m' m → (∃ y, look m p.1 = some y) ∧ p.2 = cellB (look m' p.1)
  | [], _, h => by cases h
  | (i, b) :: r, p, h => by
    simp only [putsW] at h
    split at h
    · rcases List.mem_cons.1 h with rfl | h
      · exact ⟨⟨b, look_eq _ _ _⟩, rfl⟩
      · obtain ⟨⟨y, h1⟩, h2⟩ := putsW_mem h
        refine ⟨?_, h2⟩
        simp only [look_cons]
        cases Nat.beq i p.1 with
        | true => exact ⟨b, rfl⟩
        | false => exact ⟨y, h1⟩
    · obtain ⟨⟨y, h1⟩, h2⟩ := putsW_mem h
      refine ⟨?_, h2⟩
      simp only [look_cons]
      cases Nat.beq i p.1 with
      | true => exact ⟨b, rfl⟩
      | false => exact ⟨y, h1⟩
theorem putsW_own {m' : AMem} : ∀ {m : AMem} {id : Nat} {y : ABlk}, look m id = some y → y.own = true → id ∈ (putsW m' m).map (·.1)
  | [], _, _, h, _ => by cases h
  | (i, b) :: r, id, y, h, ho => by
    simp only [look_cons] at h
    simp only [putsW]
    split at h
    · rename_i hb
      cases h
      have := Nat.eq_of_beq_eq_true hb
      subst this
      rw [ho]
      exact List.mem_cons_self ..
    · split
      · exact List.mem_cons_of_mem _ (putsW_own h ho)
      · exact putsW_own h ho
/-- where a call may write: the own blocks that it sees -/
def wrS (β : Nm) (mi : AMem) : Nat → Prop := fun b => ∃ id y L, look mi id = some y ∧ y.own = true ∧ isO y = false ∧ β id = some L ∧ L.nil = false ∧ L.b = b
theorem look_woM_of : ∀ {m : AMem} {id : Nat} {x : ABlk}, look m id = some x → isO x = false → look (woM m) id = some x
  | [], _, _, h, _ => by cases h
  | (i, b) :: r, id, x, h, ho => by
    simp only [woM]
    simp only [look_cons] at h
    split at h
    · rename_i hb
      cases h
      have := Nat.eq_of_beq_eq_true hb
      subst this
      rw [ho]
      exact look_eq _ _ _
    · rename_i hb
      have hne : id ≠ i := fun e => by subst e; rw [Nat.beq_refl] at hb; cases hb
      split
      · rw [look_delM, if_neg hne]; exact look_woM_of h ho
      · rw [look_ne hne]; exact look_woM_of h ho
def ctxW (β : Nm) (mi : AMem) (w : World) : Ctx := ⟨w, w.heap.size, wrS β mi⟩
theorem Rel.wr {C : Ctx} {β : Nm} {m m2 : AMem} {w : World} (h : Rel C β m2 w) (hs : Sub m m2) : Rel (ctxW β m w) β (woM m) w := by
  refine ⟨rfl, rfl, rfl, Nat.le_refl _, Nat.le_refl _, fun _ _ _ => rfl, fun id x hx => ?_, fun id id' x x' L L' hx hx' hne ho hL hL' hn hn' => ?_, h.glob, fun id x o hx ho => ?_⟩
  · obtain ⟨hy, hyo⟩ := look_woM hx
    obtain ⟨L, hL, hb⟩ := h.blk id x (hs _ _ hy)
    refine ⟨L, hL, hb.sz, hb.lit, hb.cells, hb.lt, fun ho hn => ?_, hb.arrl, hb.rowc⟩
    obtain ⟨o1, _, o3⟩ := hb.own ho hn
    exact ⟨o1, .inr ⟨id, x, L, hy, ho, hyo, hL, hn, rfl⟩, o3⟩
  · exact h.sep id id' x x' L L' (hs _ _ (look_woM hx).1) (hs _ _ (look_woM hx').1) hne ho hL hL' hn hn'
  · have := (look_woM hx).2
    simp [isO, ho] at this
theorem cellB_some {x : Option ABlk} {b : ABlk} (h : cellB x = some b) : x = some b ∧ isO b = false := by
  unfold cellB at h
  split at h
  · split at h
    · cases h
    · rename_i ho; cases h; exact ⟨rfl, ho⟩
  · cases h
theorem Rel.backW {C : Ctx} {β β' : Nm} {mi m2 m' : AMem} {w w' : World} {n hi : Nat} (h : Rel C β m2 w) (hs : Sub mi m2) (h' : Rel (ctxW β mi w) β' m' w') (he : Ext β β') (hfree : ∀ id, n ≤ id → id < hi → β id = none) (hin : ∀ id x, look (fromN n m') id = some x → n ≤ id ∧ id < hi)
    (hown : (fromN n m').all (fun x => x.2.own) = true) : Rel C β' ((AStep.many (putsW m' (woM mi)) (fromN n m')).on m2) w' := by
  have hbase : C.base ≤ w.heap.size := by have := h.size; have := h.base; omega
  have hkeep : ∀ b, b < w.heap.size → ¬ wrS β mi b → w'.heap[b]? = w.heap[b]? := fun b hb hn => h'.out b hb hn
  have hkey : ∀ id, id ∈ (putsW m' (woM mi)).map (·.1) → ∃ y, look mi id = some y := by
    intro id hid
    obtain ⟨p, hp, rfl⟩ := List.mem_map.1 hid
    obtain ⟨⟨y, h1⟩, _⟩ := putsW_mem hp
    exact ⟨y, (look_woM h1).1⟩
  -- what lies where it may write stands apart from all that is no key
  have hwr : ∀ b, wrS β mi b → ∃ id y L, look mi id = some y ∧ look m2 id = some y ∧ y.own = true ∧ id ∈ (putsW m' (woM mi)).map (·.1) ∧ β id = some L ∧ L.nil = false ∧ L.b = b := by
    rintro b ⟨id, y, L, h1, h2, h3, h4, h5, h6⟩
    exact ⟨id, y, L, h1, hs _ _ h1, h2, putsW_own (look_woM_of h1 h3) h2, h4, h5, h6⟩
  have hnotS : ∀ id x L, look m2 id = some x → id ∉ (putsW m' (woM mi)).map (·.1) → β id = some L → L.nil = false → ¬ wrS β mi L.b := by
    intro id x L hx hk hL hn hw
    obtain ⟨id2, y, L2, h1, h2, h3, h4, h5, h6, h7⟩ := hwr _ hw
    exact h.sep id2 id y x L2 L h2 hx (fun e => hk (by rw [← e]; exact h4)) h3 h5 hL h6 hn h7
  have hlk : ∀ id x, look ((AStep.many (putsW m' (woM mi)) (fromN n m')).on m2) id = some x →
      (id ∈ (putsW m' (woM mi)).map (·.1) ∧ look m' id = some x ∧ isO x = false) ∨ (id ∉ (putsW m' (woM mi)).map (·.1) ∧ look m2 id = some x) ∨ (n ≤ id ∧ id < hi ∧ look m' id = some x ∧ x.own = true ∧ isO x = false) := by
    intro id x hx
    have hnew : look (fromN n m') id = some x → (n ≤ id ∧ id < hi ∧ look m' id = some x ∧ x.own = true ∧ isO x = false) := fun e => by
      obtain ⟨h1, h2, _, h3⟩ := look_fromN e
      obtain ⟨g1, g2⟩ := hin id x e
      exact ⟨g1, g2, h1, List.all_eq_true.1 hown _ (look_mem e), h3⟩
    simp only [AStep.on, look_append, look_delK] at hx
    cases hp : look (putsOf (putsW m' (woM mi))) id with
    | some y =>
      rw [hp] at hx
      cases hx
      have hm := look_putsOf hp
      obtain ⟨_, h2⟩ := putsW_mem hm
      obtain ⟨h3, h4⟩ := cellB_some h2.symm
      exact .inl ⟨List.mem_map_of_mem (f := (·.1)) hm, h3, h4⟩
    | none =>
      rw [hp] at hx
      by_cases hk : id ∈ (putsW m' (woM mi)).map (·.1)
      · simp only [hk, if_true] at hx
        exact .inr (.inr (hnew hx))
      · simp only [hk, if_false] at hx
        cases hm : look m2 id with
        | some y => rw [hm] at hx; cases hx; exact .inr (.inl ⟨hk, rfl⟩)
        | none => rw [hm] at hx; exact .inr (.inr (hnew hx))
  -- an own block of the call's end
  have hend : ∀ id x L, look m' id = some x → x.own = true → β' id = some L → L.nil = false → w.heap.size ≤ L.b ∨ wrS β mi L.b := by
    intro id x L hx ho hL hn
    obtain ⟨M, hM, hb⟩ := h'.blk id x hx
    rw [hL] at hM
    cases hM
    exact (hb.own ho hn).2.1
  have hnewge : ∀ id x L, n ≤ id → id < hi → look m' id = some x → x.own = true → β' id = some L → L.nil = false → ∀ id2 y L2, look m2 id2 = some y → β id2 = some L2 → L2.nil = false → id2 ∉ (putsW m' (woM mi)).map (·.1) → L.b ≠ L2.b := by
    intro id x L _ _ hx ho hL hn id2 y L2 hy hL2 hn2 hk2 e
    obtain ⟨M, hM, hb⟩ := h.blk id2 y hy
    rw [hL2] at hM
    cases hM
    rcases hend id x L hx ho hL hn with h1 | h1
    · have := hb.lt hn2; omega
    · rw [e] at h1; exact hnotS id2 y L2 hy hk2 hL2 hn2 h1
  have hconv : ∀ id x L, look m' id = some x → β' id = some L → BlkOk (ctxW β mi w) β' w' L x → BlkOk C β' w' L x := by
    intro id x L hx hL hb
    refine ⟨hb.sz, hb.lit, hb.cells, hb.lt, fun ho hn => ?_, hb.arrl, hb.rowc⟩
    obtain ⟨o1, o2, o3⟩ := hb.own ho hn
    refine ⟨o1, ?_, o3⟩
    rcases o2 with o2 | o2
    · exact .inl (Nat.le_trans hbase o2)
    · obtain ⟨id2, y, L2, _, h2, h3, _, h5, h6, h7⟩ := hwr _ o2
      obtain ⟨M, hM, hk⟩ := h.blk id2 y h2
      rw [h5] at hM
      cases hM
      have := (hk.own h3 h6).2.1
      rw [h7] at this
      exact this
  -- an old block
  have hold : ∀ id x, look m2 id = some x → id ∉ (putsW m' (woM mi)).map (·.1) → ∃ L, β id = some L ∧ β' id = some L ∧ BlkOk C β' w' L x := by
    intro id x hx hk
    obtain ⟨M, hM, hb⟩ := h.blk id x hx
    exact ⟨M, hM, he id M hM, hb.keep he h'.size fun hn => hkeep _ (hb.lt hn) (hnotS id x M hx hk hM hn)⟩
  refine ⟨h'.os.trans h.os, h'.tape.trans h.tape, h'.output.trans h.output, Nat.le_trans h.size h'.size, h.base, fun b h1 h2 => ?_, fun id x hx => ?_, ?_, h'.glob, fun id x o hx ho => ?_⟩
  · rw [hkeep b (by omega) fun hw => ?_]
    · exact h.out b h1 h2
    · obtain ⟨id2, y, L2, _, g2, g3, _, g5, g6, g7⟩ := hwr _ hw
      obtain ⟨M, hM, hk⟩ := h.blk id2 y g2
      rw [g5] at hM
      cases hM
      rcases (hk.own g3 g6).2.1 with q | q
      · omega
      · exact h2 (g7 ▸ q)
  · rcases hlk id x hx with ⟨_, h2, _⟩ | ⟨h1, h2⟩ | ⟨_, _, h3, _, _⟩
    · obtain ⟨M, hM, hb⟩ := h'.blk id x h2
      exact ⟨M, hM, hconv id x M h2 hM hb⟩
    · obtain ⟨L, _, g2, g3⟩ := hold id x h2 h1
      exact ⟨L, g2, g3⟩
    · obtain ⟨M, hM, hb⟩ := h'.blk id x h3
      exact ⟨M, hM, hconv id x M h3 hM hb⟩
  · -- apart
    have hA : ∀ id x L, id ∈ (putsW m' (woM mi)).map (·.1) → look m' id = some x → β' id = some L → L.nil = false → ∀ id2 y L2, look m2 id2 = some y → β id2 = some L2 → L2.nil = false → id2 ∉ (putsW m' (woM mi)).map (·.1) → (x.own = true ∨ y.own = true) → L.b ≠ L2.b := by
      intro id x L hid hx hL hn id2 y L2 hy hL2 hn2 hk2 ho e
      obtain ⟨M2, hM2, hb2⟩ := h.blk id2 y hy
      rw [hL2] at hM2
      cases hM2
      rcases ho with ho | ho
      · rcases hend id x L hx ho hL hn with h1 | h1
        · have := hb2.lt hn2; omega
        · rw [e] at h1; exact hnotS id2 y L2 hy hk2 hL2 hn2 h1
      · obtain ⟨z, hz⟩ := hkey id hid
        obtain ⟨M, hM, _⟩ := h.blk id z (hs _ _ hz)
        have := he id M hM
        rw [hL] at this
        cases this
        exact h.sep id2 id y z L2 L hy (hs _ _ hz) (fun e' => hk2 (by rw [e']; exact hid)) ho hL2 hM hn2 hn e.symm
    have hB : ∀ id x L, look m2 id = some x → id ∉ (putsW m' (woM mi)).map (·.1) → β' id = some L → β id = some L := by
      intro id x L hx hk hL
      obtain ⟨M, g1, g2, _⟩ := hold id x hx hk
      rw [hL] at g2
      cases g2
      exact g1
    intro id id' x x' L L' hx hx' hne ho hL hL' hn hn'
    rcases hlk id x hx with ⟨a1, a2, _⟩ | ⟨a1, a2⟩ | ⟨a1, a2, a3, a4, _⟩
    · rcases hlk id' x' hx' with ⟨b1, b2, _⟩ | ⟨b1, b2⟩ | ⟨b1, b2, b3, b4, _⟩
      · exact h'.sep id id' x x' L L' a2 b2 hne ho hL hL' hn hn'
      · exact hA id x L a1 a2 hL hn id' x' L' b2 (hB id' x' L' b2 b1 hL') hn' b1 (.inl ho)
      · exact h'.sep id id' x x' L L' a2 b3 hne ho hL hL' hn hn'
    · have hL0 := hB id x L a2 a1 hL
      rcases hlk id' x' hx' with ⟨b1, b2, _⟩ | ⟨b1, b2⟩ | ⟨b1, b2, b3, b4, _⟩
      · exact fun e => hA id' x' L' b1 b2 hL' hn' id x L a2 hL0 hn a1 (.inr ho) e.symm
      · exact h.sep id id' x x' L L' a2 b2 hne ho hL0 (hB id' x' L' b2 b1 hL') hn hn'
      · exact fun e => hnewge id' x' L' b1 b2 b3 b4 hL' hn' id x L a2 hL0 hn a1 e.symm
    · rcases hlk id' x' hx' with ⟨b1, b2, _⟩ | ⟨b1, b2⟩ | ⟨b1, b2, b3, b4, _⟩
      · exact h'.sep id id' x x' L L' a3 b2 hne ho hL hL' hn hn'
      · exact hnewge id x L a1 a2 a3 a4 hL hn id' x' L' b2 (hB id' x' L' b2 b1 hL') hn' b1
      · exact h'.sep id id' x x' L L' a3 b3 hne ho hL hL' hn hn'
  · rcases hlk id x hx with ⟨_, _, a3⟩ | ⟨a1, a2⟩ | ⟨_, _, _, _, a5⟩
    · simp [isO, ho] at a3
    · obtain ⟨M, k1, k2, k3, k4, k5⟩ := h.objs id x o a2 ho
      obtain ⟨M', hM', hb⟩ := h.blk id x a2
      rw [k1] at hM'
      cases hM'
      have hno : ¬ wrS β mi M.b := fun hw => by
        obtain ⟨id2, y, L2, g1, g2, g3, g4, g5, g6, g7⟩ := hwr _ hw
        exact k5 id2 y L2 (fun e => a1 (by rw [← e]; exact g4)) g2 g5 g6 g7
      refine ⟨M, he _ _ k1, k2, k3, k4.keep he (hkeep _ (hb.lt k2) hno), fun id' x' L' g1 g2 g3 g4 => ?_⟩
      rcases hlk id' x' g2 with ⟨b1, b2, _⟩ | ⟨b1, b2⟩ | ⟨b1, b2, b3, b4, _⟩
      · obtain ⟨z, hz⟩ := hkey id' b1
        obtain ⟨M2, hM2, _⟩ := h.blk id' z (hs _ _ hz)
        have := he id' M2 hM2
        rw [g3] at this
        cases this
        exact k5 id' z L' g1 (hs _ _ hz) hM2 g4
      · obtain ⟨M2, q1, q2, _⟩ := hold id' x' b2 b1
        rw [g3] at q2
        cases q2
        exact k5 id' x' L' g1 b2 q1 g4
      · intro e
        rcases hend id' x' L' b3 b4 g3 g4 with h1 | h1
        · have := hb.lt k2; omega
        · rw [e] at h1; exact hno h1
    · simp [isO, ho] at a5
theorem opW_ok (hE : EnvOk E) (hcf : CallOk E cf) {ops : Array Oper} {i b : Nat} {o : Oper} {mi : AMem} {s s' : St} {v : AV} {z : AStep} (hwr : wrCall E.P o.op = true) (h : opW E cf ops o mi b s = some (v, z, s')) (hoi : ops[i]? = some o) :
    Grow s s' ∧ s'.m = s.m ∧ s'.n = s.n ∧ s'.ms = s.ms ∧ (∀ l id x, (z = .news l ∨ ∃ ps, z = .many ps l) → look l id = some x → b ≤ id ∧ id < b + s.str) ∧ (∀ t ib bk, z = .efx (.app t ib bk) → ib = b ∧ ib ≠ t ∧ 1 ≤ s.str) ∧ (∀ t ∈ z.tids, (∃ x, look mi t = some x) ∧ wrOp E.P o.op = true) ∧
    (Obs s' → s'.tm = s.tm ∧ ∀ r C, XStep r E.P C ops i (mask (o.looksAt ops) 0 s.tm) mi b (b + s.str) v z) := by
  unfold opW at h
  split at h
  · cases h
  · rename_i s1 hg
    cases h
    obtain ⟨g1, g2, gm, g3, _⟩ := guard_ok hg
    refine ⟨g3, g1, g2, gm, fun l' id x hl hx => (by rcases hl with hl | ⟨_, hl⟩ <;> cases hl; cases hx), fun _ _ _ h => (by cases h), fun t ht => (by cases ht), fun ho => ⟨guard_tm hg ho, fun r C β a w m2 K Q hf hs hr hfree hK => ?_⟩⟩
    unfold wpOpIn
    simp only [hoi, guard_mask hg ho hf, Bool.false_eq_true, if_false]
    refine ⟨fun _ _ => trivial, ?_⟩
    have := hK β undef w (Ext.refl β) (fun _ _ => rfl) rfl (by show Rel C β (m2 ++ []) w; rw [List.append_nil]; exact hr)
    rw [hoi] at this
    exact this
  · rename_i s1 hg
    obtain ⟨g1, g2, gm, g3, _⟩ := guard_ok hg
    split at h
    · rename_i f args hle haop
      simp only [Bool.and_eq_true] at hle
      have hle1 : b + s1.str ≤ lim := Nat.le_of_ble_eq_true hle.1
      split at h
      · rename_i r news' k ob hco hct
        obtain ⟨g, hgm, hgr⟩ := ctLook_mem hct
        have hok := hE.ct f g hgm
        split at h
        · rename_i s2 hin hneed
          simp only [Bool.and_eq_true] at hin
          cases h
          obtain ⟨n1, n2, n3, nm, n4, n5⟩ := need_ok hneed
          have hk : k ≤ s1.str := Nat.le_of_ble_eq_true hin.1
          refine ⟨g3.trans n4, n2.trans g1, n3.trans g2, nm.trans gm, fun l' id x hl hx => (by rcases hl with hl | ⟨_, hl⟩ <;> cases hl; have := inR_ok hin.2 hx; rw [g3.str] at this; exact this), fun _ _ _ h => (by cases h), fun t ht => (by cases ht), fun ho => ?_⟩
          have ho1 := ho.of n4
          have htm := guard_tm hg ho1
          refine ⟨n1.trans htm, fun r C β a w m2 K Q hf hs hr hfree hK => ?_⟩
          rw [htm] at haop
          obtain ⟨vs, hvs, hrun⟩ := aop_call haop hco hf hr hs
          obtain ⟨⟨fn, c, c3, c4⟩, hcalls⟩ := hok
          have hc := hcalls C β mi m2 w args b v news' k ob vs hgr (n5 ho) hs hr (fun id h1 h2 => hfree id h1 (by rw [← g3.str]; omega)) (by omega) hvs
          unfold wpOpIn
          simp only [hoi, guard_mask hg ho1 hf, if_true]
          refine ⟨fun _ _ => trivial, ?_⟩
          rw [semAt_of haop, hrun, run_enter c3 (hE.names _ _ _ c3 c4) c4]
          refine ⟨fun h => (by cases h), CallsIn.mono (callsIn_wide.2 hc) fun e w' ⟨β', u, e1, e2, e3, e4, e5⟩ => ?_⟩
          subst e1
          have := hK β' u w' e2 (fun id hid => e3 id (by rw [← g3.str] at hid; omega)) e4 e5
          rw [hoi] at this
          exact this
        · cases h
      · rename_i hco hct
        split at h
        · rename_i r s2 hcall
          split at h
          · rename_i hc
            simp only [Bool.and_eq_true] at hc
            cases h
            obtain ⟨c1, cm, c2, ⟨fn, c, c3, c4⟩, c5⟩ := hcf f args _ v s2 hcall
            have hn : s2.n ≤ b + s1.str := Nat.le_of_ble_eq_true hc.1
            refine ⟨⟨by show s.n ≤ s1.n; omega, fun x hx => c2.ob x (g3.ob x hx), fun x hx => c2.po x (g3.po x hx), g3.str, g3.rd⟩, g1, g2, gm, fun l' id x hl hx => (by rcases hl with hl | ⟨_, hl⟩ <;> cases hl; have := inR_ok hc.2.1 hx; rw [g3.str] at this; exact this), fun _ _ _ h => (by cases h), fun t ht => ?_, fun ho => ?_⟩
            · obtain ⟨p, hp, rfl⟩ := List.mem_map.1 ht
              obtain ⟨⟨y, h1⟩, _⟩ := putsW_mem hp
              exact ⟨⟨y, (look_woM h1).1⟩, by rw [wrOp, hwr, Bool.true_or]⟩
            have ho2 : Obs s2 := ho.congr (s' := s2) rfl rfl
            have ho1 : Obs s1 := ⟨fun x hx => ho2.1 x (c2.ob x hx), fun x hx => ho2.2 x (c2.po x hx)⟩
            have htm := guard_tm hg ho1
            refine ⟨htm, fun r C β a w m2 K Q hf hs hr hfree hK => ?_⟩
            rw [htm] at haop
            obtain ⟨vs, hvs, hrun⟩ := aop_call haop hco hf hr hs
            have hcalls := (c5 ho2) (ctxW β mi w) β w vs hvs (hr.wr hs) (fun id h1 h2 => hfree id h1 (by rw [← g3.str]; omega))
            unfold wpOpIn
            simp only [hoi, guard_mask hg ho1 hf, if_true]
            refine ⟨fun _ _ => trivial, ?_⟩
            rw [semAt_of haop, hrun, run_enter c3 (hE.names _ _ _ c3 c4) c4]
            refine ⟨fun h => (by cases h), CallsIn.mono (callsIn_wide.2 hcalls) fun e w' ⟨β', u, e1, e2, e3, e4, e5⟩ => ?_⟩
            subst e1
            have := hK β' u w' e2 (fun id hid => e3 id ?_) e4 (hr.backW hs e5 e2 (hi := b + s.str) hfree (fun id x hx => by have := inR_ok hc.2.1 hx; rw [g3.str] at this; exact this) hc.2.2)
            · rw [hoi] at this
              exact this
            · rw [← g3.str] at hid
              show id < b ∨ s2.n ≤ id
              omega
          · cases h
        · cases h
      · cases h
    · cases h

theorem opE_ok (hE : EnvOk E) (hcf : CallOk E cf) {ops : Array Oper} {i b : Nat} {o : Oper} {mi : AMem} {s s' : St} {v : AV} {z : AStep} {wm : Bool} (h : opE E cf wm ops i o mi b s = some (v, z, s')) (hoi : ops[i]? = some o) :
    Grow s s' ∧ s'.m = s.m ∧ s'.n = s.n ∧ s'.ms = s.ms ∧ (∀ l id x, (z = .news l ∨ ∃ ps, z = .many ps l) → look l id = some x → b ≤ id ∧ id < b + s.str) ∧ (∀ t ib bk, z = .efx (.app t ib bk) → ib = b ∧ ib ≠ t ∧ 1 ≤ s.str) ∧ (∀ t ∈ z.tids, (∃ x, look mi t = some x) ∧ wrOp E.P o.op = true) ∧
    (Obs s' → s'.tm = s.tm ∧ ∀ r C, XStep r E.P C ops i (mask (o.looksAt ops) 0 s.tm) mi b (b + s.str) v z) := by
  unfold opE at h
  split at h
  · rename_i hup
    split at h
    · split at h
      · rename_i v' l s1 hq
        cases h
        obtain ⟨q1, q2, q3, q4, q5, q6⟩ := opQ_ok hE hcf hq hoi
        refine ⟨q1, q2, q3, q4, fun l' id x hl hx => (by rcases hl with hl | ⟨_, hl⟩ <;> cases hl; exact q5 id x hx), fun _ _ _ h => (by cases h), fun t ht => (by cases ht), fun ho => ?_⟩
        obtain ⟨t1, t2⟩ := q6 ho
        exact ⟨t1, fun r C β a w m2 K Q hf hs hr hfree hK => t2 r C β a w m2 K Q hf hs hr hfree hK⟩
      · cases h
    · rename_i hw
      simp only [Bool.and_eq_true] at hw
      exact opW_ok hE hcf hw.2 h hoi
  · rename_i hup
    split at h
    · cases h
    · rename_i s1 hg
      cases h
      obtain ⟨g1, g2, gm, g3, _⟩ := guard_ok hg
      refine ⟨g3, g1, g2, gm, fun l' id x hl hx => (by rcases hl with hl | ⟨_, hl⟩ <;> cases hl; cases hx), fun _ _ _ h => (by cases h), fun t ht => (by cases ht), fun ho => ⟨guard_tm hg ho, fun r C β a w m2 K Q hf hs hr hfree hK => ?_⟩⟩
      unfold wpOpIn
      simp only [hoi, guard_mask hg ho hf, Bool.false_eq_true, if_false]
      refine ⟨fun _ _ => trivial, ?_⟩
      have := hK β undef w (Ext.refl β) (fun _ _ => rfl) rfl (by show Rel C β (m2 ++ []) w; rw [List.append_nil]; exact hr)
      rw [hoi] at this
      exact this
    · rename_i s1 hg
      obtain ⟨g1, g2, gm, g3, _⟩ := guard_ok hg
      split at h
      · rename_i v' l ob hle haop
        simp only [Bool.and_eq_true] at hle
        have hle1 : b + s1.str ≤ lim := Nat.le_of_ble_eq_true hle.1
        have hle2 : 1 ≤ s1.str := Nat.le_of_ble_eq_true hle.2
        split at h
        · rename_i s2 hin hneed
          cases h
          obtain ⟨n1, n2, n3, nm, n4, n5⟩ := need_ok hneed
          refine ⟨g3.trans n4, n2.trans g1, n3.trans g2, nm.trans gm, fun l' id x hl hx => (by rcases hl with hl | ⟨_, hl⟩ <;> cases hl; have := inR_ok hin hx; rw [g3.str] at this; exact this), fun _ _ _ h => (by cases h), fun t ht => (by cases ht), fun ho => ?_⟩
          have ho1 := ho.of n4
          have htm := guard_tm hg ho1
          refine ⟨n1.trans htm, fun r C β a w m2 K Q hf hs hr hfree hK => ?_⟩
          rw [htm] at haop
          obtain ⟨β', u, w', e1, e2, e3, e4, e5⟩ := aop_eff haop (n5 ho) hf hr hs (hfree b (Nat.le_refl _) (by rw [← g3.str]; omega)) (gid_ne (by omega))
          unfold wpOpIn
          simp only [hoi, guard_mask hg ho1 hf, if_true]
          refine ⟨fun _ _ => trivial, ?_⟩
          rw [semAt_of haop, e1]
          have := hK β' u w' e2 (fun id hid => e3 id (by rw [← g3.str] at hid; omega)) e4 e5
          rw [hoi] at this
          exact this
        · cases h
      · rename_i v' e ob hle haop
        simp only [Bool.and_eq_true] at hle
        have hle1 : b + s1.str ≤ lim := Nat.le_of_ble_eq_true hle.1
        have hle2 : 1 ≤ s1.str := Nat.le_of_ble_eq_true hle.2
        split at h
        · rename_i s2 hne hneed
          cases h
          obtain ⟨n1, n2, n3, nm, n4, n5⟩ := need_ok hneed
          refine ⟨g3.trans n4, n2.trans g1, n3.trans g2, nm.trans gm, fun l' id x hl hx => (by rcases hl with hl | ⟨_, hl⟩ <;> cases hl), fun t ib bk he => ?_, fun t ht => ?_, fun ho => ?_⟩
          · cases he
            simp only [efxNe, Bool.and_eq_true, Bool.not_eq_true'] at hne
            exact ⟨Nat.eq_of_beq_eq_true hne.1, fun e => by subst e; rw [Nat.beq_refl] at hne; exact absurd hne.2 (by simp), by rw [← g3.str]; exact hle2⟩
          · simp only [AStep.tids, List.mem_singleton] at ht
            subst ht
            exact ⟨(aop_more hup haop (Sub.refl _)).2, by rw [wrOp, hup, Bool.or_true]⟩
          · have ho1 := ho.of n4
            have htm := guard_tm hg ho1
            refine ⟨n1.trans htm, fun r C β a w m2 K Q hf hs hr hfree hK => ?_⟩
            rw [htm] at haop
            obtain ⟨β', u, w', e1, e2, e3, e4, e5⟩ := aop_upd (aop_more hup haop hs).1 hup (n5 ho) hf hr (hfree b (Nat.le_refl _) (by rw [← g3.str]; omega)) (gid_ne (by omega))
            unfold wpOpIn
            simp only [hoi, guard_mask hg ho1 hf, if_true]
            refine ⟨fun _ _ => trivial, ?_⟩
            rw [semAt_of haop]
            have := hK β' u w' e2 (fun id hid => e3 id (by rw [← g3.str] at hid; omega)) e4 e5
            rw [hoi] at this
            rcases e1 with e1 | ⟨e1, rfl⟩
            · rw [e1]; exact this
            · rw [e1]; exact this
        · cases h
      · cases h

theorem look_filtE {ops : Array Oper} {ts : List (Nat × Nat)} {n0 str i : Nat} : ∀ {m : AMem} {id : Nat} {x : ABlk}, look (filtE ops ts n0 str i m) id = some x → look m id = some x ∧ keepE ops ts n0 str i id = true
  | [], _, _, h => by cases h
  | (j, b) :: r, id, x, h => by
    simp only [filtE] at h
    by_cases e : id = j
    · subst e
      split at h
      · rename_i hk
        rw [look_eq] at h ⊢
        exact ⟨h, hk⟩
      · rename_i hk
        have := (look_filtE h).2
        rw [hk] at this
        cases this
    · split at h
      · rw [look_ne e] at h ⊢
        exact look_filtE h
      · rw [look_ne e]
        exact look_filtE h

theorem opsE_ok (hE : EnvOk E) (hcf : CallOk E cf) {ops : Array Oper} {wm : Bool} {vis : Nat → AMem → AMem} {keep : Nat → Nat → Prop} (hvs : ∀ i m id x, look (vis i m) id = some x → look m id = some x ∧ keep i id) {n0 : Nat} {tm0 : List AV} {f0 : Nat → Option ABlk} : ∀ {l : List Oper} {i : Nat} {acc acc' : List (Nat × Nat)} {s s' : St} {V0 : Nat → AV} {Z0 : Nat → AStep} {M0 : Nat → AMem},
    opsE E cf wm ops vis n0 l i acc s = some (acc', s') → (∀ j, j < l.length → l[j]? = ops[i + j]?) →
    ∃ (V : Nat → AV) (Z : Nat → AStep) (mi : Nat → AMem), (∀ j, j < i → V j = V0 j ∧ Z j = Z0 j ∧ mi j = M0 j) ∧ (∀ p ∈ acc, p ∈ acc') ∧ Grow s s' ∧ s'.n = s.n ∧ s'.ms = s.ms ∧
      (∀ j, i ≤ j → j < i + l.length → (∀ l' id x, (Z j = .news l' ∨ ∃ ps, Z j = .many ps l') → look l' id = some x → rng n0 s.str j id) ∧ (∀ t ib bk, Z j = .efx (.app t ib bk) → rng n0 s.str j ib) ∧ (∀ t ∈ (Z j).tids, (∃ x, look (mi j) t = some x) ∧ (j, t) ∈ acc' ∧ ∀ o, ops[j]? = some o → wrOp E.P o.op = true) ∧
        (∀ id x, look (mi j) id = some x → keep j id)) ∧
      (Obs s' → s.tm = frD ops V0 tm0 (fun _ => true) i → (∀ id, look s.m id = memF Z0 f0 (fun _ => true) i id) →
        s'.tm = frD ops V tm0 (fun _ => true) (i + l.length) ∧ (∀ id, look s'.m id = memF Z f0 (fun _ => true) (i + l.length) id) ∧
        ∀ j, i ≤ j → j < i + l.length → ∀ o, ops[j]? = some o → (∀ id x, look (mi j) id = some x → memF Z f0 (fun _ => true) j id = some x) ∧
          ∀ r C, XStep r E.P C ops j (mask (o.looksAt ops) 0 (frD ops V tm0 (fun _ => true) j)) (mi j) (n0 + j * s.str) (n0 + j * s.str + s.str) (V j) (Z j))
  | [], i, acc, acc', s, s', V0, Z0, M0, h, _ => by
    simp only [opsE, Option.some.injEq, Prod.mk.injEq] at h
    obtain ⟨rfl, rfl⟩ := h
    exact ⟨V0, Z0, M0, fun _ _ => ⟨rfl, rfl, rfl⟩, fun _ h => h, Grow.refl s, rfl, rfl, fun j h1 h2 => by simp at h2; omega, fun _ ht hm => ⟨ht, hm, fun j h1 h2 => by simp at h2; omega⟩⟩
  | o :: r, i, acc, acc', s, s', V0, Z0, M0, h, hl => by
    have hoi : ops[i]? = some o := by simpa using (hl 0 (by simp)).symm
    simp only [opsE] at h
    split at h
    · rename_i v z s1 hop
      obtain ⟨q1, q2, q3, qm, q4, q5, q6, q7⟩ := opE_ok hE hcf hop hoi
      let V1 : Nat → AV := fun j => if j = i then v else V0 j
      let Z1 : Nat → AStep := fun j => if j = i then z else Z0 j
      let M1 : Nat → AMem := fun j => if j = i then vis i s.m else M0 j
      obtain ⟨V, Z, mi, h1, h2, h3, h4, h5, h6, h7⟩ := opsE_ok hE hcf hvs (tm0 := tm0) (f0 := f0) (V0 := V1) (Z0 := Z1) (M0 := M1) h (fun j hj => by
        have := hl (j + 1) (by simp; omega)
        simp only [List.getElem?_cons_succ] at this
        rw [this]
        congr 1
        omega)
      have hVi : V i = v := by rw [(h1 i (by omega)).1]; simp [V1]
      have hZi : Z i = z := by rw [(h1 i (by omega)).2.1]; simp [Z1]
      have hMi : mi i = vis i s.m := by rw [(h1 i (by omega)).2.2]; simp [M1]
      have g1 : Grow s ({ s1 with m := z.on s1.m }.put o.dst v) := ⟨q1.n, q1.ob, q1.po, q1.str, q1.rd⟩
      have hstr : ({ s1 with m := z.on s1.m }.put o.dst v).str = s.str := q1.str
      refine ⟨V, Z, mi, fun j hj => ⟨by rw [(h1 j (by omega)).1]; simp [V1, show j ≠ i by omega], by rw [(h1 j (by omega)).2.1]; simp [Z1, show j ≠ i by omega], by rw [(h1 j (by omega)).2.2]; simp [M1, show j ≠ i by omega]⟩,
        fun p hp => h2 p (List.mem_append.2 (.inl hp)), g1.trans h3, h4.trans q3, h5.trans qm, fun j hj1 hj2 => ?_, fun ho ht hm => ?_⟩
      · by_cases e : j = i
        · subst e
          rw [hZi, hMi]
          refine ⟨fun l' id x hl' hx => q4 l' id x hl' hx, fun t ib bk he => ?_, fun t ht => ⟨(q6 t ht).1, h2 _ (List.mem_append.2 (.inr (List.mem_map_of_mem ht))), fun o' ho' => by rw [hoi] at ho'; cases ho'; exact (q6 t ht).2⟩, fun id x hx => (hvs _ _ _ _ hx).2⟩
          obtain ⟨e1, _, e3⟩ := q5 t ib bk he
          subst e1
          exact ⟨Nat.le_refl _, by omega⟩
        · have := h6 j (by omega) (by simp at hj2; omega)
          rwa [hstr] at this
      · have ho1 : Obs s1 := (ho.of h3).congr (s' := s1) rfl rfl
        obtain ⟨t1, t2⟩ := q7 ho1
        have htm1 : ({ s1 with m := z.on s1.m }.put o.dst v).tm = frD ops V1 tm0 (fun _ => true) (i + 1) := by
          show putA s1.tm o.dst v = _
          simp only [frD, if_true, hoi, Option.bind_some]
          rw [t1, ht, frD_congr ops tm0 _ i (V := V0) (V' := V1) (fun j hj => by simp [V1, show j ≠ i by omega])]
          simp [V1]
        have hcong : ∀ {A B : Nat → AStep} k, (∀ j, j < k → A j = B j) → memF A f0 (fun _ => true) k = memF B f0 (fun _ => true) k := by
          intro A B k
          induction k with
          | zero => intro _; rfl
          | succ k ih => intro hh; simp only [memF, if_true]; rw [ih fun j hj => hh j (by omega), hh k (by omega)]
        have hm1 : ∀ id, look ({ s1 with m := z.on s1.m }.put o.dst v).m id = memF Z1 f0 (fun _ => true) (i + 1) id := fun id => by
          show look (z.on s1.m) id = _
          rw [q2]
          rw [look_on hm (fun t ht => by
            obtain ⟨x, hx⟩ := (q6 t ht).1
            exact ⟨x, (hvs _ _ _ _ hx).1⟩) (fun t ib bk he => (q5 t ib bk he).2.1) id]
          simp only [memF, if_true]
          rw [show Z1 i = z by simp [Z1]]
          exact stepF_point (congrFun (hcong (A := Z0) (B := Z1) i fun j hj => by simp [Z1, show j ≠ i by omega]) id)
        obtain ⟨u1, u2, u3⟩ := h7 ho htm1 hm1
        have e1 : i + (o :: r).length = i + 1 + r.length := by simp; omega
        rw [e1]
        refine ⟨u1, u2, fun j hj1 hj2 o' ho' => ?_⟩
        by_cases e : j = i
        · subst e
          rw [hoi] at ho'
          cases ho'
          have e1 : frD ops V tm0 (fun _ => true) j = s.tm := by
            rw [ht]
            exact frD_congr ops tm0 _ j fun j' hj' => by rw [(h1 j' (by omega)).1]; simp [V1, show j' ≠ j by omega]
          refine ⟨fun id x hx => ?_, fun r' C => ?_⟩
          · rw [hMi] at hx
            have := (hvs _ _ _ _ hx).1
            rw [hm id] at this
            rw [← this]
            exact congrFun (hcong (A := Z) (B := Z0) j fun j' hj' => by rw [(h1 j' (by omega)).2.1]; simp [Z1, show j' ≠ j by omega]) id
          · rw [e1, hVi, hZi, hMi]
            exact t2 r' C
        · have := u3 j (by omega) hj2 o' ho'
          rw [hstr] at this
          exact this
    · cases h

theorem eqP_eq : ∀ {l q : List (Nat × Nat)}, eqP l q = true → l = q
  | [], [], _ => rfl
  | [], _ :: _, h => by simp [eqP] at h
  | _ :: _, [], h => by simp [eqP] at h
  | (a, b) :: r, (c, d) :: q, h => by
    simp only [eqP, Bool.and_eq_true] at h
    rw [Nat.eq_of_beq_eq_true h.1, Nat.eq_of_beq_eq_true h.2.1, eqP_eq h.2.2]

theorem regV_ok (hE : EnvOk E) (hcf : CallOk E cf) {ops : Array Oper} {wm : Bool} {vis : Nat → AMem → AMem} {keep : Nat → Nat → Prop} (hvs : ∀ i m id x, look (vis i m) id = some x → look m id = some x ∧ keep i id) {s s1 : St} {acc' : List (Nat × Nat)} {id : Nat}
    (h1 : opsE E cf wm ops vis s.n ops.toList 0 [] s = some (acc', s1)) (hdown : downB ops = true) (hap : apartB ops ops.size = true)
    (hkeep1 : ∀ i id, i < ops.size → keep i id → ∀ j, j < ops.size → rng s.n s.str j id → waits ops i j = true)
    (hkeep2 : ∀ i id, i < ops.size → keep i id → ∀ j, j < ops.size → (j, id) ∈ acc' → (∀ o, ops[j]? = some o → wrOp E.P o.op = true) → waits ops i j = true ∨ waits ops j i = true ∨ i = j)
    (hord : ∀ i j, i < ops.size → j < ops.size → ∀ t t', (i, t) ∈ acc' → (j, t') ∈ acc' → (∀ o, ops[i]? = some o → wrOp E.P o.op = true) → (∀ o, ops[j]? = some o → wrOp E.P o.op = true) → i < j → waits ops j i = true) :
    Grow s { s1 with n := s.n + ops.size * s.str } ∧ s1.ms = s.ms ∧
    (Obs s1 → ∀ (ro : Option Nat) (C : Ctx) (β : Nm) (a : Act) (w : World) (Q : Exit → Act → World → Prop), FrOk β s.tm a.tmps → Rel C β s.m w → (∀ id, s.n ≤ id → id < s.n + ops.size * s.str → β id = none) →
      (∀ β' a' w', Ext β β' → (∀ id, id < s.n ∨ s.n + ops.size * s.str ≤ id → β' id = β id) → FrOk β' s1.tm a'.tmps → a'.defers = a.defers → Rel C β' s1.m w' → Q .normal a' w') → (Code.region id ops true).wpIn (FW ro) 0 E.P Q a w) := by
  obtain ⟨V, Z, mi, _, _, h3, h4, h5, h6, h7⟩ := opsE_ok hE hcf hvs (tm0 := s.tm) (f0 := look s.m) (V0 := fun _ => .any) (Z0 := fun _ => .news []) (M0 := fun _ => []) (i := 0) h1 (fun j _ => by simp)
  rw [Nat.zero_add] at h6 h7
  have hlen : ops.toList.length = ops.size := by simp
  rw [hlen] at h6 h7
  refine ⟨⟨by show s.n ≤ s.n + ops.size * s.str; omega, h3.ob, h3.po, h3.str, h3.rd⟩, h5, fun ho1 ro C β a w Q hf hr hfree hQ => ?_⟩
  obtain ⟨t1, t2, t3⟩ := h7 ho1 rfl (fun _ => rfl)
  have hfree : ∀ id, s.n ≤ id → id < s.n + ops.size * s.str → β id = none := hfree
  have hQ : ∀ β' a' w', Ext β β' → (∀ id, id < s.n ∨ s.n + ops.size * s.str ≤ id → β' id = β id) → FrOk β' s1.tm a'.tmps → a'.defers = a.defers → Rel C β' s1.m w' → Q .normal a' w' := hQ
  refine wpIn_region_any hE.mixed ?_
  -- which names an operation may see
  have hkeep : ∀ i, i < ops.size → ∀ id x, look (mi i) id = some x → (∀ j, j < ops.size → rng s.n s.str j id → waits ops i j = true) ∧ ∀ j, j < ops.size → id ∈ (Z j).tids → waits ops i j = true ∨ waits ops j i = true ∨ i = j := by
    intro i hi id x hx
    have hk := (h6 i (Nat.zero_le _) hi).2.2.2 id x hx
    refine ⟨hkeep1 i id hi hk, fun j hj ht => ?_⟩
    obtain ⟨_, g2, g3⟩ := (h6 j (Nat.zero_le _) hj).2.2.1 id ht
    exact hkeep2 i id hi hk j hj g2 g3
  have hZ : ZOk Z s.n s.str ops.size := ⟨fun k l id x hk hz => (h6 k (Nat.zero_le _) hk).1 l id x (.inl hz), fun k t ib bk hk => (h6 k (Nat.zero_le _) hk).2.1 t ib bk, fun k ps l id x hk hz => (h6 k (Nat.zero_le _) hk).1 l id x (.inr ⟨ps, hz⟩)⟩
  have hall : ∀ k, k ≤ ops.size → ∀ (V : Nat → AV), frD ops V s.tm (fun j => decide (j < k)) ops.size = frD ops V s.tm (fun _ => true) k := fun k hk V => frD_true ops V s.tm k ops.size hk
  have hmall : ∀ k, k ≤ ops.size → ∀ id, memF Z (look s.m) (fun j => decide (j < k)) ops.size id = memF Z (look s.m) (fun _ => true) k id := fun k hk id => by
    have e := memF_skip (f0 := look s.m) hZ (l := fun j => decide (j < k)) (id := id) (K := k) (ops.size - k) (by omega) fun j h1 _ hl => by simp at hl; omega
    rw [show k + (ops.size - k) = ops.size by omega] at e
    rw [e]
    exact memF_agree hZ k hk fun j hj _ => by simp [hj]
  by_cases hs0 : s.str = 0 ∧ ops.size = 0
  · -- nothing to do
    have he : ops.size = 0 := hs0.2
    have e1 := t1
    rw [he]
    refine ⟨?_, ?_⟩
    · refine List.eq_nil_iff_forall_not_mem.2 fun i hi => ?_
      obtain ⟨_, oi, hoi, _⟩ := mem_ready.1 hi
      have := (Array.getElem?_eq_some_iff.1 hoi).1
      omega
    · refine hQ β a _ (Ext.refl β) (fun _ _ => rfl) ?_ rfl ?_
      · rw [t1, he]; exact hf
      · refine hr.drew1.weaken fun id x hx => ?_
        rw [t2 id, he] at hx
        exact hx
  · have hgo := draw_goE (P := E.P) (C := C) (ops := ops) (r := ro) (D := a.defers) (V := V) (Z := Z) (tm0 := s.tm) (f0 := look s.m) (b := s.n) (str := s.str) (q := ops.size) (β0 := β) (Q := Q) (mi := mi)
      hdown hap rfl hZ (fun i hi t ht => ((h6 i (Nat.zero_le _) hi).2.2.1 t ht).1) (fun i j hi hj t ht t' ht' hij => ?_)
      (fun i hi id x hx => ⟨?_, hkeep i hi id x hx⟩) (fun i hi o hoi => ?_) (fun a' w' β' m f1 f2 f3 f4 f5 f6 => ?_) ops.size (Array.replicate ops.size false) a { w with drawn := w.drawn + 1 } β ?_ ?_ ?_
    · exact hgo
    · obtain ⟨_, m1, n1⟩ := (h6 i (Nat.zero_le _) hi).2.2.1 t ht
      obtain ⟨_, m2, n2⟩ := (h6 j (Nat.zero_le _) hj).2.2.1 t' ht'
      exact hord i j hi hj t t' m1 m2 n1 n2 hij
    · rw [hmall i (by omega) id]
      exact (t3 i (Nat.zero_le _) hi _ (Array.getElem?_eq_getElem hi)).1 id x hx
    · rw [hall i (by omega)]
      exact (t3 i (Nat.zero_le _) hi o hoi).2 ro C
    · refine hQ β' a' w' f5 f6 (by rw [t1]; exact f1) f2 (f4.weaken fun id x hx => ?_)
      rw [t2 id] at hx
      rw [f3 id]; exact hx
    · exact ⟨by simp, fun j oj _ hl => (by rw [getD_replicate_false] at hl; cases hl), fun t _ ht => getD_in (by simpa using ht) (getD_replicate_false _ _)⟩
    · have : (fun j => !(Array.replicate ops.size false).getD j false) = fun _ => true := by funext j; rw [getD_replicate_false]; rfl
      rw [this]; simp
    · have e : (fun j => (Array.replicate ops.size false).getD j false) = fun _ => false := by funext j; exact getD_replicate_false _ _
      have hfd : ∀ k, frD ops V s.tm (fun _ => false) k = s.tm := by
        intro k
        induction k with
        | zero => rfl
        | succ k ih => simp only [frD]; rw [ih]; rfl
      have hmd : ∀ k, memF Z (look s.m) (fun _ => false) k = look s.m := by
        intro k
        induction k with
        | zero => rfl
        | succ k ih => simp only [memF]; rw [ih]; rfl
      refine ⟨by rw [e, hfd]; exact hf, rfl, ⟨s.m, fun id => by rw [e, hmd], hr.drew1⟩, fun j hj _ id hrg => ?_, Ext.refl β, fun _ _ => rfl⟩
      refine hfree id (by unfold rng at hrg; omega) ?_
      have : j * s.str + s.str ≤ ops.size * s.str := by rw [← Nat.succ_mul]; exact Nat.mul_le_mul_right _ hj
      unfold rng at hrg
      omega

theorem regE_ok (hE : EnvOk E) (hcf : CallOk E cf) {ops : Array Oper} {s s' : St} {id : Nat} (h : regE E cf ops s = some s') : Grow s s' ∧ s'.ms = s.ms ∧
    (Obs s' → ∀ (ro : Option Nat) (C : Ctx) (β : Nm) (a : Act) (w : World) (Q : Exit → Act → World → Prop), FrOk β s.tm a.tmps → Rel C β s.m w → (∀ id, s.n ≤ id → id < s'.n → β id = none) →
      (∀ β' a' w', Ext β β' → (∀ id, id < s.n ∨ s'.n ≤ id → β' id = β id) → FrOk β' s'.tm a'.tmps → a'.defers = a.defers → Rel C β' s'.m w' → Q .normal a' w') → (Code.region id ops true).wpIn (FW ro) 0 E.P Q a w) := by
  unfold regE at h
  split at h
  · rename_i ts s0 hd h0
    split at h
    · rename_i ts' s1 h1
      split at h
      · rename_i hc
        simp only [Option.some.injEq] at h
        subst h
        simp only [Bool.and_eq_true] at hc
        obtain ⟨hts, hch⟩ := hc
        have hts := eqP_eq hts
        subst hts
        simp only [drawE, Bool.and_eq_true] at hd
        obtain ⟨_, hdown, hap⟩ := hd
        refine (fun K => ⟨K.1, K.2.1, fun ho => K.2.2 (ho.congr (s' := s1) rfl rfl)⟩) (regV_ok hE hcf (keep := fun i id => keepE ops ts' s.n s.str i id = true) (id := id) (fun i m id x hx => look_filtE hx) h1 hdown hap (fun i id hi hk j hj hrg => ?_) (fun i id hi hk j hj hm _ => ?_) (fun i j hi hj t t' m1 m2 _ _ hij => ?_))
        · simp only [keepE, Bool.and_eq_true] at hk
          have h1 : Nat.ble s.n id = true := Nat.ble_eq_true_of_le (by unfold rng at hrg; omega)
          have hlt : id < s.n + ops.size * s.str := by
            have : j * s.str + s.str ≤ ops.size * s.str := by rw [← Nat.succ_mul]; exact Nat.mul_le_mul_right _ hj
            unfold rng at hrg; omega
          have h2 : Nat.blt id (s.n + ops.size * s.str) = true := by rw [Nat.blt_eq]; exact hlt
          have hdiv : (id - s.n) / s.str = j := by
            unfold rng at hrg
            have hp : 0 < s.str := by omega
            rw [Nat.div_eq_iff hp]
            omega
          have hk1 := hk.1
          rw [h1, h2, Bool.and_self] at hk1
          simp only [hdiv] at hk1
          exact hk1
        · simp only [keepE, Bool.and_eq_true] at hk
          have := List.all_eq_true.1 hk.2 _ hm
          simp only [Nat.beq_refl, Bool.not_true, Bool.false_or, Bool.or_eq_true] at this
          rcases this with h | h | h
          · exact .inl h
          · exact .inr (.inl h)
          · exact .inr (.inr (Nat.eq_of_beq_eq_true h))
        · have h1 := List.all_eq_true.1 hch _ m1
          have h2 := List.all_eq_true.1 h1 _ m2
          simp only [Bool.or_eq_true] at h2
          rcases h2 with h | h
          · have := Nat.le_of_ble_eq_true h; omega
          · exact h
      · cases h
    · cases h
  · cases h

theorem look_filtW {ops : Array Oper} {n0 str i : Nat} : ∀ {m : AMem} {id : Nat} {x : ABlk}, look (filtW ops n0 str i m) id = some x → look m id = some x ∧ keepW ops n0 str i id = true
  | [], _, _, h => by cases h
  | (j, b) :: r, id, x, h => by
    simp only [filtW] at h
    by_cases e : id = j
    · subst e
      split at h
      · rename_i hk
        rw [look_eq] at h ⊢
        exact ⟨h, hk⟩
      · rename_i hk
        have := (look_filtW h).2
        rw [hk] at this
        cases this
    · split at h
      · rw [look_ne e] at h ⊢
        exact look_filtW h
      · rw [look_ne e]
        exact look_filtW h
theorem ordW_ok {ops : Array Oper} {i : Nat} : ∀ {l : List Oper} {j : Nat}, ordW ops i l j = true → ∀ k, k < l.length → ∀ o, l[k]? = some o → seesM o.op = true → i = j + k ∨ waits ops i (j + k) = true ∨ waits ops (j + k) i = true
  | [], _, _, k, hk, _, _, _ => by simp at hk
  | o :: r, j, h, k, hk, o', ho, hs => by
    simp only [ordW, Bool.and_eq_true] at h
    cases k with
    | zero =>
      simp at ho
      subst ho
      have h1 := h.1
      rw [hs] at h1
      simp only [Bool.not_true, Bool.false_or, Bool.or_eq_true] at h1
      rcases h1 with h1 | h1 | h1
      · exact .inl (by rw [Nat.add_zero]; exact Nat.eq_of_beq_eq_true h1)
      · exact .inr (.inl h1)
      · exact .inr (.inr h1)
    | succ k =>
      have := ordW_ok h.2 k (by simpa using hk) o' (by simpa using ho) hs
      rwa [show j + (k + 1) = j + 1 + k by omega]
theorem wOkG_ok {P : Program} {ops : Array Oper} : ∀ {l : List Oper} {i : Nat}, wOkG P ops l i = true → ∀ k, k < l.length → ∀ o, l[k]? = some o → wrOp P o.op = true → ordW ops (i + k) ops.toList 0 = true
  | [], _, _, k, hk, _, _, _ => by simp at hk
  | o :: r, i, h, k, hk, o', ho, hs => by
    simp only [wOkG, Bool.and_eq_true] at h
    cases k with
    | zero =>
      simp at ho
      subst ho
      have h1 := h.1
      rw [hs] at h1
      simpa using h1
    | succ k =>
      have := wOkG_ok h.2 k (by simpa using hk) o' (by simpa using ho) hs
      rwa [show i + (k + 1) = i + 1 + k by omega]
theorem seesM_wr {P : Program} {o : Op} (h : wrOp P o = true) : seesM o = true := by
  unfold seesM
  split <;> first | rfl | (simp [wrOp, wrCall, updOp] at h)
theorem waits_lt {ops : Array Oper} (hdown : downB ops = true) {i j : Nat} (hw : waits ops i j = true) : j < i := by
  have hr := waits_reach hw
  have one : ∀ {i : Nat} {o : Oper} {e : Edge}, ops[i]? = some o → e ∈ o.after.toList → Region.binds .any e = true → e.on < i := by
    intro i o e ho he hb
    have hi : i < ops.size := (Array.getElem?_eq_some_iff.1 ho).1
    have h1 := List.all_eq_true.1 hdown i (List.mem_range.2 hi)
    rw [ho] at h1
    have h2 := List.all_eq_true.1 h1 e he
    simp only [hb, Bool.not_true, Bool.false_or] at h2
    rwa [Nat.blt_eq] at h2
  have key : ∀ {i j : Nat}, Reach ops i j → j < i := by
    intro i j h
    induction h with
    | one ho he hb => exact one ho he hb
    | step ho he hb _ ih => exact Nat.lt_trans ih (one ho he hb)
  exact key hr
theorem regW_ok (hE : EnvOk E) (hcf : CallOk E cf) {ops : Array Oper} {s s' : St} {id : Nat} (hw : wOk E.P ops = true) (h : regW E cf ops s = some s') : Grow s s' ∧ s'.ms = s.ms ∧
    (Obs s' → ∀ (ro : Option Nat) (C : Ctx) (β : Nm) (a : Act) (w : World) (Q : Exit → Act → World → Prop), FrOk β s.tm a.tmps → Rel C β s.m w → (∀ id, s.n ≤ id → id < s'.n → β id = none) →
      (∀ β' a' w', Ext β β' → (∀ id, id < s.n ∨ s'.n ≤ id → β' id = β id) → FrOk β' s'.tm a'.tmps → a'.defers = a.defers → Rel C β' s'.m w' → Q .normal a' w') → (Code.region id ops true).wpIn (FW ro) 0 E.P Q a w) := by
  simp only [wOk, drawE, Bool.and_eq_true] at hw
  obtain ⟨_, hg, _, hdown, hap⟩ := hw
  have hlen : ops.toList.length = ops.size := by simp
  have hpair : ∀ i j, i < ops.size → j < ops.size → (∀ o, ops[i]? = some o → wrOp E.P o.op = true) → (∀ o, ops[j]? = some o → seesM o.op = true) → i = j ∨ waits ops i j = true ∨ waits ops j i = true := by
    intro i j hi hj h1 h2
    have e1 : ops.toList[i]? = some ops[i] := by simp [hi]
    have e2 : ops.toList[j]? = some ops[j] := by simp [hj]
    have g1 := wOkG_ok hg i (by rw [hlen]; exact hi) _ e1 (h1 _ (Array.getElem?_eq_getElem hi))
    rw [Nat.zero_add] at g1
    have g2 := ordW_ok g1 j (by rw [hlen]; exact hj) _ e2 (h2 _ (Array.getElem?_eq_getElem hj))
    rwa [Nat.zero_add] at g2
  unfold regW at h
  split at h
  · rename_i ts s1 h1
    simp only [Option.some.injEq] at h
    subst h
    refine (fun K => ⟨K.1, K.2.1, fun ho => K.2.2 (ho.congr (s' := s1) rfl rfl)⟩) (regV_ok hE hcf (keep := fun i id => keepW ops s.n s.str i id = true ∧ ∀ o, ops[i]? = some o → seesM o.op = true) (id := id) (fun i m id x hx => ?_) h1 hdown hap (fun i id hi hk j hj hrg => ?_) (fun i id hi hk j hj _ hwr => ?_) (fun i j hi hj t t' _ _ n1 n2 hij => ?_))
    · unfold visW at hx
      split at hx
      · rename_i o ho
        split at hx
        · rename_i hs
          obtain ⟨q1, q2⟩ := look_filtW hx
          exact ⟨q1, q2, fun o' ho' => by rw [ho] at ho'; cases ho'; exact hs⟩
        · cases hx
      · cases hx
    · have hk := hk.1
      simp only [keepW] at hk
      have h1 : Nat.ble s.n id = true := Nat.ble_eq_true_of_le (by unfold rng at hrg; omega)
      have hlt : id < s.n + ops.size * s.str := by
        have : j * s.str + s.str ≤ ops.size * s.str := by rw [← Nat.succ_mul]; exact Nat.mul_le_mul_right _ hj
        unfold rng at hrg; omega
      have h2 : Nat.blt id (s.n + ops.size * s.str) = true := by rw [Nat.blt_eq]; exact hlt
      have hdiv : (id - s.n) / s.str = j := by
        unfold rng at hrg
        have hp : 0 < s.str := by omega
        rw [Nat.div_eq_iff hp]
        omega
      rw [h1, h2, Bool.and_self] at hk
      simp only [hdiv] at hk
      exact hk
    · rcases hpair j i hj hi hwr hk.2 with h | h | h
      · exact .inr (.inr h.symm)
      · exact .inr (.inl h)
      · exact .inl h
    · rcases hpair i j hi hj n1 (fun o ho => seesM_wr (n2 o ho)) with h | h | h
      · omega
      · have := waits_lt hdown h; omega
      · exact h
  · cases h
end
end Go.Proofs.YtpfkhlfkcmgdlaaDoor
