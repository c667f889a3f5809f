/- The symbolic evaluator: regions that draw their order: one walk in the text's order serves every order. No Go text is in sight. -/
import Derived.Test.YtpfkhlfkcmgdlaaDoorSxRun
import Derived.Test.YtpfkhlfkcmgdlaaDoorSxOp
set_option linter.unusedSimpArgs false
set_option linter.unusedVariables false
namespace Go.Proofs.YtpfkhlfkcmgdlaaDoor
open Go.RowKit

/-! ### waiting -/
inductive Reach (ops : Array Oper) : Nat → Nat → Prop
  | one {i : Nat} {o : Oper} {e : Edge} : ops[i]? = some o → e ∈ o.after.toList → Region.binds .any e = true → Reach ops i e.on
  | step {i j : Nat} {o : Oper} {e : Edge} : ops[i]? = some o → e ∈ o.after.toList → Region.binds .any e = true → Reach ops e.on j → Reach ops i j

theorem orL_get : ∀ (l q : List Bool) (j : Nat), (orL l q).getD j false = true → l.getD j false = true ∨ q.getD j false = true
  | [], q, j, h => .inr (by simpa [orL] using h)
  | x :: r, [], j, h => .inl (by simpa [orL] using h)
  | x :: r, y :: q, 0, h => by simpa [orL] using h
  | x :: r, y :: q, j + 1, h => by
    simp only [orL, List.getD_cons_succ] at h ⊢
    exact orL_get r q j h
theorem unitL_get : ∀ (n j : Nat), (unitL n).getD j false = true → j = n
  | 0, 0, _ => rfl
  | 0, j + 1, h => by simp [unitL] at h
  | n + 1, 0, h => by simp [unitL] at h
  | n + 1, j + 1, h => by
    simp only [unitL, List.getD_cons_succ] at h
    rw [unitL_get n j h]
theorem cloE_get {acc : List (List Bool)} {j : Nat} : ∀ {l : List Edge}, (cloE acc l).getD j false = true → ∃ e ∈ l, Region.binds .any e = true ∧ (e.on = j ∨ (acc.getD e.on []).getD j false = true)
  | [], h => by simp [cloE] at h
  | e :: r, h => by
    simp only [cloE] at h
    split at h
    · rename_i hb
      rcases orL_get _ _ _ h with h | h
      · exact ⟨e, by simp, hb, .inl (unitL_get _ _ h).symm⟩
      · rcases orL_get _ _ _ h with h | h
        · exact ⟨e, by simp, hb, .inr h⟩
        · obtain ⟨e', he, h1⟩ := cloE_get h
          exact ⟨e', by simp [he], h1⟩
    · obtain ⟨e', he, h1⟩ := cloE_get h
      exact ⟨e', by simp [he], h1⟩
theorem clo_reach (ops : Array Oper) : ∀ (l : List Oper) (acc : List (List Bool)), (∀ j, l[j]? = ops[acc.length + j]?) → (∀ i j, (acc.getD i []).getD j false = true → Reach ops i j) →
    ∀ i j, ((clo l acc).getD i []).getD j false = true → Reach ops i j
  | [], acc, _, h, i, j, hj => h i j hj
  | o :: r, acc, hl, h, i, j, hj => by
    have ho : ops[acc.length]? = some o := by simpa using (hl 0).symm
    refine clo_reach ops r (acc ++ [cloE acc o.after.toList]) (fun q => ?_) (fun i' j' h' => ?_) i j hj
    · have := hl (q + 1)
      simp only [List.getElem?_cons_succ] at this
      rw [this, List.length_append]
      congr 1
      simp
      omega
    · by_cases hi : i' < acc.length
      · refine h i' j' ?_
        simp only [List.getD] at h' ⊢
        rwa [List.getElem?_append_left hi] at h'
      · by_cases he : i' = acc.length
        · subst he
          have h2 : (cloE acc o.after.toList).getD j' false = true := by simpa [List.getD] using h'
          obtain ⟨e, hm, hb, hc⟩ := cloE_get h2
          rcases hc with rfl | hc
          · exact .one ho hm hb
          · exact .step ho hm hb (h _ _ hc)
        · have h2 : (acc ++ [cloE acc o.after.toList])[i']? = none := List.getElem?_eq_none (by simp; omega)
          simp [List.getD, h2] at h'
theorem waits_reach {ops : Array Oper} {i j : Nat} (h : waits ops i j = true) : Reach ops i j :=
  clo_reach ops ops.toList [] (fun j => by simp) (fun i j h => by simp at h) i j h

/-- what is done is closed: whatever it waits for is done -/
theorem reach_done {ops : Array Oper} {listed : Array Bool} (hc : ∀ j oj, ops[j]? = some oj → listed.getD j false = true → ∀ e ∈ oj.after, Region.binds .any e = true → listed.getD e.on false = true) :
    ∀ {i j : Nat}, Reach ops i j → (∀ o, ops[i]? = some o → ∀ e ∈ o.after, Region.binds .any e = true → listed.getD e.on false = true) → listed.getD j false = true := by
  intro i j h
  induction h with
  | one ho he hb => exact fun h => h _ ho _ (Array.mem_toList_iff.1 he) hb
  | @step i j o e ho he hb hr ih =>
    intro h
    refine ih fun o' ho' e' he' hb' => ?_
    have h1 := h _ ho _ (Array.mem_toList_iff.1 he) hb
    exact hc _ _ ho' h1 e' he' hb'

/-! ### frames by what is done -/
section
variable {P : Program} {C : Ctx} {ops : Array Oper}

/-- the frame behind those of the first 'k' operations that are done -/
def frD (ops : Array Oper) (V : Nat → AV) (tm : List AV) (listed : Nat → Bool) : Nat → List AV
  | 0 => tm
  | k + 1 => if listed k then putA (frD ops V tm listed k) ((ops[k]?).bind (·.dst)) (V k) else frD ops V tm listed k

theorem putA_length (tm : List AV) (d : Option Tmp) (v : AV) : (putA tm d v).length = tm.length := by cases d <;> simp [putA]
theorem frD_length (V : Nat → AV) (tm : List AV) (listed : Nat → Bool) : ∀ k, (frD ops V tm listed k).length = tm.length
  | 0 => rfl
  | k + 1 => by
    simp only [frD]
    split
    · rw [putA_length, frD_length V tm listed k]
    · exact frD_length V tm listed k
theorem putA_get (tm : List AV) (d : Option Tmp) (v : AV) (t : Nat) : (putA tm d v)[t]? = if d = some t then (if t < tm.length then some v else none) else tm[t]? := by
  cases d with
  | none => simp [putA]
  | some d =>
    simp only [putA, Option.some.injEq]
    rw [List.getElem?_set]
    by_cases e : d = t
    · subst e; simp
    · simp [e]
theorem frD_succ (V : Nat → AV) (tm : List AV) (l : Nat → Bool) (k t : Nat) : (frD ops V tm l (k + 1))[t]? =
    if l k = true ∧ (ops[k]?).bind (·.dst) = some t then (if t < tm.length then some (V k) else none) else (frD ops V tm l k)[t]? := by
  simp only [frD]
  split
  · rename_i h
    rw [putA_get, frD_length]
    simp [h]
  · rename_i h
    rw [if_neg (fun c => h c.1)]
theorem frD_agree {V : Nat → AV} {tm : List AV} {l l' : Nat → Bool} {t : Nat} : ∀ k, (∀ j, j < k → (ops[j]?).bind (·.dst) = some t → l j = l' j) → (frD ops V tm l k)[t]? = (frD ops V tm l' k)[t]?
  | 0, _ => rfl
  | k + 1, h => by
    have ih : (frD ops V tm l k)[t]? = (frD ops V tm l' k)[t]? := frD_agree k fun j hj => h j (by omega)
    have hk := h k (by omega)
    rw [frD_succ, frD_succ, ih]
    by_cases hd : (ops[k]?).bind (·.dst) = some t
    · rw [hk hd]
    · rw [if_neg (fun c => hd c.2), if_neg (fun c => hd c.2)]
/-- one more is done -/
theorem frD_put {V : Nat → AV} {tm : List AV} {l : Nat → Bool} {i : Nat} : ∀ k, i < k → (∀ j, i < j → j < k → l j = true → ∀ d, (ops[i]?).bind (·.dst) = some d → (ops[j]?).bind (·.dst) ≠ some d) → l i = false →
    ∀ t : Nat, (frD ops V tm (fun j => j == i || l j) k)[t]? = (putA (frD ops V tm l k) ((ops[i]?).bind (·.dst)) (V i))[t]?
  | 0, h, _, _, _ => by omega
  | k + 1, hik, hno, hli, t => by
    rw [putA_get, frD_length, frD_succ, frD_succ]
    by_cases hk : k = i
    · subst hk
      have h1 : (frD ops V tm (fun j => j == k || l j) k)[t]? = (frD ops V tm l k)[t]? := frD_agree k fun j hj _ => by
        simp [show ¬ j = k by omega]
      simp only [beq_self_eq_true, Bool.true_or, true_and, hli, Bool.false_eq_true, false_and, if_false, h1]
    · have ih := frD_put (V := V) (tm := tm) (l := l) (i := i) k (by omega) (fun j h1 h2 => hno j h1 (by omega)) hli t
      have hbe : (k == i) = false := by simp [hk]
      rw [putA_get, frD_length] at ih
      simp only [hbe, Bool.false_or]
      by_cases hd : (ops[i]?).bind (·.dst) = some t
      · rw [if_pos hd]
        rw [if_pos hd] at ih
        by_cases hc : l k = true ∧ (ops[k]?).bind (·.dst) = some t
        · exact absurd hc.2 (hno k (by omega) (by omega) hc.1 t hd)
        · rw [if_neg hc]; exact ih
      · rw [if_neg hd]
        rw [if_neg hd] at ih
        rw [ih]

/-- the new blocks of those of the first 'k' that are done -/
def nwD (N : Nat → AMem) (l : Nat → Bool) : Nat → AMem
  | 0 => []
  | k + 1 => nwD N l k ++ (if l k then N k else [])
def rng (b str j id : Nat) : Prop := b + j * str ≤ id ∧ id < b + j * str + str
theorem rng_apart {b str j j' id : Nat} (h : rng b str j id) (h' : rng b str j' id) : j = j' := by
  rcases Nat.lt_trichotomy j j' with hlt | rfl | hlt
  · have := Nat.mul_le_mul_right str (show j + 1 ≤ j' by omega)
    rw [Nat.succ_mul] at this
    unfold rng at *; omega
  · rfl
  · have := Nat.mul_le_mul_right str (show j' + 1 ≤ j by omega)
    rw [Nat.succ_mul] at this
    unfold rng at *; omega
theorem look_nwD {N : Nat → AMem} {b str : Nat} (hN : ∀ j id x, look (N j) id = some x → rng b str j id) {l : Nat → Bool} {id : Nat} {x : ABlk} : ∀ k, look (nwD N l k) id = some x ↔ ∃ j, j < k ∧ l j = true ∧ look (N j) id = some x
  | 0 => by simp [nwD, look]
  | k + 1 => by
    have ih := look_nwD hN (l := l) (id := id) (x := x) k
    simp only [nwD, look_append]
    constructor
    · intro h
      cases hk : look (nwD N l k) id with
      | some y =>
        rw [hk] at h
        cases h
        obtain ⟨j, h1, h2⟩ := ih.1 hk
        exact ⟨j, by omega, h2⟩
      | none =>
        rw [hk] at h
        simp only at h
        split at h
        · rename_i hl; exact ⟨k, by omega, hl, h⟩
        · simp [look] at h
    · rintro ⟨j, h1, h2, h3⟩
      by_cases hj : j = k
      · subst hj
        have : look (nwD N l j) id = none := by
          cases hk : look (nwD N l j) id with
          | none => rfl
          | some y =>
            obtain ⟨j', g1, g2, g3⟩ := (look_nwD hN (l := l) (id := id) (x := y) j).1 hk
            have := rng_apart (hN _ _ _ h3) (hN _ _ _ g3)
            omega
        rw [this]
        simp [h2, h3]
      · rw [ih.2 ⟨j, by omega, h2, h3⟩]

/-- Operation 'i' yields 'v' and makes 'news', of the names from 'lo' below 'hi', wherever the frame is so and this memory is there. -/
def QStep (r : Option Nat) (P : Program) (C : Ctx) (ops : Array Oper) (i : Nat) (tmR : List AV) (mi : AMem) (lo hi : Nat) (v : AV) (news : AMem) : Prop :=
  ∀ (β : Nm) (a : Act) (w : World) (m2 : AMem) (K : Act → World → Prop) (Q : Exit → Act → World → Prop), FrOk β tmR a.tmps → Sub mi m2 → Rel C β m2 w → (∀ id, lo ≤ id → id < hi → β id = none) →
    (∀ β' u w', Ext β β' → (∀ id, id < lo ∨ hi ≤ id → β' id = β id) → γ β' v = some u → Rel C β' (m2 ++ news) w' → K (a.put ((ops[i]?).bind (·.dst)) u) w') → wpOpIn (FW r) 0 P ops Q i K a w

theorem mask_get (ls : List Nat) : ∀ (i : Nat) (tm : List AV) (t : Nat), (mask ls i tm)[t]? = (tm[t]?).map fun x => if ls.contains (i + t) then x else .any
  | i, [], t => by simp [mask]
  | i, x :: r, 0 => by simp only [mask, List.getElem?_cons_zero, Option.map_some, Nat.add_zero]; split <;> simp_all
  | i, x :: r, t + 1 => by
    simp only [mask, List.getElem?_cons_succ]
    rw [mask_get ls (i + 1) r t, show i + 1 + t = i + (t + 1) by omega]
theorem mask_length (ls : List Nat) : ∀ (i : Nat) (tm : List AV), (mask ls i tm).length = tm.length
  | _, [] => rfl
  | i, _ :: r => by simp [mask, mask_length ls (i + 1) r]

theorem FrOk.put {β : Nm} {tm : List AV} {a : Act} {d : Option Tmp} {v : AV} {u : Value} (h : FrOk β tm a.tmps) (hv : γ β v = some u) : FrOk β (putA tm d v) (a.put d u).tmps := by
  cases d with
  | none => exact h
  | some d =>
    refine ⟨by simp [putA, Act.put, h.1], fun t av ht => ?_⟩
    rw [putA_get] at ht
    simp only [Act.put]
    rw [Array.getElem?_setIfInBounds]
    by_cases e : d = t
    · subst e
      rw [if_pos rfl] at ht
      rw [if_pos rfl]
      split at ht
      · rename_i hlt
        cases ht
        exact .inr ⟨u, hv, by rw [if_pos (by rw [h.1]; exact hlt)]⟩
      · cases ht
    · rw [if_neg (fun c => e (by simpa using c))] at ht
      rw [if_neg e]
      exact h.2 t av ht

structure DInv (C : Ctx) (ops : Array Oper) (V : Nat → AV) (N : Nat → AMem) (tm0 : List AV) (m0 : AMem) (b str q : Nat) (β0 : Nm) (D : List Deferred) (listed : Array Bool) (a : Act) (w : World) (β : Nm) : Prop where
  fr : FrOk β (frD ops V tm0 (fun j => listed.getD j false) q) a.tmps
  df : a.defers = D
  rel : Rel C β (m0 ++ nwD N (fun j => listed.getD j false) q) w
  free : ∀ j, j < q → listed.getD j false = false → ∀ id, rng b str j id → β id = none
  ext : Ext β0 β
  same : ∀ id, id < b ∨ b + q * str ≤ id → β id = β0 id

theorem getD_set_bool (listed : Array Bool) (i j : Nat) (hi : i < listed.size) : (listed.setIfInBounds i true).getD j false = (j == i || listed.getD j false) := by
  by_cases h : j = i
  · subst h; simp [hi]
  · have : ¬ i = j := fun e => h e.symm
    simp [h, this, Array.getElem?_setIfInBounds]

theorem draw_go {r : Option Nat} {D : List Deferred} {V : Nat → AV} {N : Nat → AMem} {tm0 : List AV} {m0 : AMem} {b str q : Nat} {β0 : Nm} {Q : Exit → Act → World → Prop} {mi : Nat → AMem}
    (hsel : Region.noSelect ops = true) (hdown : downB ops = true) (hap : apartB ops q = true) (hq : q ≤ ops.size)
    (htail : q = ops.size ∨ (Region.sinkB .any ops q = true ∧ Region.chainB .any ops q = true))
    (hN : ∀ j id x, look (N j) id = some x → rng b str j id)
    (hmi : ∀ i, i < q → ∀ id x, look (mi i) id = some x → look m0 id = some x ∨ (look m0 id = none ∧ ∃ j, j < i ∧ waits ops i j = true ∧ look (N j) id = some x))
    (hstep : ∀ i, i < q → ∀ o, ops[i]? = some o → QStep r P C ops i (mask (o.looksAt ops) 0 (frD ops V tm0 (fun j => decide (j < i)) q)) (mi i) (b + i * str) (b + i * str + str) (V i) (N i))
    (hQ : ∀ a w β, FrOk β (frD ops V tm0 (fun _ => true) q) a.tmps → a.defers = D → Rel C β (m0 ++ nwD N (fun _ => true) q) w → Ext β0 β → (∀ id, id < b ∨ b + q * str ≤ id → β id = β0 id) → wpAnyIn (FW r) 0 P .any ops Q (ops.size - q) (firstN ops q) a w) :
    ∀ (f : Nat) (listed : Array Bool) (a : Act) (w : World) (β : Nm), HeadInv .any ops q listed → ((List.range q).countP fun j => !listed.getD j false) = f → DInv C ops V N tm0 m0 b str q β0 D listed a w β →
      wpAnyIn (FW r) 0 P .any ops Q (f + (ops.size - q)) listed a w := by
  intro f
  induction f with
  | zero =>
    intro listed a w β inv hcnt hd
    have hall : ∀ j, j < q → listed.getD j false = true := by
      intro j hj
      have := List.countP_eq_zero.1 hcnt j (List.mem_range.2 hj)
      simpa using this
    have hl : listed = firstN ops q := by
      apply Array.ext_getElem?
      intro j
      by_cases hj : j < ops.size
      · have h1 : (firstN ops q)[j]? = some (Nat.blt j q) := by simp [firstN, hj]
        rw [h1]
        have hjs : j < listed.size := by rw [inv.size]; exact hj
        rw [Array.getElem?_eq_getElem hjs]
        congr 1
        by_cases hjq : j < q
        · have := hall j hjq
          simp [hjs] at this
          rw [this, (show Nat.blt j q = true by rw [Nat.blt_eq]; exact hjq)]
        · have := inv.tail j (by omega) hj
          simp [hjs] at this
          rw [this]
          symm
          rw [Bool.eq_false_iff]
          intro h
          rw [Nat.blt_eq] at h; exact hjq h
      · rw [Array.getElem?_eq_none (by rw [inv.size]; omega), Array.getElem?_eq_none (by simp [firstN]; omega)]
    have e1 : frD ops V tm0 (fun j => listed.getD j false) q = frD ops V tm0 (fun _ => true) q := by
      apply List.ext_getElem?
      intro t
      exact frD_agree q fun j hj _ => hall j hj
    have e2 : ∀ k, k ≤ q → nwD N (fun j => listed.getD j false) k = nwD N (fun _ => true) k := by
      intro k
      induction k with
      | zero => intro _; rfl
      | succ k ih => intro hk; have hk2 := hall k (by omega); simp only [nwD]; rw [ih (by omega)]; simp only [hk2]
    rw [Nat.zero_add]
    have hfr := hd.fr
    have hrel := hd.rel
    rw [e1] at hfr
    rw [e2 q (Nat.le_refl _)] at hrel
    have := hQ a w β hfr hd.df hrel hd.ext hd.same
    rw [← hl] at this
    exact this
  | succ f ih =>
    intro listed a w β inv hcnt hd
    have hex : ∃ j, j < q ∧ listed.getD j false = false := by
      have hpos : 0 < (List.range q).countP fun j => !listed.getD j false := by omega
      obtain ⟨j, hj, hl⟩ := List.countP_pos_iff.1 hpos
      exact ⟨j, List.mem_range.1 hj, by simpa using hl⟩
    have hlt_ready : ∀ i, i ∈ Region.ready .any ops listed → i < q := by
      intro i hi
      obtain ⟨_, oi, hoi, _⟩ := mem_ready.1 hi
      have his : i < ops.size := (Array.getElem?_eq_some_iff.1 hoi).1
      rcases htail with h | ⟨h1, h2⟩
      · omega
      · rcases Nat.lt_or_ge i q with h | h
        · exact h
        · obtain ⟨j, hj, hl⟩ := hex
          have hjs : j < listed.size := by rw [inv.size]; omega
          exact absurd hi (tail_waits h1 h2 (by omega) inv _ j rfl hj (getD_in hjs hl) i h)
    rw [show f + 1 + (ops.size - q) = (f + (ops.size - q)) + 1 by omega]
    refine ⟨fun hnil => ?_, fun i hi => ?_⟩
    · -- the least one that is not done is ready
      exfalso
      have hmin : ∀ n, (∀ j, j < n → j < q → listed.getD j false = true) ∨ ∃ j, j < n ∧ j < q ∧ listed.getD j false = false ∧ ∀ j', j' < j → listed.getD j' false = true := by
        intro n
        induction n with
        | zero => exact .inl fun j h => by omega
        | succ n ihn =>
          rcases ihn with h | ⟨j, h1, h2⟩
          · by_cases hn : n < q ∧ listed.getD n false = false
            · exact .inr ⟨n, by omega, hn.1, hn.2, fun j' hj' => h j' hj' (by omega)⟩
            · refine .inl fun j hj hjq => ?_
              by_cases e : j = n
              · subst e
                cases hl : listed.getD j false with
                | true => rfl
                | false => exact absurd ⟨hjq, hl⟩ hn
              · exact h j (by omega) hjq
          · exact .inr ⟨j, by omega, h2⟩
      obtain ⟨j0, hj0, hl0⟩ := hex
      rcases hmin q with h | ⟨j, _, hjq, hl, hbelow⟩
      · rw [h j0 hj0 hj0] at hl0; cases hl0
      · have hjs : j < ops.size := by omega
        have hoj : ops[j]? = some ops[j] := Array.getElem?_eq_getElem hjs
        have hready : j ∈ Region.ready .any ops listed := by
          refine mem_ready.2 ⟨getD_in (by rw [inv.size]; exact hjs) hl, _, hoj, fun e he hb => ?_⟩
          have h1 := List.all_eq_true.1 hdown j (List.mem_range.2 hjs)
          rw [hoj] at h1
          have h2 := List.all_eq_true.1 h1 e (Array.mem_toList_iff.2 he)
          simp only [hb, Bool.not_true, Bool.false_or] at h2
          rw [Nat.blt_eq] at h2; exact hbelow e.on h2
        rw [hnil] at hready
        cases hready
    · have hiq := hlt_ready i hi
      obtain ⟨hun, oi, hoi, hpre⟩ := mem_ready.1 hi
      have his : i < listed.size := by rw [inv.size]; omega
      have hunf : listed.getD i false = false := getD_both hun
      have hreach : ∀ j, waits ops i j = true → listed.getD j false = true := fun j hw =>
        reach_done inv.closed (waits_reach hw) fun o ho e he hb => by
          rw [hoi] at ho
          cases ho
          exact hpre e he hb
      have hback : ∀ j, waits ops j i = true → listed.getD j false = false := by
        intro j hw
        cases hl : listed.getD j false with
        | false => rfl
        | true =>
          have := reach_done inv.closed (waits_reach hw) fun o ho e he hb => inv.closed j o ho hl e he hb
          rw [hunf] at this
          cases this
      have hpair : ∀ j, j < q → j < i → ∀ oj, ops[j]? = some oj → waits ops i j = true ∨ oj.apart ops oi = true := by
        intro j hj hji oj hoj
        have h1 := List.all_eq_true.1 hap i (List.mem_range.2 hiq)
        have h2 := List.all_eq_true.1 h1 j (List.mem_range.2 hji)
        rw [hoi, hoj] at h2
        simpa using h2
      have hpair2 : ∀ j, j < q → i < j → ∀ oj, ops[j]? = some oj → waits ops j i = true ∨ oi.apart ops oj = true := by
        intro j hj hji oj hoj
        have h1 := List.all_eq_true.1 hap j (List.mem_range.2 hj)
        have h2 := List.all_eq_true.1 h1 i (List.mem_range.2 hji)
        rw [hoi, hoj] at h2
        simpa using h2
      have hop : ∀ j, j < q → ∃ oj, ops[j]? = some oj := fun j hj => ⟨_, Array.getElem?_eq_getElem (by omega : j < ops.size)⟩
      refine hstep i hiq oi hoi β a w (m0 ++ nwD N (fun j => listed.getD j false) q) _ Q ⟨?_, fun t av ht => ?_⟩ (fun id x hx => ?_) hd.rel (fun id h1 h2 => hd.free i hiq hunf id ⟨h1, h2⟩) ?_
      · rw [mask_length, frD_length, hd.fr.1, frD_length]
      · rw [mask_get] at ht
        rw [Nat.zero_add] at ht
        by_cases hlk : (oi.looksAt ops).contains t = true
        · have hag : (frD ops V tm0 (fun j => listed.getD j false) q)[t]? = (frD ops V tm0 (fun j => decide (j < i)) q)[t]? := by
            refine frD_agree q fun j hj hdj => ?_
            obtain ⟨oj, hoj⟩ := hop j hj
            rw [hoj] at hdj
            have hdj : oj.dst = some t := hdj
            have hmem : t ∈ oi.looksAt ops := by simpa using hlk
            rcases Nat.lt_trichotomy j i with h | h | h
            · rcases hpair j hj h oj hoj with hw | hp
              · simp only [h, decide_true]; exact hreach j hw
              · exact absurd hmem ((Oper.apart_spec hp).1 t hdj)
            · subst h; simp [hunf]
            · rcases hpair2 j hj h oj hoj with hw | hp
              · simp only [show ¬ j < i by omega, decide_false]; exact hback j hw
              · exact absurd hmem ((Oper.apart_spec hp).2.2 t hdj)
          simp only [hlk, if_true, Option.map_id'] at ht
          rw [← hag] at ht
          exact hd.fr.2 t av ht
        · simp only [hlk, if_false] at ht
          cases hx : (frD ops V tm0 (fun j => decide (j < i)) q)[t]? with
          | none => rw [hx] at ht; cases ht
          | some y => rw [hx] at ht; simp at ht; exact .inl ht.symm
      · rw [look_append]
        rcases hmi i hiq id x hx with h | ⟨h0, j, hj, hw, hl⟩
        · rw [h]
        · rw [h0]
          exact (look_nwD hN q).2 ⟨j, by omega, hreach j hw, hl⟩
      · intro β' u w' hext hsame hu hrel
        have hset : ∀ j, (listed.setIfInBounds i true).getD j false = (j == i || listed.getD j false) := fun j => getD_set_bool listed i j his
        refine ih (listed.setIfInBounds i true) _ w' β' (inv.set hi hiq) ?_ ⟨?_, by cases h : (ops[i]?).bind (·.dst) <;> simp [Act.put, hd.df], ?_, ?_, hd.ext.trans hext, fun id hid => ?_⟩
        · have hc : ((List.range q).countP fun j => !(listed.setIfInBounds i true).getD j false) + 1 = (List.range q).countP fun j => !listed.getD j false := by
            have e : (fun j => !(listed.setIfInBounds i true).getD j false) = fun j => !(j == i) && !listed.getD j false := by
              funext j; rw [hset j, Bool.not_or]
            rw [e]
            have gen : ∀ l : List Nat, l.Nodup → i ∈ l → (l.countP fun j => !(j == i) && !listed.getD j false) + 1 = l.countP fun j => !listed.getD j false := by
              intro l
              induction l with
              | nil => intro _ h; cases h
              | cons y r ihr =>
                intro hnd hm
                simp only [List.nodup_cons] at hnd
                rw [List.countP_cons, List.countP_cons]
                by_cases e : y = i
                · subst e
                  have : (r.countP fun j => !(j == y) && !listed.getD j false) = r.countP fun j => !listed.getD j false := by
                    refine List.countP_congr fun j hj => ?_
                    have : j ≠ y := fun e => hnd.1 (e ▸ hj)
                    simp [this]
                  rw [this]
                  simp only [beq_self_eq_true, Bool.not_true, Bool.false_and, Bool.false_eq_true, if_false, Nat.add_zero, hunf, Bool.not_false, if_true]
                · have := ihr hnd.2 (by rcases List.mem_cons.1 hm with h | h; exact absurd h.symm e; exact h)
                  have hyi : (y == i) = false := by simp [e]
                  rw [hyi]
                  simp only [Bool.not_false, Bool.true_and]
                  omega
            exact gen _ List.nodup_range (List.mem_range.2 hiq)
          omega
        · have hfp : ∀ t : Nat, (frD ops V tm0 (fun j => (listed.setIfInBounds i true).getD j false) q)[t]? = (putA (frD ops V tm0 (fun j => listed.getD j false) q) ((ops[i]?).bind (·.dst)) (V i))[t]? := by
            intro t
            have e : (fun j => (listed.setIfInBounds i true).getD j false) = fun j => j == i || listed.getD j false := funext hset
            rw [e]
            refine frD_put q hiq (fun j hj hjq hl d hdi hdj => ?_) hunf t
            obtain ⟨oj, hoj⟩ := hop j hjq
            rw [hoi] at hdi
            rw [hoj] at hdj
            rcases hpair2 j hjq hj oj hoj with hw | hp
            · have := hback j hw
              rw [hl] at this
              cases this
            · exact (Oper.apart_spec hp).2.1 d hdi hdj
          have e : frD ops V tm0 (fun j => (listed.setIfInBounds i true).getD j false) q = putA (frD ops V tm0 (fun j => listed.getD j false) q) ((ops[i]?).bind (·.dst)) (V i) := List.ext_getElem? hfp
          rw [e]
          exact (hd.fr.ext hext).put hu
        · refine hrel.weaken fun id x hx => ?_
          rw [look_append] at hx
          rw [look_append, look_append]
          cases hm : look m0 id with
          | some y => rw [hm] at hx; exact hx
          | none =>
            rw [hm] at hx
            simp only at hx ⊢
            obtain ⟨j, h1, h2, h3⟩ := (look_nwD hN q).1 hx
            by_cases hji : j = i
            · subst hji
              cases hn : look (nwD N (fun j => listed.getD j false) q) id with
              | none => exact h3
              | some y =>
                obtain ⟨j', g1, g2, g3⟩ := (look_nwD hN q).1 hn
                have e := rng_apart (hN _ _ _ h3) (hN _ _ _ g3)
                subst e
                simp only [hunf] at g2
                cases g2
            · have h2' : listed.getD j false = true := by
                have := hset j
                rw [this] at h2
                simpa [hji] using h2
              rw [(look_nwD hN q).2 ⟨j, h1, h2', h3⟩]
        · intro j hj hl id hr
          have h2 := hset j
          rw [hl] at h2
          have h2 : (j == i) = false ∧ listed.getD j false = false := by simpa using h2.symm
          have hne : j ≠ i := by simpa using h2.1
          rw [hsame id (by
            rcases Nat.lt_or_ge id (b + i * str) with h | h
            · exact .inl h
            · rcases Nat.lt_or_ge id (b + i * str + str) with h' | h'
              · exact absurd (rng_apart hr ⟨h, h'⟩) hne
              · exact .inr h')]
          exact hd.free j hj h2.2 id hr
        · rw [hsame id ?_]
          · exact hd.same id hid
          · have h1 : i * str + str ≤ q * str := by rw [← Nat.succ_mul]; exact Nat.mul_le_mul_right _ hiq
            rcases hid with h | h
            · exact .inl (by omega)
            · exact .inr (by omega)
end
end Go.Proofs.YtpfkhlfkcmgdlaaDoor
