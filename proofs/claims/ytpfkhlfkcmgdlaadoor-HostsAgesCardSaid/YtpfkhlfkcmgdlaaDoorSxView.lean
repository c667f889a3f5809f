/- The symbolic evaluator: loops told by what is looked at, at each head. No Go text is in sight. -/
import Derived.Test.YtpfkhlfkcmgdlaaDoorSxUse
set_option linter.unusedSimpArgs false
set_option linter.unusedVariables false
namespace Go.Proofs.YtpfkhlfkcmgdlaaDoor
open Go.RowKit

theorem low_lit {n ty sz : Nat} {own row : Bool} {l : List AC} (h : l.all (lowC n) = true) : lowB n ⟨own, row, ty, sz, .lit l⟩ :=
  lowB_cells (fun k j => by
    simp only [Cs.get, List.getD]
    cases e : l[j]? with
    | none => rfl
    | some x => exact List.all_eq_true.1 h x (List.mem_of_getElem? e)) (fun o e => by cases e)
theorem low_arr {n ty sz q : Nat} {own row : Bool} {f : Nat → List AC} (h : ∀ k j, lowC n ((f k).getD j nov) = true) : lowB n ⟨own, row, ty, sz, .arr q f⟩ :=
  lowB_cells h (fun o e => by cases e)
theorem low_obj {n ty sz : Nat} {own row : Bool} {o : AObj} (h : lowO n o = true) : lowB n ⟨own, row, ty, sz, .obj o⟩ :=
  ⟨fun k j hi => by simp [ABlk.inb] at hi, fun o' e => by cases e; exact h⟩
theorem GW_lowV {n nh n' : Nat} {ρ : Rn} {x : AV} (h : lowV n x = true) : GW n nh n' ρ x x := fun _ _ e => γ_low h e
theorem MemW_mem {n nh n' : Nat} {ρ : Rn} {m1 : AMem} : ∀ {m2 : AMem}, (∀ p ∈ m2, MemC n nh n' ρ m1 p.1 p.2) → MemW n nh n' ρ m1 m2
  | [], _ => trivial
  | (_, _) :: _, h => ⟨h _ (List.mem_cons_self ..), MemW_mem fun p hp => h p (List.mem_cons_of_mem _ hp)⟩
theorem FrW_of_mem {n nh n' : Nat} {ρ : Rn} {tm1 : List AV} : ∀ {lv : List (Nat × AV)}, (∀ q ∈ lv, ∃ a1, tm1[q.1]? = some a1 ∧ a1 ≠ .any ∧ GW n nh n' ρ a1 q.2) → FrW n nh n' ρ tm1 lv
  | [], _ => trivial
  | (_, _) :: _, h => ⟨h _ (List.mem_cons_self ..), FrW_of_mem fun p hp => h p (List.mem_cons_of_mem _ hp)⟩
def keptB (n n' : Nat) (id : Nat) : Bool := Nat.blt id n || Nat.ble n' id
theorem rnOk_kept {n nh n' : Nat} {ρ : Rn} : ∀ {m : AMem}, (∀ p ∈ m, keptB n n' p.1 = true) → rnOk n nh n' ρ m = true
  | [], _ => rfl
  | (id, _) :: r, h => by
    simp only [rnOk, Bool.and_eq_true]
    refine ⟨List.all_eq_true.2 fun p hp => ?_, rnOk_kept fun p hp => h p (List.mem_cons_of_mem _ hp)⟩
    have h1 : keptB n n' id = true := h _ (List.mem_cons_self ..)
    have h2 : keptB n n' p.1 = true := h p (List.mem_cons_of_mem _ hp)
    unfold keptB at h1 h2
    simp only [oldId, h1, h2]
    cases e : Nat.beq p.1 id with
    | true => rfl
    | false =>
      simp only [Bool.false_or, Bool.not_eq_true']
      rw [Bool.eq_false_iff]
      intro h3
      have := Nat.eq_of_beq_eq_true h3
      subst this
      simp at e
/-- names kept: from what is looked at to the frame and memory of a head -/
theorem wk_kept {n nh n' : Nat} {tm : List AV} {m : AMem} {N : Nat} {lv : List (Nat × AV)} {mm : AMem} (h1 : n ≤ nh) (h2 : nh ≤ n') (h3 : n' ≤ lim) (hlen : tm.length = N)
    (hk : (mm.all fun p => keptB n n' p.1) = true) (hm : ∀ p ∈ mm, lowB n p.2 ∧ ∃ y, look m p.1 = some y ∧ BEq y p.2)
    (hf : ∀ q ∈ lv, tm[q.1]? = some q.2 ∧ q.2 ≠ .any ∧ lowV n q.2 = true) : Wk n nh n' tm m (mkFr N lv) mm := by
  have hk : ∀ p ∈ mm, keptB n n' p.1 = true := fun p hp => List.all_eq_true.1 hk p hp
  refine wk_mk (ρ := fun _ => .inr 1) h1 h2 h3 hlen (rnOk_kept hk) (MemW_mem fun p hp => ?_) (FrW_of_mem fun q hq => ?_)
  · obtain ⟨g1, y, g2, g3⟩ := hm p hp
    refine .inr (.inr (.inr ⟨?_, y, g2, g3, g1⟩))
    have := hk p hp
    simp only [keptB, Bool.or_eq_true] at this
    rcases this with h | h
    · exact .inl (by rwa [Nat.blt_eq] at h)
    · exact .inr (Nat.le_of_ble_eq_true h)
  · obtain ⟨g1, g2, g3⟩ := hf q hq
    exact ⟨_, g1, g2, GW_lowV g3⟩

/-- blocks as they are looked at -/
def BL : List ABlk → List (Option ABlk) → Prop
  | [], [] => True
  | b :: bs, some y :: ys => BEq y b ∧ BL bs ys
  | _, _ => False
theorem BL.refl : ∀ (l : List ABlk), BL l (l.map some)
  | [] => trivial
  | b :: bs => ⟨BEq.refl b, BL.refl bs⟩
theorem BL.mem : ∀ {ids : List Nat} {bs : List ABlk} {ys : List (Option ABlk)}, BL bs ys → ∀ p ∈ ids.zip bs, ∃ y, (p.1, some y) ∈ ids.zip ys ∧ BEq y p.2
  | [], _, _, _, p, hp => by simp at hp
  | _ :: _, [], _, _, p, hp => by simp at hp
  | i :: is, b :: bs, [], h, p, hp => h.elim
  | i :: is, b :: bs, none :: ys, h, p, hp => h.elim
  | i :: is, b :: bs, some y :: ys, h, p, hp => by
    rw [List.zip_cons_cons, List.mem_cons] at hp
    rcases hp with rfl | hp
    · exact ⟨y, by simp, h.1⟩
    · obtain ⟨y', h1, h2⟩ := h.2.mem p hp
      exact ⟨y', by rw [List.zip_cons_cons]; exact List.mem_cons_of_mem _ h1, h2⟩
theorem zip_map_mem {α β : Type} {f : α → β} : ∀ {l : List α} {a : α} {b : β}, (a, b) ∈ l.zip (l.map f) → b = f a
  | [], a, b, h => by simp at h
  | x :: r, a, b, h => by
    rw [List.map_cons, List.zip_cons_cons, List.mem_cons] at h
    rcases h with h | h
    · cases h; rfl
    · exact zip_map_mem h
theorem zip_append_mem {α β : Type} : ∀ {l l' : List α} {r : List β} {p : α × β}, p ∈ l.zip r → p ∈ (l ++ l').zip r
  | [], _, _, _, h => by simp at h
  | x :: l, l', [], _, h => by simp at h
  | x :: l, l', y :: r, p, h => by
    rw [List.zip_cons_cons, List.mem_cons] at h
    rw [List.cons_append, List.zip_cons_cons, List.mem_cons]
    exact h.imp id zip_append_mem
theorem zip_take_mem {α β : Type} : ∀ {l : List α} {r : List β} {p : α × β}, p ∈ l.zip (r.take l.length) → p ∈ l.zip r
  | [], _, _, h => by simp at h
  | x :: l, [], _, h => by simp at h
  | x :: l, y :: r, p, h => by
    rw [List.length_cons, List.take_succ_cons, List.zip_cons_cons, List.mem_cons] at h
    rw [List.zip_cons_cons, List.mem_cons]
    exact h.imp id zip_take_mem
theorem zip_some_mem {α β : Type} : ∀ {l : List α} {r : List β} {p : α × β}, p ∈ l.zip r → (p.1, some p.2) ∈ l.zip (r.map some)
  | [], _, _, h => by simp at h
  | x :: l, [], _, h => by simp at h
  | x :: l, y :: r, p, h => by
    rw [List.zip_cons_cons, List.mem_cons] at h
    rw [List.map_cons, List.zip_cons_cons, List.mem_cons]
    rcases h with rfl | h
    · exact .inl rfl
    · exact .inr (zip_some_mem h)
def notAny : AV → Bool
  | .any => false
  | _ => true
theorem notAny_ne {x : AV} (h : notAny x = true) : x ≠ .any := by intro e; subst e; cases h
def okV (n : Nat) (v : AV) : Bool := lowV n v && notAny v
theorem zip_fst_all {f : Nat → Bool} : ∀ {ids : List Nat} {bs : List ABlk}, ids.all f = true → ((ids.zip bs).all fun p => f p.1) = true
  | [], _, _ => by simp
  | _ :: _, [], _ => by simp
  | i :: is, b :: bs, h => by
    simp only [List.all_cons, Bool.and_eq_true] at h
    rw [List.zip_cons_cons, List.all_cons, Bool.and_eq_true]
    exact ⟨h.1, zip_fst_all h.2⟩
/-- a round's result, as it is looked at: the next head, or the end -/
def StepV {S : Type} (n n' N : Nat) (hs xs ids : List Nat) (inv : S → Prop) (μ : S → Nat) (vals : S → List AV) (blks : S → List ABlk) (e : Exit) (out : List (Nat × AV)) (mF : AMem) (s : S) (r : VC) : Prop :=
  allT r.2.2.2.2.2.1 ∧ r.2.2.2.2.2.2 = [] ∧ r.2.2.2.2.1 ≤ n' ∧ r.2.2.2.1 = N ∧
    ((r.1 = .normal ∧ ∃ s', inv s' ∧ μ s' < μ s ∧ r.2.1.take hs.length = (vals s').map some ∧ BL (blks s') r.2.2.1) ∨
      (r.1 ≠ .normal ∧ r.1 = e ∧ (∀ q ∈ out, okV n q.2 = true ∧ (q.1, some q.2) ∈ (hs ++ xs).zip r.2.1) ∧ ∀ p ∈ mF, keptB n n' p.1 = true ∧ lowB n p.2 ∧ ∃ y, (p.1, some y) ∈ ids.zip r.2.2.1 ∧ BEq y p.2))
/-- A loop by what is looked at, at each head; the blocks at the first one may be told otherwise. -/
theorem loop_viewE {E : Env} (hE : EnvOk E) {fuel : Nat} {body : Code} {S : Type} (inv : S → Prop) (μ : S → Nat) (hs xs ids : List Nat) (vals : S → List AV) (blks : S → List ABlk) {N n nh n' str : Nat} {e : Exit} {out : List (Nat × AV)} {mF : AMem}
    (hn1 : n ≤ nh) (hn2 : nh ≤ n') (hn3 : n' ≤ lim) {s0 : S} (h0 : inv s0) (hlen : ∀ s, hs.length = (vals s).length ∧ ids.length = (blks s).length) (hids : ids.all (keptB n n') = true) {eblks : List (Option ABlk)} (heb : BL (blks s0) eblks)
    (hlow : ∀ s, inv s → ((vals s).all (okV n)) = true ∧ ∀ b ∈ blks s, lowB n b)
    (step : ∀ s, inv s → ∃ p lp r, view (hs ++ xs) ids (fC E fuel body nh str ⟨mkFr N (hs.zip (vals s)), ids.zip (blks s), 0, 0, false, p, [], [], [], none, lp⟩) = some r ∧ StepV n n' N hs xs ids inv μ vals blks e out mF s r) :
    LoopV E.P body hs ids ((vals s0).map some) eblks N n (mkFr N out) mF n' e none := by
  have kept : ∀ s, inv s → ∀ tm m, (∀ q ∈ hs.zip (vals s), tm[q.1]? = some q.2) → (∀ p ∈ ids.zip (blks s), ∃ y, look m p.1 = some y ∧ BEq y p.2) → tm.length = N → Wk n nh n' tm m (mkFr N (hs.zip (vals s))) (ids.zip (blks s)) := by
    intro s hi tm m g1 g2 g3
    obtain ⟨l1, l2⟩ := hlow s hi
    refine wk_kept hn1 hn2 hn3 g3 (zip_fst_all hids) (fun p hp => ⟨l2 _ (List.of_mem_zip hp).2, g2 p hp⟩) fun q hq => ?_
    have := List.all_eq_true.1 l1 _ (List.of_mem_zip hq).2
    simp only [okV, Bool.and_eq_true] at this
    exact ⟨g1 q hq, notAny_ne this.2, this.1⟩
  refine loop_ob hE (fuel := fuel) (str := str) inv μ (fun s => mkFr N (hs.zip (vals s))) (fun s => ids.zip (blks s)) hn1 hn2 (fun _ h => by cases h) h0 (fun tm m g1 g2 g3 => kept s0 h0 tm m (fun q hq => ?_) (fun p hp => ?_) g3) fun s hi => ?_
  · have := zip_some_mem hq
    rw [← g1] at this
    exact (zip_map_mem this).symm
  · obtain ⟨y, h1, h2⟩ := heb.mem p hp
    rw [← g2] at h1
    exact ⟨y, (zip_map_mem h1).symm, h2⟩
  · obtain ⟨p, lp, ⟨e', l, b, len, n1, ob, po⟩, hv, hob, hpo, hn, hN, hw⟩ := step s hi
    simp only at hob hpo hn hN hw
    obtain ⟨st, v1, v2, v3, v4, v6, v7, v8⟩ := view_out hv
    refine ⟨p, lp, e', n1, st, v1, hn, ⟨by rw [v6]; exact hob, by rw [v7, hpo]; simp⟩, v8, ?_⟩
    rcases hw with ⟨rfl, s', i1, i2, i3, i4⟩ | ⟨hne, rfl, i3, i4⟩
    · refine .inl ⟨rfl, s', i1, i2, kept s' i1 _ _ (fun q hq => ?_) (fun p hp => ?_) (v4.trans hN)⟩
      · have h1 := zip_some_mem hq
        rw [← i3] at h1
        have h2 : (q.1, some q.2) ∈ (hs ++ xs).zip l := zip_append_mem (zip_take_mem h1)
        rw [← v2] at h2
        exact (zip_map_mem h2).symm
      · obtain ⟨y, h1, h2⟩ := i4.mem p hp
        rw [← v3] at h1
        exact ⟨y, (zip_map_mem h1).symm, h2⟩
    · refine .inr ⟨hne, rfl, wk_kept (by omega) (Nat.le_refl _) hn3 (v4.trans hN) (List.all_eq_true.2 fun p hp => (i4 p hp).1) (fun p hp => ?_) fun q hq => ?_⟩
      · obtain ⟨_, g2, y, g3, g4⟩ := i4 p hp
        rw [← v3] at g3
        exact ⟨g2, y, (zip_map_mem g3).symm, g4⟩
      · obtain ⟨g1, g2⟩ := i3 q hq
        simp only [okV, Bool.and_eq_true] at g1
        rw [← v2] at g2
        exact ⟨(zip_map_mem g2).symm, notAny_ne g1.2, g1.1⟩
/-- A loop by what is looked at, at each head. -/
theorem loop_view {E : Env} (hE : EnvOk E) {fuel : Nat} {body : Code} {S : Type} (inv : S → Prop) (μ : S → Nat) (hs xs ids : List Nat) (vals : S → List AV) (blks : S → List ABlk) {N n nh n' str : Nat} {e : Exit} {out : List (Nat × AV)} {mF : AMem}
    (hn1 : n ≤ nh) (hn2 : nh ≤ n') (hn3 : n' ≤ lim) {s0 : S} (h0 : inv s0) (hlen : ∀ s, hs.length = (vals s).length ∧ ids.length = (blks s).length) (hids : ids.all (keptB n n') = true)
    (hlow : ∀ s, inv s → ((vals s).all (okV n)) = true ∧ ∀ b ∈ blks s, lowB n b)
    (step : ∀ s, inv s → ∃ p lp r, view (hs ++ xs) ids (fC E fuel body nh str ⟨mkFr N (hs.zip (vals s)), ids.zip (blks s), 0, 0, false, p, [], [], [], none, lp⟩) = some r ∧ StepV n n' N hs xs ids inv μ vals blks e out mF s r) :
    LoopV E.P body hs ids ((vals s0).map some) ((blks s0).map some) N n (mkFr N out) mF n' e none :=
  loop_viewE hE (fuel := fuel) (nh := nh) (str := str) inv μ hs xs ids vals blks hn1 hn2 hn3 h0 hlen hids (BL.refl _) hlow step
end Go.Proofs.YtpfkhlfkcmgdlaaDoor
