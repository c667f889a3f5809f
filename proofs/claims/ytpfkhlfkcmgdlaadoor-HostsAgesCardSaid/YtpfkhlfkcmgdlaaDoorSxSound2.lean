/- The symbolic evaluator: soundness of drawn regions, of calls in place, and of code. No Go text is in sight. -/
import Derived.Test.YtpfkhlfkcmgdlaaDoorSxSound
set_option linter.unusedSimpArgs false
set_option linter.unusedVariables false
namespace Go.Proofs.YtpfkhlfkcmgdlaaDoor
open Go.RowKit

theorem set_same {tm : List AV} {t : Nat} {x : AV} (h : tm[t]? = some x) : tm.set t x = tm := by
  apply List.ext_getElem?
  intro i
  rw [List.getElem?_set]
  split
  · rename_i e
    subst e
    have hlt := (List.getElem?_eq_some_iff.1 h).1
    rw [if_pos hlt, h]
  · rfl
theorem dec_tm {s s' : St} {t : Tmp} {b d : Bool} (h : s.dec t b = some (d, s')) (ht : s.tm[t]? = some (.c (.v (.bool b)))) (ho : Obs s') : s'.tm = s.tm := by
  obtain ⟨_, _, _, _, h1, h2⟩ := dec_ok h ht
  rcases h2 with h2 | h2
  · exact h2
  · rw [h2, ← h1 ho, set_same ht]
theorem guard_tm {ops : Array Oper} {o : Oper} {s s' : St} {d : Bool} (h : guardA ops o s = some (d, s')) (ho : Obs s') : s'.tm = s.tm := by
  unfold guardA at h
  split at h
  · cases h; rfl
  · split at h
    · cases h; rfl
    · split at h
      · rename_i b hb
        split at h
        · rename_i d' s'' hdec
          cases h
          exact dec_tm hdec hb ho
        · cases h
      · cases h; rfl
      · cases h
theorem guard_mask {ops : Array Oper} {o : Oper} {s s' : St} {d : Bool} (h : guardA ops o s = some (d, s')) (ho : Obs s') {β : Nm} {tmps : Array Value} (hf : FrOk β (mask (o.looksAt ops) 0 s.tm) tmps) : Region.wanted o (yielded ops tmps) = d := by
  unfold guardA at h
  split at h
  · rename_i hg
    cases h
    simp [Region.wanted, hg]
  · rename_i j want hg
    split at h
    · rename_i hd
      cases h
      simp [Region.wanted, hg, yielded, hd]
    · rename_i t hd
      have hmem : (o.looksAt ops).contains t = true := by
        simp [Oper.looksAt, hg, hd]
      have hm : ∀ x, s.tm[t]? = some x → (mask (o.looksAt ops) 0 s.tm)[t]? = some x := fun x hx => by
        rw [mask_get, hx, Nat.zero_add, hmem]; rfl
      split at h
      · rename_i b hb
        split at h
        · rename_i d' s'' hdec
          cases h
          obtain ⟨_, _, _, _, h4, _⟩ := dec_ok hdec hb
          rcases hf.2 t _ (hm _ hb) with h5 | ⟨v, h5, h6⟩
          · cases h5
          · have := γ_v h5
            subst this
            simp [Region.wanted, hg, yielded, hd, h6, h4 ho]
        · cases h
      · rename_i vs hb
        cases h
        rcases hf.2 t _ (hm _ hb) with h5 | ⟨v, h5, h6⟩
        · cases h5
        · have := γ_v h5
          subst this
          simp [Region.wanted, hg, yielded, hd, h6]
      · cases h

/-! ### memory that is only read -/
theorem look_ne {i id : Nat} {b : ABlk} {r : AMem} (h : id ≠ i) : look ((i, b) :: r) id = look r id := by
  simp only [look_cons]
  split
  · rename_i hb; exact absurd (Nat.eq_of_beq_eq_true hb).symm h
  · rfl
theorem look_eq (i : Nat) (b : ABlk) (r : AMem) : look ((i, b) :: r) i = some b := by
  simp only [look_cons]
  rw [Nat.beq_refl]
theorem look_roM : ∀ {m : AMem} {id : Nat} {x : ABlk}, look (roM m) id = some x → ∃ y, look m id = some y ∧ isO y = false ∧ x = { y with own := false }
  | [], _, _, h => by cases h
  | (i, b) :: r, id, x, h => by
    simp only [roM] at h
    split at h
    · rw [look_delM] at h
      split at h
      · cases h
      · rename_i hne
        obtain ⟨y, h1, h2⟩ := look_roM h
        exact ⟨y, by rw [look_ne hne]; exact h1, h2⟩
    · rename_i ho
      by_cases e : id = i
      · subst e
        rw [look_eq] at h
        cases h
        exact ⟨b, look_eq _ _ _, ho, rfl⟩
      · rw [look_ne e] at h
        obtain ⟨y, h1, h2⟩ := look_roM h
        exact ⟨y, by rw [look_ne e]; exact h1, h2⟩
theorem look_fromN {n : Nat} : ∀ {m : AMem} {id : Nat} {x : ABlk}, look (fromN n m) id = some x → look m id = some x ∧ n ≤ id ∧ id < lim ∧ isO x = false
  | [], _, _, h => by cases h
  | (i, b) :: r, id, x, h => by
    simp only [fromN] at h
    split at h
    · rename_i hb
      split at h
      · rw [look_delM] at h
        split at h
        · cases h
        · rename_i hne
          obtain ⟨h1, h2⟩ := look_fromN h
          exact ⟨by rw [look_ne hne]; exact h1, h2⟩
      · rename_i ho
        by_cases e : id = i
        · subst e
          rw [look_eq] at h
          cases h
          simp only [Bool.and_eq_true] at hb
          exact ⟨look_eq _ _ _, Nat.le_of_ble_eq_true hb.1, by have := hb.2; rwa [Nat.blt_eq] at this, ho⟩
        · rw [look_ne e] at h
          obtain ⟨h1, h2⟩ := look_fromN h
          exact ⟨by rw [look_ne e]; exact h1, h2⟩
    · rename_i hb
      obtain ⟨h1, h2, h3, h4⟩ := look_fromN h
      refine ⟨?_, h2, h3, h4⟩
      rw [look_ne (fun e => by subst e; rw [Nat.ble_eq_true_of_le h2, (Nat.blt_eq ▸ h3 : Nat.blt id lim = true)] at hb; cases hb)]
      exact h1
theorem look_mem : ∀ {m : AMem} {id : Nat} {x : ABlk}, look m id = some x → (id, x) ∈ m
  | [], _, _, h => by cases h
  | (i, b) :: r, id, x, h => by
    simp only [look_cons] at h
    split at h
    · rename_i he
      cases h
      have := Nat.eq_of_beq_eq_true he
      subst this
      simp
    · exact List.mem_cons_of_mem _ (look_mem h)
theorem inR_ok {b str : Nat} {l : AMem} (h : inR b str l = true) {id : Nat} {x : ABlk} (hx : look l id = some x) : b ≤ id ∧ id < b + str := by
  have := List.all_eq_true.1 h (id, x) (look_mem hx)
  simp only [Bool.and_eq_true] at this
  refine ⟨Nat.le_of_ble_eq_true this.1, ?_⟩
  have h2 := this.2
  rw [Nat.blt_eq] at h2
  exact h2

def loneC (w : World) : Ctx := ⟨w, w.heap.size, fun _ => False⟩
theorem Rel.ro {C : Ctx} {β : Nm} {m m2 : AMem} {w : World} (h : Rel C β m2 w) (hs : Sub m m2) : Rel (loneC w) β (roM m) w := by
  refine ⟨rfl, rfl, rfl, Nat.le_refl _, Nat.le_refl _, fun _ _ _ => rfl, fun id x hx => ?_, fun id id' x x' L L' hx _ _ ho => ?_, h.glob, fun id x o hx ho => ?_⟩
  · obtain ⟨y, hy, _, rfl⟩ := look_roM hx
    obtain ⟨L, hL, hb⟩ := h.blk id y (hs _ _ hy)
    exact ⟨L, hL, hb.sz, hb.lit, hb.cells, hb.lt, fun h => (by cases h), hb.arrl, hb.rowc⟩
  · obtain ⟨y, hy, _, rfl⟩ := look_roM hx
    cases ho
  · obtain ⟨y, hy, hyo, rfl⟩ := look_roM hx
    have ho : y.cs = .obj o := ho
    simp [isO, ho] at hyo
theorem Rel.back {C : Ctx} {β β' : Nm} {m2 m' : AMem} {w w' : World} {n : Nat} (h : Rel C β m2 w) (h' : Rel (loneC w) β' m' w') (he : Ext β β') (hown : (fromN n m').all (fun x => x.2.own) = true) : Rel C β' (m2 ++ fromN n m') w' := by
  have hkeep : ∀ b, b < w.heap.size → w'.heap[b]? = w.heap[b]? := fun b hb => h'.out b hb (fun h => h)
  have hlk : ∀ id x, look (m2 ++ fromN n m') id = some x → look m2 id = some x ∨ (look m2 id = none ∧ look m' id = some x ∧ x.own = true ∧ isO x = false) := by
    intro id x hx
    rw [look_append] at hx
    cases hm : look m2 id with
    | some y => rw [hm] at hx; cases hx; exact .inl rfl
    | none =>
      rw [hm] at hx
      obtain ⟨h1, h2, _, h3⟩ := look_fromN hx
      exact .inr ⟨rfl, h1, List.all_eq_true.1 hown _ (look_mem hx), h3⟩
  have hge : ∀ id x L, look m' id = some x → x.own = true → β' id = some L → L.nil = false → w.heap.size ≤ L.b := by
    intro id x L hx ho hL hn
    obtain ⟨M, hM, hb⟩ := h'.blk id x hx
    rw [hL] at hM
    cases hM
    rcases (hb.own ho hn).2.1 with h1 | h1
    · exact h1
    · exact absurd h1 (fun h => h)
  have hltm : ∀ id x L, look m2 id = some x → β' id = some L → L.nil = false → β id = some L ∧ L.b < w.heap.size := by
    intro id x L hx hL hn
    obtain ⟨M, hM, hb⟩ := h.blk id x hx
    have := he id M hM
    rw [hL] at this
    cases this
    exact ⟨hM, hb.lt hn⟩
  refine ⟨h'.os.trans h.os, h'.tape.trans h.tape, h'.output.trans h.output, Nat.le_trans h.size h'.size, h.base, fun b h1 h2 => by rw [hkeep b (by have := h.size; have := h.base; omega)]; exact h.out b h1 h2, fun id x hx => ?_, ?_, h'.glob, fun id x o hx ho => ?_⟩
  · rcases hlk id x hx with h1 | ⟨_, h1, h2, _⟩
    · obtain ⟨M, hM, hb⟩ := h.blk id x h1
      exact ⟨M, he id M hM, hb.keep he h'.size (fun hn => hkeep _ (hb.lt hn))⟩
    · obtain ⟨M, hM, hb⟩ := h'.blk id x h1
      refine ⟨M, hM, hb.sz, hb.lit, hb.cells, hb.lt, fun ho hn => ?_, hb.arrl, hb.rowc⟩
      obtain ⟨o1, _, o3⟩ := hb.own ho hn
      exact ⟨o1, .inl (by have := hge id x M h1 h2 hM hn; have := h.size; have := h.base; omega), o3⟩
  · intro id id' x x' L L' hx hx' hne ho hL hL' hn hn'
    rcases hlk id x hx with h1 | ⟨h0, h1, h2, _⟩
    · obtain ⟨b1, b2⟩ := hltm id x L h1 hL hn
      rcases hlk id' x' hx' with k1 | ⟨_, k1, k2, _⟩
      · obtain ⟨b3, b4⟩ := hltm id' x' L' k1 hL' hn'
        exact h.sep id id' x x' L L' h1 k1 hne ho b1 b3 hn hn'
      · have := hge id' x' L' k1 k2 hL' hn'
        omega
    · have := hge id x L h1 h2 hL hn
      rcases hlk id' x' hx' with k1 | ⟨_, k1, k2, _⟩
      · obtain ⟨b3, b4⟩ := hltm id' x' L' k1 hL' hn'
        omega
      · exact h'.sep id id' x x' L L' h1 k1 hne ho hL hL' hn hn'
  · rcases hlk id x hx with h1 | ⟨_, _, _, h3⟩
    · obtain ⟨M, k1, k2, k3, k4, k5⟩ := h.objs id x o h1 ho
      obtain ⟨M', hM', hb⟩ := h.blk id x h1
      rw [k1] at hM'
      cases hM'
      refine ⟨M, he _ _ k1, k2, k3, k4.keep he (hkeep _ (hb.lt k2)), fun id' x' L' g1 g2 g3 g4 => ?_⟩
      rcases hlk id' x' g2 with h1' | ⟨_, h1', h2', _⟩
      · obtain ⟨b1, _⟩ := hltm id' x' L' h1' g3 g4
        exact k5 id' x' L' g1 h1' b1 g4
      · have := hge id' x' L' h1' h2' g3 g4
        have := hb.lt k2
        omega
    · simp [isO, ho] at h3

section
variable {E : Env} {cf : FuncId → List AV → St → Option (AV × St)}

theorem opQ_ok (hE : EnvOk E) (hcf : CallOk E cf) {ops : Array Oper} {i b : Nat} {o : Oper} {mi news : AMem} {s s' : St} {v : AV} (h : opQ E cf ops i o mi b s = some (v, news, s')) (hoi : ops[i]? = some o) :
    Grow s s' ∧ s'.m = s.m ∧ s'.n = s.n ∧ s'.ms = s.ms ∧ (∀ id x, look news id = some x → b ≤ id ∧ id < b + s.str) ∧
    (Obs s' → s'.tm = s.tm ∧ ∀ r C, QStep r E.P C ops i (mask (o.looksAt ops) 0 s.tm) mi b (b + s.str) v news) := by
  unfold opQ at h
  split at h
  · cases h
  · rename_i s1 hg
    cases h
    obtain ⟨g1, g2, gm, g3, _⟩ := guard_ok hg
    refine ⟨g3, g1, g2, gm, fun id x hx => (by cases hx), fun ho => ⟨guard_tm hg ho, fun r C β a w m2 K Q hf hs hr hfree hK => ?_⟩⟩
    unfold wpOpIn
    simp only [hoi, guard_mask hg ho hf, Bool.false_eq_true, if_false]
    refine ⟨fun _ _ => trivial, ?_⟩
    have := hK β undef w (Ext.refl β) (fun _ _ => rfl) rfl (by rw [List.append_nil]; exact hr)
    rw [hoi] at this
    exact this
  · rename_i s1 hg
    obtain ⟨g1, g2, gm, g3, _⟩ := guard_ok hg
    split at h
    · rename_i v' news' ob hle haop
      simp only [Bool.and_eq_true] at hle
      have hle1 : b + s1.str ≤ lim := Nat.le_of_ble_eq_true hle.1
      have hle2 : 1 ≤ s1.str := Nat.le_of_ble_eq_true hle.2
      split at h
      · rename_i s2 hin hneed
        cases h
        obtain ⟨n1, n2, n3, nm, n4, n5⟩ := need_ok hneed
        refine ⟨g3.trans n4, n2.trans g1, n3.trans g2, nm.trans gm, fun id x hx => by have := inR_ok hin hx; rw [g3.str] at this; exact this, fun ho => ?_⟩
        have ho1 := ho.of n4
        have htm := guard_tm hg ho1
        refine ⟨n1.trans htm, fun r C β a w m2 K Q hf hs hr hfree hK => ?_⟩
        rw [htm] at haop
        obtain ⟨β', u, w', e1, e2, e3, e4, e5⟩ := aop_eff haop (n5 ho) hf hr hs (hfree b (Nat.le_refl _) (by rw [← g3.str]; omega)) (gid_ne (by omega))
        unfold wpOpIn
        simp only [hoi, guard_mask hg ho1 hf, if_true]
        refine ⟨fun _ _ => trivial, ?_⟩
        rw [semAt_of haop, e1]
        have := hK β' u w' e2 (fun id hid => e3 id (by rw [← g3.str] at hid; omega)) e4 e5
        rw [hoi] at this
        exact this
      · cases h
    · rename_i f args hle haop
      simp only [Bool.and_eq_true] at hle
      have hle1 : b + s1.str ≤ lim := Nat.le_of_ble_eq_true hle.1
      split at h
      · rename_i r news' k ob hco hct
        obtain ⟨g, hgm, hgr⟩ := ctLook_mem hct
        have hok := hE.ct f g hgm
        split at h
        · rename_i s2 hin hneed
          simp only [Bool.and_eq_true] at hin
          cases h
          obtain ⟨n1, n2, n3, nm, n4, n5⟩ := need_ok hneed
          have hk : k ≤ s1.str := Nat.le_of_ble_eq_true hin.1
          refine ⟨g3.trans n4, n2.trans g1, n3.trans g2, nm.trans gm, fun id x hx => by have := inR_ok hin.2 hx; rw [g3.str] at this; exact this, fun ho => ?_⟩
          have ho1 := ho.of n4
          have htm := guard_tm hg ho1
          refine ⟨n1.trans htm, fun r C β a w m2 K Q hf hs hr hfree hK => ?_⟩
          rw [htm] at haop
          obtain ⟨vs, hvs, hrun⟩ := aop_call haop hco hf hr hs
          obtain ⟨⟨fn, c, c3, c4⟩, hcalls⟩ := hok
          have hc := hcalls C β mi m2 w args b v news k ob vs hgr (n5 ho) hs hr (fun id h1 h2 => hfree id h1 (by rw [← g3.str]; omega)) (by omega) hvs
          unfold wpOpIn
          simp only [hoi, guard_mask hg ho1 hf, if_true]
          refine ⟨fun _ _ => trivial, ?_⟩
          rw [semAt_of haop, hrun, run_enter c3 (hE.names _ _ _ c3 c4) c4]
          refine ⟨fun h => (by cases h), CallsIn.mono (callsIn_wide.2 hc) fun e w' ⟨β', u, e1, e2, e3, e4, e5⟩ => ?_⟩
          subst e1
          have := hK β' u w' e2 (fun id hid => e3 id (by rw [← g3.str] at hid; omega)) e4 e5
          rw [hoi] at this
          exact this
        · cases h
      · rename_i hco hct
        split at h
        · rename_i r s2 hcall
          split at h
          · rename_i hc
            simp only [Bool.and_eq_true] at hc
            cases h
            obtain ⟨c1, cm, c2, ⟨fn, c, c3, c4⟩, c5⟩ := hcf f args _ v s2 hcall
            have hn : s2.n ≤ b + s1.str := Nat.le_of_ble_eq_true hc.1
            refine ⟨⟨by show s.n ≤ s1.n; omega, fun x hx => c2.ob x (g3.ob x hx), fun x hx => c2.po x (g3.po x hx), g3.str, g3.rd⟩, g1, g2, gm, fun id x hx => by have := inR_ok hc.2.1 hx; rw [g3.str] at this; exact this, fun ho => ?_⟩
            have ho2 : Obs s2 := ho.congr (s' := s2) rfl rfl
            have ho1 : Obs s1 := ⟨fun x hx => ho2.1 x (c2.ob x hx), fun x hx => ho2.2 x (c2.po x hx)⟩
            have htm := guard_tm hg ho1
            refine ⟨htm, fun r C β a w m2 K Q hf hs hr hfree hK => ?_⟩
            rw [htm] at haop
            obtain ⟨vs, hvs, hrun⟩ := aop_call haop hco hf hr hs
            have hcalls := (c5 ho2) (loneC w) β w vs hvs (hr.ro hs) (fun id h1 h2 => hfree id h1 (by rw [← g3.str]; omega))
            unfold wpOpIn
            simp only [hoi, guard_mask hg ho1 hf, if_true]
            refine ⟨fun _ _ => trivial, ?_⟩
            rw [semAt_of haop, hrun, run_enter c3 (hE.names _ _ _ c3 c4) c4]
            refine ⟨fun h => (by cases h), CallsIn.mono (callsIn_wide.2 hcalls) fun e w' ⟨β', u, e1, e2, e3, e4, e5⟩ => ?_⟩
            subst e1
            have := hK β' u w' e2 (fun id hid => e3 id ?_) e4 (hr.back e5 e2 hc.2.2)
            · rw [hoi] at this
              exact this
            · rw [← g3.str] at hid
              show id < b ∨ s2.n ≤ id
              omega
          · cases h
        · cases h
      · cases h
    · cases h

theorem Rel.drew1 {C : Ctx} {β : Nm} {m : AMem} {w : World} (h : Rel C β m w) : Rel C β m { w with drawn := w.drawn + 1 } :=
  h.keepAll rfl rfl rfl (Nat.le_refl _) fun _ _ => rfl
theorem frD_true (ops : Array Oper) (V : Nat → AV) (tm : List AV) (j : Nat) : ∀ q, j ≤ q → frD ops V tm (fun j' => decide (j' < j)) q = frD ops V tm (fun _ => true) j := by
  intro q hq
  apply List.ext_getElem?
  intro t
  have h1 : ∀ k, k ≤ j → (frD ops V tm (fun j' => decide (j' < j)) k)[t]? = (frD ops V tm (fun _ => true) k)[t]? := fun k hk => frD_agree k fun j' hj' _ => by simp; omega
  have h2 : ∀ d, (frD ops V tm (fun j' => decide (j' < j)) (j + d))[t]? = (frD ops V tm (fun j' => decide (j' < j)) j)[t]? := by
    intro d
    induction d with
    | zero => rfl
    | succ d ih =>
      rw [show j + (d + 1) = (j + d) + 1 by omega, frD_succ, if_neg (fun c => by have := c.1; simp at this; omega), ih]
  rw [show q = j + (q - j) by omega, h2, h1 j (Nat.le_refl _)]
theorem frD_congr (ops : Array Oper) {V V' : Nat → AV} (tm : List AV) (l : Nat → Bool) : ∀ k, (∀ j, j < k → V j = V' j) → frD ops V tm l k = frD ops V' tm l k
  | 0, _ => rfl
  | k + 1, h => by
    have ih := frD_congr ops tm l k fun j hj => h j (by omega)
    simp only [frD]
    rw [ih, h k (by omega)]
theorem look_newsOf {ops : Array Oper} {i : Nat} : ∀ {l : List (Nat × AMem)} {id : Nat} {x : ABlk}, look (newsOf ops i l) id = some x → ∃ p ∈ l, waits ops i p.1 = true ∧ look p.2 id = some x
  | [], _, _, h => by cases h
  | (j, n) :: r, id, x, h => by
    simp only [newsOf] at h
    split at h
    · rename_i hw
      rw [look_append] at h
      cases hn : look n id with
      | some y => rw [hn] at h; cases h; exact ⟨(j, n), by simp, hw, hn⟩
      | none =>
        rw [hn] at h
        obtain ⟨p, h1, h2⟩ := look_newsOf h
        exact ⟨p, by simp [h1], h2⟩
    · obtain ⟨p, h1, h2⟩ := look_newsOf h
      exact ⟨p, by simp [h1], h2⟩
theorem newsAll_append : ∀ (l l' : List (Nat × AMem)), newsAll (l ++ l') = newsAll l ++ newsAll l'
  | [], _ => rfl
  | (j, n) :: r, l' => by simp only [List.cons_append, newsAll]; rw [newsAll_append r l', List.append_assoc]
def accN (N : Nat → AMem) (k : Nat) : List (Nat × AMem) := (List.range k).map fun j => (j, N j)
theorem accN_succ (N : Nat → AMem) (k : Nat) : accN N (k + 1) = accN N k ++ [(k, N k)] := by simp [accN, List.range_succ]
theorem accN_congr {N N' : Nat → AMem} {k : Nat} (h : ∀ j, j < k → N j = N' j) : accN N k = accN N' k := by
  unfold accN
  exact List.map_congr_left fun j hj => by rw [h j (List.mem_range.1 hj)]
theorem newsAll_acc (N : Nat → AMem) : ∀ k, newsAll (accN N k) = nwD N (fun _ => true) k
  | 0 => rfl
  | k + 1 => by rw [accN_succ, newsAll_append, newsAll_acc N k]; simp [newsAll, nwD]

theorem opsQ_ok (hE : EnvOk E) (hcf : CallOk E cf) {ops : Array Oper} {n0 : Nat} {tm0 : List AV} : ∀ {l : List Oper} {i : Nat} {s s' : St} {acc' : List (Nat × AMem)} {V0 : Nat → AV} {N0 : Nat → AMem},
    opsQ E cf ops n0 l i (accN N0 i) s = some (acc', s') → (∀ j, j < l.length → l[j]? = ops[i + j]?) →
    ∃ V N, (∀ j, j < i → V j = V0 j ∧ N j = N0 j) ∧ acc' = accN N (i + l.length) ∧ Grow s s' ∧ s'.m = s.m ∧ s'.n = s.n ∧ s'.ms = s.ms ∧ (∀ j, i ≤ j → j < i + l.length → ∀ id x, look (N j) id = some x → rng n0 s.str j id) ∧
      (Obs s' → s.tm = frD ops V0 tm0 (fun _ => true) i → s'.tm = frD ops V tm0 (fun _ => true) (i + l.length) ∧
        ∀ j, i ≤ j → j < i + l.length → ∀ o, ops[j]? = some o → ∀ r C, QStep r E.P C ops j (mask (o.looksAt ops) 0 (frD ops V tm0 (fun _ => true) j)) (s.m ++ newsOf ops j (accN N j)) (n0 + j * s.str) (n0 + j * s.str + s.str) (V j) (N j))
  | [], i, s, s', acc', V0, N0, h, _ => by
    simp only [opsQ, Option.some.injEq, Prod.mk.injEq] at h
    obtain ⟨rfl, rfl⟩ := h
    exact ⟨V0, N0, fun _ _ => ⟨rfl, rfl⟩, rfl, Grow.refl s, rfl, rfl, rfl, fun j h1 h2 => by simp at h2; omega, fun _ ht => ⟨ht, fun j h1 h2 => by simp at h2; omega⟩⟩
  | o :: r, i, s, s', acc', V0, N0, h, hl => by
    have hoi : ops[i]? = some o := by simpa using (hl 0 (by simp)).symm
    simp only [opsQ] at h
    split at h
    · rename_i v news s1 hop
      obtain ⟨q1, q2, q3, qm, q4, q5⟩ := opQ_ok hE hcf hop hoi
      let V1 : Nat → AV := fun j => if j = i then v else V0 j
      let N1 : Nat → AMem := fun j => if j = i then news else N0 j
      have hacc : accN N0 i ++ [(i, news)] = accN N1 (i + 1) := by
        rw [accN_succ]
        have e1 : accN N0 i = accN N1 i := accN_congr fun j hj => by simp [N1, show j ≠ i by omega]
        have e2 : N1 i = news := by simp [N1]
        rw [e1, e2]
      rw [hacc] at h
      obtain ⟨V, N, h1, h2, h3, h4, h5, hm, h6, h7⟩ := opsQ_ok hE hcf (V0 := V1) (N0 := N1) h (fun j hj => by
        have := hl (j + 1) (by simp; omega)
        simp only [List.getElem?_cons_succ] at this
        rw [this]
        congr 1
        omega)
      have hVi : V i = v := by rw [(h1 i (by omega)).1]; simp [V1]
      have hNi : N i = news := by rw [(h1 i (by omega)).2]; simp [N1]
      have g1 : Grow s (s1.put o.dst v) := ⟨q1.n, q1.ob, q1.po, q1.str, q1.rd⟩
      have hstr : (s1.put o.dst v).str = s.str := q1.str
      refine ⟨V, N, fun j hj => ⟨by rw [(h1 j (by omega)).1]; simp [V1, show j ≠ i by omega], by rw [(h1 j (by omega)).2]; simp [N1, show j ≠ i by omega]⟩, by rw [h2]; congr 1; simp; omega, g1.trans h3, h4.trans q2, h5.trans q3, hm.trans qm, fun j hj1 hj2 id x hx => ?_, fun ho ht => ?_⟩
      · by_cases e : j = i
        · subst e
          rw [hNi] at hx
          exact q4 id x hx
        · have := h6 j (by omega) (by simp at hj2; omega) id x hx
          rwa [hstr] at this
      · have ho1 : Obs s1 := (ho.of h3).congr (s' := s1) rfl rfl
        obtain ⟨t1, t2⟩ := q5 ho1
        have htm1 : (s1.put o.dst v).tm = frD ops V1 tm0 (fun _ => true) (i + 1) := by
          show putA s1.tm o.dst v = _
          simp only [frD, if_true, hoi, Option.bind_some]
          rw [t1, ht, frD_congr ops tm0 _ i (V := V0) (V' := V1) (fun j hj => by simp [V1, show j ≠ i by omega])]
          simp [V1]
        obtain ⟨u1, u2⟩ := h7 ho htm1
        refine ⟨by rw [u1]; congr 1; simp; omega, fun j hj1 hj2 o' ho' r C => ?_⟩
        by_cases e : j = i
        · subst e
          rw [hoi] at ho'
          cases ho'
          have e1 : frD ops V tm0 (fun _ => true) j = s.tm := by
            rw [ht]
            exact frD_congr ops tm0 _ j fun j' hj' => by rw [(h1 j' (by omega)).1]; simp [V1, show j' ≠ j by omega]
          have e2 : accN N j = accN N0 j := accN_congr fun j' hj' => by rw [(h1 j' (by omega)).2]; simp [N1, show j' ≠ j by omega]
          rw [e1, e2, hVi, hNi]
          exact t2 r C
        · have := u2 j (by omega) (by simp at hj2; omega) o' ho' r C
          have hm : (s1.put o.dst v).m = s.m := q2
          rw [hm, hstr] at this
          exact this
    · cases h
end
end Go.Proofs.YtpfkhlfkcmgdlaaDoor
