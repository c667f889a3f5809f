/- The symbolic evaluator: loads, stores and new blocks. No Go text is in sight. -/
import Derived.Test.YtpfkhlfkcmgdlaaDoorSxRel
set_option linter.unusedSimpArgs false
set_option linter.unusedVariables false
namespace Go.Proofs.YtpfkhlfkcmgdlaaDoor
open Go.RowKit

theorem tl_ok {kd : Kd} {x : AC} (h : okl kd x = true) : tl kd x = x := by
  cases kd with
  | any => rfl
  | b =>
    cases x with
    | v x => cases x <;> first | rfl | simp [okl] at h
    | _ => simp [okl] at h
  | i k =>
    cases x with
    | v x =>
      cases x <;> simp [okl] at h
      subst h
      rfl
    | _ => simp [okl] at h

theorem inb_le {x : ABlk} {k j j' : Nat} (h : x.inb k j = true) (hj : j' ≤ j) : x.inb k j' = true := by
  unfold ABlk.inb at *
  split at h <;> simp_all <;> omega

/-- all of them hold -/
def allT (l : List Bool) : Prop := ∀ b ∈ l, b = true
theorem allT_cons {b : Bool} {l : List Bool} : allT (b :: l) ↔ b = true ∧ allT l := by simp [allT]
theorem allT_append {l l' : List Bool} : allT (l ++ l') ↔ allT l ∧ allT l' := by
  constructor
  · exact fun h => ⟨fun b hb => h b (by simp [hb]), fun b hb => h b (by simp [hb])⟩
  · rintro ⟨h1, h2⟩ b hb
    rcases List.mem_append.1 hb with h | h
    · exact h1 b h
    · exact h2 b h
theorem allT_nil : allT [] := fun _ h => by cases h

section
variable {C : Ctx} {β β' : Nm} {m : AMem} {w w' : World} {L : Loc} {x : ABlk}

theorem rd_length (cs : Cs) (k : Nat) : ∀ (ks : List Kd) (j : Nat), (rd cs k j ks).length = ks.length
  | [], _ => rfl
  | _ :: r, j => by simp [rd, rd_length cs k r (j + 1)]

theorem rd_ok (hb : BlkOk C β w L x) {k : Nat} : ∀ (ks : List Kd) (j : Nat), x.inb k (j + ks.length) = true → allT (oks x.cs k j ks) →
    ∃ vs, γs β (rd x.cs k j ks) = some vs ∧ ∀ (i : Nat) u, vs[i]? = some u → u.oneCell' = true ∧ w.cell? ⟨L.b, L.o + (k * L.s + (j + i)), none⟩ = some u
  | [], j, _, _ => ⟨[], rfl, fun i u h => by simp at h⟩
  | kd :: r, j, hi, ho => by
    have hi' : x.inb k (j + 1 + r.length) = true := inb_le hi (by simp <;> omega)
    have ho2 : allT (oks x.cs k (j + 1) r) ∧ okl kd (x.cs.get k j) = true := by
      cases kd with
      | any => exact ⟨ho, rfl⟩
      | b => simp only [oks] at ho; rw [allT_cons] at ho; exact ⟨ho.2, ho.1⟩
      | i q => simp only [oks] at ho; rw [allT_cons] at ho; exact ⟨ho.2, ho.1⟩
    obtain ⟨vs, h1, h2⟩ := rd_ok hb r (j + 1) hi' ho2.1
    obtain ⟨_, u, hu, h3, h4⟩ := hb.cells k j (inb_le hi (by simp <;> omega))
    refine ⟨u :: vs, ?_, fun i v hv => ?_⟩
    · simp only [rd, γs]
      rw [tl_ok ho2.2, hu, h1]
    · cases i with
      | zero => simp at hv; subst hv; exact ⟨h3, h4⟩
      | succ i =>
        simp at hv
        have := h2 i v hv
        rwa [show j + 1 + i = j + (i + 1) by omega] at this

theorem ad_some {id k j : Nat} {a : Addr} (h : ad β id k j = some a) : ∃ L, β id = some L ∧ L.nil = false ∧ a = ⟨L.b, L.o + (k * L.s + j), none⟩ := by
  unfold ad at h
  split at h
  · rename_i L hL
    split at h
    · cases h
    · rename_i hn
      cases h
      exact ⟨L, hL, by simpa using hn, rfl⟩
  · cases h

/-! ### keeping -/
theorem BlkOk.keep (hb : BlkOk C β w L x) (he : Ext β β') (hs : w.heap.size ≤ w'.heap.size) (hh : L.nil = false → w'.heap[L.b]? = w.heap[L.b]?) : BlkOk C β' w' L x :=
  ⟨hb.sz, hb.lit, fun k j hi => by
    obtain ⟨hn, u, h1, h2, h3⟩ := hb.cells k j hi
    refine ⟨hn, u, γc_ext he h1, h2, ?_⟩
    rw [← h3]
    exact World.cell?_of_block (hh hn), fun hn => by have := hb.lt hn; omega, fun ho hn => by
    obtain ⟨h1, h2, cs, h3, h4⟩ := hb.own ho hn
    exact ⟨h1, h2, cs, by rw [hh hn]; exact h3, h4⟩, hb.arrl, hb.rowc⟩

/-- what was there is as it was -/
theorem Rel.keepAll (h : Rel C β m w) (hos : w'.os = w.os) (ht : w'.tape = w.tape) (hou : w'.output = w.output) (hs : w.heap.size ≤ w'.heap.size) (hh : ∀ b, b < w.heap.size → w'.heap[b]? = w.heap[b]?) : Rel C β m w' :=
  ⟨hos.trans h.os, ht.trans h.tape, hou.trans h.output, Nat.le_trans h.size hs, h.base, fun b h1 h2 => by rw [hh b (by have := h.size; have := h.base; omega)]; exact h.out b h1 h2,
    fun id x e => by
      obtain ⟨L, hL, hb⟩ := h.blk id x e
      exact ⟨L, hL, hb.keep (Ext.refl β) hs (fun hn => hh _ (hb.lt hn))⟩,
    h.sep, h.glob, fun id x o e ho => by
      obtain ⟨L, h1, h2, h3, h4, h5⟩ := h.objs id x o e ho
      obtain ⟨L', hL', hb⟩ := h.blk id x e
      rw [h1] at hL'
      cases hL'
      exact ⟨L, h1, h2, h3, h4.keep (Ext.refl β) (hh _ (hb.lt h2)), h5⟩⟩
theorem Rel.below (h : Rel C β m w) (hb : Below w.heap.size w w') : Rel C β m w' := h.keepAll hb.os hb.tape hb.output hb.size hb.block

def ext1 (β : Nm) (id : Nat) (L : Loc) : Nm := fun i => if i = id then some L else β i
theorem ext1_ext {id : Nat} (h : β id = none) : Ext β (ext1 β id L) := fun i M e => by
  unfold ext1
  split
  · rename_i hi; subst hi; rw [h] at e; cases e
  · exact e
theorem ext1_same {id : Nat} : ext1 β id L id = some L := by simp [ext1]

theorem lit_cells {l : List AC} {vs : List Value} (hg : γs β l = some vs) (h1 : ∀ v ∈ vs, v.oneCell' = true) (b : Nat) (t : TypeId) (hb : w.heap[b]? = some (.cells vs.toArray t (0, 0))) :
    ∀ k j, (⟨true, false, t, 0, .lit l⟩ : ABlk).inb k (j + 1) = true → ∃ u, γc β ((Cs.lit l).get k j) = some u ∧ u.oneCell' = true ∧ w.cell? ⟨b, 0 + (k * 0 + j), none⟩ = some u := by
  intro k j hi
  simp [ABlk.inb] at hi
  have hj : j < l.length := by omega
  obtain ⟨u, hu, hc⟩ := γs_get hg (List.getElem?_eq_getElem hj)
  refine ⟨u, ?_, h1 u (List.mem_of_getElem? hu), ?_⟩
  · simp only [Cs.get, List.getD]
    rw [List.getElem?_eq_getElem hj]
    exact hc
  · rw [cell_of_row w b _ vs.toArray t (0, 0) hb]
    simpa using hu

/-- a new block of cells -/
theorem Rel.new (h : Rel C β m w) {id : Nat} (hid : β id = none) (hg : ∀ g, id ≠ gid g) {l : List AC} {vs : List Value} (hl : γs β l = some vs) (h1 : ∀ v ∈ vs, v.oneCell' = true) (t : TypeId) :
    Rel C (ext1 β id ⟨w.heap.size, 0, 0, 0, false⟩) (m ++ [(id, ⟨true, false, t, 0, .lit l⟩)]) (w.alloc (.cells vs.toArray t)) := by
  have hnew : (w.alloc (.cells vs.toArray t)).heap[w.heap.size]? = some (.cells vs.toArray t (0, 0)) := by show (w.heap.push _)[w.heap.size]? = _; simp
  have hold : ∀ b, b < w.heap.size → (w.alloc (.cells vs.toArray t)).heap[b]? = w.heap[b]? := fun b hb => heap_past _ hb
  have hsz : w.heap.size ≤ (w.alloc (.cells vs.toArray t)).heap.size := by simp
  have he : Ext β (ext1 β id ⟨w.heap.size, 0, 0, 0, false⟩) := ext1_ext hid
  have hno : look m id = none := by
    cases e : look m id with
    | none => rfl
    | some x => obtain ⟨L, hL, _⟩ := h.blk id x e; rw [hid] at hL; cases hL
  have hlk : ∀ i x, look (m ++ [(id, ⟨true, false, t, 0, .lit l⟩)]) i = some x → (look m i = some x ∧ i ≠ id) ∨ (i = id ∧ x = ⟨true, false, t, 0, .lit l⟩) := by
    intro i x e
    rw [look_append] at e
    cases e' : look m i with
    | some y =>
      rw [e'] at e
      cases e
      exact .inl ⟨rfl, fun h' => by subst h'; rw [hno] at e'; cases e'⟩
    | none =>
      rw [e'] at e
      simp only [look_cons] at e
      cases hb : Nat.beq id i with
      | true => rw [hb] at e; cases e; exact .inr ⟨(Nat.eq_of_beq_eq_true hb).symm, rfl⟩
      | false => rw [hb] at e; cases e
  refine ⟨h.os, h.tape, h.output, Nat.le_trans h.size hsz, h.base, fun b h1 h2 => by rw [hold b (by have := h.size; have := h.base; omega)]; exact h.out b h1 h2, fun i x e => ?_, ?_, ?_, ?_⟩
  · rcases hlk i x e with ⟨e1, hne⟩ | ⟨rfl, rfl⟩
    · obtain ⟨L, hL, hb⟩ := h.blk i x e1
      exact ⟨L, he i L hL, hb.keep he hsz (fun hn => hold _ (hb.lt hn))⟩
    · refine ⟨_, ext1_same, rfl, fun _ _ => rfl, fun k j hi => ⟨rfl, ?_⟩, fun _ => by simp, fun _ _ => ⟨rfl, .inl ?_, _, hnew, fun h => by cases h⟩, fun _ _ h => (by cases h), fun h => by cases h⟩
      · exact lit_cells (γs_ext he hl) h1 _ t hnew k j hi
      · have := h.size; have := h.base; simp; omega
  · intro i i' x x' L L' e e' hne ho hL hL' hn hn'
    rcases hlk i x e with ⟨e1, h1⟩ | ⟨rfl, rfl⟩
    · rcases hlk i' x' e' with ⟨e2, h2⟩ | ⟨rfl, rfl⟩
      · simp only [ext1, h1, h2, if_false] at hL hL'
        exact h.sep i i' x x' L L' e1 e2 hne ho hL hL' hn hn'
      · simp only [ext1, h1, if_false, if_true] at hL hL'
        cases hL'
        obtain ⟨M, hM, hb⟩ := h.blk i x e1
        rw [hM] at hL
        cases hL
        have := hb.lt hn
        simp; omega
    · rcases hlk i' x' e' with ⟨e2, h2⟩ | ⟨rfl, rfl⟩
      · simp only [ext1, h2, if_false, if_true] at hL hL'
        cases hL
        obtain ⟨M, hM, hb⟩ := h.blk i' x' e2
        rw [hM] at hL'
        cases hL'
        have := hb.lt hn'
        simp; omega
      · exact absurd rfl hne
  · intro g L e
    have : gid g ≠ id := fun e => hg g e.symm
    simp only [ext1, this, if_false] at e
    exact h.glob g L e
  · intro i x o e ho
    rcases hlk i x e with ⟨e1, hne⟩ | ⟨rfl, rfl⟩
    · obtain ⟨L, h1, h2, h3, h4, h5⟩ := h.objs i x o e1 ho
      obtain ⟨L', hL', hb⟩ := h.blk i x e1
      rw [h1] at hL'
      cases hL'
      refine ⟨L, he i L h1, h2, h3, h4.keep he (hold _ (hb.lt h2)), fun i' x' M g1 g2 g3 g4 => ?_⟩
      rcases hlk i' x' g2 with ⟨e2, hne2⟩ | ⟨rfl, rfl⟩
      · simp only [ext1, hne2, if_false] at g3
        exact h5 i' x' M g1 e2 g3 g4
      · simp only [ext1, if_true] at g3
        cases g3
        have := hb.lt h2
        simp; omega
    · cases ho

/-! ### stores -/
theorem setL_length : ∀ (vs l : List AC) (j : Nat), (setL l j vs).length = l.length
  | [], _, _ => rfl
  | x :: r, l, j => by simp only [setL]; rw [setL_length r _ _]; simp
theorem setL_get : ∀ (vs l : List AC) (j i : Nat), j + vs.length ≤ l.length → (setL l j vs)[i]? = if j ≤ i ∧ i < j + vs.length then vs[i - j]? else l[i]?
  | [], l, j, i, _ => by simp [setL]; omega
  | x :: r, l, j, i, h => by
    simp only [List.length_cons] at h
    simp only [setL]
    rw [setL_get r _ _ i (by simp; omega)]
    simp only [List.length_cons]
    by_cases h1 : j + 1 ≤ i ∧ i < j + 1 + r.length
    · rw [if_pos h1, if_pos ⟨by omega, by omega⟩, show i - j = (i - (j + 1)) + 1 by omega]; rfl
    · rw [if_neg h1]
      by_cases h2 : i = j
      · subst h2
        rw [if_pos ⟨by omega, by omega⟩]
        simp [show i < l.length by omega]
      · rw [if_neg (by omega)]
        simp [List.getElem?_set, show ¬ j = i by omega]

theorem put_heap_same {b o : Nat} {us : List Value} {cs : Array Value} {t : TypeId} (hb : w.heap[b]? = some (.cells cs t (0, 0))) : (put w b o us).heap[b]? = some (.cells (lay cs.toList o us).toArray t (0, 0)) := by
  simp only [put, Array.getElem?_modify, if_true, hb, Option.map_some]
theorem put_heap_other {b o : Nat} {us : List Value} {b' : Nat} (h : b' ≠ b) : (put w b o us).heap[b']? = w.heap[b']? := by
  simp only [put, Array.getElem?_modify]
  rw [if_neg (fun e => h e.symm)]

theorem cell_in {b i : Nat} {cs : Array Value} {t : TypeId} {u : Value} (hb : w.heap[b]? = some (.cells cs t (0, 0))) (h : w.cell? ⟨b, i, none⟩ = some u) : i < cs.size := by
  rw [cell_of_row w b i cs t (0, 0) hb] at h
  exact (Array.getElem?_eq_some_iff.1 h).1

theorem pos_apart {k k' s j j' n : Nat} (hk : k' ≠ k) (hj : j + n ≤ s) (hj' : j' < s) : ¬ (k * s + j ≤ k' * s + j' ∧ k' * s + j' < k * s + j + n) := by
  rintro ⟨h1, h2⟩
  rcases Nat.lt_or_ge k' k with h | h
  · have := Nat.mul_le_mul_right s (show k' + 1 ≤ k by omega)
    rw [Nat.succ_mul] at this
    omega
  · have := Nat.mul_le_mul_right s (show k + 1 ≤ k' by omega)
    rw [Nat.succ_mul] at this
    omega

/-- a store into a block that may be written -/
theorem Rel.putM (h : Rel C β m w) {id k j : Nat} (hx : look m id = some x) (ho : x.own = true) (hL : β id = some L) (hn : L.nil = false) {vs : List AC} {us : List Value} (hg : γs β vs = some us) (h1 : ∀ v ∈ us, v.oneCell' = true)
    (hi : x.inb k (j + vs.length) = true) (h0 : 0 < vs.length) :
    Rel C β (updM m id { x with cs := x.cs.put k j vs }) (put w L.b (L.o + (k * L.s + j)) us) := by
  obtain ⟨L', hL', hb⟩ := h.blk id x hx
  rw [hL] at hL'
  cases hL'
  obtain ⟨ho0, hown, cs, hheap, hrow⟩ := hb.own ho hn
  have hlen := hb.arrl
  have hul : us.length = vs.length := γs_length hg
  have hin : ∀ i, i < vs.length → k * L.s + (j + i) < cs.size := fun i hi' => by
    obtain ⟨_, u, _, _, hc⟩ := hb.cells k (j + i) (inb_le hi (by omega))
    have := cell_in hheap hc
    omega
  have hbd : L.o + (k * L.s + j) + us.length ≤ cs.toList.length := by
    have := hin (vs.length - 1) (by omega)
    simp; omega
  have hsame : (lay cs.toList (L.o + (k * L.s + j)) us).toArray.size = cs.size := by simp [lay_length hbd]
  have hother : ∀ i y M, look m i = some y → i ≠ id → β i = some M → M.nil = false → M.b ≠ L.b := fun i y M e hne hM hMn =>
    (h.sep id i x y L M hx e (fun e => hne e.symm) ho hL hM hn hMn).symm
  have hsize : (put w L.b (L.o + (k * L.s + j)) us).heap.size = w.heap.size := size_put us
  have hlk : ∀ i, look (updM m id { x with cs := x.cs.put k j vs }) i = if i = id then some { x with cs := x.cs.put k j vs } else look m i := fun i => look_updM m id i _ x hx
  refine ⟨h.os, h.tape, h.output, by rw [hsize]; exact h.size, h.base, fun b hb1 hb2 => ?_, fun i y e => ?_, ?_, h.glob, fun i y o e ho' => ?_⟩
  · have : b ≠ L.b := fun e => by
      subst e
      rcases hown with h' | h'
      · omega
      · exact hb2 h'
    rw [put_heap_other this]
    exact h.out b hb1 hb2
  · rw [hlk i] at e
    by_cases hii : i = id
    · subst hii
      rw [if_pos rfl] at e
      cases e
      have hh := put_heap_same (o := L.o + (k * L.s + j)) (us := us) hheap
      refine ⟨L, hL, hb.sz, fun l hl => ?_, fun k' j' hi' => ⟨hn, ?_⟩, fun _ => by rw [hsize]; exact hb.lt hn, fun _ _ => ⟨ho0, hown, _, hh, fun hrw => ?_⟩, fun n f hf i hi' => ?_, fun h1 h2 n f hf => ?_⟩
      · cases hcs : x.cs with
        | lit l0 => exact hb.lit l0 hcs
        | arr n f => rw [hcs] at hl; cases hl
        | obj o => rw [hcs] at hl; cases hl
      · have key : ∀ (i : Nat), L.o + (k' * L.s + j') = i → (put w L.b (L.o + (k * L.s + j)) us).cell? ⟨L.b, i, none⟩ = (lay cs.toList (L.o + (k * L.s + j)) us)[i]? := fun i _ => by
          rw [cell_of_row _ L.b i _ _ (0, 0) hh]; simp
        rw [key _ rfl]
        rw [lay_get hbd]
        cases hcs : x.cs with
        | lit l0 =>
          have hs0 := hb.lit l0 hcs
          have hLs : L.s = 0 := hb.sz.trans hs0
          have hi2 : k * x.sz + (j + vs.length) ≤ l0.length := by simpa [ABlk.inb, hcs] using hi
          simp only [hs0, Nat.mul_zero, Nat.zero_add] at hi2
          simp only [ABlk.inb, hcs, Cs.put, setL_length, decide_eq_true_eq, hs0, Nat.mul_zero, Nat.zero_add] at hi'
          simp only [Cs.put, Cs.get, List.getD, hLs, ho0, Nat.mul_zero, Nat.zero_add]
          rw [setL_get vs l0 j j' hi2, hul]
          by_cases hin' : j ≤ j' ∧ j' < j + vs.length
          · rw [if_pos hin', if_pos hin']
            have hlt : j' - j < vs.length := by omega
            obtain ⟨u, hu, hc⟩ := γs_get hg (List.getElem?_eq_getElem hlt)
            rw [List.getElem?_eq_getElem hlt]
            exact ⟨u, hc, h1 u (List.mem_of_getElem? hu), hu⟩
          · rw [if_neg hin', if_neg hin']
            obtain ⟨_, u, hc, hu1, hcell⟩ := hb.cells k' j' (by simp [ABlk.inb, hcs, hs0]; omega)
            refine ⟨u, ?_, hu1, ?_⟩
            · rw [hcs] at hc; exact hc
            · rw [cell_of_row w L.b _ cs _ (0, 0) hheap, hLs, ho0] at hcell
              simpa using hcell
        | obj o => simp [ABlk.inb, hcs] at hi
        | arr n f =>
          have hi2 : k < n ∧ j + vs.length ≤ x.sz := by simpa [ABlk.inb, hcs] using hi
          have hi3 : k' < n ∧ j' + 1 ≤ x.sz := by simpa [ABlk.inb, hcs, Cs.put] using hi'
          simp only [Cs.put, Cs.get, List.getD, ho0, Nat.zero_add]
          by_cases hkk : k' = k
          · subst hkk
            rw [if_pos rfl, setL_get vs (f k') j j' (by rw [hlen n f hcs k' hi2.1]; exact hi2.2), hul]
            by_cases hin' : j ≤ j' ∧ j' < j + vs.length
            · rw [if_pos hin', if_pos ⟨by omega, by omega⟩]
              have hlt : j' - j < vs.length := by omega
              obtain ⟨u, hu, hc⟩ := γs_get hg (List.getElem?_eq_getElem hlt)
              rw [List.getElem?_eq_getElem hlt, show k' * L.s + j' - (k' * L.s + j) = j' - j by omega]
              exact ⟨u, hc, h1 u (List.mem_of_getElem? hu), hu⟩
            · rw [if_neg hin', if_neg (by omega)]
              obtain ⟨_, u, hc, hu1, hcell⟩ := hb.cells k' j' (by simp [ABlk.inb, hcs]; omega)
              refine ⟨u, ?_, hu1, ?_⟩
              · rw [hcs] at hc; exact hc
              · rw [cell_of_row w L.b _ cs _ (0, 0) hheap, ho0] at hcell
                simpa using hcell
          · rw [if_neg hkk, if_neg (by rw [hul]; exact pos_apart hkk (by rw [hb.sz]; exact hi2.2) (by rw [hb.sz]; omega))]
            obtain ⟨_, u, hc, hu1, hcell⟩ := hb.cells k' j' (by simp [ABlk.inb, hcs]; omega)
            refine ⟨u, ?_, hu1, ?_⟩
            · rw [hcs] at hc; exact hc
            · rw [cell_of_row w L.b _ cs _ (0, 0) hheap, ho0] at hcell
              simpa using hcell
      · obtain ⟨r1, r2, n, f, r3, r4⟩ := hrow hrw
        exact ⟨by rw [hsame]; exact r1, r2, n, fun i => if i = k then setL (f i) j vs else f i, by simp only [Cs.put, r3], r4⟩
      · cases hcs : x.cs with
        | lit l0 => rw [hcs] at hf; cases hf
        | obj o => rw [hcs] at hf; cases hf
        | arr n0 f0 =>
          rw [hcs] at hf
          simp only [Cs.put, Cs.arr.injEq] at hf
          obtain ⟨rfl, rfl⟩ := hf
          have := hlen n0 f0 hcs i hi'
          by_cases e : i = k
          · simp only [e, if_true]; rw [setL_length]; rw [← e]; exact this
          · simp only [e, if_false]; exact this
      · cases hcs : x.cs with
        | lit l0 => rw [hcs] at hf; cases hf
        | obj o => rw [hcs] at hf; cases hf
        | arr n0 f0 =>
          rw [hcs] at hf
          simp only [Cs.put, Cs.arr.injEq] at hf
          obtain ⟨rfl, rfl⟩ := hf
          exact hb.rowc h1 h2 n0 f0 hcs
    · rw [if_neg hii] at e
      obtain ⟨M, hM, hbM⟩ := h.blk i y e
      exact ⟨M, hM, hbM.keep (Ext.refl β) (by rw [hsize]; exact Nat.le_refl _) (fun hMn => put_heap_other (hother i y M e hii hM hMn))⟩
  · intro i i' y y' M M' e e' hne hyo hM hM' hMn hMn'
    rw [hlk] at e e'
    by_cases h1 : i = id
    · subst h1
      rw [if_pos rfl] at e
      rw [if_neg (fun e => hne e.symm)] at e'
      exact h.sep i i' x y' M M' hx e' hne ho hM hM' hMn hMn'
    · rw [if_neg h1] at e
      by_cases h2 : i' = id
      · subst h2
        rw [if_pos rfl] at e'
        exact h.sep i i' y x M M' e hx hne hyo hM hM' hMn hMn'
      · rw [if_neg h2] at e'
        exact h.sep i i' y y' M M' e e' hne hyo hM hM' hMn hMn'
  · rw [hlk] at e
    by_cases h1 : i = id
    · subst h1
      rw [if_pos rfl] at e
      cases e
      cases hcs : x.cs with
      | lit l0 => rw [hcs] at ho'; cases ho'
      | arr n f => rw [hcs] at ho'; cases ho'
      | obj o => simp [ABlk.inb, hcs] at hi
    · rw [if_neg h1] at e
      obtain ⟨M, k1, k2, k3, k4, k5⟩ := h.objs i y o e ho'
      refine ⟨M, k1, k2, k3, k4.keep (Ext.refl β) (put_heap_other (hother i y M e h1 k1 k2)), fun i' x' M' g1 g2 g3 g4 => ?_⟩
      rw [hlk] at g2
      by_cases h2 : i' = id
      · subst h2
        exact k5 i' x M' g1 hx g3 g4
      · rw [if_neg h2] at g2
        exact k5 i' x' M' g1 g2 g3 g4

/-! ### objects -/
/-- the heap's block is this object -/
def putO (w : World) (b : Nat) (o : Obj) : World := { w with heap := w.heap.setIfInBounds b o }
theorem putO_same {b : Nat} {o : Obj} (h : b < w.heap.size) : (putO w b o).heap[b]? = some o := by simp [putO, h]
theorem putO_other {b k : Nat} {o : Obj} (h : k ≠ b) : (putO w b o).heap[k]? = w.heap[k]? := by simp [putO, Array.getElem?_setIfInBounds_ne (Ne.symm h)]
theorem putO_size {b : Nat} {o : Obj} : (putO w b o).heap.size = w.heap.size := by simp [putO]

/-- a new object -/
theorem Rel.newO (h : Rel C β m w) {id : Nat} (hid : β id = none) (hg : ∀ g, id ≠ gid g) {o : AObj} {ob : Obj} (ho : ∀ w', w'.heap[w.heap.size]? = some ob → ObjOk β w' w.heap.size o) :
    Rel C (ext1 β id ⟨w.heap.size, 0, 0, 0, false⟩) (m ++ [(id, oblk o)]) (w.alloc ob) := by
  have hnew : (w.alloc ob).heap[w.heap.size]? = some ob := by show (w.heap.push _)[w.heap.size]? = _; simp
  have hold : ∀ b, b < w.heap.size → (w.alloc ob).heap[b]? = w.heap[b]? := fun b hb => heap_past _ hb
  have hsz : w.heap.size ≤ (w.alloc ob).heap.size := by simp
  have he : Ext β (ext1 β id ⟨w.heap.size, 0, 0, 0, false⟩) := ext1_ext hid
  have hno : look m id = none := by
    cases e : look m id with
    | none => rfl
    | some x => obtain ⟨L, hL, _⟩ := h.blk id x e; rw [hid] at hL; cases hL
  have hlk : ∀ i x, look (m ++ [(id, oblk o)]) i = some x → (look m i = some x ∧ i ≠ id) ∨ (i = id ∧ x = oblk o) := by
    intro i x e
    rw [look_append] at e
    cases e' : look m i with
    | some y =>
      rw [e'] at e
      cases e
      exact .inl ⟨rfl, fun h' => by subst h'; rw [hno] at e'; cases e'⟩
    | none =>
      rw [e'] at e
      simp only [look_cons] at e
      cases hb : Nat.beq id i with
      | true => rw [hb] at e; cases e; exact .inr ⟨(Nat.eq_of_beq_eq_true hb).symm, rfl⟩
      | false => rw [hb] at e; cases e
  have hlt : ∀ i x M, look m i = some x → β i = some M → M.nil = false → M.b < w.heap.size := fun i x M e hM hn => by
    obtain ⟨M', hM', hb⟩ := h.blk i x e
    rw [hM] at hM'
    cases hM'
    exact hb.lt hn
  refine ⟨h.os, h.tape, h.output, Nat.le_trans h.size hsz, h.base, fun b h1 h2 => by rw [hold b (by have := h.size; have := h.base; omega)]; exact h.out b h1 h2, fun i x e => ?_, ?_, ?_, ?_⟩
  · rcases hlk i x e with ⟨e1, hne⟩ | ⟨rfl, rfl⟩
    · obtain ⟨L, hL, hb⟩ := h.blk i x e1
      exact ⟨L, he i L hL, hb.keep he hsz (fun hn => hold _ (hb.lt hn))⟩
    · exact ⟨_, ext1_same, rfl, fun _ _ => rfl, fun k j hi => (by simp [ABlk.inb, oblk] at hi), fun _ => (by simp), fun h => (by cases h), fun _ _ h => (by cases h), fun h => (by cases h)⟩
  · intro i i' x x' L L' e e' hne ho hL hL' hn hn'
    rcases hlk i x e with ⟨e1, h1⟩ | ⟨rfl, rfl⟩
    · rcases hlk i' x' e' with ⟨e2, h2⟩ | ⟨rfl, rfl⟩
      · simp only [ext1, h1, h2, if_false] at hL hL'
        exact h.sep i i' x x' L L' e1 e2 hne ho hL hL' hn hn'
      · simp only [ext1, h1, if_false, if_true] at hL hL'
        cases hL'
        have := hlt i x L e1 hL hn
        simp; omega
    · cases ho
  · intro g L e
    have : gid g ≠ id := fun e => hg g e.symm
    simp only [ext1, this, if_false] at e
    exact h.glob g L e
  · intro i x o' e ho'
    rcases hlk i x e with ⟨e1, hne⟩ | ⟨rfl, rfl⟩
    · obtain ⟨L, h1, h2, h3, h4, h5⟩ := h.objs i x o' e1 ho'
      have hL := hlt i x L e1 h1 h2
      refine ⟨L, he i L h1, h2, h3, h4.keep he (hold _ hL), fun i' x' M g1 g2 g3 g4 => ?_⟩
      rcases hlk i' x' g2 with ⟨e2, hne2⟩ | ⟨rfl, rfl⟩
      · simp only [ext1, hne2, if_false] at g3
        exact h5 i' x' M g1 e2 g3 g4
      · simp only [ext1, if_true] at g3
        cases g3
        simp; omega
    · cases ho'
      refine ⟨_, ext1_same, rfl, .inl (by have := h.size; have := h.base; simp; omega), (ho _ hnew).keep he rfl, fun i' x' M g1 g2 g3 g4 => ?_⟩
      rcases hlk i' x' g2 with ⟨e2, hne2⟩ | ⟨rfl, rfl⟩
      · simp only [ext1, hne2, if_false] at g3
        have := hlt i' x' M e2 g3 g4
        simp; omega
      · exact absurd rfl g1
/-- an object becomes another one -/
theorem Rel.putO (h : Rel C β m w) {id : Nat} {o0 o : AObj} (hx : look m id = some x) (hc : x.cs = .obj o0) {L : Loc} (hL : β id = some L) {ob : Obj} (ho : ∀ w', w'.heap[L.b]? = some ob → ObjOk β w' L.b o) :
    Rel C β (updM m id { x with cs := .obj o }) (putO w L.b ob) := by
  obtain ⟨L0, k1, k2, k3, k4, k5⟩ := h.objs id x o0 hx hc
  rw [hL] at k1
  cases k1
  obtain ⟨M', hM', hbx⟩ := h.blk id x hx
  rw [hL] at hM'
  cases hM'
  have hlt : L.b < w.heap.size := hbx.lt k2
  have hno : x.own = true → False := fun ho' => by
    obtain ⟨_, _, cs, hcs, _⟩ := hbx.own ho' k2
    cases o0 with
    | loop st pd tm ps as bd dn => obtain ⟨_, _, _, _, _, _, h4⟩ := k4; rw [hcs] at h4; cases h4
    | dfr op => have h4 : w.heap[L.b]? = _ := k4; rw [hcs] at h4; cases h4
  have hsize : (Go.Proofs.YtpfkhlfkcmgdlaaDoor.putO w L.b ob).heap.size = w.heap.size := putO_size
  have hlk : ∀ i, look (updM m id { x with cs := .obj o }) i = if i = id then some { x with cs := .obj o } else look m i := fun i => look_updM m id i _ x hx
  have hsame := putO_same (o := ob) hlt
  have hother : ∀ b, b ≠ L.b → (Go.Proofs.YtpfkhlfkcmgdlaaDoor.putO w L.b ob).heap[b]? = w.heap[b]? := fun b hb => putO_other hb
  refine ⟨h.os, h.tape, h.output, by rw [hsize]; exact h.size, h.base, fun b h1 h2 => ?_, fun i y e => ?_, ?_, h.glob, fun i y o' e ho' => ?_⟩
  · rw [hother b (fun e => by
      subst e
      rcases k3 with h' | h'
      · omega
      · exact h2 h')]
    exact h.out b h1 h2
  · rw [hlk] at e
    by_cases hi : i = id
    · subst hi
      rw [if_pos rfl] at e
      cases e
      exact ⟨L, hL, hbx.sz, fun l hl => (by cases hl), fun k j hi => (by simp [ABlk.inb] at hi), fun _ => (by rw [hsize]; exact hlt), fun h _ => (hno h).elim, fun _ _ h => (by cases h), fun _ _ _ _ h => (by cases h)⟩
    · rw [if_neg hi] at e
      obtain ⟨M, hM, hbM⟩ := h.blk i y e
      exact ⟨M, hM, hbM.keep (Ext.refl β) (by rw [hsize]; exact Nat.le_refl _) (fun hMn => hother _ (k5 i y M hi e hM hMn))⟩
  · intro i i' y y' M M' e e' hne hyo hM hM' hMn hMn'
    rw [hlk] at e e'
    by_cases h1 : i = id
    · subst h1
      rw [if_pos rfl] at e
      cases e
      exact (hno hyo).elim
    · rw [if_neg h1] at e
      by_cases h2 : i' = id
      · subst h2
        rw [hL] at hM'
        cases hM'
        exact k5 i y M h1 e hM hMn
      · rw [if_neg h2] at e'
        exact h.sep i i' y y' M M' e e' hne hyo hM hM' hMn hMn'
  · rw [hlk] at e
    by_cases h1 : i = id
    · subst h1
      rw [if_pos rfl] at e
      cases e
      cases ho'
      refine ⟨L, hL, k2, k3, ho _ hsame, fun i' x' M g1 g2 g3 g4 => ?_⟩
      rw [hlk, if_neg g1] at g2
      exact k5 i' x' M g1 g2 g3 g4
    · rw [if_neg h1] at e
      obtain ⟨M, q1, q2, q3, q4, q5⟩ := h.objs i y o' e ho'
      refine ⟨M, q1, q2, q3, q4.keep (Ext.refl β) (hother _ (k5 i y M h1 e q1 q2)), fun i' x' M' g1 g2 g3 g4 => ?_⟩
      rw [hlk] at g2
      by_cases h2 : i' = id
      · subst h2
        exact q5 i' x M' g1 hx g3 g4
      · rw [if_neg h2] at g2
        exact q5 i' x' M' g1 g2 g3 g4
end
end Go.Proofs.YtpfkhlfkcmgdlaaDoor
