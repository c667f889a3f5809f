/- Parts, one behind the other. Words on memory that all texts of this seat lean on: a slice that reads as a list of cells (nil let in), and how that is kept while new memory is made; the last step of a law whose call writes nothing that was there. No Go text is in sight. -/
import Derived.WalkKit
import Derived.WalkLawsBesides
import Derived.WalkSpells
import Derived.ProofKit
import Derived.OpenShut
import Derived.ChangeOld
import Derived.Below
import Derived.Lib.Hide
import Derived.SizedLaws
import Derived.Deep.QuietTactic
import Derived.BigQuiet
set_option linter.unusedSimpArgs false
set_option linter.unusedVariables false
/- Words on memory that all texts of this seat lean on: a slice that reads as a list of cells (nil let in), and how that is kept while new memory is made; the last step of a law whose call writes nothing that was there. No Go text is in sight. -/
section
namespace Go.Proofs.YtgdoojlfbebaaaaDoor
open Go.RowKit Go.WideShapes Go.ChangeShapes Go.ChangeAt
structure Sl (w : World) (B sz : Nat) (A : Option Addr) (n : Nat) (xs : List Value) : Prop where
 len : xs.length = n * sz
 at_ : 0 < n → ∃ b o, A = some ⟨b, o, none⟩ ∧ b < B ∧ ∀ i u, xs[i]? = some u → w.cell? ⟨b, o + i, none⟩ = some u
section
variable {w w' : World} {B B' sz n : Nat} {A : Option Addr} {xs : List Value}
theorem Sl.nil : Sl w B sz A 0 [] := ⟨by simp, fun h => absurd h (by omega)⟩
theorem Sl.keep (h : Sl w B sz A n xs) (hk : ∀ b o, b < B → w'.cell? ⟨b, o, none⟩ = w.cell? ⟨b, o, none⟩) : Sl w' B sz A n xs :=
 ⟨h.len, fun hn => by
  obtain ⟨b, o, e, hb, hc⟩ := h.at_ hn
  exact ⟨b, o, e, hb, fun i u hu => (hk _ _ hb).trans (hc i u hu)⟩⟩
theorem Sl.below (h : Sl w B sz A n xs) (hb : Below B w w') : Sl w' B sz A n xs := h.keep fun b o hp => hb.cell (p := ⟨b, o, none⟩) hp
theorem Sl.mono (h : Sl w B sz A n xs) (hB : B ≤ B') : Sl w B' sz A n xs :=
 ⟨h.len, fun hn => by
  obtain ⟨b, o, e, hb, hc⟩ := h.at_ hn
  exact ⟨b, o, e, by omega, hc⟩⟩
theorem Sl.one {k : Nat} (h : Sl w B 1 A n xs) (hk : k < n) : ∃ b o u, A = some ⟨b, o, none⟩ ∧ b < B ∧ xs[k]? = some u ∧ w.cell? ⟨b, o + k, none⟩ = some u := by
 obtain ⟨b, o, e, hb, hc⟩ := h.at_ (by omega)
 have hl : k < xs.length := by have := h.len; omega
 exact ⟨b, o, xs[k], e, hb, List.getElem?_eq_getElem hl, hc k _ (List.getElem?_eq_getElem hl)⟩
theorem Sl.drew (h : Sl w B sz A n xs) : Sl w.drew B sz A n xs := ⟨h.len, h.at_⟩
theorem Sl.drewN (h : Sl w B sz A n xs) (m : Nat) : Sl (w.drewN m) B sz A n xs := ⟨h.len, h.at_⟩
theorem add_none (b o k : Nat) : (⟨b, o, none⟩ : Addr).add k = ⟨b, o + k, none⟩ := Addr.add_lit b o k
theorem Sl.take (h : Sl w B sz A n xs) {k : Nat} (hk : k ≤ n) : Sl w B sz A k (xs.take (k * sz)) := by
 have hle : k * sz ≤ n * sz := Nat.mul_le_mul_right _ hk
 refine ⟨by simp [h.len, hle], fun h0 => ?_⟩
 obtain ⟨b, o, e, hb, hc⟩ := h.at_ (by omega)
 refine ⟨b, o, e, hb, fun i u hu => hc i u ?_⟩
 rw [List.getElem?_take] at hu
 split at hu
 · exact hu
 · cases hu
theorem Sl.drop (h : Sl w B sz A n xs) {k cap : Nat} (hk : k ≤ n) (hc : n ≤ cap) : Sl w B sz (if cap = k then A else A.map (·.add (k * sz))) (n - k) (xs.drop (k * sz)) := by
 refine ⟨by simp [h.len, Nat.sub_mul], fun h0 => ?_⟩
 obtain ⟨b, o, rfl, hb, hcell⟩ := h.at_ (by omega)
 rw [if_neg (by omega)]
 refine ⟨b, o + k * sz, by simp [add_none], hb, fun i u hu => ?_⟩
 rw [List.getElem?_drop] at hu
 rw [Nat.add_assoc]
 exact hcell _ u hu
theorem Sl.new {cs : Array Value} {t : TypeId} (h : cs.size = n * sz) : Sl (w.alloc (.cells cs t)) (w.heap.size + 1) sz (some ⟨w.heap.size, 0, none⟩) n cs.toList :=
 ⟨by simpa using h, fun _ => ⟨_, 0, rfl, by omega, fun i u hu => by
  have hb : (w.alloc (.cells cs t)).heap[w.heap.size]? = some (.cells cs t) := by show (w.heap.push _)[w.heap.size]? = _; simp
  rw [Nat.zero_add, cell_of_row _ _ i cs t (0, 0) hb]
  simpa using hu⟩⟩
end
def bools (l : List Bool) : List Value := l.map Value.bool
theorem Sl.bool {w : World} {B n : Nat} {A : Option Addr} {l : List Bool} (h : Sl w B 1 A n (bools l)) {k : Nat} (hk : k < n) :
 ∃ b o x, A = some ⟨b, o, none⟩ ∧ b < B ∧ l[k]? = some x ∧ w.cell? ⟨b, o + k, none⟩ = some (.bool x) := by
 obtain ⟨b, o, u, e, hb, hu, hc⟩ := h.one hk
 simp only [bools, List.getElem?_map, Option.map_eq_some_iff] at hu
 obtain ⟨x, hx, rfl⟩ := hu
 exact ⟨b, o, x, e, hb, hx, hc⟩
/-! ### quiet calls, the caller's world on the left -/
/-! ### the last step of a law -/
section
variable {H : Type} {enc : TypeId × Value → H} {P : Program}
theorem trodAll_below (hl : laidOutB P = true) {W W' : World} (hb : Below W.heap.size W W') :
 ∀ {ts : List TypeId} {vs : List Value} {ds : List (DataW H)} {ps : List MemPlace}, (ts.all fun t => P.readableRec t && decide (t < P.types.size)) = true →
  DataW.TrodAll enc P W 0 (fun _ => true) true ts vs ds ps → DataW.TrodAll enc P W' 0 (fun b => decide (b < W.heap.size)) true ts vs ds ps
 | [], [], [], _, _, h => h
 | t :: ts, v :: vs, d :: ds, ps, ht, h => by
  simp only [List.all_cons, Bool.and_eq_true, decide_eq_true_eq] at ht
  obtain ⟨p, q, h1, h2, rfl⟩ := h
  refine ⟨p, q, Below.trod hl ht.1.1 ht.1.2 h1 hb ?_, trodAll_below hl hb ht.2 h2, rfl⟩
  obtain ⟨m, hm⟩ := h1
  exact DataW.trod_lt m _ _ _ hm
 | [], _ :: _, _, _, _, h => h.elim
 | _ :: _, [], _, _, _, h => h.elim
 | [], [], _ :: _, _, _, h => h.elim
 | _ :: _, _ :: _, [], _, _, h => h.elim
theorem trodAll_length {W : World} {b : Nat} {sp : Nat → Bool} {hd : Bool} : ∀ {ts : List TypeId} {vs : List Value} {ds : List (DataW H)} {ps : List MemPlace},
 DataW.TrodAll enc P W b sp hd ts vs ds ps → ds.length = ts.length
 | [], [], [], _, _ => rfl
 | _ :: _, _ :: _, _ :: _, _, h => by
  obtain ⟨p, q, _, h2, _⟩ := h
  simp [trodAll_length h2]
 | [], _ :: _, _, _, h => h.elim
 | _ :: _, [], _, _, h => h.elim
 | [], [], _ :: _, _, h => h.elim
 | _ :: _, _ :: _, [], _, h => h.elim
end
end Go.Proofs.YtgdoojlfbebaaaaDoor
end
/- The base of a list: the one that is most often there, of these the first in an order. Plain facts, no Go text is in sight. -/
section
namespace Go.Proofs.YtgdoojlfbebaaaaDoor
section
variable {α : Type} {less : α → α → Bool} {first : α} {cn : α → Nat}
def Best (less : α → α → Bool) (first : α) (cn : α → Nat) (vis : α → Prop) (b : α) (m : Nat) : Prop :=
 ((∀ v, ¬ vis v) ∧ b = first ∧ m = 0) ∨ (vis b ∧ m = cn b ∧ ∀ v, vis v → cn v ≤ m ∧ (cn v = m → less v b = false))
def stepB (less : α → α → Bool) (cn : α → Nat) (v : α) (s : α × Nat) : α × Nat := if s.2 < cn v ∨ (cn v = s.2 ∧ less v s.1 = true) then (v, cn v) else s
theorem Best.zero {vis : α → Prop} (h : ∀ v, ¬ vis v) : Best less first cn vis first 0 := .inl ⟨h, rfl, rfl⟩
theorem Best.congr {vis vis' : α → Prop} {b : α} {m : Nat} (h : Best less first cn vis b m) (e : ∀ v, vis v ↔ vis' v) : Best less first cn vis' b m := by
 have : vis = vis' := funext fun v => propext (e v)
 rwa [← this]
theorem Best.step (irr : ∀ a, less a a = false) (tr : ∀ a b c, less a b = true → less b c = true → less a c = true) {vis : α → Prop} {b : α} {m : Nat} (h : Best less first cn vis b m) (v : α) (hv : 0 < cn v) :
 Best less first cn (fun x => vis x ∨ x = v) (stepB less cn v (b, m)).1 (stepB less cn v (b, m)).2 := by
 unfold stepB
 by_cases hc : m < cn v ∨ (cn v = m ∧ less v b = true)
 · simp only [hc, if_true]
   refine .inr ⟨.inr rfl, rfl, fun x hx => ?_⟩
   rcases hx with hx | rfl
   · rcases h with ⟨h1, _, _⟩ | ⟨_, h2, h3⟩
     · exact absurd hx (h1 x)
     · obtain ⟨a1, a2⟩ := h3 x hx
       rcases hc with hc | ⟨hc1, hc2⟩
       · exact ⟨by omega, fun e => by omega⟩
       · refine ⟨by omega, fun e => ?_⟩
         have a3 := a2 (by omega)
         cases hl : less x v with
         | false => rfl
         | true => rw [tr x v b hl hc2] at a3; cases a3
   · exact ⟨Nat.le_refl _, fun _ => irr x⟩
 · simp only [hc, if_false]
   have hc1 : ¬ m < cn v := fun x => hc (.inl x)
   have hc2 : cn v = m → less v b = false := fun e => by
    cases hl : less v b with
    | false => rfl
    | true => exact absurd (.inr ⟨e, hl⟩) hc
   rcases h with ⟨_, _, h0⟩ | ⟨h1, h2, h3⟩
   · omega
   · refine .inr ⟨.inl h1, h2, fun x hx => ?_⟩
     rcases hx with hx | rfl
     · exact h3 x hx
     · exact ⟨by omega, hc2⟩
theorem Best.uniq {vis : α → Prop} {b b' : α} {m m' : Nat} (tot : ∀ a c, vis a → vis c → less a c = false → less c a = false → a = c) (h : Best less first cn vis b m) (h' : Best less first cn vis b' m') : b = b' := by
 rcases h with ⟨h1, h2, _⟩ | ⟨h1, h2, h3⟩
 · rcases h' with ⟨_, g2, _⟩ | ⟨g1, _, _⟩
   · rw [h2, g2]
   · exact absurd g1 (h1 _)
 · rcases h' with ⟨g1, _, _⟩ | ⟨g1, g2, g3⟩
   · exact absurd h1 (g1 _)
   · have a1 := h3 b' g1
     have a2 := g3 b h1
     have e : m = m' := by omega
     exact tot b b' h1 g1 (a2.2 (by omega)) (a1.2 (by omega))
def cntL (eq : α → α → Bool) (l : List α) (x : α) : Nat := (l.filter fun y => eq y x).length
theorem cntL_pos {eq : α → α → Bool} (hr : ∀ x, eq x x = true) {l : List α} {x : α} (h : x ∈ l) : 0 < cntL eq l x := List.length_pos_of_mem (List.mem_filter.2 ⟨h, hr x⟩)
def baseS (less : α → α → Bool) (first : α) (cn : α → Nat) (l : List α) : α × Nat := l.foldl (fun s v => stepB less cn v s) (first, 0)
theorem baseS_snoc (l : List α) (v : α) : baseS less first cn (l ++ [v]) = stepB less cn v (baseS less first cn l) := by simp [baseS]
theorem baseS_best (irr : ∀ a, less a a = false) (tr : ∀ a b c, less a b = true → less b c = true → less a c = true) : ∀ (n : Nat) (l : List α), l.length = n → (∀ v ∈ l, 0 < cn v) → Best less first cn (fun x => x ∈ l) (baseS less first cn l).1 (baseS less first cn l).2
 | 0, l, h, _ => by
  obtain rfl := List.length_eq_zero_iff.1 h
  exact Best.zero fun v => by simp
 | n + 1, l, h, hp => by
  obtain ⟨v, hv⟩ : ∃ v, l = l.dropLast ++ [v] := ⟨l.getLast (by intro e; rw [e] at h; cases h), (List.dropLast_concat_getLast _).symm⟩
  rw [hv] at hp ⊢
  have ih := baseS_best irr tr n l.dropLast (by simp [h]) fun u hu => hp u (by simp [hu])
  rw [baseS_snoc]
  exact (ih.step irr tr v (hp v (by simp))).congr fun x => by simp
def baseL (less : α → α → Bool) (eq : α → α → Bool) (first : α) (l : List α) : α := (baseS less first (cntL eq l) l).1
theorem baseL_is {eq : α → α → Bool} (irr : ∀ a, less a a = false) (tr : ∀ a b c, less a b = true → less b c = true → less a c = true) (hr : ∀ x, eq x x = true) {l : List α} (tot : ∀ a c, a ∈ l → c ∈ l → less a c = false → less c a = false → a = c)
 {b : α} {m : Nat} (h : Best less first (cntL eq l) (fun x => x ∈ l) b m) : b = baseL less eq first l :=
 h.uniq tot (baseS_best irr tr l.length l rfl fun v hv => cntL_pos hr hv)
theorem baseL_perm {eq : α → α → Bool} (irr : ∀ a, less a a = false) (tr : ∀ a b c, less a b = true → less b c = true → less a c = true) (hr : ∀ x, eq x x = true) {l l' : List α} (tot : ∀ a c, a ∈ l → c ∈ l → less a c = false → less c a = false → a = c)
 (hp : l.Perm l') : baseL less eq first l' = baseL less eq first l := by
 refine baseL_is irr tr hr tot (m := (baseS less first (cntL eq l') l').2) ?_
 have e : cntL eq l' = cntL eq l := funext fun x => (hp.filter _).length_eq.symm
 have h := baseS_best (less := less) (first := first) (cn := cntL eq l') irr tr l'.length l' rfl fun v hv => cntL_pos hr hv
 unfold baseL
 rw [e] at h ⊢
 exact h.congr fun x => hp.mem_iff.symm
theorem baseL_mem {eq : α → α → Bool} (irr : ∀ a, less a a = false) (tr : ∀ a b c, less a b = true → less b c = true → less a c = true) (hr : ∀ x, eq x x = true) (l : List α) : baseL less eq first l = first ∨ baseL less eq first l ∈ l := by
 have h := baseS_best (less := less) (first := first) (cn := cntL eq l) irr tr l.length l rfl fun v hv => cntL_pos hr hv
 rcases h with ⟨_, h, _⟩ | ⟨h, _, _⟩
 · exact .inl h
 · exact .inr h
theorem baseL_most {eq : α → α → Bool} (irr : ∀ a, less a a = false) (tr : ∀ a b c, less a b = true → less b c = true → less a c = true) (hr : ∀ x, eq x x = true) {l : List α} (tot : ∀ a c, a ∈ l → c ∈ l → less a c = false → less c a = false → a = c)
 {v : α} (h : ∀ x ∈ l, x ≠ v → cntL eq l x < cntL eq l v) (hv : v ∈ l) : baseL less eq first l = v := by
 refine (baseL_is irr tr hr tot (m := cntL eq l v) (.inr ⟨hv, rfl, fun x hx => ?_⟩)).symm
 by_cases e : x = v
 · subst e; exact ⟨Nat.le_refl _, fun _ => irr x⟩
 · have := h x hx e
   exact ⟨by omega, fun e => by omega⟩
end
end Go.Proofs.YtgdoojlfbebaaaaDoor
end
