/- Parts, one behind the other. The base of a vector of entries, told of their cells; a map of views that counts them. No Go text is in sight. -/
import Derived.Test.YtgdoojlfbebaaaaDoorJMembersAgree9
import Derived.Test.YtgdoojlfbebaaaaDoorJMembersAgree0
import Derived.Test.YtgdoojlfbebaaaaDoorJMembersAgree17
set_option linter.unusedSimpArgs false
set_option linter.unusedVariables false
/- The base of a vector of entries, told of their cells; a map of views that counts them. No Go text is in sight. -/
section
namespace Go.Proofs.YtgdoojlfbebaaaaDoor
open Go.RowKit
def VwOk (x : List AC) : Prop := ∃ v : Vw, v.Ok ∧ x = vwL v
def eqL (a b : List AC) : Bool := eqF vwKs a b
theorem eqL_refl (x : List AC) : eqL x x = true := by
 have h : ∀ (ks : List (Option IntKind)) (xs : List AC), eqF ks xs xs = true := by
  intro ks
  induction ks with
  | nil => intro xs; simp [eqF]
  | cons k ks ih =>
   intro xs
   cases xs with
   | nil => cases k <;> simp [eqF]
   | cons x xs => cases k <;> simp [eqF, ih]
 exact h _ _
theorem vw_cells_same {a b : Vw} (h : a.Same b) : a.cells = b.cells := by
 obtain ⟨h1, h2, h3, h4, h5, h6, h7⟩ := h
 simp only [Vw.cells, h1 0 (by omega), h1 1 (by omega), h1 2 (by omega), h1 3 (by omega), h1 4 (by omega), h1 5 (by omega), h1 6 (by omega), h1 7 (by omega), h2 0 (by omega), h2 1 (by omega), h2 2 (by omega), h2 3 (by omega), h2 4 (by omega), h2 5 (by omega), h2 6 (by omega), h2 7 (by omega), h3 0 (by omega), h3 1 (by omega), h3 2 (by omega), h3 3 (by omega), h3 4 (by omega), h3 5 (by omega), h3 6 (by omega), h3 7 (by omega), h4 0 (by omega), h4 1 (by omega), h4 2 (by omega), h4 3 (by omega), h4 4 (by omega), h4 5 (by omega), h4 6 (by omega), h4 7 (by omega), h5 0 (by omega), h5 1 (by omega), h5 2 (by omega), h5 3 (by omega), h5 4 (by omega), h5 5 (by omega), h5 6 (by omega), h5 7 (by omega), h6, h7]
theorem eqL_iff {x y : List AC} (hx : VwOk x) (hy : VwOk y) : eqL x y = true ↔ x = y := by
 obtain ⟨a, ha, rfl⟩ := hx
 obtain ⟨b, hb, rfl⟩ := hy
 constructor
 · intro h
   have := (eqF_same a b).1 h
   show a.cells.map AC.v = b.cells.map AC.v
   rw [vw_cells_same this]
 · intro h; rw [h]; exact eqL_refl _
theorem less_irr (x : List AC) : lessL x x = false := lex_irrefl _ _
theorem less_tr (x y z : List AC) (h1 : lessL x y = true) (h2 : lessL y z = true) : lessL x z = true := lex_trans h1 h2
theorem less_tot {x y : List AC} (hx : VwOk x) (hy : VwOk y) (h1 : lessL x y = false) (h2 : lessL y x = false) : x = y := by
 obtain ⟨a, ha, rfl⟩ := hx
 obtain ⟨b, hb, rfl⟩ := hy
 have h := lex_total (keyF (vwL a)) (keyF (vwL b)) 42
 rw [key_same ha hb, ← eqF_same] at h
 refine (eqL_iff ⟨a, ha, rfl⟩ ⟨b, hb, rfl⟩).1 ?_
 show eqF vwKs (vwL a) (vwL b) = true
 cases he : eqF vwKs (vwL a) (vwL b) with
 | true => rfl
 | false =>
  rw [he] at h
  have h3 := h.2 (by decide)
  unfold lessL at h1 h2
  rw [h1, h2] at h3
  cases h3
def vwA (l : List AC) : List AC := (l.drop 14).take 42
def heldV (may : List AC → Bool) (fst : List AC) (l : List AC) : Option (List AC) := match asB (l.getD 0 nov) with
 | true => some (match may (vwA l) with | true => vwA l | false => fst)
 | false => none
def viewsA (may : List AC → Bool) (fst : List AC) (n : Nat) (f : Nat → List AC) : List (List AC) := (List.range n).filterMap fun k => heldV may fst (f k)
def baseA (may : List AC → Bool) (fst : List AC) (n : Nat) (f : Nat → List AC) : List AC := baseL lessL eqL fst (viewsA may fst n f)
theorem viewsA_succ (may : List AC → Bool) (fst : List AC) (n : Nat) (f : Nat → List AC) : viewsA may fst (n + 1) f = viewsA may fst n f ++ (heldV may fst (f n)).toList := by
 unfold viewsA
 rw [List.range_succ, List.filterMap_append]
 congr 1
 try (cases h : heldV may fst (f n) <;> simp [h])
theorem heldV_ok {may : List AC → Bool} {fst l x : List AC} (hf : VwOk fst) (hl : VwOk (vwA l)) (h : heldV may fst l = some x) : VwOk x := by
 unfold heldV at h
 split at h
 · cases h
   split
   · exact hl
   · exact hf
 · cases h
theorem viewsA_ok {may : List AC → Bool} {fst : List AC} {n : Nat} {f : Nat → List AC} (hf : VwOk fst) (hl : ∀ k, k < n → VwOk (vwA (f k))) : ∀ x ∈ viewsA may fst n f, VwOk x := by
 intro x hx
 obtain ⟨k, hk, e⟩ := List.mem_filterMap.1 hx
 exact heldV_ok hf (hl k (by simpa using hk)) e
theorem viewsA_le (may : List AC → Bool) (fst : List AC) (n : Nat) (f : Nat → List AC) : (viewsA may fst n f).length ≤ n := by
 have := List.length_filterMap_le (fun k => heldV may fst (f k)) (List.range n)
 simpa [viewsA] using this
theorem cntL_le (l : List (List AC)) (x : List AC) : cntL eqL l x ≤ l.length := List.length_filter_le _ _
theorem cntL_snoc (l : List (List AC)) (y x : List AC) : cntL eqL (l ++ [y]) x = cntL eqL l x + (match eqL y x with | true => 1 | false => 0) := by
 unfold cntL
 rw [List.filter_append, List.length_append]
 congr 1
 cases h : eqL y x <;> simp [h]
/-! ### the map that counts them -/
structure KInv (m : KM) (vs : List (List AC)) : Prop where
 nd : (m.map (·.1)).Nodup
 ok : ∀ q ∈ m.map (·.1), ∃ x : View, x.Ok ∧ q = x.cells
 mem : ∀ q, q ∈ m.map (·.1) ↔ q.map AC.v ∈ vs
 cnt : ∀ x : View, x.Ok → m.cnt x.cells = cntL eqL vs (x.cells.map .v)
 val : ∀ v ∈ vs, ∃ y : List Value, v = y.map AC.v
theorem vwOk_cells {x : View} (h : x.Ok) : VwOk (x.cells.map .v) := ⟨vwI x, vwI_ok h, by show _ = (vwI x).cells.map AC.v; rw [vwI_cells]⟩
theorem map_v_inj {a b : List Value} (h : a.map AC.v = b.map AC.v) : a = b := by
 induction a generalizing b with
 | nil => cases b with | nil => rfl | cons _ _ => cases h
 | cons x a ih => cases b with
   | nil => cases h
   | cons y b => simp only [List.map_cons, List.cons.injEq, AC.v.injEq] at h; rw [h.1, ih h.2]
theorem KInv.nil : KInv [] [] := ⟨List.nodup_nil, fun q h => by simp at h, fun q => by simp, fun x _ => by simp [KM.cnt, KM.find, cntL], fun v h => by simp at h⟩
theorem KInv.inc {m : KM} {vs : List (List AC)} (h : KInv m vs) {x : View} (hx : x.Ok) : KInv (m.inc x.cells) (vs ++ [x.cells.map .v]) := by
 refine ⟨KM.nodup_inc h.nd _, fun q hq => ?_, fun q => ?_, fun y hy => ?_, fun v hv => by
  rcases List.mem_append.1 hv with hv | hv
  · exact h.val v hv
  · exact ⟨_, List.mem_singleton.1 hv⟩⟩
 · rcases KM.mem_inc hq with rfl | hq
   · exact ⟨x, hx, rfl⟩
   · exact h.ok q hq
 · rw [KM.keys_inc]
   have h1 := h.mem q
   have h2 := h.mem x.cells
   simp only [List.mem_append, List.mem_singleton]
   split
   · rename_i hc
     constructor
     · intro hq; exact .inl (h1.1 hq)
     · rintro (hq | hq)
       · exact h1.2 hq
       · rw [map_v_inj hq]; exact hc
   · rw [List.mem_append, List.mem_singleton]
     constructor
     · rintro (hq | rfl)
       · exact .inl (h1.1 hq)
       · exact .inr rfl
     · rintro (hq | hq)
       · exact .inl (h1.2 hq)
       · exact .inr (map_v_inj hq)
 · rw [KM.cnt_inc, cntL_snoc, ← h.cnt y hy]
   by_cases e : y.cells = x.cells
   · rw [if_pos e, e, eqL_refl]
   · rw [if_neg e]
     have : eqL (x.cells.map .v) (y.cells.map .v) = false := by
      cases hq : eqL (x.cells.map .v) (y.cells.map .v) with
      | false => rfl
      | true => exact absurd (map_v_inj ((eqL_iff (vwOk_cells hx) (vwOk_cells hy)).1 hq)).symm e
     rw [this]
     rfl
theorem KInv.at_ {m : KM} {vs : List (List AC)} (h : KInv m vs) {i c : Nat} {q : List Value} (hi : m[i]? = some (q, c)) : ∃ x : View, x.Ok ∧ q = x.cells ∧ c = cntL eqL vs (q.map .v) ∧ q.map AC.v ∈ vs := by
 have hm := List.mem_of_getElem? hi
 have hk : q ∈ m.map (·.1) := List.mem_map.2 ⟨_, hm, rfl⟩
 obtain ⟨x, hx, rfl⟩ := h.ok q hk
 exact ⟨x, hx, rfl, by rw [← h.cnt x hx]; exact (KM.cnt_of h.nd hm).symm, (h.mem _).1 hk⟩
def visK (m : KM) (seen : Array Nat) (x : List AC) : Prop := ∃ i q c, seen.contains i = true ∧ m[i]? = some (q, c) ∧ x = q.map AC.v
theorem visK_none (m : KM) (x : List AC) : ¬ visK m #[] x := by rintro ⟨i, q, c, h, _⟩; simp at h
theorem visK_push (m : KM) (seen : Array Nat) (j : Nat) {q : List Value} {c : Nat} (hj : m[j]? = some (q, c)) (x : List AC) : visK m (seen.push j) x ↔ visK m seen x ∨ x = q.map AC.v := by
 constructor
 · rintro ⟨i, q', c', h1, h2, h3⟩
   rw [contains_push, Bool.or_eq_true] at h1
   rcases h1 with h1 | h1
   · exact .inl ⟨i, q', c', h1, h2, h3⟩
   · obtain rfl : i = j := by simpa using h1
     rw [hj] at h2
     cases h2
     exact .inr h3
 · rintro (⟨i, q', c', h1, h2, h3⟩ | h)
   · exact ⟨i, q', c', by rw [contains_push, h1]; rfl, h2, h3⟩
   · exact ⟨j, q, c, by rw [contains_push]; simp, hj, h⟩
theorem visK_all {m : KM} {vs : List (List AC)} (h : KInv m vs) {seen : Array Nat} (hl : (leftOf (entsFrom 0 m.enc).toArray seen).size = 0) (x : List AC) : visK m seen x ↔ x ∈ vs := by
 constructor
 · rintro ⟨i, q, c, _, h2, rfl⟩
   exact (h.at_ h2).choose_spec.2.2.2
 · intro hx
   have hall : ∀ i, i < m.length → seen.contains i = true := by
    intro i hi
    cases hc : seen.contains i with
    | true => rfl
    | false =>
     exfalso
     have e1 := entsFrom_get m.enc 0 i
     have hlen : i < m.enc.length := by simp [KM.enc, hi]
     rw [List.getElem?_eq_getElem hlen] at e1
     have hm : (⟨.agg m.enc[i].1.toArray, m.enc[i].2, 0 + i⟩ : MapEntry) ∈ leftOf (entsFrom 0 m.enc).toArray seen := by
      unfold leftOf
      rw [Array.mem_filter]
      refine ⟨?_, by show (!seen.contains (0 + i)) = true; rw [Nat.zero_add, hc]; rfl⟩
      rw [List.mem_toArray]
      exact List.mem_of_getElem? e1
     have := Array.size_pos_of_mem hm
     omega
   obtain ⟨y, hy⟩ := h.val x hx
   subst hy
   obtain ⟨z, hz, hzy⟩ := List.mem_map.1 ((h.mem y).2 hx)
   obtain ⟨i, hi, rfl⟩ := List.mem_iff_getElem.1 hz
   exact ⟨i, _, _, hall i hi, List.getElem?_eq_getElem hi, by rw [← hzy]; rfl⟩
end Go.Proofs.YtgdoojlfbebaaaaDoor
end
