/- Parts, one behind the other. Words on memory that all texts of this seat lean on: a slice that reads as a list of cells (nil let in), and how that is kept while new memory is made; the last step of a law whose call writes nothing that was there. No Go text is in sight. -/
import Derived.WalkKit
import Derived.WalkLawsBesides
import Derived.WalkSpells
import Derived.ProofKit
import Derived.OpenShut
import Derived.ChangeOld
import Derived.Below
import Derived.Lib.Hide
import Derived.SizedLaws
import Derived.Deep.QuietTactic
import Derived.BigQuiet
set_option linter.unusedSimpArgs false
set_option linter.unusedVariables false
/- Words on memory that all texts of this seat lean on: a slice that reads as a list of cells (nil let in), and how that is kept while new memory is made; the last step of a law whose call writes nothing that was there. No Go text is in sight. -/
section
namespace Go.Proofs.YtoelekmbmghicaaGreatDoor
open Go.RowKit Go.WideShapes Go.ChangeShapes Go.ChangeAt
structure Sl (w : World) (B sz : Nat) (A : Option Addr) (n : Nat) (xs : List Value) : Prop where
 len : xs.length = n * sz
 at_ : 0 < n → ∃ b o, A = some ⟨b, o, none⟩ ∧ b < B ∧ ∀ i u, xs[i]? = some u → w.cell? ⟨b, o + i, none⟩ = some u
section
variable {w w' : World} {B B' sz n : Nat} {A : Option Addr} {xs : List Value}
theorem Sl.nil : Sl w B sz A 0 [] := ⟨by simp, fun h => absurd h (by omega)⟩
theorem Sl.keep (h : Sl w B sz A n xs) (hk : ∀ b o, b < B → w'.cell? ⟨b, o, none⟩ = w.cell? ⟨b, o, none⟩) : Sl w' B sz A n xs :=
 ⟨h.len, fun hn => by
  obtain ⟨b, o, e, hb, hc⟩ := h.at_ hn
  exact ⟨b, o, e, hb, fun i u hu => (hk _ _ hb).trans (hc i u hu)⟩⟩
theorem Sl.below (h : Sl w B sz A n xs) (hb : Below B w w') : Sl w' B sz A n xs := h.keep fun b o hp => hb.cell (p := ⟨b, o, none⟩) hp
theorem Sl.mono (h : Sl w B sz A n xs) (hB : B ≤ B') : Sl w B' sz A n xs :=
 ⟨h.len, fun hn => by
  obtain ⟨b, o, e, hb, hc⟩ := h.at_ hn
  exact ⟨b, o, e, by omega, hc⟩⟩
theorem Sl.one {k : Nat} (h : Sl w B 1 A n xs) (hk : k < n) : ∃ b o u, A = some ⟨b, o, none⟩ ∧ b < B ∧ xs[k]? = some u ∧ w.cell? ⟨b, o + k, none⟩ = some u := by
 obtain ⟨b, o, e, hb, hc⟩ := h.at_ (by omega)
 have hl : k < xs.length := by have := h.len; omega
 exact ⟨b, o, xs[k], e, hb, List.getElem?_eq_getElem hl, hc k _ (List.getElem?_eq_getElem hl)⟩
theorem Sl.drew (h : Sl w B sz A n xs) : Sl w.drew B sz A n xs := ⟨h.len, h.at_⟩
theorem Sl.drewN (h : Sl w B sz A n xs) (m : Nat) : Sl (w.drewN m) B sz A n xs := ⟨h.len, h.at_⟩
theorem add_none (b o k : Nat) : (⟨b, o, none⟩ : Addr).add k = ⟨b, o + k, none⟩ := Addr.add_lit b o k
theorem Sl.take (h : Sl w B sz A n xs) {k : Nat} (hk : k ≤ n) : Sl w B sz A k (xs.take (k * sz)) := by
 have hle : k * sz ≤ n * sz := Nat.mul_le_mul_right _ hk
 refine ⟨by simp [h.len, hle], fun h0 => ?_⟩
 obtain ⟨b, o, e, hb, hc⟩ := h.at_ (by omega)
 refine ⟨b, o, e, hb, fun i u hu => hc i u ?_⟩
 rw [List.getElem?_take] at hu
 split at hu
 · exact hu
 · cases hu
theorem Sl.drop (h : Sl w B sz A n xs) {k cap : Nat} (hk : k ≤ n) (hc : n ≤ cap) : Sl w B sz (if cap = k then A else A.map (·.add (k * sz))) (n - k) (xs.drop (k * sz)) := by
 refine ⟨by simp [h.len, Nat.sub_mul], fun h0 => ?_⟩
 obtain ⟨b, o, rfl, hb, hcell⟩ := h.at_ (by omega)
 rw [if_neg (by omega)]
 refine ⟨b, o + k * sz, by simp [add_none], hb, fun i u hu => ?_⟩
 rw [List.getElem?_drop] at hu
 rw [Nat.add_assoc]
 exact hcell _ u hu
theorem Sl.new {cs : Array Value} {t : TypeId} (h : cs.size = n * sz) : Sl (w.alloc (.cells cs t)) (w.heap.size + 1) sz (some ⟨w.heap.size, 0, none⟩) n cs.toList :=
 ⟨by simpa using h, fun _ => ⟨_, 0, rfl, by omega, fun i u hu => by
  have hb : (w.alloc (.cells cs t)).heap[w.heap.size]? = some (.cells cs t) := by show (w.heap.push _)[w.heap.size]? = _; simp
  rw [Nat.zero_add, cell_of_row _ _ i cs t (0, 0) hb]
  simpa using hu⟩⟩
end
def bools (l : List Bool) : List Value := l.map Value.bool
theorem Sl.bool {w : World} {B n : Nat} {A : Option Addr} {l : List Bool} (h : Sl w B 1 A n (bools l)) {k : Nat} (hk : k < n) :
 ∃ b o x, A = some ⟨b, o, none⟩ ∧ b < B ∧ l[k]? = some x ∧ w.cell? ⟨b, o + k, none⟩ = some (.bool x) := by
 obtain ⟨b, o, u, e, hb, hu, hc⟩ := h.one hk
 simp only [bools, List.getElem?_map, Option.map_eq_some_iff] at hu
 obtain ⟨x, hx, rfl⟩ := hu
 exact ⟨b, o, x, e, hb, hx, hc⟩
/-! ### quiet calls, the caller's world on the left -/
/-! ### the last step of a law -/
section
variable {H : Type} {enc : TypeId × Value → H} {P : Program}
theorem trodAll_below (hl : laidOutB P = true) {W W' : World} (hb : Below W.heap.size W W') :
 ∀ {ts : List TypeId} {vs : List Value} {ds : List (DataW H)} {ps : List MemPlace}, (ts.all fun t => P.readableRec t && decide (t < P.types.size)) = true →
  DataW.TrodAll enc P W 0 (fun _ => true) true ts vs ds ps → DataW.TrodAll enc P W' 0 (fun b => decide (b < W.heap.size)) true ts vs ds ps
 | [], [], [], _, _, h => h
 | t :: ts, v :: vs, d :: ds, ps, ht, h => by
  simp only [List.all_cons, Bool.and_eq_true, decide_eq_true_eq] at ht
  obtain ⟨p, q, h1, h2, rfl⟩ := h
  refine ⟨p, q, Below.trod hl ht.1.1 ht.1.2 h1 hb ?_, trodAll_below hl hb ht.2 h2, rfl⟩
  obtain ⟨m, hm⟩ := h1
  exact DataW.trod_lt m _ _ _ hm
 | [], _ :: _, _, _, _, h => h.elim
 | _ :: _, [], _, _, _, h => h.elim
 | [], [], _ :: _, _, _, h => h.elim
 | _ :: _, _ :: _, [], _, _, h => h.elim
theorem trodAll_length {W : World} {b : Nat} {sp : Nat → Bool} {hd : Bool} : ∀ {ts : List TypeId} {vs : List Value} {ds : List (DataW H)} {ps : List MemPlace},
 DataW.TrodAll enc P W b sp hd ts vs ds ps → ds.length = ts.length
 | [], [], [], _, _ => rfl
 | _ :: _, _ :: _, _ :: _, _, h => by
  obtain ⟨p, q, _, h2, _⟩ := h
  simp [trodAll_length h2]
 | [], _ :: _, _, _, h => h.elim
 | _ :: _, [], _, _, h => h.elim
 | [], [], _ :: _, _, h => h.elim
 | _ :: _, _ :: _, [], _, h => h.elim
end
end Go.Proofs.YtoelekmbmghicaaGreatDoor
end
/- The sum of bytes, by register and by division: plain facts. No Go text is in sight. -/
section
namespace Go.Proofs.YtoelekmbmghicaaGreatDoor
abbrev crPoly : BitVec 32 := 0x04c11db7#32
def crP (j : Nat) : Bool := crPoly.getMsbD j
def crPow : List Nat := [26, 23, 22, 16, 12, 11, 10, 8, 7, 5, 4, 2, 1, 0]
theorem crP_pow : ∀ j, j < 32 → crP j = crPow.contains (31 - j) := by decide
theorem crP_out {j : Nat} (h : 32 ≤ j) : crP j = false := BitVec.getMsbD_of_ge _ _ h
def crStep (v : BitVec 32) : BitVec 32 := if v.msb then (v <<< 1) ^^^ crPoly else v <<< 1
theorem crStep_bit (v : BitVec 32) (j : Nat) : (crStep v).getMsbD j = (v.getMsbD (j + 1) ^^ (v.msb && crP j)) := by
 unfold crStep crP
 by_cases hj : j < 32
 · cases h : v.msb with
   | true => rw [if_pos rfl, BitVec.getMsbD_xor, BitVec.getMsbD_shiftLeft]; simp [hj, Nat.add_comm]
   | false => rw [if_neg (by simp), BitVec.getMsbD_shiftLeft]; simp [hj, Nat.add_comm]
 · rw [BitVec.getMsbD_of_ge _ _ (by omega), BitVec.getMsbD_of_ge _ _ (by omega), BitVec.getMsbD_of_ge _ _ (by omega)]
   simp
def crPut (v : BitVec 32) (b : Nat) : BitVec 32 := v ^^^ (BitVec.ofNat 32 b <<< 24)
def crBit (b : Nat) (i : Nat) : Bool := decide (i < 8) && b.testBit (7 - i)
theorem crPut_bit {v : BitVec 32} {b : Nat} (hb : b < 256) (j : Nat) : (crPut v b).getMsbD j = (v.getMsbD j ^^ crBit b j) := by
 unfold crPut crBit
 rw [BitVec.getMsbD_xor]
 congr 1
 by_cases hj : j < 32
 · simp only [BitVec.getMsbD, BitVec.getLsbD_shiftLeft, BitVec.getLsbD_ofNat]
   by_cases h8 : j < 8
   · simp [hj, h8, show ¬ (32 - 1 - j < 24) by omega, show 32 - 1 - j - 24 = 7 - j by omega, show 7 - j < 32 by omega, show 32 - 1 - j < 32 by omega]
   · simp [hj, h8, show 32 - 1 - j < 24 by omega]
 · rw [BitVec.getMsbD_of_ge _ _ (by omega)]
   simp [show ¬ j < 8 by omega]
def crIt : Nat → BitVec 32 → BitVec 32
 | 0, v => v
 | k + 1, v => crStep (crIt k v)
def crAdd (v : BitVec 32) (b : Nat) : BitVec 32 := crIt 8 (crPut v b)
def crOf (f : Nat → Nat) : Nat → BitVec 32
 | 0 => BitVec.allOnes 32
 | k + 1 => crAdd (crOf f k) (f k)
/-! bit by bit -/
def msgB (f : Nat → Nat) (n i : Nat) : Bool := decide (i < 8 * n) && crBit (f (i / 8)) (i % 8)
def crU (f : Nat → Nat) (n : Nat) : Nat → Nat → Bool
 | 0, j => decide (j < 32)
 | i + 1, j => crU f n i (j + 1) ^^ ((crU f n i 0 ^^ msgB f n i) && crP j)
theorem crU_byte (f : Nat → Nat) (n q : Nat) (hq : q < n) (hf : ∀ i, i < n → f i < 256) (ih : ∀ j, crU f n (8 * q) j = (crOf f q).getMsbD j) : ∀ t, t ≤ 8 → ∀ j, (crIt t (crPut (crOf f q) (f q))).getMsbD j = (crU f n (8 * q + t) j ^^ crBit (f q) (j + t))
 | 0, _, j => by
  show (crPut (crOf f q) (f q)).getMsbD j = _
  rw [crPut_bit (hf q hq), ← ih j]
  rfl
 | t + 1, ht, j => by
  have h := crU_byte f n q hq hf ih t (by omega)
  show (crStep (crIt t (crPut (crOf f q) (f q)))).getMsbD j = (crU f n (8 * q + t + 1) j ^^ crBit (f q) (j + (t + 1)))
  have hz : (crIt t (crPut (crOf f q) (f q))).msb = (crU f n (8 * q + t) 0 ^^ crBit (f q) (0 + t)) := by rw [← h 0]; rfl
  rw [crStep_bit, h (j + 1), hz]
  have hm : msgB f n (8 * q + t) = crBit (f q) t := by
   unfold msgB
   rw [show (8 * q + t) / 8 = q by omega, show (8 * q + t) % 8 = t by omega, decide_eq_true (show 8 * q + t < 8 * n by omega)]
   rfl
  show _ = ((crU f n (8 * q + t) (j + 1) ^^ ((crU f n (8 * q + t) 0 ^^ msgB f n (8 * q + t)) && crP j)) ^^ crBit (f q) (j + (t + 1)))
  rw [hm, show j + 1 + t = j + (t + 1) by omega, Nat.zero_add]
  cases crU f n (8 * q + t) (j + 1) <;> cases crBit (f q) (j + (t + 1)) <;> cases (crU f n (8 * q + t) 0 ^^ crBit (f q) t) && crP j <;> rfl
theorem crU_eq (f : Nat → Nat) (n : Nat) (hf : ∀ i, i < n → f i < 256) : ∀ q, q ≤ n → ∀ j, crU f n (8 * q) j = (crOf f q).getMsbD j
 | 0, _, j => by
  show decide (j < 32) = (BitVec.allOnes 32).getMsbD j
  by_cases h : j < 32
  · rw [decide_eq_true h, BitVec.getMsbD, BitVec.getLsbD_allOnes, decide_eq_true h, decide_eq_true (by omega)]; rfl
  · rw [decide_eq_false h, BitVec.getMsbD_of_ge _ _ (by omega)]
 | q + 1, hq, j => by
  have ih := crU_eq f n hf q (by omega)
  have := crU_byte f n q (by omega) hf ih 8 (Nat.le_refl _) j
  show crU f n (8 * q + 8) j = (crIt 8 (crPut (crOf f q) (f q))).getMsbD j
  rw [this]
  unfold crBit
  simp [show ¬ j + 8 < 8 by omega]
/-! a division -/
def dvFlip (i k : Nat) (j : Nat) : Bool := (crPow.take k).any fun p => j == i + 32 - p
def dvG (f : Nat → Nat) (n : Nat) : Nat → Nat → Bool
 | 0, j => msgB f n j ^^ decide (j < 32)
 | i + 1, j => match dvG f n i i with
   | true => match Nat.beq j i with | true => false | false => dvG f n i j ^^ dvFlip i 14 j
   | false => dvG f n i j
theorem dvFlip_at (i j : Nat) (hj : j < 32) : dvFlip i 14 (i + 1 + j) = crP j := by
 rw [crP_pow j hj]
 unfold dvFlip
 have h : ∀ l : List Nat, (∀ p ∈ l, p ≤ 31) → (l.any fun p => i + 1 + j == i + 32 - p) = l.contains (31 - j) := by
  intro l
  induction l with
  | nil => intro _; rfl
  | cons p l ih =>
   intro hl
   have hp := hl p (List.mem_cons_self ..)
   rw [List.any_cons, List.contains_cons, ih fun q hq => hl q (List.mem_cons_of_mem _ hq)]
   congr 1
   rw [Bool.eq_iff_iff, beq_iff_eq, beq_iff_eq]
   omega
 exact h crPow (by decide)
theorem dvFlip_out (i j : Nat) (hj : 32 ≤ j) : dvFlip i 14 (i + 1 + j) = false := by
 unfold dvFlip
 rw [List.any_eq_false]
 intro p _
 rw [beq_iff_eq]
 omega
theorem dv_inv (f : Nat → Nat) (n : Nat) : ∀ i j, dvG f n i (i + j) = (crU f n i j ^^ msgB f n (i + j))
 | 0, j => by
  show (msgB f n (0 + j) ^^ decide (0 + j < 32)) = (decide (j < 32) ^^ msgB f n (0 + j))
  rw [Nat.zero_add, Bool.xor_comm]
 | i + 1, j => by
  have h0 := dv_inv f n i 0
  have h1 := dv_inv f n i (j + 1)
  rw [Nat.add_zero] at h0
  have e : i + 1 + j = i + (j + 1) := by omega
  have hne : Nat.beq (i + 1 + j) i = false := by
   cases h : Nat.beq (i + 1 + j) i with
   | false => rfl
   | true => have := Nat.eq_of_beq_eq_true h; omega
  show (match dvG f n i i with | true => (match Nat.beq (i + 1 + j) i with | true => false | false => dvG f n i (i + 1 + j) ^^ dvFlip i 14 (i + 1 + j)) | false => dvG f n i (i + 1 + j)) = ((crU f n i (j + 1) ^^ ((crU f n i 0 ^^ msgB f n i) && crP j)) ^^ msgB f n (i + 1 + j))
  rw [hne, h0]
  have hfl : dvFlip i 14 (i + 1 + j) = crP j := by
   rcases Nat.lt_or_ge j 32 with h | h
   · exact dvFlip_at i j h
   · rw [dvFlip_out i j h, crP_out h]
  rw [hfl, e, h1]
  cases crU f n i 0 ^^ msgB f n i <;> cases crU f n i (j + 1) <;> cases msgB f n (i + (j + 1)) <;> cases crP j <;> rfl
theorem dv_end (f : Nat → Nat) (n : Nat) (hf : ∀ i, i < n → f i < 256) (j : Nat) : dvG f n (8 * n) (8 * n + j) = (crOf f n).getMsbD j := by
 rw [dv_inv, crU_eq f n hf n (Nat.le_refl _)]
 have : msgB f n (8 * n + j) = false := by unfold msgB; rw [decide_eq_false (by omega)]; rfl
 rw [this, Bool.xor_false]
def nuF (g : Nat → Bool) : Nat → Nat
 | 0 => 0
 | k + 1 => 2 * nuF g k + (if g k then 0 else 1)
theorem nu_end (v : BitVec 32) {g : Nat → Bool} (h : ∀ j, j < 32 → g j = v.getMsbD j) : ∀ k, k ≤ 32 → nuF g k = (~~~ v).toNat / 2 ^ (32 - k)
 | 0, _ => by
  show 0 = _
  rw [Nat.div_eq_of_lt (by have := (~~~ v).isLt; simpa using this)]
 | k + 1, hk => by
  show 2 * nuF g k + (if g k then 0 else 1) = _
  rw [nu_end v h k (by omega), h k (by omega)]
  have e : (2 : Nat) ^ (32 - k) = 2 ^ (32 - (k + 1)) * 2 := by rw [← Nat.pow_succ]; congr 1; omega
  rw [e, ← Nat.div_div_eq_div_mul]
  have hb : (~~~ v).toNat.testBit (32 - (k + 1)) = !v.getMsbD k := by
   rw [BitVec.testBit_toNat]
   rw [BitVec.getLsbD_not, BitVec.getMsbD, decide_eq_true (show 32 - (k + 1) < 32 by omega), decide_eq_true (show k < 32 by omega), Bool.true_and, Bool.true_and, show 32 - 1 - k = 32 - (k + 1) by omega]
  rw [Nat.testBit_eq_decide_div_mod_eq] at hb
  cases hv : v.getMsbD k with
  | true =>
   rw [hv] at hb
   simp at hb
   simp
   omega
  | false =>
   rw [hv] at hb
   simp at hb
   simp
   omega
end Go.Proofs.YtoelekmbmghicaaGreatDoor
end
