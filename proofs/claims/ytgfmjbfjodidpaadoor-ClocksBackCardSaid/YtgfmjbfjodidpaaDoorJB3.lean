/- Parts, one behind the other. Go's structs of plain cells as structures: their cells, and how pieces of them are read and written. Printed by wip/gen_types.py. -/
import Derived.Test.YtgfmjbfjodidpaaDoorJB2
set_option linter.unusedSimpArgs false
set_option linter.unusedVariables false
/- Go's structs of plain cells as structures: their cells, and how pieces of them are read and written. Printed by wip/gen_types.py. -/
section
namespace Go.Proofs.YtgfmjbfjodidpaaDoor
open Go.RowKit

def vat {α : Type} {n : Nat} (d : α) (v : Vector α n) (k : Nat) : α := v[k]?.getD d
def vup {α : Type} {n : Nat} (v : Vector α n) (k : Nat) (x : α) : Vector α n := v.setIfInBounds k x
theorem vat_same {α : Type} {n : Nat} (d : α) (v : Vector α n) (k : Nat) (x : α) (h : k < n) : vat d (vup v k x) k = x := by simp [vat, vup, h]
theorem vat_ne {α : Type} {n : Nat} (d : α) (v : Vector α n) (k j : Nat) (x : α) (h : j ≠ k) : vat d (vup v k x) j = vat d v j := by
  simp [vat, vup, Vector.getElem?_setIfInBounds, show ¬ k = j by omega]
theorem vat_get {α β : Type} {n : Nat} (d : α) (f : α → β) (v : Vector α n) (k : Nat) (h : k < n) : (v.toList.map f)[k]? = some (f (vat d v k)) := by
  simp [vat, h]
theorem vup_set {α β : Type} {n : Nat} (f : α → β) (v : Vector α n) (k : Nat) (x : α) : (v.toList.map f).set k (f x) = (vup v k x).toList.map f := by
  simp [vup, Vector.toList_setIfInBounds, List.map_set]
theorem vat_ext {α : Type} {n : Nat} (d : α) {u v : Vector α n} (h : ∀ k, k < n → vat d u k = vat d v k) : u = v := by
  ext i hi
  have := h i hi
  simpa [vat, hi] using this
theorem vmap_inj {α β : Type} {n : Nat} {f : α → β} (hf : ∀ a b, f a = f b → a = b) {u v : Vector α n} (h : u.toList.map f = v.toList.map f) : u = v := by
  have := (List.map_inj_right (fun a b => hf a b)).1 h
  exact Vector.toList_inj.1 this
theorem allOne_append (a b : List Value) : allOne (a ++ b) = (allOne a && allOne b) := by simp [allOne]
theorem allOne_map {α : Type} {f : α → Value} (hf : ∀ a, (f a).oneCell' = true) (l : List α) : allOne (l.map f) = true := by simp [allOne, hf]

theorem get_in {c a m b : List Value} (e : c = a ++ (m ++ b)) {o k : Nat} (ha : a.length = o) (hk : k < m.length) : c[o + k]? = m[k]? := by
  subst e; subst ha
  rw [List.getElem?_append_right (by omega), show a.length + k - a.length = k by omega, List.getElem?_append_left hk]
theorem set_in {c a m b : List Value} (e : c = a ++ (m ++ b)) {o k : Nat} (ha : a.length = o) (hk : k < m.length) (v : Value) : c.set (o + k) v = a ++ (m.set k v ++ b) := by
  subst e; subst ha
  rw [List.set_append_right _ _ (by omega), show a.length + k - a.length = k by omega, List.set_append_left _ _ hk]
theorem Flat.uncons {k : Option IntKind} {ks : List (Option IntKind)} {cs : List Value} (h : Flat (k :: ks) cs) : ∃ c r, cs = c :: r ∧ KOk k c ∧ Flat ks r := by
  match cs, h.1 with
  | c :: r, hl =>
    obtain ⟨v, hv, ok⟩ := h.2 0 k rfl
    simp at hv
    subst hv
    exact ⟨c, r, rfl, ok, by simpa using hl, fun i q hq => by simpa using h.2 (i + 1) q (by simpa using hq)⟩
theorem Flat.unapp {k1 k2 : List (Option IntKind)} {cs : List Value} (h : Flat (k1 ++ k2) cs) : ∃ c1 c2, cs = c1 ++ c2 ∧ Flat k1 c1 ∧ Flat k2 c2 := by
  have hl := h.1
  simp only [List.length_append] at hl
  refine ⟨cs.take k1.length, cs.drop k1.length, by simp, ⟨by simp; omega, fun i q hq => ?_⟩, ⟨by simp; omega, fun i q hq => ?_⟩⟩
  · have hi : i < k1.length := (List.getElem?_eq_some_iff.1 hq).1
    obtain ⟨v, hv, ok⟩ := h.2 i q (by rw [List.getElem?_append_left hi]; exact hq)
    exact ⟨v, by simp [List.getElem?_take, hi, hv], ok⟩
  · obtain ⟨v, hv, ok⟩ := h.2 (k1.length + i) q (by rw [List.getElem?_append_right (by omega)]; simpa using hq)
    exact ⟨v, by simpa using hv, ok⟩
theorem Flat.unnil {cs : List Value} (h : Flat [] cs) : cs = [] := by simpa using h.1
theorem Flat.unrepB : ∀ {n : Nat} {cs : List Value}, Flat (List.replicate n none) cs → ∃ v : Vector Bool n, cs = v.toList.map Value.bool
  | 0, cs, h => ⟨Vector.mk #[] rfl, by simpa using h.unnil⟩
  | n + 1, cs, h => by
    rw [List.replicate_succ] at h
    obtain ⟨c, r, rfl, ⟨b, rfl⟩, h2⟩ := h.uncons
    obtain ⟨v, rfl⟩ := h2.unrepB
    exact ⟨⟨(b :: v.toList).toArray, by simp⟩, by simp [Vector.toList]⟩
theorem Flat.unrepI {q : IntKind} : ∀ {n : Nat} {cs : List Value}, Flat (List.replicate n (some q)) cs → ∃ v : Vector Int n, cs = v.toList.map (Value.int q) ∧ ∀ k, k < n → (Lit.int q (vat 0 v k)).wf = true
  | 0, cs, h => ⟨Vector.mk #[] rfl, by simpa using h.unnil, fun k hk => absurd hk (by omega)⟩
  | n + 1, cs, h => by
    rw [List.replicate_succ] at h
    obtain ⟨c, r, rfl, ⟨b, rfl, hb⟩, h2⟩ := h.uncons
    obtain ⟨v, rfl, hv⟩ := h2.unrepI
    refine ⟨⟨(b :: v.toList).toArray, by simp⟩, by simp [Vector.toList], fun k hk => ?_⟩
    cases k with
    | zero => simpa [vat] using hb
    | succ k =>
      have := hv k (by omega)
      simp only [vat] at this ⊢
      have e : (⟨(b :: v.toList).toArray, by simp⟩ : Vector Int (n + 1))[k + 1]? = v[k]? := by
        simp only [Vector.getElem?_mk, List.getElem?_toArray, List.getElem?_cons_succ]
        simp [Vector.toList]
      rw [e]; exact this

/-! ### Payload: sennit/api.Payload -/
structure Payload where
  kind : Int
  st : Int
  seq : Int
  val : Int
deriving DecidableEq
def Payload.cells (x : Payload) : List Value := [.int .u8 x.kind, .int .u8 x.st, .int .u32 x.seq, .int .u32 x.val]
def Payload.zero : Payload := { kind := 0, st := 0, seq := 0, val := 0 }
theorem Payload.len (x : Payload) : x.cells.length = 4 := rfl
theorem Payload.one (x : Payload) : allOne x.cells = true := rfl
theorem Payload.get0 (x : Payload) : x.cells[0]? = some (.int .u8 x.kind) := rfl
theorem Payload.gea0 (x : Payload) : x.cells.toArray[0]? = some (.int .u8 x.kind) := by rw [List.getElem?_toArray]; exact x.get0
theorem Payload.gee0 (x : Payload) (h : 0 < x.cells.length) : x.cells[0] = .int .u8 x.kind := (List.getElem_eq_iff h).2 x.get0
theorem Payload.set0 (x : Payload) (v : Int) : x.cells.set 0 (.int .u8 v) = ({ x with kind := v } : Payload).cells := rfl
theorem Payload.get1 (x : Payload) : x.cells[1]? = some (.int .u8 x.st) := rfl
theorem Payload.gea1 (x : Payload) : x.cells.toArray[1]? = some (.int .u8 x.st) := by rw [List.getElem?_toArray]; exact x.get1
theorem Payload.gee1 (x : Payload) (h : 1 < x.cells.length) : x.cells[1] = .int .u8 x.st := (List.getElem_eq_iff h).2 x.get1
theorem Payload.set1 (x : Payload) (v : Int) : x.cells.set 1 (.int .u8 v) = ({ x with st := v } : Payload).cells := rfl
theorem Payload.get2 (x : Payload) : x.cells[2]? = some (.int .u32 x.seq) := rfl
theorem Payload.gea2 (x : Payload) : x.cells.toArray[2]? = some (.int .u32 x.seq) := by rw [List.getElem?_toArray]; exact x.get2
theorem Payload.gee2 (x : Payload) (h : 2 < x.cells.length) : x.cells[2] = .int .u32 x.seq := (List.getElem_eq_iff h).2 x.get2
theorem Payload.set2 (x : Payload) (v : Int) : x.cells.set 2 (.int .u32 v) = ({ x with seq := v } : Payload).cells := rfl
theorem Payload.get3 (x : Payload) : x.cells[3]? = some (.int .u32 x.val) := rfl
theorem Payload.gea3 (x : Payload) : x.cells.toArray[3]? = some (.int .u32 x.val) := by rw [List.getElem?_toArray]; exact x.get3
theorem Payload.gee3 (x : Payload) (h : 3 < x.cells.length) : x.cells[3] = .int .u32 x.val := (List.getElem_eq_iff h).2 x.get3
theorem Payload.set3 (x : Payload) (v : Int) : x.cells.set 3 (.int .u32 v) = ({ x with val := v } : Payload).cells := rfl
theorem Payload.cutAll (x : Payload) : cut x.cells 0 4 = x.cells := cut_all _ _ x.len
theorem Payload.layAll (x y : Payload) : lay x.cells 0 y.cells = y.cells := lay_all _ _ (by rw [x.len, y.len])
theorem Payload.layS0 (x : Payload) (v : Int) : lay x.cells 0 [.int .u8 v] = ({ x with kind := v } : Payload).cells := (lay_one _ _ _ (by rw [x.len]; omega)).trans (x.set0 v)
theorem Payload.layS1 (x : Payload) (v : Int) : lay x.cells 1 [.int .u8 v] = ({ x with st := v } : Payload).cells := (lay_one _ _ _ (by rw [x.len]; omega)).trans (x.set1 v)
theorem Payload.layS2 (x : Payload) (v : Int) : lay x.cells 2 [.int .u32 v] = ({ x with seq := v } : Payload).cells := (lay_one _ _ _ (by rw [x.len]; omega)).trans (x.set2 v)
theorem Payload.layS3 (x : Payload) (v : Int) : lay x.cells 3 [.int .u32 v] = ({ x with val := v } : Payload).cells := (lay_one _ _ _ (by rw [x.len]; omega)).trans (x.set3 v)
def Payload.ks : List (Option IntKind) := some .u8 :: some .u8 :: some .u32 :: some .u32 :: []
def Payload.Ok (x : Payload) : Prop := (0 ≤ x.kind ∧ x.kind ≤ 255) ∧ (0 ≤ x.st ∧ x.st ≤ 255) ∧ (0 ≤ x.seq ∧ x.seq ≤ 4294967295) ∧ (0 ≤ x.val ∧ x.val ≤ 4294967295)
theorem Payload.shape (x : Payload) : FlatS Payload.ks x.cells := by
  have h : FlatS Payload.ks _ := (FlatS.cons (c := .int .u8 x.kind) ⟨_, rfl⟩ (FlatS.cons (c := .int .u8 x.st) ⟨_, rfl⟩ (FlatS.cons (c := .int .u32 x.seq) ⟨_, rfl⟩ (FlatS.cons (c := .int .u32 x.val) ⟨_, rfl⟩ FlatS.nil))))
  simpa [Payload.cells] using h
theorem Payload.inj {x y : Payload} (h : x.cells = y.cells) : x = y := by
  cases x; cases y
  simpa [Payload.cells] using h
theorem Payload.of_flat {cs : List Value} (h0 : Flat Payload.ks cs) : ∃ x : Payload, x.Ok ∧ cs = x.cells := by
  obtain ⟨c0, r0, rfl, ⟨v0, rfl, w0⟩, h1⟩ := h0.uncons
  obtain ⟨c1, r1, rfl, ⟨v1, rfl, w1⟩, h2⟩ := h1.uncons
  obtain ⟨c2, r2, rfl, ⟨v2, rfl, w2⟩, h3⟩ := h2.uncons
  obtain ⟨c3, r3, rfl, ⟨v3, rfl, w3⟩, h4⟩ := h3.uncons
  obtain rfl := h4.unnil
  exact ⟨⟨v0, v1, v2, v3⟩, ⟨bounds_u8 w0, bounds_u8 w1, bounds_u32 w2, bounds_u32 w3⟩, by simp [Payload.cells]⟩
attribute [go_sem] Payload.len Payload.one Payload.get0 Payload.set0 Payload.get1 Payload.set1 Payload.get2 Payload.set2 Payload.get3 Payload.set3 Payload.cutAll Payload.layAll Payload.layS0 Payload.layS1 Payload.layS2 Payload.layS3
attribute [go_sem high] Payload.gea0 Payload.gee0 Payload.gea1 Payload.gee1 Payload.gea2 Payload.gee2 Payload.gea3 Payload.gee3

/-! ### Said: sennit/api.Said -/
structure Said where
  is : Bool
  at_ : Int
  p : Payload
deriving DecidableEq
def Said.cells (x : Said) : List Value := [.bool x.is, .int .i64 x.at_, .int .u8 x.p.kind, .int .u8 x.p.st, .int .u32 x.p.seq, .int .u32 x.p.val]
def Said.zero : Said := { is := false, at_ := 0, p := Payload.zero }
theorem Said.len (x : Said) : x.cells.length = 6 := rfl
theorem Said.one (x : Said) : allOne x.cells = true := rfl
theorem Said.get0 (x : Said) : x.cells[0]? = some (.bool x.is) := rfl
theorem Said.gea0 (x : Said) : x.cells.toArray[0]? = some (.bool x.is) := by rw [List.getElem?_toArray]; exact x.get0
theorem Said.gee0 (x : Said) (h : 0 < x.cells.length) : x.cells[0] = .bool x.is := (List.getElem_eq_iff h).2 x.get0
theorem Said.set0 (x : Said) (v : Bool) : x.cells.set 0 (.bool v) = ({ x with is := v } : Said).cells := rfl
theorem Said.get1 (x : Said) : x.cells[1]? = some (.int .i64 x.at_) := rfl
theorem Said.gea1 (x : Said) : x.cells.toArray[1]? = some (.int .i64 x.at_) := by rw [List.getElem?_toArray]; exact x.get1
theorem Said.gee1 (x : Said) (h : 1 < x.cells.length) : x.cells[1] = .int .i64 x.at_ := (List.getElem_eq_iff h).2 x.get1
theorem Said.set1 (x : Said) (v : Int) : x.cells.set 1 (.int .i64 v) = ({ x with at_ := v } : Said).cells := rfl
theorem Said.get2 (x : Said) : x.cells[2]? = some (.int .u8 x.p.kind) := rfl
theorem Said.gea2 (x : Said) : x.cells.toArray[2]? = some (.int .u8 x.p.kind) := by rw [List.getElem?_toArray]; exact x.get2
theorem Said.gee2 (x : Said) (h : 2 < x.cells.length) : x.cells[2] = .int .u8 x.p.kind := (List.getElem_eq_iff h).2 x.get2
theorem Said.set2 (x : Said) (v : Int) : x.cells.set 2 (.int .u8 v) = ({ x with p.kind := v } : Said).cells := rfl
theorem Said.get3 (x : Said) : x.cells[3]? = some (.int .u8 x.p.st) := rfl
theorem Said.gea3 (x : Said) : x.cells.toArray[3]? = some (.int .u8 x.p.st) := by rw [List.getElem?_toArray]; exact x.get3
theorem Said.gee3 (x : Said) (h : 3 < x.cells.length) : x.cells[3] = .int .u8 x.p.st := (List.getElem_eq_iff h).2 x.get3
theorem Said.set3 (x : Said) (v : Int) : x.cells.set 3 (.int .u8 v) = ({ x with p.st := v } : Said).cells := rfl
theorem Said.get4 (x : Said) : x.cells[4]? = some (.int .u32 x.p.seq) := rfl
theorem Said.gea4 (x : Said) : x.cells.toArray[4]? = some (.int .u32 x.p.seq) := by rw [List.getElem?_toArray]; exact x.get4
theorem Said.gee4 (x : Said) (h : 4 < x.cells.length) : x.cells[4] = .int .u32 x.p.seq := (List.getElem_eq_iff h).2 x.get4
theorem Said.set4 (x : Said) (v : Int) : x.cells.set 4 (.int .u32 v) = ({ x with p.seq := v } : Said).cells := rfl
theorem Said.get5 (x : Said) : x.cells[5]? = some (.int .u32 x.p.val) := rfl
theorem Said.gea5 (x : Said) : x.cells.toArray[5]? = some (.int .u32 x.p.val) := by rw [List.getElem?_toArray]; exact x.get5
theorem Said.gee5 (x : Said) (h : 5 < x.cells.length) : x.cells[5] = .int .u32 x.p.val := (List.getElem_eq_iff h).2 x.get5
theorem Said.set5 (x : Said) (v : Int) : x.cells.set 5 (.int .u32 v) = ({ x with p.val := v } : Said).cells := rfl
theorem Said.cut2_4 (x : Said) : cut x.cells 2 4 = x.p.cells := rfl
theorem Said.lay2_4 (x : Said) (y : Payload) : lay x.cells 2 y.cells = ({ x with p := y } : Said).cells := rfl
theorem Said.cutAll (x : Said) : cut x.cells 0 6 = x.cells := cut_all _ _ x.len
theorem Said.layAll (x y : Said) : lay x.cells 0 y.cells = y.cells := lay_all _ _ (by rw [x.len, y.len])
theorem Said.layS0 (x : Said) (v : Bool) : lay x.cells 0 [.bool v] = ({ x with is := v } : Said).cells := (lay_one _ _ _ (by rw [x.len]; omega)).trans (x.set0 v)
theorem Said.layS1 (x : Said) (v : Int) : lay x.cells 1 [.int .i64 v] = ({ x with at_ := v } : Said).cells := (lay_one _ _ _ (by rw [x.len]; omega)).trans (x.set1 v)
theorem Said.layS2 (x : Said) (v : Int) : lay x.cells 2 [.int .u8 v] = ({ x with p.kind := v } : Said).cells := (lay_one _ _ _ (by rw [x.len]; omega)).trans (x.set2 v)
theorem Said.layS3 (x : Said) (v : Int) : lay x.cells 3 [.int .u8 v] = ({ x with p.st := v } : Said).cells := (lay_one _ _ _ (by rw [x.len]; omega)).trans (x.set3 v)
theorem Said.layS4 (x : Said) (v : Int) : lay x.cells 4 [.int .u32 v] = ({ x with p.seq := v } : Said).cells := (lay_one _ _ _ (by rw [x.len]; omega)).trans (x.set4 v)
theorem Said.layS5 (x : Said) (v : Int) : lay x.cells 5 [.int .u32 v] = ({ x with p.val := v } : Said).cells := (lay_one _ _ _ (by rw [x.len]; omega)).trans (x.set5 v)
def Said.ks : List (Option IntKind) := none :: some .i64 :: (Payload.ks ++ ([]))
def Said.Ok (x : Said) : Prop := (-9223372036854775808 ≤ x.at_ ∧ x.at_ ≤ 9223372036854775807) ∧ x.p.Ok
theorem Said.shape (x : Said) : FlatS Said.ks x.cells := by
  have h : FlatS Said.ks _ := (FlatS.cons (c := .bool x.is) ⟨_, rfl⟩ (FlatS.cons (c := .int .i64 x.at_) ⟨_, rfl⟩ (x.p.shape.append (FlatS.nil))))
  simpa [Said.cells, Payload.cells] using h
theorem Said.inj {x y : Said} (h : x.cells = y.cells) : x = y := by
  cases x; cases y
  simp only [Said.cells, List.cons.injEq, Value.bool.injEq, Value.int.injEq, true_and, and_true] at h
  obtain ⟨h0, h1, h2, h3, h4, h5⟩ := h
  rename_i a0 a1 a2 b0 b1 b2
  have q0 : a0 = b0 := h0
  have q1 : a1 = b1 := h1
  have q2 : a2 = b2 := Payload.inj (by simp only [Payload.cells]; simp [h2, h3, h4, h5])
  simp [q0, q1, q2]
theorem Said.of_flat {cs : List Value} (h0 : Flat Said.ks cs) : ∃ x : Said, x.Ok ∧ cs = x.cells := by
  obtain ⟨c0, r0, rfl, ⟨v0, rfl⟩, h1⟩ := h0.uncons
  obtain ⟨c1, r1, rfl, ⟨v1, rfl, w1⟩, h2⟩ := h1.uncons
  obtain ⟨c2, r2, rfl, g2, h3⟩ := h2.unapp
  obtain ⟨v2, w2, rfl⟩ := Payload.of_flat g2
  obtain rfl := h3.unnil
  exact ⟨⟨v0, v1, v2⟩, ⟨bounds_i64 w1, w2⟩, by simp [Said.cells, Payload.cells]⟩
attribute [go_sem] Said.len Said.one Said.get0 Said.set0 Said.get1 Said.set1 Said.get2 Said.set2 Said.get3 Said.set3 Said.get4 Said.set4 Said.get5 Said.set5 Said.cut2_4 Said.lay2_4 Said.cutAll Said.layAll Said.layS0 Said.layS1 Said.layS2 Said.layS3 Said.layS4 Said.layS5
attribute [go_sem high] Said.gea0 Said.gee0 Said.gea1 Said.gee1 Said.gea2 Said.gee2 Said.gea3 Said.gee3 Said.gea4 Said.gee4 Said.gea5 Said.gee5

/-! ### View: sennit/api.View -/
structure View where
  inn : Vector Bool 8
  miss : Vector Int 8
  good : Vector Int 8
  score : Vector Int 8
  got : Vector Bool 8
  command : Int
  mode : Int
deriving DecidableEq
def View.cells (x : View) : List Value := x.inn.toList.map Value.bool ++ x.miss.toList.map (Value.int .u8) ++ x.good.toList.map (Value.int .u8) ++ x.score.toList.map (Value.int .u16) ++ x.got.toList.map Value.bool ++ [.int .i8 x.command, .int .u8 x.mode]
def View.zero : View := { inn := Vector.replicate 8 false, miss := Vector.replicate 8 0, good := Vector.replicate 8 0, score := Vector.replicate 8 0, got := Vector.replicate 8 false, command := 0, mode := 0 }
theorem View.len (x : View) : x.cells.length = 42 := by simp [View.cells]
theorem View.one (x : View) : allOne x.cells = true := by simp [View.cells, allOne, Value.oneCell']
theorem View.get40 (x : View) : x.cells[40]? = some (.int .i8 x.command) := by simp [View.cells]
theorem View.gea40 (x : View) : x.cells.toArray[40]? = some (.int .i8 x.command) := by rw [List.getElem?_toArray]; exact x.get40
theorem View.gee40 (x : View) (h : 40 < x.cells.length) : x.cells[40] = .int .i8 x.command := (List.getElem_eq_iff h).2 x.get40
theorem View.set40 (x : View) (v : Int) : x.cells.set 40 (.int .i8 v) = ({ x with command := v } : View).cells := by simp [View.cells]
theorem View.get41 (x : View) : x.cells[41]? = some (.int .u8 x.mode) := by simp [View.cells]
theorem View.gea41 (x : View) : x.cells.toArray[41]? = some (.int .u8 x.mode) := by rw [List.getElem?_toArray]; exact x.get41
theorem View.gee41 (x : View) (h : 41 < x.cells.length) : x.cells[41] = .int .u8 x.mode := (List.getElem_eq_iff h).2 x.get41
theorem View.set41 (x : View) (v : Int) : x.cells.set 41 (.int .u8 v) = ({ x with mode := v } : View).cells := by simp [View.cells]
theorem View.spl_inn (x : View) : x.cells = ([]) ++ ((x.inn.toList.map Value.bool) ++ (x.miss.toList.map (Value.int .u8) ++ x.good.toList.map (Value.int .u8) ++ x.score.toList.map (Value.int .u16) ++ x.got.toList.map Value.bool ++ [.int .i8 x.command, .int .u8 x.mode])) := by simp [View.cells]
theorem View.getA_inn (x : View) (k : Nat) (h : k < 8) : x.cells[k]? = some (.bool (vat false x.inn k)) := by
  have := get_in (x.spl_inn) (o := 0) (k := k) (by simp) (by simpa using h); rw [vat_get false Value.bool x.inn k h] at this; simpa using this
theorem View.geaA_inn (x : View) (k : Nat) (h : k < 8) : x.cells.toArray[k]? = some (.bool (vat false x.inn k)) := by rw [List.getElem?_toArray]; exact x.getA_inn k h
theorem View.get0 (x : View) : x.cells[0]? = some (.bool (vat false x.inn 0)) := View.getA_inn x 0 (by omega)
theorem View.gea0 (x : View) : x.cells.toArray[0]? = some (.bool (vat false x.inn 0)) := by rw [List.getElem?_toArray]; exact x.get0
theorem View.get1 (x : View) : x.cells[1]? = some (.bool (vat false x.inn 1)) := View.getA_inn x 1 (by omega)
theorem View.gea1 (x : View) : x.cells.toArray[1]? = some (.bool (vat false x.inn 1)) := by rw [List.getElem?_toArray]; exact x.get1
theorem View.get2 (x : View) : x.cells[2]? = some (.bool (vat false x.inn 2)) := View.getA_inn x 2 (by omega)
theorem View.gea2 (x : View) : x.cells.toArray[2]? = some (.bool (vat false x.inn 2)) := by rw [List.getElem?_toArray]; exact x.get2
theorem View.get3 (x : View) : x.cells[3]? = some (.bool (vat false x.inn 3)) := View.getA_inn x 3 (by omega)
theorem View.gea3 (x : View) : x.cells.toArray[3]? = some (.bool (vat false x.inn 3)) := by rw [List.getElem?_toArray]; exact x.get3
theorem View.get4 (x : View) : x.cells[4]? = some (.bool (vat false x.inn 4)) := View.getA_inn x 4 (by omega)
theorem View.gea4 (x : View) : x.cells.toArray[4]? = some (.bool (vat false x.inn 4)) := by rw [List.getElem?_toArray]; exact x.get4
theorem View.get5 (x : View) : x.cells[5]? = some (.bool (vat false x.inn 5)) := View.getA_inn x 5 (by omega)
theorem View.gea5 (x : View) : x.cells.toArray[5]? = some (.bool (vat false x.inn 5)) := by rw [List.getElem?_toArray]; exact x.get5
theorem View.get6 (x : View) : x.cells[6]? = some (.bool (vat false x.inn 6)) := View.getA_inn x 6 (by omega)
theorem View.gea6 (x : View) : x.cells.toArray[6]? = some (.bool (vat false x.inn 6)) := by rw [List.getElem?_toArray]; exact x.get6
theorem View.get7 (x : View) : x.cells[7]? = some (.bool (vat false x.inn 7)) := View.getA_inn x 7 (by omega)
theorem View.gea7 (x : View) : x.cells.toArray[7]? = some (.bool (vat false x.inn 7)) := by rw [List.getElem?_toArray]; exact x.get7
theorem View.setA_inn (x : View) (k : Nat) (v : Bool) (h : k < 8) : x.cells.set (k) (.bool v) = ({ x with inn := vup x.inn k v } : View).cells := by
  have := set_in (x.spl_inn) (o := 0) (k := k) (by simp) (by simpa using h) (.bool v); rw [vup_set Value.bool x.inn k v] at this; rw [View.spl_inn ({ x with inn := vup x.inn k v } : View)]; simpa using this
theorem View.set0 (x : View) (v : Bool) : x.cells.set 0 (.bool v) = ({ x with inn := vup x.inn 0 v } : View).cells := View.setA_inn x 0 v (by omega)
theorem View.set1 (x : View) (v : Bool) : x.cells.set 1 (.bool v) = ({ x with inn := vup x.inn 1 v } : View).cells := View.setA_inn x 1 v (by omega)
theorem View.set2 (x : View) (v : Bool) : x.cells.set 2 (.bool v) = ({ x with inn := vup x.inn 2 v } : View).cells := View.setA_inn x 2 v (by omega)
theorem View.set3 (x : View) (v : Bool) : x.cells.set 3 (.bool v) = ({ x with inn := vup x.inn 3 v } : View).cells := View.setA_inn x 3 v (by omega)
theorem View.set4 (x : View) (v : Bool) : x.cells.set 4 (.bool v) = ({ x with inn := vup x.inn 4 v } : View).cells := View.setA_inn x 4 v (by omega)
theorem View.set5 (x : View) (v : Bool) : x.cells.set 5 (.bool v) = ({ x with inn := vup x.inn 5 v } : View).cells := View.setA_inn x 5 v (by omega)
theorem View.set6 (x : View) (v : Bool) : x.cells.set 6 (.bool v) = ({ x with inn := vup x.inn 6 v } : View).cells := View.setA_inn x 6 v (by omega)
theorem View.set7 (x : View) (v : Bool) : x.cells.set 7 (.bool v) = ({ x with inn := vup x.inn 7 v } : View).cells := View.setA_inn x 7 v (by omega)
theorem View.spl_miss (x : View) : x.cells = (x.inn.toList.map Value.bool) ++ ((x.miss.toList.map (Value.int .u8)) ++ (x.good.toList.map (Value.int .u8) ++ x.score.toList.map (Value.int .u16) ++ x.got.toList.map Value.bool ++ [.int .i8 x.command, .int .u8 x.mode])) := by simp [View.cells]
theorem View.getA_miss (x : View) (k : Nat) (h : k < 8) : x.cells[8 + k]? = some (.int .u8 (vat 0 x.miss k)) := by
  have := get_in (x.spl_miss) (o := 8) (k := k) (by simp) (by simpa using h); rw [vat_get 0 (Value.int .u8) x.miss k h] at this; simpa using this
theorem View.geaA_miss (x : View) (k : Nat) (h : k < 8) : x.cells.toArray[8 + k]? = some (.int .u8 (vat 0 x.miss k)) := by rw [List.getElem?_toArray]; exact x.getA_miss k h
theorem View.get8 (x : View) : x.cells[8]? = some (.int .u8 (vat 0 x.miss 0)) := View.getA_miss x 0 (by omega)
theorem View.gea8 (x : View) : x.cells.toArray[8]? = some (.int .u8 (vat 0 x.miss 0)) := by rw [List.getElem?_toArray]; exact x.get8
theorem View.get9 (x : View) : x.cells[9]? = some (.int .u8 (vat 0 x.miss 1)) := View.getA_miss x 1 (by omega)
theorem View.gea9 (x : View) : x.cells.toArray[9]? = some (.int .u8 (vat 0 x.miss 1)) := by rw [List.getElem?_toArray]; exact x.get9
theorem View.get10 (x : View) : x.cells[10]? = some (.int .u8 (vat 0 x.miss 2)) := View.getA_miss x 2 (by omega)
theorem View.gea10 (x : View) : x.cells.toArray[10]? = some (.int .u8 (vat 0 x.miss 2)) := by rw [List.getElem?_toArray]; exact x.get10
theorem View.get11 (x : View) : x.cells[11]? = some (.int .u8 (vat 0 x.miss 3)) := View.getA_miss x 3 (by omega)
theorem View.gea11 (x : View) : x.cells.toArray[11]? = some (.int .u8 (vat 0 x.miss 3)) := by rw [List.getElem?_toArray]; exact x.get11
theorem View.get12 (x : View) : x.cells[12]? = some (.int .u8 (vat 0 x.miss 4)) := View.getA_miss x 4 (by omega)
theorem View.gea12 (x : View) : x.cells.toArray[12]? = some (.int .u8 (vat 0 x.miss 4)) := by rw [List.getElem?_toArray]; exact x.get12
theorem View.get13 (x : View) : x.cells[13]? = some (.int .u8 (vat 0 x.miss 5)) := View.getA_miss x 5 (by omega)
theorem View.gea13 (x : View) : x.cells.toArray[13]? = some (.int .u8 (vat 0 x.miss 5)) := by rw [List.getElem?_toArray]; exact x.get13
theorem View.get14 (x : View) : x.cells[14]? = some (.int .u8 (vat 0 x.miss 6)) := View.getA_miss x 6 (by omega)
theorem View.gea14 (x : View) : x.cells.toArray[14]? = some (.int .u8 (vat 0 x.miss 6)) := by rw [List.getElem?_toArray]; exact x.get14
theorem View.get15 (x : View) : x.cells[15]? = some (.int .u8 (vat 0 x.miss 7)) := View.getA_miss x 7 (by omega)
theorem View.gea15 (x : View) : x.cells.toArray[15]? = some (.int .u8 (vat 0 x.miss 7)) := by rw [List.getElem?_toArray]; exact x.get15
theorem View.setA_miss (x : View) (k : Nat) (v : Int) (h : k < 8) : x.cells.set (8 + k) (.int .u8 v) = ({ x with miss := vup x.miss k v } : View).cells := by
  have := set_in (x.spl_miss) (o := 8) (k := k) (by simp) (by simpa using h) (.int .u8 v); rw [vup_set (Value.int .u8) x.miss k v] at this; rw [View.spl_miss ({ x with miss := vup x.miss k v } : View)]; simpa using this
theorem View.set8 (x : View) (v : Int) : x.cells.set 8 (.int .u8 v) = ({ x with miss := vup x.miss 0 v } : View).cells := View.setA_miss x 0 v (by omega)
theorem View.set9 (x : View) (v : Int) : x.cells.set 9 (.int .u8 v) = ({ x with miss := vup x.miss 1 v } : View).cells := View.setA_miss x 1 v (by omega)
theorem View.set10 (x : View) (v : Int) : x.cells.set 10 (.int .u8 v) = ({ x with miss := vup x.miss 2 v } : View).cells := View.setA_miss x 2 v (by omega)
theorem View.set11 (x : View) (v : Int) : x.cells.set 11 (.int .u8 v) = ({ x with miss := vup x.miss 3 v } : View).cells := View.setA_miss x 3 v (by omega)
theorem View.set12 (x : View) (v : Int) : x.cells.set 12 (.int .u8 v) = ({ x with miss := vup x.miss 4 v } : View).cells := View.setA_miss x 4 v (by omega)
theorem View.set13 (x : View) (v : Int) : x.cells.set 13 (.int .u8 v) = ({ x with miss := vup x.miss 5 v } : View).cells := View.setA_miss x 5 v (by omega)
theorem View.set14 (x : View) (v : Int) : x.cells.set 14 (.int .u8 v) = ({ x with miss := vup x.miss 6 v } : View).cells := View.setA_miss x 6 v (by omega)
theorem View.set15 (x : View) (v : Int) : x.cells.set 15 (.int .u8 v) = ({ x with miss := vup x.miss 7 v } : View).cells := View.setA_miss x 7 v (by omega)
theorem View.spl_good (x : View) : x.cells = (x.inn.toList.map Value.bool ++ x.miss.toList.map (Value.int .u8)) ++ ((x.good.toList.map (Value.int .u8)) ++ (x.score.toList.map (Value.int .u16) ++ x.got.toList.map Value.bool ++ [.int .i8 x.command, .int .u8 x.mode])) := by simp [View.cells]
theorem View.getA_good (x : View) (k : Nat) (h : k < 8) : x.cells[16 + k]? = some (.int .u8 (vat 0 x.good k)) := by
  have := get_in (x.spl_good) (o := 16) (k := k) (by simp) (by simpa using h); rw [vat_get 0 (Value.int .u8) x.good k h] at this; simpa using this
theorem View.geaA_good (x : View) (k : Nat) (h : k < 8) : x.cells.toArray[16 + k]? = some (.int .u8 (vat 0 x.good k)) := by rw [List.getElem?_toArray]; exact x.getA_good k h
theorem View.get16 (x : View) : x.cells[16]? = some (.int .u8 (vat 0 x.good 0)) := View.getA_good x 0 (by omega)
theorem View.gea16 (x : View) : x.cells.toArray[16]? = some (.int .u8 (vat 0 x.good 0)) := by rw [List.getElem?_toArray]; exact x.get16
theorem View.get17 (x : View) : x.cells[17]? = some (.int .u8 (vat 0 x.good 1)) := View.getA_good x 1 (by omega)
theorem View.gea17 (x : View) : x.cells.toArray[17]? = some (.int .u8 (vat 0 x.good 1)) := by rw [List.getElem?_toArray]; exact x.get17
theorem View.get18 (x : View) : x.cells[18]? = some (.int .u8 (vat 0 x.good 2)) := View.getA_good x 2 (by omega)
theorem View.gea18 (x : View) : x.cells.toArray[18]? = some (.int .u8 (vat 0 x.good 2)) := by rw [List.getElem?_toArray]; exact x.get18
theorem View.get19 (x : View) : x.cells[19]? = some (.int .u8 (vat 0 x.good 3)) := View.getA_good x 3 (by omega)
theorem View.gea19 (x : View) : x.cells.toArray[19]? = some (.int .u8 (vat 0 x.good 3)) := by rw [List.getElem?_toArray]; exact x.get19
theorem View.get20 (x : View) : x.cells[20]? = some (.int .u8 (vat 0 x.good 4)) := View.getA_good x 4 (by omega)
theorem View.gea20 (x : View) : x.cells.toArray[20]? = some (.int .u8 (vat 0 x.good 4)) := by rw [List.getElem?_toArray]; exact x.get20
theorem View.get21 (x : View) : x.cells[21]? = some (.int .u8 (vat 0 x.good 5)) := View.getA_good x 5 (by omega)
theorem View.gea21 (x : View) : x.cells.toArray[21]? = some (.int .u8 (vat 0 x.good 5)) := by rw [List.getElem?_toArray]; exact x.get21
theorem View.get22 (x : View) : x.cells[22]? = some (.int .u8 (vat 0 x.good 6)) := View.getA_good x 6 (by omega)
theorem View.gea22 (x : View) : x.cells.toArray[22]? = some (.int .u8 (vat 0 x.good 6)) := by rw [List.getElem?_toArray]; exact x.get22
theorem View.get23 (x : View) : x.cells[23]? = some (.int .u8 (vat 0 x.good 7)) := View.getA_good x 7 (by omega)
theorem View.gea23 (x : View) : x.cells.toArray[23]? = some (.int .u8 (vat 0 x.good 7)) := by rw [List.getElem?_toArray]; exact x.get23
theorem View.setA_good (x : View) (k : Nat) (v : Int) (h : k < 8) : x.cells.set (16 + k) (.int .u8 v) = ({ x with good := vup x.good k v } : View).cells := by
  have := set_in (x.spl_good) (o := 16) (k := k) (by simp) (by simpa using h) (.int .u8 v); rw [vup_set (Value.int .u8) x.good k v] at this; rw [View.spl_good ({ x with good := vup x.good k v } : View)]; simpa using this
theorem View.set16 (x : View) (v : Int) : x.cells.set 16 (.int .u8 v) = ({ x with good := vup x.good 0 v } : View).cells := View.setA_good x 0 v (by omega)
theorem View.set17 (x : View) (v : Int) : x.cells.set 17 (.int .u8 v) = ({ x with good := vup x.good 1 v } : View).cells := View.setA_good x 1 v (by omega)
theorem View.set18 (x : View) (v : Int) : x.cells.set 18 (.int .u8 v) = ({ x with good := vup x.good 2 v } : View).cells := View.setA_good x 2 v (by omega)
theorem View.set19 (x : View) (v : Int) : x.cells.set 19 (.int .u8 v) = ({ x with good := vup x.good 3 v } : View).cells := View.setA_good x 3 v (by omega)
theorem View.set20 (x : View) (v : Int) : x.cells.set 20 (.int .u8 v) = ({ x with good := vup x.good 4 v } : View).cells := View.setA_good x 4 v (by omega)
theorem View.set21 (x : View) (v : Int) : x.cells.set 21 (.int .u8 v) = ({ x with good := vup x.good 5 v } : View).cells := View.setA_good x 5 v (by omega)
theorem View.set22 (x : View) (v : Int) : x.cells.set 22 (.int .u8 v) = ({ x with good := vup x.good 6 v } : View).cells := View.setA_good x 6 v (by omega)
theorem View.set23 (x : View) (v : Int) : x.cells.set 23 (.int .u8 v) = ({ x with good := vup x.good 7 v } : View).cells := View.setA_good x 7 v (by omega)
theorem View.spl_score (x : View) : x.cells = (x.inn.toList.map Value.bool ++ x.miss.toList.map (Value.int .u8) ++ x.good.toList.map (Value.int .u8)) ++ ((x.score.toList.map (Value.int .u16)) ++ (x.got.toList.map Value.bool ++ [.int .i8 x.command, .int .u8 x.mode])) := by simp [View.cells]
theorem View.getA_score (x : View) (k : Nat) (h : k < 8) : x.cells[24 + k]? = some (.int .u16 (vat 0 x.score k)) := by
  have := get_in (x.spl_score) (o := 24) (k := k) (by simp) (by simpa using h); rw [vat_get 0 (Value.int .u16) x.score k h] at this; simpa using this
theorem View.geaA_score (x : View) (k : Nat) (h : k < 8) : x.cells.toArray[24 + k]? = some (.int .u16 (vat 0 x.score k)) := by rw [List.getElem?_toArray]; exact x.getA_score k h
theorem View.get24 (x : View) : x.cells[24]? = some (.int .u16 (vat 0 x.score 0)) := View.getA_score x 0 (by omega)
theorem View.gea24 (x : View) : x.cells.toArray[24]? = some (.int .u16 (vat 0 x.score 0)) := by rw [List.getElem?_toArray]; exact x.get24
theorem View.get25 (x : View) : x.cells[25]? = some (.int .u16 (vat 0 x.score 1)) := View.getA_score x 1 (by omega)
theorem View.gea25 (x : View) : x.cells.toArray[25]? = some (.int .u16 (vat 0 x.score 1)) := by rw [List.getElem?_toArray]; exact x.get25
theorem View.get26 (x : View) : x.cells[26]? = some (.int .u16 (vat 0 x.score 2)) := View.getA_score x 2 (by omega)
theorem View.gea26 (x : View) : x.cells.toArray[26]? = some (.int .u16 (vat 0 x.score 2)) := by rw [List.getElem?_toArray]; exact x.get26
theorem View.get27 (x : View) : x.cells[27]? = some (.int .u16 (vat 0 x.score 3)) := View.getA_score x 3 (by omega)
theorem View.gea27 (x : View) : x.cells.toArray[27]? = some (.int .u16 (vat 0 x.score 3)) := by rw [List.getElem?_toArray]; exact x.get27
theorem View.get28 (x : View) : x.cells[28]? = some (.int .u16 (vat 0 x.score 4)) := View.getA_score x 4 (by omega)
theorem View.gea28 (x : View) : x.cells.toArray[28]? = some (.int .u16 (vat 0 x.score 4)) := by rw [List.getElem?_toArray]; exact x.get28
theorem View.get29 (x : View) : x.cells[29]? = some (.int .u16 (vat 0 x.score 5)) := View.getA_score x 5 (by omega)
theorem View.gea29 (x : View) : x.cells.toArray[29]? = some (.int .u16 (vat 0 x.score 5)) := by rw [List.getElem?_toArray]; exact x.get29
theorem View.get30 (x : View) : x.cells[30]? = some (.int .u16 (vat 0 x.score 6)) := View.getA_score x 6 (by omega)
theorem View.gea30 (x : View) : x.cells.toArray[30]? = some (.int .u16 (vat 0 x.score 6)) := by rw [List.getElem?_toArray]; exact x.get30
theorem View.get31 (x : View) : x.cells[31]? = some (.int .u16 (vat 0 x.score 7)) := View.getA_score x 7 (by omega)
theorem View.gea31 (x : View) : x.cells.toArray[31]? = some (.int .u16 (vat 0 x.score 7)) := by rw [List.getElem?_toArray]; exact x.get31
theorem View.setA_score (x : View) (k : Nat) (v : Int) (h : k < 8) : x.cells.set (24 + k) (.int .u16 v) = ({ x with score := vup x.score k v } : View).cells := by
  have := set_in (x.spl_score) (o := 24) (k := k) (by simp) (by simpa using h) (.int .u16 v); rw [vup_set (Value.int .u16) x.score k v] at this; rw [View.spl_score ({ x with score := vup x.score k v } : View)]; simpa using this
theorem View.set24 (x : View) (v : Int) : x.cells.set 24 (.int .u16 v) = ({ x with score := vup x.score 0 v } : View).cells := View.setA_score x 0 v (by omega)
theorem View.set25 (x : View) (v : Int) : x.cells.set 25 (.int .u16 v) = ({ x with score := vup x.score 1 v } : View).cells := View.setA_score x 1 v (by omega)
theorem View.set26 (x : View) (v : Int) : x.cells.set 26 (.int .u16 v) = ({ x with score := vup x.score 2 v } : View).cells := View.setA_score x 2 v (by omega)
theorem View.set27 (x : View) (v : Int) : x.cells.set 27 (.int .u16 v) = ({ x with score := vup x.score 3 v } : View).cells := View.setA_score x 3 v (by omega)
theorem View.set28 (x : View) (v : Int) : x.cells.set 28 (.int .u16 v) = ({ x with score := vup x.score 4 v } : View).cells := View.setA_score x 4 v (by omega)
theorem View.set29 (x : View) (v : Int) : x.cells.set 29 (.int .u16 v) = ({ x with score := vup x.score 5 v } : View).cells := View.setA_score x 5 v (by omega)
theorem View.set30 (x : View) (v : Int) : x.cells.set 30 (.int .u16 v) = ({ x with score := vup x.score 6 v } : View).cells := View.setA_score x 6 v (by omega)
theorem View.set31 (x : View) (v : Int) : x.cells.set 31 (.int .u16 v) = ({ x with score := vup x.score 7 v } : View).cells := View.setA_score x 7 v (by omega)
theorem View.spl_got (x : View) : x.cells = (x.inn.toList.map Value.bool ++ x.miss.toList.map (Value.int .u8) ++ x.good.toList.map (Value.int .u8) ++ x.score.toList.map (Value.int .u16)) ++ ((x.got.toList.map Value.bool) ++ ([.int .i8 x.command, .int .u8 x.mode])) := by simp [View.cells]
theorem View.getA_got (x : View) (k : Nat) (h : k < 8) : x.cells[32 + k]? = some (.bool (vat false x.got k)) := by
  have := get_in (x.spl_got) (o := 32) (k := k) (by simp) (by simpa using h); rw [vat_get false Value.bool x.got k h] at this; simpa using this
theorem View.geaA_got (x : View) (k : Nat) (h : k < 8) : x.cells.toArray[32 + k]? = some (.bool (vat false x.got k)) := by rw [List.getElem?_toArray]; exact x.getA_got k h
theorem View.get32 (x : View) : x.cells[32]? = some (.bool (vat false x.got 0)) := View.getA_got x 0 (by omega)
theorem View.gea32 (x : View) : x.cells.toArray[32]? = some (.bool (vat false x.got 0)) := by rw [List.getElem?_toArray]; exact x.get32
theorem View.get33 (x : View) : x.cells[33]? = some (.bool (vat false x.got 1)) := View.getA_got x 1 (by omega)
theorem View.gea33 (x : View) : x.cells.toArray[33]? = some (.bool (vat false x.got 1)) := by rw [List.getElem?_toArray]; exact x.get33
theorem View.get34 (x : View) : x.cells[34]? = some (.bool (vat false x.got 2)) := View.getA_got x 2 (by omega)
theorem View.gea34 (x : View) : x.cells.toArray[34]? = some (.bool (vat false x.got 2)) := by rw [List.getElem?_toArray]; exact x.get34
theorem View.get35 (x : View) : x.cells[35]? = some (.bool (vat false x.got 3)) := View.getA_got x 3 (by omega)
theorem View.gea35 (x : View) : x.cells.toArray[35]? = some (.bool (vat false x.got 3)) := by rw [List.getElem?_toArray]; exact x.get35
theorem View.get36 (x : View) : x.cells[36]? = some (.bool (vat false x.got 4)) := View.getA_got x 4 (by omega)
theorem View.gea36 (x : View) : x.cells.toArray[36]? = some (.bool (vat false x.got 4)) := by rw [List.getElem?_toArray]; exact x.get36
theorem View.get37 (x : View) : x.cells[37]? = some (.bool (vat false x.got 5)) := View.getA_got x 5 (by omega)
theorem View.gea37 (x : View) : x.cells.toArray[37]? = some (.bool (vat false x.got 5)) := by rw [List.getElem?_toArray]; exact x.get37
theorem View.get38 (x : View) : x.cells[38]? = some (.bool (vat false x.got 6)) := View.getA_got x 6 (by omega)
theorem View.gea38 (x : View) : x.cells.toArray[38]? = some (.bool (vat false x.got 6)) := by rw [List.getElem?_toArray]; exact x.get38
theorem View.get39 (x : View) : x.cells[39]? = some (.bool (vat false x.got 7)) := View.getA_got x 7 (by omega)
theorem View.gea39 (x : View) : x.cells.toArray[39]? = some (.bool (vat false x.got 7)) := by rw [List.getElem?_toArray]; exact x.get39
theorem View.setA_got (x : View) (k : Nat) (v : Bool) (h : k < 8) : x.cells.set (32 + k) (.bool v) = ({ x with got := vup x.got k v } : View).cells := by
  have := set_in (x.spl_got) (o := 32) (k := k) (by simp) (by simpa using h) (.bool v); rw [vup_set Value.bool x.got k v] at this; rw [View.spl_got ({ x with got := vup x.got k v } : View)]; simpa using this
theorem View.set32 (x : View) (v : Bool) : x.cells.set 32 (.bool v) = ({ x with got := vup x.got 0 v } : View).cells := View.setA_got x 0 v (by omega)
theorem View.set33 (x : View) (v : Bool) : x.cells.set 33 (.bool v) = ({ x with got := vup x.got 1 v } : View).cells := View.setA_got x 1 v (by omega)
theorem View.set34 (x : View) (v : Bool) : x.cells.set 34 (.bool v) = ({ x with got := vup x.got 2 v } : View).cells := View.setA_got x 2 v (by omega)
theorem View.set35 (x : View) (v : Bool) : x.cells.set 35 (.bool v) = ({ x with got := vup x.got 3 v } : View).cells := View.setA_got x 3 v (by omega)
theorem View.set36 (x : View) (v : Bool) : x.cells.set 36 (.bool v) = ({ x with got := vup x.got 4 v } : View).cells := View.setA_got x 4 v (by omega)
theorem View.set37 (x : View) (v : Bool) : x.cells.set 37 (.bool v) = ({ x with got := vup x.got 5 v } : View).cells := View.setA_got x 5 v (by omega)
theorem View.set38 (x : View) (v : Bool) : x.cells.set 38 (.bool v) = ({ x with got := vup x.got 6 v } : View).cells := View.setA_got x 6 v (by omega)
theorem View.set39 (x : View) (v : Bool) : x.cells.set 39 (.bool v) = ({ x with got := vup x.got 7 v } : View).cells := View.setA_got x 7 v (by omega)
theorem View.cutAll (x : View) : cut x.cells 0 42 = x.cells := cut_all _ _ x.len
theorem View.layAll (x y : View) : lay x.cells 0 y.cells = y.cells := lay_all _ _ (by rw [x.len, y.len])
theorem View.layS40 (x : View) (v : Int) : lay x.cells 40 [.int .i8 v] = ({ x with command := v } : View).cells := (lay_one _ _ _ (by rw [x.len]; omega)).trans (x.set40 v)
theorem View.layS41 (x : View) (v : Int) : lay x.cells 41 [.int .u8 v] = ({ x with mode := v } : View).cells := (lay_one _ _ _ (by rw [x.len]; omega)).trans (x.set41 v)
def View.ks : List (Option IntKind) := (List.replicate 8 none ++ ((List.replicate 8 (some .u8) ++ ((List.replicate 8 (some .u8) ++ ((List.replicate 8 (some .u16) ++ ((List.replicate 8 none ++ (some .i8 :: some .u8 :: []))))))))))
def View.Ok (x : View) : Prop := (∀ k, k < 8 → 0 ≤ vat 0 x.miss k ∧ vat 0 x.miss k ≤ 255) ∧ (∀ k, k < 8 → 0 ≤ vat 0 x.good k ∧ vat 0 x.good k ≤ 255) ∧ (∀ k, k < 8 → 0 ≤ vat 0 x.score k ∧ vat 0 x.score k ≤ 65535) ∧ (-128 ≤ x.command ∧ x.command ≤ 127) ∧ (0 ≤ x.mode ∧ x.mode ≤ 255)
theorem View.shape (x : View) : FlatS View.ks x.cells := by
  have h : FlatS View.ks _ := ((FlatS.rep (k := none) (f := Value.bool) (fun a => (⟨a, rfl⟩ : ∃ b, Value.bool a = Value.bool b)) x.inn.toList (n := 8) (by simp)).append (((FlatS.rep (k := some .u8) (f := (Value.int .u8)) (fun a => (⟨a, rfl⟩ : ∃ b, Value.int .u8 a = Value.int .u8 b)) x.miss.toList (n := 8) (by simp)).append (((FlatS.rep (k := some .u8) (f := (Value.int .u8)) (fun a => (⟨a, rfl⟩ : ∃ b, Value.int .u8 a = Value.int .u8 b)) x.good.toList (n := 8) (by simp)).append (((FlatS.rep (k := some .u16) (f := (Value.int .u16)) (fun a => (⟨a, rfl⟩ : ∃ b, Value.int .u16 a = Value.int .u16 b)) x.score.toList (n := 8) (by simp)).append (((FlatS.rep (k := none) (f := Value.bool) (fun a => (⟨a, rfl⟩ : ∃ b, Value.bool a = Value.bool b)) x.got.toList (n := 8) (by simp)).append ((FlatS.cons (c := .int .i8 x.command) ⟨_, rfl⟩ (FlatS.cons (c := .int .u8 x.mode) ⟨_, rfl⟩ FlatS.nil))))))))))))
  simpa [View.cells] using h
theorem View.inj {x y : View} (h : x.cells = y.cells) : x = y := by
  cases x; cases y
  rename_i a0 a1 a2 a3 a4 a5 a6 b0 b1 b2 b3 b4 b5 b6
  simp only [View.cells, List.append_assoc, List.cons_append, List.nil_append] at h
  obtain ⟨h0, h⟩ := List.append_inj h (by simp)
  have q0 : a0 = b0 := vmap_inj (f := Value.bool) (fun _ _ e => by injection e) h0
  obtain ⟨h1, h⟩ := List.append_inj h (by simp)
  have q1 : a1 = b1 := vmap_inj (f := (Value.int .u8)) (fun _ _ e => by injection e) h1
  obtain ⟨h2, h⟩ := List.append_inj h (by simp)
  have q2 : a2 = b2 := vmap_inj (f := (Value.int .u8)) (fun _ _ e => by injection e) h2
  obtain ⟨h3, h⟩ := List.append_inj h (by simp)
  have q3 : a3 = b3 := vmap_inj (f := (Value.int .u16)) (fun _ _ e => by injection e) h3
  obtain ⟨h4, h⟩ := List.append_inj h (by simp)
  have q4 : a4 = b4 := vmap_inj (f := Value.bool) (fun _ _ e => by injection e) h4
  obtain ⟨g5, h⟩ := List.cons.inj h
  have q5 : a5 = b5 := by injection g5
  obtain ⟨g6, h⟩ := List.cons.inj h
  have q6 : a6 = b6 := by injection g6
  simp [q0, q1, q2, q3, q4, q5, q6]
theorem View.of_flat {cs : List Value} (h0 : Flat View.ks cs) : ∃ x : View, x.Ok ∧ cs = x.cells := by
  obtain ⟨c0, r0, rfl, g0, h1⟩ := h0.unapp
  obtain ⟨v0, rfl⟩ := g0.unrepB
  obtain ⟨c1, r1, rfl, g1, h2⟩ := h1.unapp
  obtain ⟨v1, rfl, w1⟩ := g1.unrepI
  obtain ⟨c2, r2, rfl, g2, h3⟩ := h2.unapp
  obtain ⟨v2, rfl, w2⟩ := g2.unrepI
  obtain ⟨c3, r3, rfl, g3, h4⟩ := h3.unapp
  obtain ⟨v3, rfl, w3⟩ := g3.unrepI
  obtain ⟨c4, r4, rfl, g4, h5⟩ := h4.unapp
  obtain ⟨v4, rfl⟩ := g4.unrepB
  obtain ⟨c5, r5, rfl, ⟨v5, rfl, w5⟩, h6⟩ := h5.uncons
  obtain ⟨c6, r6, rfl, ⟨v6, rfl, w6⟩, h7⟩ := h6.uncons
  obtain rfl := h7.unnil
  exact ⟨⟨v0, v1, v2, v3, v4, v5, v6⟩, ⟨fun k hk => bounds_u8 (w1 k hk), fun k hk => bounds_u8 (w2 k hk), fun k hk => bounds_u16 (w3 k hk), bounds_i8 w5, bounds_u8 w6⟩, by simp [View.cells]⟩
attribute [go_sem] View.len View.one View.get40 View.set40 View.get41 View.set41 View.getA_inn View.get0 View.get1 View.get2 View.get3 View.get4 View.get5 View.get6 View.get7 View.setA_inn View.set0 View.set1 View.set2 View.set3 View.set4 View.set5 View.set6 View.set7
attribute [go_sem] View.getA_miss View.get8 View.get9 View.get10 View.get11 View.get12 View.get13 View.get14 View.get15 View.setA_miss View.set8 View.set9 View.set10 View.set11 View.set12 View.set13 View.set14 View.set15 View.getA_good View.get16 View.get17 View.get18 View.get19 View.get20
attribute [go_sem] View.get21 View.get22 View.get23 View.setA_good View.set16 View.set17 View.set18 View.set19 View.set20 View.set21 View.set22 View.set23 View.getA_score View.get24 View.get25 View.get26 View.get27 View.get28 View.get29 View.get30 View.get31 View.setA_score View.set24 View.set25
attribute [go_sem] View.set26 View.set27 View.set28 View.set29 View.set30 View.set31 View.getA_got View.get32 View.get33 View.get34 View.get35 View.get36 View.get37 View.get38 View.get39 View.setA_got View.set32 View.set33 View.set34 View.set35 View.set36 View.set37 View.set38 View.set39
attribute [go_sem] View.cutAll View.layAll View.layS40 View.layS41
attribute [go_sem high] View.gea40 View.gee40 View.gea41 View.gee41 View.geaA_inn View.gea0 View.gea1 View.gea2 View.gea3 View.gea4 View.gea5 View.gea6 View.gea7 View.geaA_miss View.gea8 View.gea9 View.gea10 View.gea11 View.gea12 View.gea13 View.gea14 View.gea15 View.geaA_good View.gea16
attribute [go_sem high] View.gea17 View.gea18 View.gea19 View.gea20 View.gea21 View.gea22 View.gea23 View.geaA_score View.gea24 View.gea25 View.gea26 View.gea27 View.gea28 View.gea29 View.gea30 View.gea31 View.geaA_got View.gea32 View.gea33 View.gea34 View.gea35 View.gea36 View.gea37 View.gea38
attribute [go_sem high] View.gea39

/-! ### Cell: sennit/api.Cell -/
structure Cell where
  age : Int
  offer : Said
  report : Said
  view : View
deriving DecidableEq
def Cell.cells (x : Cell) : List Value := [.int .i64 x.age, .bool x.offer.is, .int .i64 x.offer.at_, .int .u8 x.offer.p.kind, .int .u8 x.offer.p.st, .int .u32 x.offer.p.seq, .int .u32 x.offer.p.val, .bool x.report.is, .int .i64 x.report.at_, .int .u8 x.report.p.kind, .int .u8 x.report.p.st, .int .u32 x.report.p.seq, .int .u32 x.report.p.val] ++ x.view.cells
def Cell.zero : Cell := { age := 0, offer := Said.zero, report := Said.zero, view := View.zero }
theorem Cell.len (x : Cell) : x.cells.length = 55 := by simp [Cell.cells, Said.cells, Payload.cells, View.cells]
theorem Cell.one (x : Cell) : allOne x.cells = true := by simp [Cell.cells, Said.cells, Payload.cells, View.cells, allOne, Value.oneCell']
theorem Cell.get0 (x : Cell) : x.cells[0]? = some (.int .i64 x.age) := by simp [Cell.cells, Said.cells, Payload.cells, View.cells]
theorem Cell.gea0 (x : Cell) : x.cells.toArray[0]? = some (.int .i64 x.age) := by rw [List.getElem?_toArray]; exact x.get0
theorem Cell.gee0 (x : Cell) (h : 0 < x.cells.length) : x.cells[0] = .int .i64 x.age := (List.getElem_eq_iff h).2 x.get0
theorem Cell.set0 (x : Cell) (v : Int) : x.cells.set 0 (.int .i64 v) = ({ x with age := v } : Cell).cells := by simp [Cell.cells, Said.cells, Payload.cells, View.cells]
theorem Cell.get1 (x : Cell) : x.cells[1]? = some (.bool x.offer.is) := by simp [Cell.cells, Said.cells, Payload.cells, View.cells]
theorem Cell.gea1 (x : Cell) : x.cells.toArray[1]? = some (.bool x.offer.is) := by rw [List.getElem?_toArray]; exact x.get1
theorem Cell.gee1 (x : Cell) (h : 1 < x.cells.length) : x.cells[1] = .bool x.offer.is := (List.getElem_eq_iff h).2 x.get1
theorem Cell.set1 (x : Cell) (v : Bool) : x.cells.set 1 (.bool v) = ({ x with offer.is := v } : Cell).cells := by simp [Cell.cells, Said.cells, Payload.cells, View.cells]
theorem Cell.get2 (x : Cell) : x.cells[2]? = some (.int .i64 x.offer.at_) := by simp [Cell.cells, Said.cells, Payload.cells, View.cells]
theorem Cell.gea2 (x : Cell) : x.cells.toArray[2]? = some (.int .i64 x.offer.at_) := by rw [List.getElem?_toArray]; exact x.get2
theorem Cell.gee2 (x : Cell) (h : 2 < x.cells.length) : x.cells[2] = .int .i64 x.offer.at_ := (List.getElem_eq_iff h).2 x.get2
theorem Cell.set2 (x : Cell) (v : Int) : x.cells.set 2 (.int .i64 v) = ({ x with offer.at_ := v } : Cell).cells := by simp [Cell.cells, Said.cells, Payload.cells, View.cells]
theorem Cell.get3 (x : Cell) : x.cells[3]? = some (.int .u8 x.offer.p.kind) := by simp [Cell.cells, Said.cells, Payload.cells, View.cells]
theorem Cell.gea3 (x : Cell) : x.cells.toArray[3]? = some (.int .u8 x.offer.p.kind) := by rw [List.getElem?_toArray]; exact x.get3
theorem Cell.gee3 (x : Cell) (h : 3 < x.cells.length) : x.cells[3] = .int .u8 x.offer.p.kind := (List.getElem_eq_iff h).2 x.get3
theorem Cell.set3 (x : Cell) (v : Int) : x.cells.set 3 (.int .u8 v) = ({ x with offer.p.kind := v } : Cell).cells := by simp [Cell.cells, Said.cells, Payload.cells, View.cells]
theorem Cell.get4 (x : Cell) : x.cells[4]? = some (.int .u8 x.offer.p.st) := by simp [Cell.cells, Said.cells, Payload.cells, View.cells]
theorem Cell.gea4 (x : Cell) : x.cells.toArray[4]? = some (.int .u8 x.offer.p.st) := by rw [List.getElem?_toArray]; exact x.get4
theorem Cell.gee4 (x : Cell) (h : 4 < x.cells.length) : x.cells[4] = .int .u8 x.offer.p.st := (List.getElem_eq_iff h).2 x.get4
theorem Cell.set4 (x : Cell) (v : Int) : x.cells.set 4 (.int .u8 v) = ({ x with offer.p.st := v } : Cell).cells := by simp [Cell.cells, Said.cells, Payload.cells, View.cells]
theorem Cell.get5 (x : Cell) : x.cells[5]? = some (.int .u32 x.offer.p.seq) := by simp [Cell.cells, Said.cells, Payload.cells, View.cells]
theorem Cell.gea5 (x : Cell) : x.cells.toArray[5]? = some (.int .u32 x.offer.p.seq) := by rw [List.getElem?_toArray]; exact x.get5
theorem Cell.gee5 (x : Cell) (h : 5 < x.cells.length) : x.cells[5] = .int .u32 x.offer.p.seq := (List.getElem_eq_iff h).2 x.get5
theorem Cell.set5 (x : Cell) (v : Int) : x.cells.set 5 (.int .u32 v) = ({ x with offer.p.seq := v } : Cell).cells := by simp [Cell.cells, Said.cells, Payload.cells, View.cells]
theorem Cell.get6 (x : Cell) : x.cells[6]? = some (.int .u32 x.offer.p.val) := by simp [Cell.cells, Said.cells, Payload.cells, View.cells]
theorem Cell.gea6 (x : Cell) : x.cells.toArray[6]? = some (.int .u32 x.offer.p.val) := by rw [List.getElem?_toArray]; exact x.get6
theorem Cell.gee6 (x : Cell) (h : 6 < x.cells.length) : x.cells[6] = .int .u32 x.offer.p.val := (List.getElem_eq_iff h).2 x.get6
theorem Cell.set6 (x : Cell) (v : Int) : x.cells.set 6 (.int .u32 v) = ({ x with offer.p.val := v } : Cell).cells := by simp [Cell.cells, Said.cells, Payload.cells, View.cells]
theorem Cell.get7 (x : Cell) : x.cells[7]? = some (.bool x.report.is) := by simp [Cell.cells, Said.cells, Payload.cells, View.cells]
theorem Cell.gea7 (x : Cell) : x.cells.toArray[7]? = some (.bool x.report.is) := by rw [List.getElem?_toArray]; exact x.get7
theorem Cell.gee7 (x : Cell) (h : 7 < x.cells.length) : x.cells[7] = .bool x.report.is := (List.getElem_eq_iff h).2 x.get7
theorem Cell.set7 (x : Cell) (v : Bool) : x.cells.set 7 (.bool v) = ({ x with report.is := v } : Cell).cells := by simp [Cell.cells, Said.cells, Payload.cells, View.cells]
theorem Cell.get8 (x : Cell) : x.cells[8]? = some (.int .i64 x.report.at_) := by simp [Cell.cells, Said.cells, Payload.cells, View.cells]
theorem Cell.gea8 (x : Cell) : x.cells.toArray[8]? = some (.int .i64 x.report.at_) := by rw [List.getElem?_toArray]; exact x.get8
theorem Cell.gee8 (x : Cell) (h : 8 < x.cells.length) : x.cells[8] = .int .i64 x.report.at_ := (List.getElem_eq_iff h).2 x.get8
theorem Cell.set8 (x : Cell) (v : Int) : x.cells.set 8 (.int .i64 v) = ({ x with report.at_ := v } : Cell).cells := by simp [Cell.cells, Said.cells, Payload.cells, View.cells]
theorem Cell.get9 (x : Cell) : x.cells[9]? = some (.int .u8 x.report.p.kind) := by simp [Cell.cells, Said.cells, Payload.cells, View.cells]
theorem Cell.gea9 (x : Cell) : x.cells.toArray[9]? = some (.int .u8 x.report.p.kind) := by rw [List.getElem?_toArray]; exact x.get9
theorem Cell.gee9 (x : Cell) (h : 9 < x.cells.length) : x.cells[9] = .int .u8 x.report.p.kind := (List.getElem_eq_iff h).2 x.get9
theorem Cell.set9 (x : Cell) (v : Int) : x.cells.set 9 (.int .u8 v) = ({ x with report.p.kind := v } : Cell).cells := by simp [Cell.cells, Said.cells, Payload.cells, View.cells]
theorem Cell.get10 (x : Cell) : x.cells[10]? = some (.int .u8 x.report.p.st) := by simp [Cell.cells, Said.cells, Payload.cells, View.cells]
theorem Cell.gea10 (x : Cell) : x.cells.toArray[10]? = some (.int .u8 x.report.p.st) := by rw [List.getElem?_toArray]; exact x.get10
theorem Cell.gee10 (x : Cell) (h : 10 < x.cells.length) : x.cells[10] = .int .u8 x.report.p.st := (List.getElem_eq_iff h).2 x.get10
theorem Cell.set10 (x : Cell) (v : Int) : x.cells.set 10 (.int .u8 v) = ({ x with report.p.st := v } : Cell).cells := by simp [Cell.cells, Said.cells, Payload.cells, View.cells]
theorem Cell.get11 (x : Cell) : x.cells[11]? = some (.int .u32 x.report.p.seq) := by simp [Cell.cells, Said.cells, Payload.cells, View.cells]
theorem Cell.gea11 (x : Cell) : x.cells.toArray[11]? = some (.int .u32 x.report.p.seq) := by rw [List.getElem?_toArray]; exact x.get11
theorem Cell.gee11 (x : Cell) (h : 11 < x.cells.length) : x.cells[11] = .int .u32 x.report.p.seq := (List.getElem_eq_iff h).2 x.get11
theorem Cell.set11 (x : Cell) (v : Int) : x.cells.set 11 (.int .u32 v) = ({ x with report.p.seq := v } : Cell).cells := by simp [Cell.cells, Said.cells, Payload.cells, View.cells]
theorem Cell.get12 (x : Cell) : x.cells[12]? = some (.int .u32 x.report.p.val) := by simp [Cell.cells, Said.cells, Payload.cells, View.cells]
theorem Cell.gea12 (x : Cell) : x.cells.toArray[12]? = some (.int .u32 x.report.p.val) := by rw [List.getElem?_toArray]; exact x.get12
theorem Cell.gee12 (x : Cell) (h : 12 < x.cells.length) : x.cells[12] = .int .u32 x.report.p.val := (List.getElem_eq_iff h).2 x.get12
theorem Cell.set12 (x : Cell) (v : Int) : x.cells.set 12 (.int .u32 v) = ({ x with report.p.val := v } : Cell).cells := by simp [Cell.cells, Said.cells, Payload.cells, View.cells]
theorem Cell.cut1_6 (x : Cell) : cut x.cells 1 6 = x.offer.cells := by simp [Cell.cells, Said.cells, Payload.cells, View.cells, cut, List.drop_append, List.take_append, List.take_of_length_le]
theorem Cell.lay1_6 (x : Cell) (y : Said) : lay x.cells 1 y.cells = ({ x with offer := y } : Cell).cells := by simp [Cell.cells, Said.cells, Payload.cells, View.cells, lay, List.drop_append, List.take_append, List.take_of_length_le]
theorem Cell.cut3_4 (x : Cell) : cut x.cells 3 4 = x.offer.p.cells := by simp [Cell.cells, Said.cells, Payload.cells, View.cells, cut, List.drop_append, List.take_append, List.take_of_length_le]
theorem Cell.lay3_4 (x : Cell) (y : Payload) : lay x.cells 3 y.cells = ({ x with offer.p := y } : Cell).cells := by simp [Cell.cells, Said.cells, Payload.cells, View.cells, lay, List.drop_append, List.take_append, List.take_of_length_le]
theorem Cell.cut7_6 (x : Cell) : cut x.cells 7 6 = x.report.cells := by simp [Cell.cells, Said.cells, Payload.cells, View.cells, cut, List.drop_append, List.take_append, List.take_of_length_le]
theorem Cell.lay7_6 (x : Cell) (y : Said) : lay x.cells 7 y.cells = ({ x with report := y } : Cell).cells := by simp [Cell.cells, Said.cells, Payload.cells, View.cells, lay, List.drop_append, List.take_append, List.take_of_length_le]
theorem Cell.cut9_4 (x : Cell) : cut x.cells 9 4 = x.report.p.cells := by simp [Cell.cells, Said.cells, Payload.cells, View.cells, cut, List.drop_append, List.take_append, List.take_of_length_le]
theorem Cell.lay9_4 (x : Cell) (y : Payload) : lay x.cells 9 y.cells = ({ x with report.p := y } : Cell).cells := by simp [Cell.cells, Said.cells, Payload.cells, View.cells, lay, List.drop_append, List.take_append, List.take_of_length_le]
theorem Cell.cut13_42 (x : Cell) : cut x.cells 13 42 = x.view.cells := by simp [Cell.cells, Said.cells, Payload.cells, View.cells, cut, List.drop_append, List.take_append, List.take_of_length_le]
theorem Cell.lay13_42 (x : Cell) (y : View) : lay x.cells 13 y.cells = ({ x with view := y } : Cell).cells := by simp [Cell.cells, Said.cells, Payload.cells, View.cells, lay, List.drop_append, List.take_append, List.take_of_length_le]
theorem Cell.cutAll (x : Cell) : cut x.cells 0 55 = x.cells := cut_all _ _ x.len
theorem Cell.layAll (x y : Cell) : lay x.cells 0 y.cells = y.cells := lay_all _ _ (by rw [x.len, y.len])
theorem Cell.layS0 (x : Cell) (v : Int) : lay x.cells 0 [.int .i64 v] = ({ x with age := v } : Cell).cells := (lay_one _ _ _ (by rw [x.len]; omega)).trans (x.set0 v)
theorem Cell.layS1 (x : Cell) (v : Bool) : lay x.cells 1 [.bool v] = ({ x with offer.is := v } : Cell).cells := (lay_one _ _ _ (by rw [x.len]; omega)).trans (x.set1 v)
theorem Cell.layS2 (x : Cell) (v : Int) : lay x.cells 2 [.int .i64 v] = ({ x with offer.at_ := v } : Cell).cells := (lay_one _ _ _ (by rw [x.len]; omega)).trans (x.set2 v)
theorem Cell.layS3 (x : Cell) (v : Int) : lay x.cells 3 [.int .u8 v] = ({ x with offer.p.kind := v } : Cell).cells := (lay_one _ _ _ (by rw [x.len]; omega)).trans (x.set3 v)
theorem Cell.layS4 (x : Cell) (v : Int) : lay x.cells 4 [.int .u8 v] = ({ x with offer.p.st := v } : Cell).cells := (lay_one _ _ _ (by rw [x.len]; omega)).trans (x.set4 v)
theorem Cell.layS5 (x : Cell) (v : Int) : lay x.cells 5 [.int .u32 v] = ({ x with offer.p.seq := v } : Cell).cells := (lay_one _ _ _ (by rw [x.len]; omega)).trans (x.set5 v)
theorem Cell.layS6 (x : Cell) (v : Int) : lay x.cells 6 [.int .u32 v] = ({ x with offer.p.val := v } : Cell).cells := (lay_one _ _ _ (by rw [x.len]; omega)).trans (x.set6 v)
theorem Cell.layS7 (x : Cell) (v : Bool) : lay x.cells 7 [.bool v] = ({ x with report.is := v } : Cell).cells := (lay_one _ _ _ (by rw [x.len]; omega)).trans (x.set7 v)
theorem Cell.layS8 (x : Cell) (v : Int) : lay x.cells 8 [.int .i64 v] = ({ x with report.at_ := v } : Cell).cells := (lay_one _ _ _ (by rw [x.len]; omega)).trans (x.set8 v)
theorem Cell.layS9 (x : Cell) (v : Int) : lay x.cells 9 [.int .u8 v] = ({ x with report.p.kind := v } : Cell).cells := (lay_one _ _ _ (by rw [x.len]; omega)).trans (x.set9 v)
theorem Cell.layS10 (x : Cell) (v : Int) : lay x.cells 10 [.int .u8 v] = ({ x with report.p.st := v } : Cell).cells := (lay_one _ _ _ (by rw [x.len]; omega)).trans (x.set10 v)
theorem Cell.layS11 (x : Cell) (v : Int) : lay x.cells 11 [.int .u32 v] = ({ x with report.p.seq := v } : Cell).cells := (lay_one _ _ _ (by rw [x.len]; omega)).trans (x.set11 v)
theorem Cell.layS12 (x : Cell) (v : Int) : lay x.cells 12 [.int .u32 v] = ({ x with report.p.val := v } : Cell).cells := (lay_one _ _ _ (by rw [x.len]; omega)).trans (x.set12 v)
def Cell.ks : List (Option IntKind) := some .i64 :: (Said.ks ++ ((Said.ks ++ ((View.ks ++ ([]))))))
def Cell.Ok (x : Cell) : Prop := (-9223372036854775808 ≤ x.age ∧ x.age ≤ 9223372036854775807) ∧ x.offer.Ok ∧ x.report.Ok ∧ x.view.Ok
theorem Cell.shape (x : Cell) : FlatS Cell.ks x.cells := by
  have h : FlatS Cell.ks _ := (FlatS.cons (c := .int .i64 x.age) ⟨_, rfl⟩ (x.offer.shape.append ((x.report.shape.append ((x.view.shape.append (FlatS.nil)))))))
  simpa [Cell.cells, Said.cells, Payload.cells, View.cells] using h
theorem Cell.inj {x y : Cell} (h : x.cells = y.cells) : x = y := by
  cases x; cases y
  rename_i a0 a1 a2 a3 b0 b1 b2 b3
  simp only [Cell.cells, List.append_assoc, List.cons_append, List.nil_append] at h
  obtain ⟨g0, h⟩ := List.cons.inj h
  have q0 : a0 = b0 := by injection g0
  obtain ⟨g1_0, h⟩ := List.cons.inj h
  obtain ⟨g1_1, h⟩ := List.cons.inj h
  obtain ⟨g1_2, h⟩ := List.cons.inj h
  obtain ⟨g1_3, h⟩ := List.cons.inj h
  obtain ⟨g1_4, h⟩ := List.cons.inj h
  obtain ⟨g1_5, h⟩ := List.cons.inj h
  have q1 : a1 = b1 := Said.inj (by simp only [Said.cells, List.cons.injEq]; exact ⟨g1_0, g1_1, g1_2, g1_3, g1_4, g1_5, trivial⟩)
  obtain ⟨g2_0, h⟩ := List.cons.inj h
  obtain ⟨g2_1, h⟩ := List.cons.inj h
  obtain ⟨g2_2, h⟩ := List.cons.inj h
  obtain ⟨g2_3, h⟩ := List.cons.inj h
  obtain ⟨g2_4, h⟩ := List.cons.inj h
  obtain ⟨g2_5, h⟩ := List.cons.inj h
  have q2 : a2 = b2 := Said.inj (by simp only [Said.cells, List.cons.injEq]; exact ⟨g2_0, g2_1, g2_2, g2_3, g2_4, g2_5, trivial⟩)
  have h3 := h
  have q3 : a3 = b3 := View.inj h3
  simp [q0, q1, q2, q3]
theorem Cell.of_flat {cs : List Value} (h0 : Flat Cell.ks cs) : ∃ x : Cell, x.Ok ∧ cs = x.cells := by
  obtain ⟨c0, r0, rfl, ⟨v0, rfl, w0⟩, h1⟩ := h0.uncons
  obtain ⟨c1, r1, rfl, g1, h2⟩ := h1.unapp
  obtain ⟨v1, w1, rfl⟩ := Said.of_flat g1
  obtain ⟨c2, r2, rfl, g2, h3⟩ := h2.unapp
  obtain ⟨v2, w2, rfl⟩ := Said.of_flat g2
  obtain ⟨c3, r3, rfl, g3, h4⟩ := h3.unapp
  obtain ⟨v3, w3, rfl⟩ := View.of_flat g3
  obtain rfl := h4.unnil
  exact ⟨⟨v0, v1, v2, v3⟩, ⟨bounds_i64 w0, w1, w2, w3⟩, by simp [Cell.cells, Said.cells, Payload.cells, View.cells]⟩
attribute [go_sem] Cell.len Cell.one Cell.get0 Cell.set0 Cell.get1 Cell.set1 Cell.get2 Cell.set2 Cell.get3 Cell.set3 Cell.get4 Cell.set4 Cell.get5 Cell.set5 Cell.get6 Cell.set6 Cell.get7 Cell.set7 Cell.get8 Cell.set8 Cell.get9 Cell.set9 Cell.get10 Cell.set10
attribute [go_sem] Cell.get11 Cell.set11 Cell.get12 Cell.set12 Cell.cut1_6 Cell.lay1_6 Cell.cut3_4 Cell.lay3_4 Cell.cut7_6 Cell.lay7_6 Cell.cut9_4 Cell.lay9_4 Cell.cut13_42 Cell.lay13_42 Cell.cutAll Cell.layAll Cell.layS0 Cell.layS1 Cell.layS2 Cell.layS3 Cell.layS4 Cell.layS5 Cell.layS6 Cell.layS7
attribute [go_sem] Cell.layS8 Cell.layS9 Cell.layS10 Cell.layS11 Cell.layS12
attribute [go_sem high] Cell.gea0 Cell.gee0 Cell.gea1 Cell.gee1 Cell.gea2 Cell.gee2 Cell.gea3 Cell.gee3 Cell.gea4 Cell.gee4 Cell.gea5 Cell.gee5 Cell.gea6 Cell.gee6 Cell.gea7 Cell.gee7 Cell.gea8 Cell.gee8 Cell.gea9 Cell.gee9 Cell.gea10 Cell.gee10 Cell.gea11 Cell.gee11
attribute [go_sem high] Cell.gea12 Cell.gee12

/-! ### Held: sennit/words.Held -/
structure Held where
  is : Bool
  cell : Cell
deriving DecidableEq
def Held.cells (x : Held) : List Value := [.bool x.is] ++ x.cell.cells
def Held.zero : Held := { is := false, cell := Cell.zero }
theorem Held.len (x : Held) : x.cells.length = 56 := by simp [Held.cells, Cell.cells, Said.cells, Payload.cells, View.cells]
theorem Held.one (x : Held) : allOne x.cells = true := by simp [Held.cells, Cell.cells, Said.cells, Payload.cells, View.cells, allOne, Value.oneCell']
theorem Held.get0 (x : Held) : x.cells[0]? = some (.bool x.is) := by simp [Held.cells, Cell.cells, Said.cells, Payload.cells, View.cells]
theorem Held.gea0 (x : Held) : x.cells.toArray[0]? = some (.bool x.is) := by rw [List.getElem?_toArray]; exact x.get0
theorem Held.gee0 (x : Held) (h : 0 < x.cells.length) : x.cells[0] = .bool x.is := (List.getElem_eq_iff h).2 x.get0
theorem Held.set0 (x : Held) (v : Bool) : x.cells.set 0 (.bool v) = ({ x with is := v } : Held).cells := by simp [Held.cells, Cell.cells, Said.cells, Payload.cells, View.cells]
theorem Held.cut1_55 (x : Held) : cut x.cells 1 55 = x.cell.cells := by simp [Held.cells, Cell.cells, Said.cells, Payload.cells, View.cells, cut, List.drop_append, List.take_append, List.take_of_length_le]
theorem Held.lay1_55 (x : Held) (y : Cell) : lay x.cells 1 y.cells = ({ x with cell := y } : Held).cells := by simp [Held.cells, Cell.cells, Said.cells, Payload.cells, View.cells, lay, List.drop_append, List.take_append, List.take_of_length_le]
theorem Held.cut2_6 (x : Held) : cut x.cells 2 6 = x.cell.offer.cells := by simp [Held.cells, Cell.cells, Said.cells, Payload.cells, View.cells, cut, List.drop_append, List.take_append, List.take_of_length_le]
theorem Held.lay2_6 (x : Held) (y : Said) : lay x.cells 2 y.cells = ({ x with cell.offer := y } : Held).cells := by simp [Held.cells, Cell.cells, Said.cells, Payload.cells, View.cells, lay, List.drop_append, List.take_append, List.take_of_length_le]
theorem Held.cut4_4 (x : Held) : cut x.cells 4 4 = x.cell.offer.p.cells := by simp [Held.cells, Cell.cells, Said.cells, Payload.cells, View.cells, cut, List.drop_append, List.take_append, List.take_of_length_le]
theorem Held.lay4_4 (x : Held) (y : Payload) : lay x.cells 4 y.cells = ({ x with cell.offer.p := y } : Held).cells := by simp [Held.cells, Cell.cells, Said.cells, Payload.cells, View.cells, lay, List.drop_append, List.take_append, List.take_of_length_le]
theorem Held.cut8_6 (x : Held) : cut x.cells 8 6 = x.cell.report.cells := by simp [Held.cells, Cell.cells, Said.cells, Payload.cells, View.cells, cut, List.drop_append, List.take_append, List.take_of_length_le]
theorem Held.lay8_6 (x : Held) (y : Said) : lay x.cells 8 y.cells = ({ x with cell.report := y } : Held).cells := by simp [Held.cells, Cell.cells, Said.cells, Payload.cells, View.cells, lay, List.drop_append, List.take_append, List.take_of_length_le]
theorem Held.cut10_4 (x : Held) : cut x.cells 10 4 = x.cell.report.p.cells := by simp [Held.cells, Cell.cells, Said.cells, Payload.cells, View.cells, cut, List.drop_append, List.take_append, List.take_of_length_le]
theorem Held.lay10_4 (x : Held) (y : Payload) : lay x.cells 10 y.cells = ({ x with cell.report.p := y } : Held).cells := by simp [Held.cells, Cell.cells, Said.cells, Payload.cells, View.cells, lay, List.drop_append, List.take_append, List.take_of_length_le]
theorem Held.cut14_42 (x : Held) : cut x.cells 14 42 = x.cell.view.cells := by simp [Held.cells, Cell.cells, Said.cells, Payload.cells, View.cells, cut, List.drop_append, List.take_append, List.take_of_length_le]
theorem Held.lay14_42 (x : Held) (y : View) : lay x.cells 14 y.cells = ({ x with cell.view := y } : Held).cells := by simp [Held.cells, Cell.cells, Said.cells, Payload.cells, View.cells, lay, List.drop_append, List.take_append, List.take_of_length_le]
theorem Held.cutAll (x : Held) : cut x.cells 0 56 = x.cells := cut_all _ _ x.len
theorem Held.layAll (x y : Held) : lay x.cells 0 y.cells = y.cells := lay_all _ _ (by rw [x.len, y.len])
theorem Held.layS0 (x : Held) (v : Bool) : lay x.cells 0 [.bool v] = ({ x with is := v } : Held).cells := (lay_one _ _ _ (by rw [x.len]; omega)).trans (x.set0 v)
def Held.ks : List (Option IntKind) := none :: (Cell.ks ++ ([]))
def Held.Ok (x : Held) : Prop := x.cell.Ok
theorem Held.shape (x : Held) : FlatS Held.ks x.cells := by
  have h : FlatS Held.ks _ := (FlatS.cons (c := .bool x.is) ⟨_, rfl⟩ (x.cell.shape.append (FlatS.nil)))
  simpa [Held.cells, Cell.cells, Said.cells, Payload.cells, View.cells] using h
theorem Held.inj {x y : Held} (h : x.cells = y.cells) : x = y := by
  cases x; cases y
  rename_i a0 a1 b0 b1
  simp only [Held.cells, List.append_assoc, List.cons_append, List.nil_append] at h
  obtain ⟨g0, h⟩ := List.cons.inj h
  have q0 : a0 = b0 := by injection g0
  have h1 := h
  have q1 : a1 = b1 := Cell.inj h1
  simp [q0, q1]
theorem Held.of_flat {cs : List Value} (h0 : Flat Held.ks cs) : ∃ x : Held, x.Ok ∧ cs = x.cells := by
  obtain ⟨c0, r0, rfl, ⟨v0, rfl⟩, h1⟩ := h0.uncons
  obtain ⟨c1, r1, rfl, g1, h2⟩ := h1.unapp
  obtain ⟨v1, w1, rfl⟩ := Cell.of_flat g1
  obtain rfl := h2.unnil
  exact ⟨⟨v0, v1⟩, w1, by simp [Held.cells, Cell.cells, Said.cells, Payload.cells, View.cells]⟩
attribute [go_sem] Held.len Held.one Held.get0 Held.set0 Held.cut1_55 Held.lay1_55 Held.cut2_6 Held.lay2_6 Held.cut4_4 Held.lay4_4 Held.cut8_6 Held.lay8_6 Held.cut10_4 Held.lay10_4 Held.cut14_42 Held.lay14_42 Held.cutAll Held.layAll Held.layS0
attribute [go_sem high] Held.gea0 Held.gee0

/-! ### RHeld: sennit/sennitref13.Held -/
structure RHeld where
  is : Bool
  cell : Cell
deriving DecidableEq
def RHeld.cells (x : RHeld) : List Value := [.bool x.is] ++ x.cell.cells
def RHeld.zero : RHeld := { is := false, cell := Cell.zero }
theorem RHeld.len (x : RHeld) : x.cells.length = 56 := by simp [RHeld.cells, Cell.cells, Said.cells, Payload.cells, View.cells]
theorem RHeld.one (x : RHeld) : allOne x.cells = true := by simp [RHeld.cells, Cell.cells, Said.cells, Payload.cells, View.cells, allOne, Value.oneCell']
theorem RHeld.get0 (x : RHeld) : x.cells[0]? = some (.bool x.is) := by simp [RHeld.cells, Cell.cells, Said.cells, Payload.cells, View.cells]
theorem RHeld.gea0 (x : RHeld) : x.cells.toArray[0]? = some (.bool x.is) := by rw [List.getElem?_toArray]; exact x.get0
theorem RHeld.gee0 (x : RHeld) (h : 0 < x.cells.length) : x.cells[0] = .bool x.is := (List.getElem_eq_iff h).2 x.get0
theorem RHeld.set0 (x : RHeld) (v : Bool) : x.cells.set 0 (.bool v) = ({ x with is := v } : RHeld).cells := by simp [RHeld.cells, Cell.cells, Said.cells, Payload.cells, View.cells]
theorem RHeld.cut1_55 (x : RHeld) : cut x.cells 1 55 = x.cell.cells := by simp [RHeld.cells, Cell.cells, Said.cells, Payload.cells, View.cells, cut, List.drop_append, List.take_append, List.take_of_length_le]
theorem RHeld.lay1_55 (x : RHeld) (y : Cell) : lay x.cells 1 y.cells = ({ x with cell := y } : RHeld).cells := by simp [RHeld.cells, Cell.cells, Said.cells, Payload.cells, View.cells, lay, List.drop_append, List.take_append, List.take_of_length_le]
theorem RHeld.cut2_6 (x : RHeld) : cut x.cells 2 6 = x.cell.offer.cells := by simp [RHeld.cells, Cell.cells, Said.cells, Payload.cells, View.cells, cut, List.drop_append, List.take_append, List.take_of_length_le]
theorem RHeld.lay2_6 (x : RHeld) (y : Said) : lay x.cells 2 y.cells = ({ x with cell.offer := y } : RHeld).cells := by simp [RHeld.cells, Cell.cells, Said.cells, Payload.cells, View.cells, lay, List.drop_append, List.take_append, List.take_of_length_le]
theorem RHeld.cut4_4 (x : RHeld) : cut x.cells 4 4 = x.cell.offer.p.cells := by simp [RHeld.cells, Cell.cells, Said.cells, Payload.cells, View.cells, cut, List.drop_append, List.take_append, List.take_of_length_le]
theorem RHeld.lay4_4 (x : RHeld) (y : Payload) : lay x.cells 4 y.cells = ({ x with cell.offer.p := y } : RHeld).cells := by simp [RHeld.cells, Cell.cells, Said.cells, Payload.cells, View.cells, lay, List.drop_append, List.take_append, List.take_of_length_le]
theorem RHeld.cut8_6 (x : RHeld) : cut x.cells 8 6 = x.cell.report.cells := by simp [RHeld.cells, Cell.cells, Said.cells, Payload.cells, View.cells, cut, List.drop_append, List.take_append, List.take_of_length_le]
theorem RHeld.lay8_6 (x : RHeld) (y : Said) : lay x.cells 8 y.cells = ({ x with cell.report := y } : RHeld).cells := by simp [RHeld.cells, Cell.cells, Said.cells, Payload.cells, View.cells, lay, List.drop_append, List.take_append, List.take_of_length_le]
theorem RHeld.cut10_4 (x : RHeld) : cut x.cells 10 4 = x.cell.report.p.cells := by simp [RHeld.cells, Cell.cells, Said.cells, Payload.cells, View.cells, cut, List.drop_append, List.take_append, List.take_of_length_le]
theorem RHeld.lay10_4 (x : RHeld) (y : Payload) : lay x.cells 10 y.cells = ({ x with cell.report.p := y } : RHeld).cells := by simp [RHeld.cells, Cell.cells, Said.cells, Payload.cells, View.cells, lay, List.drop_append, List.take_append, List.take_of_length_le]
theorem RHeld.cut14_42 (x : RHeld) : cut x.cells 14 42 = x.cell.view.cells := by simp [RHeld.cells, Cell.cells, Said.cells, Payload.cells, View.cells, cut, List.drop_append, List.take_append, List.take_of_length_le]
theorem RHeld.lay14_42 (x : RHeld) (y : View) : lay x.cells 14 y.cells = ({ x with cell.view := y } : RHeld).cells := by simp [RHeld.cells, Cell.cells, Said.cells, Payload.cells, View.cells, lay, List.drop_append, List.take_append, List.take_of_length_le]
theorem RHeld.cutAll (x : RHeld) : cut x.cells 0 56 = x.cells := cut_all _ _ x.len
theorem RHeld.layAll (x y : RHeld) : lay x.cells 0 y.cells = y.cells := lay_all _ _ (by rw [x.len, y.len])
theorem RHeld.layS0 (x : RHeld) (v : Bool) : lay x.cells 0 [.bool v] = ({ x with is := v } : RHeld).cells := (lay_one _ _ _ (by rw [x.len]; omega)).trans (x.set0 v)
def RHeld.ks : List (Option IntKind) := none :: (Cell.ks ++ ([]))
def RHeld.Ok (x : RHeld) : Prop := x.cell.Ok
theorem RHeld.shape (x : RHeld) : FlatS RHeld.ks x.cells := by
  have h : FlatS RHeld.ks _ := (FlatS.cons (c := .bool x.is) ⟨_, rfl⟩ (x.cell.shape.append (FlatS.nil)))
  simpa [RHeld.cells, Cell.cells, Said.cells, Payload.cells, View.cells] using h
theorem RHeld.inj {x y : RHeld} (h : x.cells = y.cells) : x = y := by
  cases x; cases y
  rename_i a0 a1 b0 b1
  simp only [RHeld.cells, List.append_assoc, List.cons_append, List.nil_append] at h
  obtain ⟨g0, h⟩ := List.cons.inj h
  have q0 : a0 = b0 := by injection g0
  have h1 := h
  have q1 : a1 = b1 := Cell.inj h1
  simp [q0, q1]
theorem RHeld.of_flat {cs : List Value} (h0 : Flat RHeld.ks cs) : ∃ x : RHeld, x.Ok ∧ cs = x.cells := by
  obtain ⟨c0, r0, rfl, ⟨v0, rfl⟩, h1⟩ := h0.uncons
  obtain ⟨c1, r1, rfl, g1, h2⟩ := h1.unapp
  obtain ⟨v1, w1, rfl⟩ := Cell.of_flat g1
  obtain rfl := h2.unnil
  exact ⟨⟨v0, v1⟩, w1, by simp [RHeld.cells, Cell.cells, Said.cells, Payload.cells, View.cells]⟩
attribute [go_sem] RHeld.len RHeld.one RHeld.get0 RHeld.set0 RHeld.cut1_55 RHeld.lay1_55 RHeld.cut2_6 RHeld.lay2_6 RHeld.cut4_4 RHeld.lay4_4 RHeld.cut8_6 RHeld.lay8_6 RHeld.cut10_4 RHeld.lay10_4 RHeld.cut14_42 RHeld.lay14_42 RHeld.cutAll RHeld.layAll RHeld.layS0
attribute [go_sem high] RHeld.gea0 RHeld.gee0

end Go.Proofs.YtgfmjbfjodidpaaDoor
end
/- More of Go's small structs as structures: their cells, how they are opened. Printed by wip/gen_more.py. -/
section
namespace Go.Proofs.YtgfmjbfjodidpaaDoor
open Go.RowKit

/-! ### HAct: sennit/sennitlaw19.Act -/
structure HAct where
  put : Bool
  pair : Int
  p : Payload
  round : Int
deriving DecidableEq
def HAct.cells (x : HAct) : List Value := [.bool x.put, .int .i64 x.pair, .int .u8 x.p.kind, .int .u8 x.p.st, .int .u32 x.p.seq, .int .u32 x.p.val, .int .i64 x.round]
def HAct.zero : HAct := { put := false, pair := 0, p := Payload.zero, round := 0 }
theorem HAct.len (x : HAct) : x.cells.length = 7 := rfl
def HAct.ks : List (Option IntKind) := (none :: (some .i64 :: (Payload.ks ++ (some .i64 :: []))))
def HAct.Ok (x : HAct) : Prop := (-9223372036854775808 ≤ x.pair ∧ x.pair ≤ 9223372036854775807) ∧ x.p.Ok ∧ (-9223372036854775808 ≤ x.round ∧ x.round ≤ 9223372036854775807)
theorem HAct.of_flat {cs : List Value} (h0 : Flat HAct.ks cs) : ∃ x : HAct, x.Ok ∧ cs = x.cells := by
  obtain ⟨c0, r0, rfl, ⟨v0, rfl⟩, h1⟩ := h0.uncons
  obtain ⟨c1, r1, rfl, ⟨v1, rfl, w1⟩, h2⟩ := h1.uncons
  obtain ⟨c2, r2, rfl, g2, h3⟩ := h2.unapp
  obtain ⟨v2, w2, rfl⟩ := Payload.of_flat g2
  obtain ⟨c3, r3, rfl, ⟨v3, rfl, w3⟩, h4⟩ := h3.uncons
  obtain rfl := h4.unnil
  exact ⟨⟨v0, v1, v2, v3⟩, ⟨bounds_i64 w1, w2, bounds_i64 w3⟩, by simp [HAct.cells, Said.cells, Payload.cells]⟩
/-! ### CTime: sennit/clocks.Time -/
structure CTime where
  round : Int
  slot : Int
  place : Int
deriving DecidableEq
def CTime.cells (x : CTime) : List Value := [.int .i64 x.round, .int .i64 x.slot, .int .i64 x.place]
def CTime.zero : CTime := { round := 0, slot := 0, place := 0 }
theorem CTime.len (x : CTime) : x.cells.length = 3 := rfl
def CTime.ks : List (Option IntKind) := (some .i64 :: (some .i64 :: (some .i64 :: [])))
def CTime.Ok (x : CTime) : Prop := (-9223372036854775808 ≤ x.round ∧ x.round ≤ 9223372036854775807) ∧ (-9223372036854775808 ≤ x.slot ∧ x.slot ≤ 9223372036854775807) ∧ (-9223372036854775808 ≤ x.place ∧ x.place ≤ 9223372036854775807)
theorem CTime.of_flat {cs : List Value} (h0 : Flat CTime.ks cs) : ∃ x : CTime, x.Ok ∧ cs = x.cells := by
  obtain ⟨c0, r0, rfl, ⟨v0, rfl, w0⟩, h1⟩ := h0.uncons
  obtain ⟨c1, r1, rfl, ⟨v1, rfl, w1⟩, h2⟩ := h1.uncons
  obtain ⟨c2, r2, rfl, ⟨v2, rfl, w2⟩, h3⟩ := h2.uncons
  obtain rfl := h3.unnil
  exact ⟨⟨v0, v1, v2⟩, ⟨bounds_i64 w0, bounds_i64 w1, bounds_i64 w2⟩, by simp [CTime.cells, Said.cells, Payload.cells]⟩
/-! ### Entry: sennit/hosts.Entry -/
structure Entry where
  frm : Int
  rounds : Int
  p : Payload
deriving DecidableEq
def Entry.cells (x : Entry) : List Value := [.int .i64 x.frm, .int .i64 x.rounds, .int .u8 x.p.kind, .int .u8 x.p.st, .int .u32 x.p.seq, .int .u32 x.p.val]
def Entry.zero : Entry := { frm := 0, rounds := 0, p := Payload.zero }
theorem Entry.len (x : Entry) : x.cells.length = 6 := rfl
def Entry.ks : List (Option IntKind) := (some .i64 :: (some .i64 :: (Payload.ks ++ [])))
def Entry.Ok (x : Entry) : Prop := (-9223372036854775808 ≤ x.frm ∧ x.frm ≤ 9223372036854775807) ∧ (-9223372036854775808 ≤ x.rounds ∧ x.rounds ≤ 9223372036854775807) ∧ x.p.Ok
theorem Entry.of_flat {cs : List Value} (h0 : Flat Entry.ks cs) : ∃ x : Entry, x.Ok ∧ cs = x.cells := by
  obtain ⟨c0, r0, rfl, ⟨v0, rfl, w0⟩, h1⟩ := h0.uncons
  obtain ⟨c1, r1, rfl, ⟨v1, rfl, w1⟩, h2⟩ := h1.uncons
  obtain ⟨c2, r2, rfl, g2, h3⟩ := h2.unapp
  obtain ⟨v2, w2, rfl⟩ := Payload.of_flat g2
  obtain rfl := h3.unnil
  exact ⟨⟨v0, v1, v2⟩, ⟨bounds_i64 w0, bounds_i64 w1, w2⟩, by simp [Entry.cells, Said.cells, Payload.cells]⟩
/-! ### Station: sennit/api.Station -/
structure Station where
  node : Int
  safe : Int
  hold : Int
deriving DecidableEq
def Station.cells (x : Station) : List Value := [.int .i64 x.node, .int .u32 x.safe, .int .i64 x.hold]
def Station.zero : Station := { node := 0, safe := 0, hold := 0 }
theorem Station.len (x : Station) : x.cells.length = 3 := rfl
def Station.ks : List (Option IntKind) := (some .i64 :: (some .u32 :: (some .i64 :: [])))
def Station.Ok (x : Station) : Prop := (-9223372036854775808 ≤ x.node ∧ x.node ≤ 9223372036854775807) ∧ (0 ≤ x.safe ∧ x.safe ≤ 4294967295) ∧ (-9223372036854775808 ≤ x.hold ∧ x.hold ≤ 9223372036854775807)
theorem Station.of_flat {cs : List Value} (h0 : Flat Station.ks cs) : ∃ x : Station, x.Ok ∧ cs = x.cells := by
  obtain ⟨c0, r0, rfl, ⟨v0, rfl, w0⟩, h1⟩ := h0.uncons
  obtain ⟨c1, r1, rfl, ⟨v1, rfl, w1⟩, h2⟩ := h1.uncons
  obtain ⟨c2, r2, rfl, ⟨v2, rfl, w2⟩, h3⟩ := h2.uncons
  obtain rfl := h3.unnil
  exact ⟨⟨v0, v1, v2⟩, ⟨bounds_i64 w0, bounds_u32 w1, bounds_i64 w2⟩, by simp [Station.cells, Said.cells, Payload.cells]⟩
/-! ### Step: sennit/sennitlaw06.Step -/
structure Step where
  age : Int
  many : Int
  goes : Bool
  sure : Bool
deriving DecidableEq
def Step.cells (x : Step) : List Value := [.int .i64 x.age, .int .u16 x.many, .bool x.goes, .bool x.sure]
def Step.zero : Step := { age := 0, many := 0, goes := false, sure := false }
theorem Step.len (x : Step) : x.cells.length = 4 := rfl
def Step.ks : List (Option IntKind) := (some .i64 :: (some .u16 :: (none :: (none :: []))))
def Step.Ok (x : Step) : Prop := (-9223372036854775808 ≤ x.age ∧ x.age ≤ 9223372036854775807) ∧ (0 ≤ x.many ∧ x.many ≤ 65535)
theorem Step.of_flat {cs : List Value} (h0 : Flat Step.ks cs) : ∃ x : Step, x.Ok ∧ cs = x.cells := by
  obtain ⟨c0, r0, rfl, ⟨v0, rfl, w0⟩, h1⟩ := h0.uncons
  obtain ⟨c1, r1, rfl, ⟨v1, rfl, w1⟩, h2⟩ := h1.uncons
  obtain ⟨c2, r2, rfl, ⟨v2, rfl⟩, h3⟩ := h2.uncons
  obtain ⟨c3, r3, rfl, ⟨v3, rfl⟩, h4⟩ := h3.uncons
  obtain rfl := h4.unnil
  exact ⟨⟨v0, v1, v2, v3⟩, ⟨bounds_i64 w0, bounds_u16 w1⟩, by simp [Step.cells, Said.cells, Payload.cells]⟩
theorem vlist8 {α β : Type} (d : α) (f : α → β) (v : Vector α 8) : v.toList.map f = [f (vat d v 0), f (vat d v 1), f (vat d v 2), f (vat d v 3), f (vat d v 4), f (vat d v 5), f (vat d v 6), f (vat d v 7)] := by
  apply List.ext_getElem?
  intro i
  match i with
  | 0 => rw [vat_get d f v _ (by omega)]; rfl
  | 1 => rw [vat_get d f v _ (by omega)]; rfl
  | 2 => rw [vat_get d f v _ (by omega)]; rfl
  | 3 => rw [vat_get d f v _ (by omega)]; rfl
  | 4 => rw [vat_get d f v _ (by omega)]; rfl
  | 5 => rw [vat_get d f v _ (by omega)]; rfl
  | 6 => rw [vat_get d f v _ (by omega)]; rfl
  | 7 => rw [vat_get d f v _ (by omega)]; rfl
  | i + 8 => simp
/-- the cells of a view, each one by itself -/
def View.cellsE (x : View) : List Value := [.bool (vat false x.inn 0), .bool (vat false x.inn 1), .bool (vat false x.inn 2), .bool (vat false x.inn 3), .bool (vat false x.inn 4), .bool (vat false x.inn 5), .bool (vat false x.inn 6), .bool (vat false x.inn 7), .int .u8 (vat 0 x.miss 0), .int .u8 (vat 0 x.miss 1), .int .u8 (vat 0 x.miss 2), .int .u8 (vat 0 x.miss 3), .int .u8 (vat 0 x.miss 4), .int .u8 (vat 0 x.miss 5), .int .u8 (vat 0 x.miss 6), .int .u8 (vat 0 x.miss 7), .int .u8 (vat 0 x.good 0), .int .u8 (vat 0 x.good 1), .int .u8 (vat 0 x.good 2), .int .u8 (vat 0 x.good 3), .int .u8 (vat 0 x.good 4), .int .u8 (vat 0 x.good 5), .int .u8 (vat 0 x.good 6), .int .u8 (vat 0 x.good 7), .int .u16 (vat 0 x.score 0), .int .u16 (vat 0 x.score 1), .int .u16 (vat 0 x.score 2), .int .u16 (vat 0 x.score 3), .int .u16 (vat 0 x.score 4), .int .u16 (vat 0 x.score 5), .int .u16 (vat 0 x.score 6), .int .u16 (vat 0 x.score 7), .bool (vat false x.got 0), .bool (vat false x.got 1), .bool (vat false x.got 2), .bool (vat false x.got 3), .bool (vat false x.got 4), .bool (vat false x.got 5), .bool (vat false x.got 6), .bool (vat false x.got 7), .int .i8 x.command, .int .u8 x.mode]
theorem View.cellsE_eq (x : View) : x.cellsE = x.cells := by
  simp only [View.cellsE, View.cells, vlist8 false, vlist8 (0 : Int), List.cons_append, List.nil_append, List.append_nil]
end Go.Proofs.YtgfmjbfjodidpaaDoor
end
/- What came in, opened: slices of flat things, flat structs and arrays. No Go text is in sight. -/
section
namespace Go.Proofs.YtgfmjbfjodidpaaDoor
open Go.RowKit Go.WideShapes Go.ChangeShapes

section
variable {H : Type} {enc : TypeId × Value → H} {P : Program} {w : World}
/-- where a slice lies, if it is any -/
def SlAt (w : World) (A : Option Addr) (n c : Nat) : Prop := (A = none ∧ n = 0 ∧ c = 0) ∨ ∃ b o, A = some ⟨b, o, none⟩ ∧ b < w.heap.size
theorem okWide_slAt {t e : TypeId} {r : Reach} {b0 : Nat} {A : Option Addr} {n c : Nat} (ht : P.underlying t = some (.slice e)) (hv : Value.okWide P w r b0 t (.slice A n c)) : SlAt w A n c := by
  simp only [Value.okWide, ht, Cell.okWide, Cell.ok] at hv
  split at hv <;> try contradiction
  · rename_i h1 h2
    cases h2
    exact .inl ⟨rfl, rfl, rfl⟩
  · rename_i a _ _ h1 h2
    cases h2
    obtain ⟨_, _, _, hs, row, cells, hsh, _⟩ := hv
    obtain ⟨b, o, s⟩ := a
    subst hs
    refine .inr ⟨b, o, rfl, ?_⟩
    rcases Nat.lt_or_ge b w.heap.size with h | h
    · exact h
    · unfold World.shape? at hsh
      simp [show w.heap[b]? = none by simp [h]] at hsh
theorem open_slflat {S : Type} {t e : TypeId} {r : Reach} {b0 m C : Nat} {v : Value} {d : DataW H} {p : List MemPlace} {ks : List (Option IntKind)} (ht : P.underlying t = some (.slice e)) (cells : S → List Value) (ok : S → Prop) (hlen : ∀ x, (cells x).length = C)
    (hk : flatOf P m e = some ks) (hC : P.cellsOf e = C) (hof : ∀ cs, Flat ks cs → ∃ x, ok x ∧ cs = cells x) (hpos : 0 < C) (hv : Value.okWide P w r b0 t v) (h : DataW.Trod enc P w 0 (fun _ => true) true t v d p) :
    ∃ (A : Option Addr) (n c : Nat) (l : List S), v = .slice A n c ∧ n ≤ c ∧ c ≤ maxLen ∧ SlAt w A n c ∧ Sl w w.heap.size C A n (l.flatMap cells) ∧ l.length = n ∧ ∀ x ∈ l, ok x := by
  obtain ⟨A, n, c, xs, rfl, h1, h2, h3, h4, _⟩ := open_sl ht hv (by rw [hC]; omega) h
  rw [hC] at h3 h4
  obtain ⟨l, hl, rfl, hok⟩ := chunks cells C hlen ok n xs h3.len (fun i hi => by
    obtain ⟨k, y, hy⟩ := h4 i hi
    obtain ⟨x, hx1, hx2⟩ := hof _ (trod_flat _ _ _ _ _ _ hk hy)
    exact ⟨x, hx1, hx2⟩)
  exact ⟨A, n, c, l, rfl, h1, h2, okWide_slAt ht hv, h3, hl, hok⟩
/-- an array or struct of flat things -/
theorem open_raw {t : TypeId} {r : Reach} {b0 m : Nat} {v : Value} {d : DataW H} {p : List MemPlace} {ks : List (Option IntKind)} (hs : (aggSize P t).isSome = true) (hk : flatOf P m t = some ks) (hv : Value.okWide P w r b0 t v) (h : DataW.Trod enc P w 0 (fun _ => true) true t v d p) :
    ∃ cs : List Value, Flat ks cs ∧ v = .agg cs.toArray := by
  obtain ⟨cs, rfl⟩ : ∃ cs, v = .agg cs := by
    simp only [Value.okWide] at hv
    unfold aggSize at hs
    split at hv
    · obtain ⟨cs, rfl, _⟩ := hv; exact ⟨cs, rfl⟩
    · obtain ⟨cs, rfl, _⟩ := hv; exact ⟨cs, rfl⟩
    · split at hs <;> simp_all
  obtain ⟨fuel, hf⟩ := h
  exact ⟨cs.toList, trod_flat _ _ _ _ _ _ hk hf, by simp⟩
end
end Go.Proofs.YtgfmjbfjodidpaaDoor
end
