/- The contracts of package reports for the evaluator: both Delivers and both Reports. -/
import Derived.Test.YtjmiocacnilchaaRepL
import Derived.Test.YtjmiocacnilchaaRepR
set_option linter.unusedSimpArgs false
set_option linter.unusedVariables false
namespace Go.Proofs.Ytjmiocacnilchaa
open Go.RowKit

/-! ### kinds of cells, told of the evaluator's cells -/
def flatB : List (Option IntKind) → List AC → Bool
  | [], [] => true
  | none :: ks, .v (.bool _) :: r => flatB ks r
  | some k :: ks, .v (.int q n) :: r => decide (q = k) && ((Lit.int k n).wf && flatB ks r)
  | _, _ => false
theorem Flat.nil : Flat [] [] := ⟨rfl, fun i k h => by simp at h⟩
theorem Flat.cons {k : Option IntKind} {ks : List (Option IntKind)} {c : Value} {cs : List Value} (h1 : KOk k c) (h2 : Flat ks cs) : Flat (k :: ks) (c :: cs) := by
  refine ⟨by simp [h2.1], fun i q hq => ?_⟩
  cases i with
  | zero => simp at hq; subst hq; exact ⟨c, rfl, h1⟩
  | succ i => simpa using h2.2 i q (by simpa using hq)
theorem flatB_of : ∀ {ks : List (Option IntKind)} {l : List AC}, flatB ks l = true → ∃ vs, l = vs.map .v ∧ Flat ks vs
  | [], [], _ => ⟨[], rfl, Flat.nil⟩
  | none :: ks, .v (.bool b) :: r, h => by
    obtain ⟨vs, rfl, hf⟩ := flatB_of (ks := ks) (l := r) (by simpa [flatB] using h)
    exact ⟨.bool b :: vs, rfl, Flat.cons ⟨b, rfl⟩ hf⟩
  | some k :: ks, .v (.int q n) :: r, h => by
    simp only [flatB, Bool.and_eq_true, decide_eq_true_eq] at h
    obtain ⟨rfl, h1, h2⟩ := h
    obtain ⟨vs, rfl, hf⟩ := flatB_of (ks := ks) (l := r) h2
    exact ⟨.int q n :: vs, rfl, Flat.cons ⟨n, rfl, h1⟩ hf⟩
theorem flatB_mk : ∀ {ks : List (Option IntKind)} {vs : List Value}, Flat ks vs → flatB ks (vs.map .v) = true
  | [], vs, h => by rw [h.unnil]; rfl
  | none :: ks, vs, h => by
    obtain ⟨c, r, rfl, ⟨b, rfl⟩, h2⟩ := h.uncons
    simpa [flatB] using flatB_mk h2
  | some k :: ks, vs, h => by
    obtain ⟨c, r, rfl, ⟨n, rfl, h1⟩, h2⟩ := h.uncons
    simp [flatB, h1, flatB_mk h2]
theorem wf_of {k : IntKind} {n : Int} (h1 : k.min ≤ n) (h2 : n ≤ k.max) : (Lit.int k n).wf = true := by
  unfold Lit.wf
  rw [Bool.and_eq_true, decide_eq_true_iff, decide_eq_true_iff]
  exact ⟨h1, h2⟩
theorem Flat.repB : ∀ (n : Nat) (v : List Bool), v.length = n → Flat (List.replicate n none) (v.map Value.bool)
  | 0, [], _ => Flat.nil
  | n + 1, b :: r, h => by rw [List.replicate_succ]; exact Flat.cons ⟨b, rfl⟩ (Flat.repB n r (by simpa using h))
theorem Flat.repI {k : IntKind} : ∀ (n : Nat) (v : List Int), v.length = n → (∀ x ∈ v, (Lit.int k x).wf = true) → Flat (List.replicate n (some k)) (v.map (Value.int k))
  | 0, [], _, _ => Flat.nil
  | n + 1, b :: r, h, hv => by rw [List.replicate_succ]; exact Flat.cons ⟨b, rfl, hv b (by simp)⟩ (Flat.repI n r (by simpa using h) fun x hx => hv x (by simp [hx]))
theorem vat_all {n : Nat} {v : Vector Int n} {p : Int → Prop} (h : ∀ k, k < n → p (vat 0 v k)) : ∀ x ∈ v.toList, p x := by
  intro x hx
  obtain ⟨i, hi, rfl⟩ := List.mem_iff_getElem.1 hx
  have := h i (by simpa using hi)
  simpa [vat, show i < n by simpa using hi] using this
theorem Said.ok_flat {x : Said} (h : x.Ok) : Flat Said.ks x.cells := by
  have h0 : Flat Said.ks ([.bool x.is, .int .i64 x.at_] ++ x.p.cells) := Flat.cons ⟨_, rfl⟩ (Flat.cons ⟨_, rfl, wf_of h.1.1 h.1.2⟩ (by simpa using Payload.ok_flat h.2))
  exact h0
theorem View.ok_flat {x : View} (h : x.Ok) : Flat View.ks x.cells := by
  obtain ⟨h1, h2, h3, h4, h5⟩ := h
  have e : Flat View.ks _ := (Flat.repB 8 x.inn.toList (by simp)).append ((Flat.repI 8 x.miss.toList (by simp) (vat_all fun k hk => wf_of (k := .u8) (h1 k hk).1 (h1 k hk).2)).append ((Flat.repI 8 x.good.toList (by simp) (vat_all fun k hk => wf_of (k := .u8) (h2 k hk).1 (h2 k hk).2)).append
    ((Flat.repI 8 x.score.toList (by simp) (vat_all fun k hk => wf_of (k := .u16) (h3 k hk).1 (h3 k hk).2)).append ((Flat.repB 8 x.got.toList (by simp)).append (Flat.cons ⟨_, rfl, wf_of (k := .i8) h4.1 h4.2⟩ (Flat.cons ⟨_, rfl, wf_of (k := .u8) h5.1 h5.2⟩ Flat.nil))))))
  simpa [View.cells] using e
theorem Cell.ok_flat {x : Cell} (h : x.Ok) : Flat Cell.ks x.cells := by
  obtain ⟨h1, h2, h3, h4⟩ := h
  have e : Flat Cell.ks _ := Flat.cons (c := .int .i64 x.age) ⟨_, rfl, wf_of h1.1 h1.2⟩ ((Said.ok_flat h2).append ((Said.ok_flat h3).append ((View.ok_flat h4).append Flat.nil)))
  simpa [Cell.cells, Said.cells, Payload.cells] using e
theorem Held.ok_flat {x : Held} (h : x.Ok) : Flat Held.ks x.cells := by
  have e : Flat Held.ks _ := Flat.cons (c := .bool x.is) ⟨_, rfl⟩ ((Cell.ok_flat h).append Flat.nil)
  simpa [Held.cells] using e

/-! ### Deliver -/
def saA (l : List AC) (o : Nat) : Said := ⟨asB (l.getD o nov), asI (l.getD (o + 1) nov), ⟨asI (l.getD (o + 2) nov), asI (l.getD (o + 3) nov), asI (l.getD (o + 4) nov), asI (l.getD (o + 5) nov)⟩⟩
def rpA (l : List AC) : RP := (asB (l.getD 0 nov), saA l 8)
theorem rpA_cells (h : Held) : rpA (h.cells.map .v) = rp h := rfl
def heldsA (f : Nat → List AC) (n : Nat) : List RP := (List.range n).map fun k => rpA (f k)
def capB (cap : Option Nat) (n : Nat) (row : Bool) : Bool := match cap with | some c => decide (n ≤ c) | none => row
def ctD : CtF
  | [.c (.v (.int .i64 nn)), .c (.sl id 0 0 n cap), .c (.v (.int .i64 a))], m, _ =>
    match look m id with
    | some ⟨_, row, _, sz, .arr q f⟩ =>
      some (.agg ((dlv nn (heldsA f n) a).cells.map .v), [], 0, [decide (n ≤ q), Nat.beq sz 56, decide (n ≤ 1000000), capB cap n row, (List.range n).all fun k => flatB Held.ks (f k)])
    | _ => none
  | _, _, _ => none

theorem γt_cons {β : Nm} {x : AV} {r : List AV} {vs : List Value} (h : γt β (x :: r) = some vs) : ∃ v us, vs = v :: us ∧ γ1 β x = some v ∧ γt β r = some us := by
  simp only [γt] at h
  split at h
  · rename_i v us h1 h2
    cases h
    exact ⟨v, us, rfl, h1, h2⟩
  · cases h
theorem ctD_open {args : List AV} {m : AMem} {ib : Nat} {r : AV} {news : AMem} {k : Nat} {ob : List Bool} (h : ctD args m ib = some (r, news, k, ob)) (ho : allT ob) {C : Ctx} {β : Nm} {m2 : AMem} {w : World} {vs : List Value} (hs : Sub m m2) (hr : Rel C β m2 w) (hv : γt β args = some vs) :
    ∃ nn a n c A L x f q, vs = [.int .i64 nn, .slice A n c, .int .i64 a] ∧ n ≤ c ∧ n ≤ 1000000 ∧ news = [] ∧ k = 0 ∧ x.cs = .arr q f ∧ x.sz = 56 ∧ n ≤ q ∧ BlkOk C β w L x ∧
      ((L.nil = true ∧ A = none ∧ n = 0 ∧ c = 0) ∨ (L.nil = false ∧ A = some ⟨L.b, L.o, none⟩)) ∧
      ∃ l : List Held, l.length = n ∧ (∀ h ∈ l, h.Ok) ∧ (∀ i (hi : i < l.length), f i = (l[i]).cells.map .v) ∧ r = .agg ((dlv nn (l.map rp) a).cells.map .v) := by
  unfold ctD at h
  split at h
  · rename_i nn id n cap a
    split at h
    · rename_i own row ty sz q f hlk
      simp only [Option.some.injEq, Prod.mk.injEq] at h
      obtain ⟨rfl, rfl, rfl, rfl⟩ := h
      simp only [allT, List.forall_mem_cons] at ho
      obtain ⟨o1, o2, o3, o4, o5, _⟩ := ho
      rw [decide_eq_true_eq] at o1 o3
      have o2 := Nat.eq_of_beq_eq_true o2
      subst o2
      obtain ⟨L, hL, hk⟩ := hr.blk id _ (hs _ _ hlk)
      have key : ∀ j, j ≤ n → ∃ l : List Held, l.length = j ∧ (∀ h ∈ l, h.Ok) ∧ (∀ i (hi : i < l.length), f i = (l[i]).cells.map .v) ∧ heldsA f j = l.map rp := by
        intro j
        induction j with
        | zero => exact fun _ => ⟨[], rfl, by simp, fun i hi => absurd hi (by simp), rfl⟩
        | succ j ih =>
          intro hj
          obtain ⟨l, h1, h2, h3, h4⟩ := ih (by omega)
          obtain ⟨us, hu, hfl⟩ := flatB_of (List.all_eq_true.1 o5 j (by simp; omega))
          obtain ⟨y, hy, rfl⟩ := Held.of_flat hfl
          refine ⟨l ++ [y], by simp [h1], ?_, fun i hi => ?_, ?_⟩
          · intro h hm
            rcases List.mem_append.1 hm with e | e
            · exact h2 h e
            · rw [List.mem_singleton.1 e]; exact hy
          · by_cases hij : i < l.length
            · rw [List.getElem_append_left hij]; exact h3 i hij
            · have : i = j := by simp at hi; omega
              subst this
              rw [hu]
              simp [h1]
          · rw [heldsA] at h4 ⊢
            rw [List.range_succ, List.map_append, h4, List.map_append, List.map_singleton, List.map_singleton, hu, rpA_cells]
      obtain ⟨l, h1, h2, h3, h4⟩ := key n (Nat.le_refl _)
      obtain ⟨v1, u1, rfl, e1, ha1⟩ := γt_cons hv
      obtain ⟨v2, u2, rfl, e2, ha2⟩ := γt_cons ha1
      obtain ⟨v3, u3, rfl, e3, ha3⟩ := γt_cons ha2
      clear hv ha1 ha2
      cases e1
      cases e3
      cases ha3
      simp only [γ1, γc, hL] at e2
      cases hn : L.nil with
      | true =>
        rw [hn] at e2
        simp only [if_true] at e2
        split at e2
        · rename_i h0
          obtain ⟨h01, h02⟩ := h0
          cases e2
          subst h01
          exact ⟨nn, a, 0, 0, none, L, _, f, q, rfl, Nat.le_refl _, by omega, rfl, rfl, rfl, rfl, by omega, hk, .inl ⟨hn, rfl, rfl, rfl⟩, l, h1, h2, h3, by rw [h4]⟩
        · cases e2
      | false =>
        rw [hn] at e2
        simp only [Bool.false_eq_true, if_false, Nat.zero_mul, Nat.add_zero, Option.some.injEq] at e2
        subst e2
        refine ⟨nn, a, n, _, _, L, _, f, q, rfl, ?_, o3, rfl, rfl, rfl, rfl, o1, hk, .inr ⟨hn, rfl⟩, l, h1, h2, h3, by rw [h4]⟩
        cases cap with
        | some c => simpa [capB] using o4
        | none =>
          have := hk.rowc o4 hn q f rfl
          simp
          omega
    · cases h
  · cases h
theorem flat_get : ∀ (l : List Held) (i : Nat) (h : i / 56 < l.length), (l.flatMap Held.cells)[i]? = (l[i / 56]).cells[i % 56]?
  | [], i, h => absurd h (by simp)
  | y :: r, i, h => by
    rw [List.flatMap_cons]
    by_cases hlt : i < 56
    · rw [List.getElem?_append_left (by rw [Held.len]; exact hlt)]
      have e : i / 56 = 0 := by omega
      simp only [e, List.getElem_cons_zero, show i % 56 = i by omega]
    · rw [List.getElem?_append_right (by rw [Held.len]; omega), Held.len]
      have e : i / 56 = (i - 56) / 56 + 1 := by omega
      have h' : (i - 56) / 56 < r.length := by simp only [List.length_cons] at h; omega
      rw [flat_get r (i - 56) h']
      simp only [e, List.getElem_cons_succ, show (i - 56) % 56 = i % 56 by omega]
theorem Sl_of_blk {C : Ctx} {β : Nm} {w : World} {L : Loc} {x : ABlk} {f : Nat → List AC} {q n : Nat} (hk : BlkOk C β w L x) (hc : x.cs = .arr q f) (h56 : x.sz = 56) (hnq : n ≤ q) (hn : L.nil = false) {l : List Held} (h1 : l.length = n) (h3 : ∀ i (hi : i < l.length), f i = (l[i]).cells.map .v) :
    Sl w w.heap.size 56 (some ⟨L.b, L.o, none⟩) n (l.flatMap Held.cells) := by
  have hlen : (l.flatMap Held.cells).length = n * 56 := by
    subst h1
    clear h3 hnq
    induction l with
    | nil => rfl
    | cons y r ih => simp only [List.flatMap_cons, List.length_append, ih, Held.len, List.length_cons]; omega
  refine ⟨hlen, fun _ => ⟨L.b, L.o, rfl, hk.lt hn, fun i u hu => ?_⟩⟩
  have hi : i < n * 56 := by rw [← hlen]; exact (List.getElem?_eq_some_iff.1 hu).1
  have hd : i / 56 < l.length := by omega
  have hm : i % 56 < 56 := Nat.mod_lt _ (by omega)
  have hcell : (l[i / 56]).cells[i % 56]? = some u := by rw [← hu]; exact (flat_get l i hd).symm
  obtain ⟨_, v, g1, g2, g3⟩ := hk.cells (i / 56) (i % 56) (by simp only [ABlk.inb, hc, h56]; simp; omega)
  rw [hc] at g1
  simp only [Cs.get] at g1
  rw [h3 _ hd] at g1
  simp only [List.getD, List.getElem?_map, hcell, Option.map_some, Option.getD_some, γc, Option.some.injEq] at g1
  subst g1
  rw [hk.sz, h56] at g3
  rw [← g3]
  congr 2
  omega
/-- a contract of the kind of Deliver's -/
theorem ctD_of {P : Program} {f : FuncId} (hf : ∃ (fn : Func) (c : Code), P.funcs[f]? = some fn ∧ fn.body = some c)
    (h : ∀ (nn a : Int) (A : Option Addr) (n c : Nat) (l : List Held) (w : World), n ≤ c → n ≤ 1000000 → l.length = n → (∀ h ∈ l, h.Ok) → ((A = none ∧ n = 0 ∧ c = 0) ∨ ∃ b o, A = some ⟨b, o, none⟩ ∧ b < w.heap.size) → Sl w w.heap.size 56 A n (l.flatMap Held.cells) →
      Calls P f #[.int .i64 nn, .slice A n c, .int .i64 a] w fun e w' => e = .returned (.agg (dlv nn (l.map rp) a).cells.toArray) ∧ Below w.heap.size w w') : CtOk P f ctD := by
  refine ⟨hf, fun C β m m2 w args ib r news k ob vs hct ho hs hr hfree hlim hv => ?_⟩
  obtain ⟨nn, a, n, c, A, L, x, ff, q, rfl, hnc, hn, rfl, rfl, hcs, h56, hnq, hk, hA, l, h1, h2, h3, rfl⟩ := ctD_open hct ho hs hr hv
  have hsl : Sl w w.heap.size 56 A n (l.flatMap Held.cells) := by
    rcases hA with ⟨_, rfl, rfl, rfl⟩ | ⟨hn, rfl⟩
    · obtain rfl := List.length_eq_zero_iff.1 h1
      exact Sl.nil
    · exact Sl_of_blk hk hcs h56 hnq hn h1 h3
  have hA2 : (A = none ∧ n = 0 ∧ c = 0) ∨ ∃ b o, A = some ⟨b, o, none⟩ ∧ b < w.heap.size := by
    rcases hA with ⟨_, rfl, rfl, rfl⟩ | ⟨hn, rfl⟩
    · exact .inl ⟨rfl, rfl, rfl⟩
    · exact .inr ⟨_, _, rfl, hk.lt hn⟩
  refine (h nn a A n c l w hnc hn h1 h2 hA2 hsl).mono ?_
  rintro e w' ⟨rfl, hb⟩
  exact ⟨β, _, rfl, Ext.refl _, fun _ _ => rfl, by simp only [γ, γ1, γs_vs], by rw [List.append_nil]; exact hr.below hb⟩
theorem ct_reports_Deliver : CtOk Try.prog 23 ctD :=
  ctD_of ⟨_, _, Try.func23, rfl⟩ fun nn a A n c l w hnc hn h1 h2 _ hsl => by
    rw [← deliverF_dlv]
    exact reports_Deliver nn a A n c l w hnc (by unfold maxLen; omega) h1 h2 hsl
end Go.Proofs.Ytjmiocacnilchaa
