/- The symbolic evaluator: each operation does in the model what the evaluator says. No Go text is in sight. -/
import Derived.Test.YtpfkhlfkcmgdlaaDoorSxMem
import Derived.Test.YtpfkhlfkcmgdlaaDoorBuild
set_option linter.unusedSimpArgs false
set_option linter.unusedVariables false
namespace Go.Proofs.YtpfkhlfkcmgdlaaDoor
open Go.RowKit

section
variable {P : Program} {C : Ctx} {β : Nm} {m m2 : AMem} {w : World} {tm : List AV} {a : Act}

theorem evC_ok {x : Operand} {av : AV} (hf : FrOk β tm a.tmps) (hr : Rel C β m2 w) (hs : Sub m m2) (h : evC tm m x = some av) : γ β av = some (a.eval x) ∧ γ1 β av = some (a.eval x) ∧ ((∃ y, av = .c y) ∨ ∃ l, av = .agg l) := by
  unfold evC at h
  split at h
  · rename_i y hy
    cases h
    rcases evA_ok hf hr hs hy with h1 | h1
    · cases h1
    · exact ⟨h1, h1, .inl ⟨y, rfl⟩⟩
  · rename_i l hy
    cases h
    rcases evA_ok hf hr hs hy with h1 | h1
    · cases h1
    · exact ⟨h1, h1, .inr ⟨l, rfl⟩⟩
  · cases h
theorem evAs_ok (hf : FrOk β tm a.tmps) (hr : Rel C β m2 w) (hs : Sub m m2) : ∀ {xs : List Operand} {l : List AV}, evAs tm m xs = some l → γt β l = some (xs.map a.eval)
  | [], l, h => by simp only [evAs, Option.some.injEq] at h; subst h; rfl
  | x :: r, l, h => by
    simp only [evAs] at h
    split at h
    · rename_i v vs hv hvs
      cases h
      simp only [γt, List.map_cons]
      rw [(evC_ok hf hr hs hv).2.1, evAs_ok hf hr hs hvs]
    · cases h
theorem evPs_ok (hf : FrOk β tm a.tmps) (hr : Rel C β m2 w) (hs : Sub m m2) : ∀ {xs : List (Nat × Operand)} {l : List (Nat × AV)}, evPs tm m xs = some l →
    l.map (·.1) = xs.map (·.1) ∧ γt β (l.map (·.2)) = some (xs.map fun p => a.eval p.2)
  | [], l, h => by simp only [evPs, Option.some.injEq] at h; subst h; exact ⟨rfl, rfl⟩
  | (i, x) :: r, l, h => by
    simp only [evPs] at h
    split at h
    · rename_i v vs hv hvs
      cases h
      obtain ⟨h1, h2⟩ := evPs_ok hf hr hs hvs
      simp only [γt, List.map_cons]
      rw [(evC_ok hf hr hs hv).2.1, h1, h2]
      exact ⟨rfl, rfl⟩
    · cases h

/-- It yields a value, and at most new blocks, of the names from 'lo' below 'hi'. -/
def EffOk (P : Program) (C : Ctx) (m2 : AMem) (w : World) (β : Nm) (lo hi : Nat) (val : AV) (news : AMem) (s : Sem Next) : Prop :=
  ∃ β' v w', s.run P w = .ok (.value v) w' ∧ Ext β β' ∧ (∀ id, id < lo ∨ hi ≤ id → β' id = β id) ∧ γ β' val = some v ∧ Rel C β' (m2 ++ news) w'

def liftV (s : Sem Value) : Sem Next := do pure (.value (← s))
theorem run_liftV {s : Sem Value} {v : Value} {w w' : World} (h : s.run P w = .ok v w') : (liftV s).run P w = .ok (.value v) w' := by
  unfold liftV
  simp [Sem.run_bind, h]
/-- no memory is made -/
theorem EffOk.still {s : Sem Value} {v : Value} {av : AV} {lo hi : Nat} (hr : Rel C β m2 w) (h : s.run P w = .ok v w) (hg : γ β av = some v) : EffOk P C m2 w β lo hi av [] (liftV s) :=
  ⟨β, v, w, run_liftV h, Ext.refl β, fun _ _ => rfl, hg, by rw [List.append_nil]; exact hr⟩

/-! ### types -/
theorem sizeA_some {t : TypeId} {n : Nat} (h : sizeA P t = some n) : ∃ i, P.info? t = some i ∧ i.size = n := by
  unfold sizeA at h
  split at h
  · rename_i i hi; cases h; exact ⟨i, hi, rfl⟩
  · cases h
theorem run_sizeA {t : TypeId} {n : Nat} (h : sizeA P t = some n) (w : World) : (sizeOf t).run P w = .ok n w := by
  obtain ⟨i, hi, rfl⟩ := sizeA_some h
  simp [sizeOf, typeInfo, hi]
theorem run_aggB {t : TypeId} {b : Bool} (h : aggB P t = some b) (w : World) : (isAgg t).run P w = .ok b w := by
  unfold aggB at h
  split at h
  · rename_i fs hu; cases h; simp [isAgg, run_underlying hu]
  · rename_i n e hu; cases h; simp [isAgg, run_underlying hu]
  · rename_i d hu h1 h2
    cases h
    unfold isAgg
    rw [Sem.run_bind, run_underlying h2]
    simp only [Result.andThen_ok]
    cases d <;> first | rfl | exact absurd rfl (hu _) | exact absurd rfl (h1 _ _)
  · cases h
theorem lay_some {t : TypeId} {b : Bool} {ks : List Kd} (h : lay? P t = some (b, ks)) : aggB P t = some b ∧ sizeA P t = some ks.length ∧ (b = true ∨ ks.length = 1) ∧ kinds P 9 t = some ks := by
  unfold lay? at h
  split at h
  · rename_i a' ks' n h1 h2 h3
    split at h
    · rename_i hc
      cases h
      obtain ⟨rfl, hc2⟩ := hc
      exact ⟨h1, h3, hc2, h2⟩
    · cases h
  · cases h

/-! ### alloc, box -/
theorem run_newVar (t : TypeId) (v : Value) (w : World) : (newVar t v).run P w = .ok ⟨w.heap.size, 0, none⟩ (w.alloc (.cells v.cells t)) := by
  simp [newVar, newRow, newObj, Sem.run]

theorem aAlloc_ok {ib : Nat} {t : TypeId} {val : AV} {news : AMem} {ob : List Bool} (h : aAlloc P ib t = some (.eff val news ob)) (hr : Rel C β m2 w) (hid : β ib = none) (hg : ∀ g, ib ≠ gid g) (old : Value) :
    EffOk P C m2 w β ib (ib + 1) val news (liftV (Instr.alloc t true old)) := by
  unfold aAlloc at h
  split at h
  · rename_i i hi
    split at h
    · rename_i z hz
      split at h
      · rename_i h1
        cases h
        refine ⟨ext1 β ib ⟨w.heap.size, 0, 0, 0, false⟩, .pointer (some ⟨w.heap.size, 0, none⟩), _, run_liftV ?_, ext1_ext hid, fun id hid' => ?_, ?_, Rel.new (t := t) hr hid hg (γs_vs z.cells.toList) (List.all_eq_true.1 h1)⟩
        · simp [Instr.alloc, zeroValue, typeInfo, hi, hz, run_newVar]
        · simp [ext1]; intro e; omega
        · simp [γ, γ1, γc, ad, ext1]
      · cases h
    · cases h
  · cases h

theorem aBox_ok {ib : Nat} {t : TypeId} {x val : AV} {v : Value} {news : AMem} {ob : List Bool} (h : aBox ib t x = some (.eff val news ob)) (hx : γ β x = some v) (hr : Rel C β m2 w) (hid : β ib = none) (hg : ∀ g, ib ≠ gid g) :
    EffOk P C m2 w β ib (ib + 1) val news (liftV (Instr.box t v)) := by
  unfold aBox at h
  split at h
  · rename_i l hl
    split at h
    · rename_i h1
      cases h
      obtain ⟨vs, hvs, hc, _⟩ := γ_cells hl hx
      have ho := one_γs h1 hvs
      have hcv : v.cells.toList = vs := hc (List.all_eq_true.2 ho)
      refine ⟨ext1 β ib ⟨w.heap.size, 0, 0, 0, false⟩, .pointer (some ⟨w.heap.size, 0, none⟩), _, run_liftV ?_, ext1_ext hid, fun id hid' => ?_, ?_, Rel.new (t := t) hr hid hg hvs ho⟩
      · simp [Instr.box, run_newVar, ← hcv]
      · simp [ext1]; intro e; omega
      · simp [γ, γ1, γc, ad, ext1]
    · cases h
  · cases h

/-! ### load -/
theorem γc_ptr {id k j : Nat} {v : Value} (h : γ β (.c (.ptr id k j)) = some v) : ∃ L, β id = some L ∧ L.nil = false ∧ v = .pointer (some ⟨L.b, L.o + (k * L.s + j), none⟩) := by
  simp only [γ, γ1, γc] at h
  split at h
  · rename_i a ha
    cases h
    obtain ⟨L, h1, h2, rfl⟩ := ad_some ha
    exact ⟨L, h1, h2, rfl⟩
  · cases h

theorem aLoad_ok {t : TypeId} {x val : AV} {v : Value} {news : AMem} {ob : List Bool} {lo hi : Nat} (h : aLoad P m t x = some (.eff val news ob)) (hob : allT ob) (hx : γ β x = some v) (hr : Rel C β m2 w) (hs : Sub m m2) :
    EffOk P C m2 w β lo hi val news (liftV (Instr.loadAt t v)) := by
  unfold aLoad at h
  split at h
  · rename_i id k j
    obtain ⟨L, hL, hn, rfl⟩ := γc_ptr hx
    split at h
    · rename_i y ks hy hlay
      cases h
      obtain ⟨h1, h2, _, _⟩ := lay_some hlay
      rw [allT_cons] at hob
      obtain ⟨L', hL', hb⟩ := hr.blk id y (hs _ _ hy)
      rw [hL] at hL'
      cases hL'
      obtain ⟨vs, hvs, hc⟩ := rd_ok hb ks j hob.1 hob.2
      have hvl : vs.length = ks.length := by rw [γs_length hvs, rd_length]
      refine EffOk.still (v := .agg vs.toArray) hr ?_ (by simp only [γ, γ1]; rw [hvs])
      have hload := run_loadCells_list (P := P) w ⟨L.b, L.o + (k * L.s + j), none⟩ vs (fun i u hu => by
        rw [Addr.add_lit]
        have := (hc i u hu).2
        rwa [show L.o + (k * L.s + (j + i)) = L.o + (k * L.s + j) + i by omega] at this)
      simp [Instr.loadAt, Instr.sureAddr, loadVar, Sem.run_bind, run_aggB h1 w, run_sizeA h2 w, ← hvl, hload]
    · rename_i y ks hy hlay
      cases h
      obtain ⟨h1, h2, h3, _⟩ := lay_some hlay
      have h3 : ks.length = 1 := by simpa using h3
      rw [allT_cons] at hob
      obtain ⟨L', hL', hb⟩ := hr.blk id y (hs _ _ hy)
      rw [hL] at hL'
      cases hL'
      obtain ⟨vs, hvs, hc⟩ := rd_ok hb ks j hob.1 hob.2
      have hrl : (rd y.cs k j ks).length = 1 := by rw [rd_length]; exact h3
      obtain ⟨z, hz⟩ := List.length_eq_one_iff.1 hrl
      rw [hz] at hvs ⊢
      obtain ⟨u, hu, hcz⟩ := γs_get hvs (i := 0) (x := z) rfl
      refine EffOk.still (v := u) hr ?_ hcz
      have := (hc 0 u hu).2
      simp only [Nat.add_zero] at this
      simp [Instr.loadAt, Instr.sureAddr, loadVar, Sem.run_bind, run_aggB h1 w, load, Sem.run, this]
    · cases h
  · cases h

/-! ### store -/
theorem aStore_ok {t : TypeId} {x y val : AV} {v u : Value} {e : Efx} {ob : List Bool} (h : aStore P m t x y = some (.upd val e ob)) (hob : allT ob) (hx : γ β x = some v) (hy : γ β y = some u) (hr : Rel C β m w) :
    ∃ w', (Instr.storeAt t v u).run P w = .ok () w' ∧ Rel C β (e.on m) w' ∧ val = .c (.v undef) ∧ w'.heap.size = w.heap.size := by
  unfold aStore at h
  split at h
  · rename_i id k j vs n hvs hn
    split at h
    · rename_i b hb
      split at h
      · rename_i hc
        simp only [Bool.and_eq_true] at hc
        cases h
        obtain ⟨ho, hlen, hone⟩ := hc
        have hlen : vs.length = n + 1 := Nat.eq_of_beq_eq_true hlen
        obtain ⟨L, hL, hnil, rfl⟩ := γc_ptr hx
        obtain ⟨us, hus, hcells, _⟩ := γ_cells hvs hy
        have hone' := one_γs hone hus
        have huc : u.cells.toList = us := hcells (List.all_eq_true.2 hone')
        rw [allT_cons] at hob
        have hput := Rel.putM hr hb ho hL hnil hus hone' hob.1 (by omega)
        obtain ⟨L', hL', hbk⟩ := hr.blk id b hb
        rw [hL] at hL'
        cases hL'
        obtain ⟨_, _, cs, hheap, _⟩ := hbk.own ho hnil
        have hul : us.length = vs.length := γs_length hus
        have hst := run_storeCells_cells (P := P) L.b (L.o + (k * L.s + j)) us 0 w (fun i hi => by
            obtain ⟨_, q, _, _, hq⟩ := hbk.cells k (j + i) (inb_le hob.1 (by omega))
            rw [show L.o + (k * L.s + j) + 0 + i = L.o + (k * L.s + (j + i)) by omega, hq]; rfl)
          (fun i hi => by simp [World.frozen?, hheap]) hone'
        rw [Nat.add_zero] at hst
        have hsc : w.setCells L.b (L.o + (k * L.s + j)) us = put w L.b (L.o + (k * L.s + j)) us := by
          refine setCells_put L.b b.ty us _ w cs hheap ?_
          obtain ⟨_, q, _, _, hq⟩ := hbk.cells k (j + (us.length - 1)) (inb_le hob.1 (by omega))
          have := cell_in hheap hq
          omega
        rw [hsc] at hst
        refine ⟨_, ?_, hput, rfl, size_put us⟩
        have hsz := run_sizeA hn w
        simp [Instr.storeAt, Instr.sureAddr, storeVar, hsz, huc, hul, hlen, hst, show u.cells.size = n + 1 by rw [← Array.length_toList, huc, hul, hlen]]
      · cases h
    · cases h
  · cases h

/-! ### integers, bools -/
theorem γ_v {x v : Value} (h : γ β (.c (.v x)) = some v) : v = x := by cases h; rfl

theorem bitsOp_ok {op : BinOp} {k : IntKind} {x y n : Int} (h : bitsOp op k x y = some n) (w : World) : (Op.intBits op k x y).run P w = .ok (.int k n) w := by
  unfold bitsOp at h
  cases op <;> first | (cases h; done) | (simp only [Option.some.injEq] at h; subst h; rfl)
theorem run_intBinOp {op : BinOp} {k : IntKind} {t : TypeId} {x y : Int} {r : Value} {ob : List Bool} (hs : op ≠ .shl ∧ op ≠ .shr) (h : intOp op k x y = some (r, ob)) (hob : allT ob) (w : World) :
    (binOp op t (.int k x) (.int k y)).run P w = .ok r w := by
  unfold intOp at h
  split at h <;> first
    | (simp only [Option.some.injEq, Prod.mk.injEq] at h; obtain ⟨rfl, rfl⟩ := h; simp [allT] at hob; simp [binOp, Op.intArith, Op.intCmp, Op.intDiv, hob]; done)
    | (split at h
       · rename_i n hn
         simp only [Option.some.injEq, Prod.mk.injEq] at h
         obtain ⟨rfl, rfl⟩ := h
         have := bitsOp_ok (P := P) hn w
         simpa [binOp] using this
       · cases h)
    | cases h
theorem run_shBinOp {op : BinOp} {k k' : IntKind} {t : TypeId} {x y : Int} {r : Value} {ob : List Bool} (h : shOp op k x y = some (r, ob)) (hob : allT ob) (w : World) :
    (binOp op t (.int k x) (.int k' y)).run P w = .ok r w := by
  unfold shOp at h
  split at h <;> first
    | (simp only [Option.some.injEq, Prod.mk.injEq] at h; obtain ⟨rfl, rfl⟩ := h; simp [allT] at hob; simp [binOp, Op.shift, show ¬ y < 0 by omega]; done)
    | cases h
theorem run_eqGuard_int (op : BinOp) (t : TypeId) (x y : Operand) (k k' : IntKind) (a b : Int) (w : World) : (eqGuard op t x y (.int k a) (.int k' b)).run P w = .ok () w := by
  cases op <;> rfl
theorem run_eqGuard_bool (op : BinOp) (t : TypeId) (x y : Operand) (a b : Bool) (w : World) : (eqGuard op t x y (.bool a) (.bool b)).run P w = .ok () w := by
  cases op <;> rfl
theorem run_eqGuard_ptr (op : BinOp) (t : TypeId) (x y : Operand) (a b : Option Addr) (w : World) : (eqGuard op t x y (.pointer a) (.pointer b)).run P w = .ok () w := by
  cases op <;> rfl
theorem run_eqGuard_agg' (op : BinOp) (t : TypeId) (x y : Operand) (a b : Array Value) (w : World) (h : P.eqGuardType P.depth t = false) : (eqGuard op t x y (.agg a) (.agg b)).run P w = .ok () w := by
  cases op <;> simp [eqGuard, program, Sem.run, h]

theorem okF_flat : ∀ {ks : List (Option IntKind)} {xs : List AC} {vs : List Value}, xs.length = ks.length → allT (okF ks xs) → γs β xs = some vs → FlatS ks vs
  | [], [], vs, _, _, h => by cases h; exact FlatS.nil
  | k :: ks, x :: xs, vs, hl, ho, h => by
    simp only [γs] at h
    split at h
    · rename_i v us hv hus
      cases h
      have hl' : xs.length = ks.length := by simpa using hl
      cases k with
      | none =>
        simp only [okF] at ho
        rw [allT_cons] at ho
        refine FlatS.cons ?_ (okF_flat hl' ho.2 hus)
        have := tl_ok ho.1
        rw [← this] at hv
        cases hv
        exact ⟨_, rfl⟩
      | some k =>
        simp only [okF] at ho
        rw [allT_cons] at ho
        refine FlatS.cons ?_ (okF_flat hl' ho.2 hus)
        have := tl_ok ho.1
        rw [← this] at hv
        cases hv
        exact ⟨_, rfl⟩
    · cases h
  | [], _ :: _, _, hl, _, _ => by simp at hl
  | _ :: _, [], _, hl, _, _ => by simp at hl
open Classical in
theorem eqF_eq : ∀ {ks : List (Option IntKind)} {xs ys : List AC} {vs us : List Value}, xs.length = ks.length → ys.length = ks.length → allT (okF ks xs) → allT (okF ks ys) → γs β xs = some vs → γs β ys = some us →
    decide (vs = us) = eqF ks xs ys
  | [], [], [], vs, us, _, _, _, _, h, h' => by cases h; cases h'; simp [eqF]
  | k :: ks, x :: xs, y :: ys, vs, us, hl, hl', ho, ho', h, h' => by
    simp only [γs] at h h'
    split at h
    · rename_i v vs hv hvs
      split at h'
      · rename_i u us hu hus
        cases h
        cases h'
        have hl1 : xs.length = ks.length := by simpa using hl
        have hl2 : ys.length = ks.length := by simpa using hl'
        cases k with
        | none =>
          simp only [okF] at ho ho'
          rw [allT_cons] at ho ho'
          rw [← tl_ok ho.1] at hv
          rw [← tl_ok ho'.1] at hu
          cases hv
          cases hu
          simp only [eqF, ← eqF_eq hl1 hl2 ho.2 ho'.2 hvs hus]
          by_cases e : asB x = asB y
          · simp [e]
          · simp [e]
        | some k =>
          simp only [okF] at ho ho'
          rw [allT_cons] at ho ho'
          rw [← tl_ok ho.1] at hv
          rw [← tl_ok ho'.1] at hu
          cases hv
          cases hu
          simp only [eqF, ← eqF_eq hl1 hl2 ho.2 ho'.2 hvs hus]
          by_cases e : asI x = asI y
          · simp [e]
          · simp [e]
      · cases h'
    · cases h
  | [], _ :: _, _, _, _, hl, _, _, _, _, _ => by simp at hl
  | [], _, _ :: _, _, _, _, hl, _, _, _, _ => by simp at hl
  | _ :: _, [], _, _, _, hl, _, _, _, _, _ => by simp at hl
  | _ :: _, _, [], _, _, _, hl, _, _, _, _ => by simp at hl

def binS (P : Program) (op : BinOp) (t : TypeId) (x y : Operand) (u v : Value) : Sem Value := do eqGuard op t x y u v; binOp op t u v

theorem neg_ok {op : BinOp} {b r : Bool} (h : neg? op b = some r) : (op = .eql ∧ r = b) ∨ (op = .neq ∧ r = !b) := by
  unfold neg? at h
  split at h <;> cases h <;> simp
theorem run_eqS {op : BinOp} {t : TypeId} {u v : Value} {b r : Bool} (hn : neg? op b = some r) (he : (Op.equal t u v).run P w = .ok b w)
    (h1 : binOp .eql t u v = do pure (.bool (← Op.equal t u v))) (h2 : binOp .neq t u v = do pure (.bool (!(← Op.equal t u v)))) : (binOp op t u v).run P w = .ok (.bool r) w := by
  rcases neg_ok hn with ⟨rfl, rfl⟩ | ⟨rfl, rfl⟩
  · rw [h1, Sem.run_bind, he]; rfl
  · rw [h2, Sem.run_bind, he]; rfl
theorem run_equal_bool {t : TypeId} {a b : Bool} (hu : P.underlying t = some .bool) : (Op.equal t (.bool a) (.bool b)).run P w = .ok (a == b) w := by
  show (Op.equalIn (9999 + 1) t _ _).run P w = _
  rw [Op.equalIn, Sem.run_bind, run_underlying hu]
  rfl
theorem run_equal_ptr {t e : TypeId} {a : Option Addr} (hu : P.underlying t = some (.pointer e)) : (Op.equal t (.pointer a) (.pointer none)).run P w = .ok a.isNone w := by
  show (Op.equalIn (9999 + 1) t _ _).run P w = _
  rw [Op.equalIn, Sem.run_bind, run_underlying hu]
  cases a <;> rfl

theorem aBin_ok {op : BinOp} {t : TypeId} {ox oy : Operand} {x y val : AV} {u v : Value} {news : AMem} {ob : List Bool} {lo hi : Nat} (h : aBin P op t x y = some (.eff val news ob)) (hob : allT ob) (hx : γ β x = some u) (hy : γ β y = some v)
    (hr : Rel C β m2 w) : EffOk P C m2 w β lo hi val news (liftV (binS P op t ox oy u v)) := by
  unfold aBin at h
  split at h
  · rename_i k p k' q
    have := γ_v hx
    subst this
    have := γ_v hy
    subst this
    split at h
    · split at h
      · rename_i r ob' hsh
        cases h
        refine EffOk.still hr ?_ rfl
        unfold binS
        rw [Sem.run_bind, run_eqGuard_int]
        exact run_shBinOp hsh hob w
      · cases h
    · split at h
      · rename_i r ob' hsh
        cases h
        refine EffOk.still hr ?_ rfl
        unfold binS
        rw [Sem.run_bind, run_eqGuard_int]
        exact run_shBinOp hsh hob w
      · cases h
    · rename_i n1 n2
      split at h
      · rename_i hk
        subst hk
        split at h
        · rename_i r ob' hi'
          cases h
          refine EffOk.still hr ?_ rfl
          unfold binS
          rw [Sem.run_bind, run_eqGuard_int]
          exact run_intBinOp ⟨n1, n2⟩ hi' hob w
        · cases h
      · cases h
  · rename_i p q
    have := γ_v hx
    subst this
    have := γ_v hy
    subst this
    split at h
    · rename_i r hu hn
      cases h
      refine EffOk.still hr ?_ rfl
      unfold binS
      rw [Sem.run_bind, run_eqGuard_bool]
      exact run_eqS hn (run_equal_bool hu) rfl rfl
    · cases h
  · have := γ_v hx
    subst this
    have := γ_v hy
    subst this
    split at h
    · rename_i r hu hn
      cases h
      refine EffOk.still hr ?_ rfl
      unfold binS
      rw [Sem.run_bind, run_eqGuard_ptr]
      exact run_eqS hn (run_equal_ptr hu) rfl rfl
    · cases h
  · have := γ_v hy
    subst this
    obtain ⟨L, hL, hn, rfl⟩ := γc_ptr hx
    split at h
    · rename_i r hu hn
      cases h
      refine EffOk.still hr ?_ rfl
      unfold binS
      rw [Sem.run_bind, run_eqGuard_ptr]
      exact run_eqS hn (run_equal_ptr hu) rfl rfl
    · cases h
  · rename_i xs ys
    split at h
    · rename_i ks r hk hn hg hagg
      split at h
      · rename_i hl
        simp only [Bool.and_eq_true] at hl
        cases h
        rw [hk, Option.getD_some] at hn
        simp only [γ, γ1] at hx hy
        split at hx
        · rename_i vs hvs
          split at hy
          · rename_i us hus
            cases hx
            cases hy
            have h1 : xs.length = ks.length := Nat.eq_of_beq_eq_true hl.1
            have h2 : ys.length = ks.length := Nat.eq_of_beq_eq_true hl.2
            rw [allT_append] at hob
            refine EffOk.still hr ?_ rfl
            unfold binS
            rw [Sem.run_bind, run_eqGuard_agg' _ _ _ _ _ _ _ hg]
            have he := run_equalIn_flat (P := P) (d := 10000) (by omega) hk hagg (okF_flat h1 hob.1 hvs) (okF_flat h2 hob.2 hus) w
            rw [eqF_eq h1 h2 hob.1 hob.2 hvs hus] at he
            exact run_eqS hn he rfl rfl
          · cases hy
        · cases hx
      · cases h
    · cases h
  · cases h
theorem run_eqGuard_sl (op : BinOp) (t : TypeId) (x y : Operand) (A B : Option Addr) (n c n' c' : Nat) (w : World) : (eqGuard op t x y (.slice A n c) (.slice B n' c')).run P w = .ok () w := by
  cases op <;> rfl
theorem run_equal_sl {t e : TypeId} {A : Option Addr} {n c : Nat} (hu : P.underlying t = some (.slice e)) : (Op.equal t (.slice A n c) (.slice none 0 0)).run P w = .ok A.isNone w := by
  show (Op.equalIn (9999 + 1) t _ _).run P w = _
  rw [Op.equalIn, Sem.run_bind, run_underlying hu]
  cases A <;> rfl
theorem aBinM_ok {op : BinOp} {t : TypeId} {ox oy : Operand} {x y val : AV} {u v : Value} {news : AMem} {ob : List Bool} {lo hi : Nat} (h : aBinM P m op t x y = some (.eff val news ob)) (hob : allT ob) (hx : γ β x = some u) (hy : γ β y = some v)
    (hr : Rel C β m2 w) (hs : Sub m m2) : EffOk P C m2 w β lo hi val news (liftV (binS P op t ox oy u v)) := by
  have key : ∀ {A : Option Addr} {n c : Nat} {e : TypeId} {r : Bool}, P.underlying t = some (.slice e) → neg? op A.isNone = some r → EffOk P C m2 w β lo hi (.c (.v (.bool r))) [] (liftV (binS P op t ox oy (.slice A n c) (.slice none 0 0))) := by
    intro A n c e r hu hn
    refine EffOk.still hr ?_ rfl
    unfold binS
    rw [Sem.run_bind, run_eqGuard_sl]
    exact run_eqS hn (run_equal_sl hu) rfl rfl
  unfold aBinM at h
  split at h
  · rename_i id k j len cap
    have := γ_v hy; subst this
    split at h
    · rename_i e r b hu hn hb
      cases h
      obtain ⟨L, hL, hbk⟩ := hr.blk id b (hs _ _ hb)
      simp only [allT, List.mem_singleton, forall_eq] at hob
      obtain ⟨hnil, _⟩ := hbk.cells 0 0 hob
      have hx2 := hx
      simp only [γ, γ1, γc, hL, hnil, Bool.false_eq_true, if_false, Option.some.injEq] at hx2
      subst hx2
      exact key hu hn
    · cases h
  · have := γ_v hx; subst this
    have := γ_v hy; subst this
    split at h
    · rename_i e r hu hn; cases h; exact key hu hn
    · cases h
  · have := γ_v hx; subst this
    have := γ_v hy; subst this
    split at h
    · rename_i e r hu hn; cases h; exact key hu hn
    · cases h
  · exact aBin_ok h hob hx hy hr
end
end Go.Proofs.YtpfkhlfkcmgdlaaDoor
