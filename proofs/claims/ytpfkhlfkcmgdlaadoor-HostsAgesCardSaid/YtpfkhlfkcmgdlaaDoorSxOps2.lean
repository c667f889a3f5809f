/- The symbolic evaluator: each operation does in the model what the evaluator says, continued. No Go text is in sight. -/
import Derived.Test.YtpfkhlfkcmgdlaaDoorSxOps
set_option linter.unusedSimpArgs false
set_option linter.unusedVariables false
namespace Go.Proofs.YtpfkhlfkcmgdlaaDoor
open Go.RowKit

section
variable {P : Program} {C : Ctx} {β : Nm} {m m2 : AMem} {w : World} {tm : List AV} {a : Act} {news : AMem} {ob : List Bool} {lo hi hi' : Nat} {x y val : AV} {u v : Value}

theorem aUn_ok {op : UnOp} (h : aUn op x = some (.eff val news ob)) (hx : γ β x = some v) (hr : Rel C β m2 w) : EffOk P C m2 w β lo hi val news (liftV (Op.unary op v)) := by
  unfold aUn at h
  split at h
  · have := γ_v hx; subst this
    split at h
    · cases h; exact EffOk.still hr rfl rfl
    · cases h
  · have := γ_v hx; subst this
    split at h
    · cases h; exact EffOk.still hr rfl rfl
    · split at h
      · rename_i r hb
        cases h
        exact EffOk.still hr (bitsOp_ok hb w) rfl
      · cases h
    · cases h
  · cases h

theorem aConv_ok {s d : TypeId} (h : aConv P s d x = some (.eff val news ob)) (hx : γ β x = some v) (hr : Rel C β m2 w) : EffOk P C m2 w β lo hi val news (liftV (convert s d v)) := by
  unfold aConv at h
  split at h
  · have := γ_v hx; subst this
    split at h
    · rename_i ds k hs hd
      cases h
      refine EffOk.still hr ?_ rfl
      unfold convert
      rw [Sem.run_bind, run_underlying hs]
      simp only [Result.andThen_ok]
      rw [Sem.run_bind, run_underlying hd]
      simp only [Result.andThen_ok]
      rfl
    · cases h
  · cases h

theorem aFieldAddr_ok {t : TypeId} {f : Nat} (h : aFieldAddr P t f x = some (.eff val news ob)) (hx : γ β x = some v) (hr : Rel C β m2 w) : EffOk P C m2 w β lo hi val news (liftV (Instr.fieldAt t v f)) := by
  unfold aFieldAddr at h
  split at h
  · rename_i id k j
    obtain ⟨L, hL, hn, rfl⟩ := γc_ptr hx
    split at h
    · rename_i fs hu
      split at h
      · rename_i fd hfd
        split at h
        · rename_i n hs
          cases h
          refine EffOk.still (v := .pointer (some ⟨L.b, L.o + (k * L.s + (j + fd.offset)), none⟩)) hr ?_ (by simp [γ, γ1, γc, ad, hL, hn])
          unfold Instr.fieldAt
          rw [Sem.run_bind, run_underlying hu]
          simp [hfd, Instr.sureAddr, fieldPlace, run_sizeA hs, Addr.add_lit, Nat.add_assoc]
        · cases h
      · cases h
    · cases h
  · cases h

theorem γ_agg {l : List AC} (h : γ β (.agg l) = some v) : ∃ vs, γs β l = some vs ∧ v = .agg vs.toArray := by
  simp only [γ, γ1] at h
  split at h
  · rename_i vs hvs; cases h; exact ⟨vs, hvs, rfl⟩
  · cases h

theorem aField_ok {t : TypeId} {f : Nat} (h : aField P t f x = some (.eff val news ob)) (hx : γ β x = some v) (hr : Rel C β m2 w) : EffOk P C m2 w β lo hi val news (liftV (Instr.field t v f)) := by
  unfold aField at h
  split at h
  · rename_i l
    obtain ⟨vs, hvs, rfl⟩ := γ_agg hx
    split at h
    · rename_i fs hu
      split at h
      · rename_i fd hfd
        split at h
        · rename_i n ha hs
          cases h
          refine EffOk.still (v := .agg ((vs.drop fd.offset).take n).toArray) hr ?_ (by simp only [γ, γ1]; rw [γs_take (γs_drop hvs fd.offset) n])
          unfold Instr.field
          rw [Sem.run_bind, run_underlying hu]
          simp [hfd, asAgg, part, Sem.run_bind, run_aggB ha, run_sizeA hs, List.extract]
        · rename_i n ha hs
          split at h
          · rename_i hlt
            cases h
            obtain ⟨q, hq, hc⟩ := γs_get hvs (List.getElem?_eq_getElem hlt)
            refine EffOk.still (v := q) hr ?_ (by simp only [γ, γ1, List.getD, List.getElem?_eq_getElem hlt]; exact hc)
            unfold Instr.field
            rw [Sem.run_bind, run_underlying hu]
            simp [hfd, asAgg, part, Sem.run_bind, run_aggB ha, hq]
          · cases h
        · cases h
      · cases h
    · cases h
  · cases h

theorem γ_sl {id k j len : Nat} {cap : Option Nat} (h : γ β (.c (.sl id k j len cap)) = some v) : ∃ L, β id = some L ∧ ((L.nil = true ∧ len = 0 ∧ cap.getD 0 = 0 ∧ v = .slice none 0 0) ∨ (L.nil = false ∧ v = .slice (some ⟨L.b, L.o + (k * L.s + j), none⟩) len (cap.getD (L.cap - k)))) := by
  simp only [γ, γ1, γc] at h
  split at h
  · rename_i L hL
    split at h
    · rename_i hn
      split at h
      · rename_i hc
        cases h
        exact ⟨L, hL, .inl ⟨hn, hc.1, hc.2, rfl⟩⟩
      · cases h
    · rename_i hn
      cases h
      exact ⟨L, hL, .inr ⟨by simpa using hn, rfl⟩⟩
  · cases h

theorem aIndexAddr_ok {t : TypeId} (h : aIndexAddr P m t x y = some (.eff val news ob)) (hob : allT ob) (hx : γ β x = some u) (hy : γ β y = some v) (hr : Rel C β m2 w) (hs : Sub m m2) :
    EffOk P C m2 w β lo hi val news (liftV (Instr.indexAt t u v)) := by
  unfold aIndexAddr at h
  split at h
  · rename_i id k j q i
    have := γ_v hy; subst this
    obtain ⟨L, hL, hn, rfl⟩ := γc_ptr hx
    split at h
    · rename_i n e hu
      split at h
      · rename_i s hsz
        cases h
        simp [allT] at hob
        refine EffOk.still (v := .pointer (some ⟨L.b, L.o + (k * L.s + (j + i.toNat * s)), none⟩)) hr ?_ (by simp [γ, γ1, γc, ad, hL, hn])
        simp [Instr.indexAt, asIntOf, Sem.run_bind, run_underlying hu, Instr.sureAddr, hob.1, hob.2, run_sizeA hsz, Addr.add_lit, Nat.add_assoc]
      · cases h
    · cases h
  · rename_i id k j len cap q i
    have := γ_v hy; subst this
    obtain ⟨L, hL, hsl⟩ := γ_sl hx
    split at h
    · rename_i e b hu hb
      obtain ⟨L', hL', hbk⟩ := hr.blk id b (hs _ _ hb)
      rw [hL] at hL'
      cases hL'
      split at h
      · rename_i s hsz
        have key : ∀ (k' j' : Nat), 0 ≤ i → i < (len : Int) → k' * L.s + j' = k * L.s + j + i.toNat * s → EffOk P C m2 w β lo hi (.c (.ptr id k' j')) [] (liftV (Instr.indexAt t u (.int q i))) := by
          intro k' j' h0 h1 hpos
          rcases hsl with ⟨hn, h2, _, _⟩ | ⟨hn, rfl⟩
          · subst h2; omega
          · refine EffOk.still (v := .pointer (some ⟨L.b, L.o + (k' * L.s + j'), none⟩)) hr ?_ (by simp [γ, γ1, γc, ad, hL, hn])
            simp [Instr.indexAt, asIntOf, Sem.run_bind, run_underlying hu, h0, h1, run_sizeA hsz, Addr.add_lit]
            try omega
        split at h
        · rename_i hss
          cases h
          simp [allT] at hob
          exact key _ _ hob.1 hob.2 (by rw [hbk.sz, hss, Nat.add_mul]; omega)
        · split at h
          · rename_i hss
            cases h
            simp [allT] at hob
            exact key _ _ hob.1 hob.2 (by omega)
          · cases h
      · cases h
    · cases h
  · cases h

theorem rdL_ok {l : List AC} {vs : List Value} (hl : γs β l = some vs) : ∀ (ks : List Kd) (j : Nat), j + ks.length ≤ l.length → allT (okL l j ks) → γs β (rdL l j ks) = some ((vs.drop j).take ks.length)
  | [], j, _, _ => by simp [rdL, γs]
  | kd :: r, j, hi, ho => by
    simp only [List.length_cons] at hi
    have ho2 : allT (okL l (j + 1) r) ∧ okl kd (l.getD j nov) = true := by
      cases kd with
      | any => exact ⟨ho, rfl⟩
      | b => simp only [okL] at ho; rw [allT_cons] at ho; exact ⟨ho.2, ho.1⟩
      | i q => simp only [okL] at ho; rw [allT_cons] at ho; exact ⟨ho.2, ho.1⟩
    have h1 := rdL_ok hl r (j + 1) (by omega) ho2.1
    have hj : j < l.length := by omega
    obtain ⟨z, hz, hc⟩ := γs_get hl (List.getElem?_eq_getElem hj)
    have hjv : j < vs.length := by rw [γs_length hl]; exact hj
    simp only [rdL, γs]
    rw [tl_ok ho2.2]
    simp only [List.getD, List.getElem?_eq_getElem hj, Option.getD_some]
    rw [hc, h1]
    simp only [List.length_cons]
    rw [List.drop_eq_getElem_cons hjv, List.take_succ_cons]
    have : vs[j] = z := by rw [List.getElem?_eq_getElem hjv] at hz; cases hz; rfl
    rw [this]

theorem aIndex_ok {t : TypeId} (h : aIndex P t x y = some (.eff val news ob)) (hob : allT ob) (hx : γ β x = some u) (hy : γ β y = some v) (hr : Rel C β m2 w) :
    EffOk P C m2 w β lo hi val news (liftV (Instr.index t u v)) := by
  unfold aIndex at h
  split at h
  · rename_i l q i
    have := γ_v hy; subst this
    obtain ⟨vs, hvs, rfl⟩ := γ_agg hx
    split at h
    · rename_i n e hu
      split at h
      · rename_i ks hlay
        split at h
        · rename_i hlen
          cases h
          rw [allT_cons] at hob
          obtain ⟨hb, ho⟩ := hob
          simp at hb
          obtain ⟨h1, h2, _, _⟩ := lay_some hlay
          have hin : i.toNat * ks.length + ks.length ≤ l.length := by
            rw [← hlen, ← Nat.succ_mul]; exact Nat.mul_le_mul_right _ (by omega)
          have hrd := rdL_ok hvs ks (i.toNat * ks.length) hin ho
          refine EffOk.still (v := .agg ((vs.drop (i.toNat * ks.length)).take ks.length).toArray) hr ?_ (by simp only [γ, γ1]; rw [hrd])
          simp [Instr.index, asIntOf, Sem.run_bind, run_underlying hu, hb.1, hb.2, part, run_aggB h1, run_sizeA h2, List.extract]
        · cases h
      · rename_i ks hlay
        split at h
        · rename_i hlen
          cases h
          rw [allT_cons] at hob
          obtain ⟨hb, ho⟩ := hob
          simp at hb
          obtain ⟨h1, h2, h3, _⟩ := lay_some hlay
          have h3 : ks.length = 1 := by simpa using h3
          have hin : i.toNat * ks.length + ks.length ≤ l.length := by
            rw [← hlen, ← Nat.succ_mul]; exact Nat.mul_le_mul_right _ (by omega)
          have hrd := rdL_ok hvs ks (i.toNat * ks.length) hin ho
          match ks, h3, hlay with
          | [kd], _, hlay =>
            simp only [rdL, hd1] at hrd ⊢
            simp only [List.length_cons, List.length_nil, Nat.zero_add, Nat.mul_one] at hrd hin ⊢
            obtain ⟨z, hz, hc⟩ := γs_get hrd (i := 0) (x := tl kd (l.getD i.toNat nov)) rfl
            refine EffOk.still (v := z) hr ?_ hc
            have hz' : vs[i.toNat]? = some z := by simpa [List.getElem?_take, List.getElem?_drop] using hz
            have h2 : sizeA P e = some 1 := h2
            simp [Instr.index, asIntOf, Sem.run_bind, run_underlying hu, hb.1, hb.2, part, run_aggB h1, run_sizeA h2, hz']
        · cases h
      · cases h
    · cases h
  · rename_i s q i
    have := γ_v hx; subst this
    have := γ_v hy; subst this
    split at h
    · rename_i hu
      split at h
      · rename_i b hb
        cases h
        simp only [allT, List.mem_singleton, forall_eq, decide_eq_true_eq] at hob
        refine EffOk.still hr ?_ rfl
        simp [Instr.index, asIntOf, Sem.run_bind, run_underlying hu, hob, hb]
      · cases h
    · cases h
  · cases h

theorem γt_get : ∀ {l : List AV} {vs : List Value}, γt β l = some vs → ∀ {i : Nat} {z : AV}, l[i]? = some z → ∃ q, vs[i]? = some q ∧ γ1 β z = some q
  | [], vs, h, i, z, hz => by simp at hz
  | p :: r, vs, h, i, z, hz => by
    simp only [γt] at h
    split at h
    · rename_i q qs hq hqs
      cases h
      cases i with
      | zero => simp at hz; subst hz; exact ⟨q, rfl, hq⟩
      | succ i => simp at hz; simpa using γt_get hqs hz
    · cases h
theorem γ_of1 {z : AV} {q : Value} (h : γ1 β z = some q) : γ β z = some q := by
  cases z with
  | tup l => cases h
  | c y => exact h
  | agg l => exact h
  | any => exact h
theorem aExtract_ok {i : Nat} (h : aExtract i x = some (.eff val news ob)) (hx : γ β x = some v) (hr : Rel C β m2 w) : EffOk P C m2 w β lo hi val news (liftV (Instr.extract v i)) := by
  unfold aExtract at h
  split at h
  · rename_i l
    simp only [γ] at hx
    split at hx
    · rename_i vs hvs
      cases hx
      split at h
      · rename_i z hz
        cases h
        obtain ⟨q, hq, hg⟩ := γt_get hvs hz
        refine EffOk.still (v := q) hr ?_ (γ_of1 hg)
        simp [Instr.extract, hq]
      · cases h
    · cases hx
  · cases h

/-! ### build -/
theorem γs_setL : ∀ {vs l : List AC} {j : Nat} {us ls : List Value}, j + vs.length ≤ l.length → γs β vs = some us → γs β l = some ls → γs β (setL l j vs) = some (lay ls j us) := by
  intro vs l j us ls hlen hv hl
  rw [γs_iff]
  have h1 := γs_length hv
  have h2 := γs_length hl
  refine ⟨by rw [setL_length, lay_length (by omega), h2], fun i z hz => ?_⟩
  rw [setL_get _ _ _ _ hlen] at hz
  rw [lay_get (by omega), h1]
  by_cases hc : j ≤ i ∧ i < j + vs.length
  · rw [if_pos hc] at hz ⊢
    exact γs_get hv hz
  · rw [if_neg hc] at hz ⊢
    exact γs_get hl hz

theorem bldA_ok (f : Nat → Option (Nat × Nat)) : ∀ {ps : List (Nat × AV)} {acc l : List AC} {qs : List (Nat × Value)} {ls : List Value}, bldA f acc ps = some l → ps.map (·.1) = qs.map (·.1) → γt β (ps.map (·.2)) = some (qs.map (·.2)) →
    γs β acc = some ls → ∃ rs, γs β l = some rs ∧ Instr.fill f ls.toArray qs = some rs.toArray
  | [], acc, l, [], ls, h, _, _, hl => by simp only [bldA, Option.some.injEq] at h; subst h; exact ⟨ls, hl, rfl⟩
  | (i, p) :: r, acc, l, (i', q) :: qs, ls, h, hi, hg, hl => by
    simp only [List.map_cons, List.cons.injEq] at hi
    obtain ⟨rfl, hi⟩ := hi
    simp only [List.map_cons, γt] at hg
    split at hg
    · rename_i q' qs' hq hqs
      simp only [Option.some.injEq, List.cons.injEq] at hg
      obtain ⟨rfl, rfl⟩ := hg
      simp only [bldA] at h
      split at h
      · rename_i o k vs hf hvs
        split at h
        · rename_i hc
          simp only [Bool.and_eq_true] at hc
          obtain ⟨hc1, hc2, hc3⟩ := hc
          have hk : vs.length = k := Nat.eq_of_beq_eq_true hc1
          have hle : o + k ≤ acc.length := Nat.le_of_ble_eq_true hc2
          obtain ⟨us, hus, hcells, _⟩ := γ_cells hvs (γ_of1 hq)
          have hul := γs_length hus
          have hll := γs_length hl
          have hcl : q'.cells.toList = us := hcells (List.all_eq_true.2 (one_γs hc3 hus))
          obtain ⟨rs, h1, h2⟩ := bldA_ok f h hi hqs (γs_setL (by omega) hus hl)
          refine ⟨rs, h1, ?_⟩
          have hsz : q'.cells.size = k := by rw [← Array.length_toList, hcl]; omega
          unfold Instr.fill
          rw [hf]
          simp only
          rw [if_neg (by simp [hsz]; omega)]
          have hz : q'.cells.zipIdx.foldl (fun (cs : Array Value) (x : Value × Nat) => cs.setIfInBounds (o + x.2) x.1) ls.toArray = (lay ls o us).toArray := by
            have := zip_lay o q'.cells.toList 0 ls.toArray (by simp; omega)
            rw [Nat.add_zero] at this
            simp only [List.toList_toArray] at this
            rw [hcl] at this
            rw [← this, ← hcl, ← Array.foldl_toList]
            simp
          rw [← h2, ← hz]
        · cases h
      · cases h
    · cases hg
  | [], _, _, _ :: _, _, _, hi, _, _ => by simp at hi
  | _ :: _, _, _, [], _, _, hi, _, _ => by simp at hi

theorem placesF_ok : ∀ {fs : List Field} {pl : List (Nat × Nat)}, placesF P fs = some pl → ∀ w, (List.mapM (fun f => Functor.map (Prod.mk f.offset) (sizeOf f.type)) fs : Sem (List (Nat × Nat))).run P w = .ok pl w
  | [], pl, h, w => by simp only [placesF, Option.some.injEq] at h; subst h; rfl
  | f :: r, pl, h, w => by
    simp only [placesF] at h
    split at h
    · rename_i n l hn hl
      cases h
      rw [List.mapM_cons, Sem.run_bind]
      simp [run_sizeA hn, placesF_ok hl]
    · cases h
theorem zeroA_ok {t : TypeId} {z : List AC} (h : zeroA P t = some z) : ∃ i q, P.info? t = some i ∧ i.zero = some q ∧ z = q.cells.toList.map .v ∧ ∀ w, (zeroValue t).run P w = .ok q w := by
  unfold zeroA at h
  split at h
  · rename_i i hi
    split at h
    · rename_i q hq
      cases h
      exact ⟨i, q, hi, hq, rfl, fun w => by simp [zeroValue, typeInfo, hi, hq]⟩
    · cases h
  · cases h

theorem aBuild_ok {t : TypeId} {ps : List (Nat × AV)} {qs : List (Nat × Value)} (h : aBuild P t ps = some (.eff val news ob)) (hi : ps.map (·.1) = qs.map (·.1)) (hg : γt β (ps.map (·.2)) = some (qs.map (·.2))) (hr : Rel C β m2 w) :
    EffOk P C m2 w β lo hi' val news (liftV (Instr.build t qs.toArray)) := by
  unfold aBuild at h
  split at h
  · rename_i z fs hz hu
    obtain ⟨i, q, h1, h2, rfl, h3⟩ := zeroA_ok hz
    split at h
    · rename_i pl hpl
      split at h
      · rename_i l hl
        cases h
        obtain ⟨rs, hrs, hfill⟩ := bldA_ok (fun i => pl[i]?) hl hi hg (γs_vs q.cells.toList)
        refine EffOk.still (v := .agg rs.toArray) hr ?_ (by simp only [γ, γ1]; rw [hrs])
        unfold Instr.build
        have hp := placesF_ok hpl w
        have hp' : (fs.mapM (fun f => Functor.map (Prod.mk f.offset) (sizeOf f.type)) : Sem (Array (Nat × Nat))).run P w = .ok pl.toArray w := by
          rw [Array.mapM_eq_mapM_toList]
          simp [hp]
        simp only [Array.toArray_toList] at hfill
        simp [Sem.run_bind, h3, run_underlying hu, hp', hfill]
      · cases h
    · cases h
  · rename_i z n e hz hu
    obtain ⟨i, q, h1, h2, rfl, h3⟩ := zeroA_ok hz
    split at h
    · rename_i s hs
      split at h
      · rename_i l hl
        cases h
        obtain ⟨rs, hrs, hfill⟩ := bldA_ok (fun i => some (i * s, s)) hl hi hg (γs_vs q.cells.toList)
        refine EffOk.still (v := .agg rs.toArray) hr ?_ (by simp only [γ, γ1]; rw [hrs])
        unfold Instr.build
        simp only [Array.toArray_toList] at hfill
        simp [Sem.run_bind, h3, run_underlying hu, run_sizeA hs, hfill]
      · cases h
    · cases h
  · cases h
end
end Go.Proofs.YtpfkhlfkcmgdlaaDoor
