/- ReportsAny: for any number, entries and pair of things said the law returns true (its '..Said'). No further condition. -/
import Derived.Test.YtjmiocacnilchaaRows
import Derived.Test.YtjmiocacnilchaaRepI
import Derived.Test.YtjmiocacnilchaaOpen
set_option linter.unusedSimpArgs false
set_option linter.unusedVariables false
namespace Go.Proofs.Ytjmiocacnilchaa.reportsAny
open Go.RowKit Go.WideShapes Go.ChangeShapes Go.ChangeAt

theorem eqF_refl : ∀ (ks : List (Option IntKind)) (xs : List AC), eqF ks xs xs = true
  | none :: ks, x :: xs => by simp [eqF, eqF_refl ks xs]
  | some _ :: ks, x :: xs => by simp [eqF, eqF_refl ks xs]
  | [], _ => by simp [eqF]
  | none :: _, [] => by simp [eqF]
  | some _ :: _, [] => by simp [eqF]
theorem low_x {n tx : Nat} {x0 x1 : Said} : lowB n ⟨true, false, tx, 0, .lit ((x0.cells ++ x1.cells).map .v)⟩ := oBlk_low (ty := tx) (l := x0.cells ++ x1.cells)

theorem y0_sum (nn : Int) (l : List Held) (c : Nat) (x0 x1 : Said) (hl : l.length ≤ 100) :
    LoopV Try.prog (loopAt Try.prog 6 0) [0, 1, 5, 7, 8, 9] [0, 10, 16] [some (i64 nn), some (.c (.sl 0 0 0 l.length (some c))), some (.c (.ptr 10 0 0)), some (.c (.sl 16 0 0 (0 + l.length) none)), some (.c (.v (.slice none 0 0))), some (i64 0)]
      [some (hfB 53 l), some (xB 42 x0 x1), some (ABlk.mk true true 53 56 (Cs.arr (0 + List.length l) fun i => if i < 0 then [] else elt (ABlk.mk false false 53 56 (Cs.arr (List.length l) fun k => List.map AC.v ((fun k => Held.cellsE (List.getD l k Held.zero)) k))) 0 0 56 (i - 0)))] 87 20
      (mkFr 87 (y0F nn l.length c l.length)) (y0M 53 54 42 l x0 x1 l.length) 10000000 (.exit 0) := by
  refine loop_ob hE3 (fuel := 100) (S := Nat) (inv := fun i => i ≤ l.length) (μ := fun i => l.length - i) (tmI := fun i => y0T nn i l.length c i) (mI := fun i => y0M 53 54 42 l x0 x1 i) (nh := 22) (str := 65536) (by omega) (by omega) (s0 := 0) (by omega) ?_ ?_
  · intro tm m h1 h2 h3
    simp only [List.map_cons, List.map_nil, List.cons.injEq, and_true, Nat.zero_add] at h1 h2
    obtain ⟨s0, s1, s5, s7, s8, s9⟩ := h1
    obtain ⟨b0, b10, b16⟩ := h2
    refine wk_mk (ρ := fun id => if id = 20 then .inl 16 else .inr 56) (by omega) (by omega) (by unfold lim; omega) h3 rfl ?_ ?_
    · exact ⟨.inl ⟨.inl (by omega), b0, rBlk_low⟩, .inl ⟨.inl (by omega), b10, low_x⟩, .inr (.inl ⟨by omega, by omega, 16, _, rfl, b16, ⟨rfl, rfl, rfl, rfl, .inr ⟨_, _, _, rfl, rfl, fun k hk => by simp [elt]⟩⟩, wBlk_low⟩), .inr (.inr ⟨by omega, by omega, rfl, by show 0 < 56; omega, _, rfl⟩), trivial⟩
    · exact ⟨⟨_, s0, by simp [i64], GW_i64 rfl⟩, ⟨_, s1, by simp, GW_low rfl⟩, ⟨_, s5, by simp, GW_low rfl⟩, ⟨_, s7, by simp, GW_sl (by omega) (by omega) (by omega) rfl⟩, ⟨_, s8, by simp, GW_nil (by omega) (by omega) (by omega) rfl⟩, ⟨_, s9, by simp [i64], GW_i64 rfl⟩, trivial⟩
  · intro i hi
    have hin : ∀ q j, q < l.length → j ≤ 56 → (hfB 53 l).inb q j = true := fun q j h1 h2 => inb_rBlk h1 h2
    by_cases he : i < l.length
    · obtain ⟨st, v1, v2, v3, v4, v6, v7⟩ := view_out (y0_go nn i l c x0 x1 i)
      refine ⟨_, _, _, st, v1, by omega, ⟨?_, by rw [v7]; simp⟩, .inl ⟨rfl, i + 1, by omega, by omega, ?_⟩⟩
      · rw [v6]
        simp only [Int.toNat_natCast, Nat.zero_add, hin i 56 he (by omega), hin i 1 he (by omega)]
        simp [allT, he]
        omega
      · simp only [List.map_cons, List.map_nil, List.cons.injEq, and_true] at v2 v3
        obtain ⟨s0, s1, s5, s7, s8, s9⟩ := v2
        obtain ⟨b0, b10, b20, _, bN⟩ := v3
        simp only [Int.toNat_natCast, Nat.zero_add] at bN
        refine wk_mk (ρ := fun id => if id = 20 then .inl 20 else .inl 851994) (by omega) (by omega) (by unfold lim; omega) v4 rfl ?_ ?_
        · exact ⟨.inl ⟨.inl (by omega), b0, rBlk_low⟩, .inl ⟨.inl (by omega), b10, low_x⟩, .inr (.inl ⟨by omega, by omega, 20, _, rfl, b20, BEq.refl _, wBlk_low⟩), .inr (.inl ⟨by omega, by omega, 851994, _, rfl, bN, BEq_snoc (l := (l.getD i Held.zero).cellsE) rfl (fun _ _ => rfl) rfl, wBlk_low⟩), trivial⟩
        · exact ⟨⟨_, s0, by simp [i64], GW_i64 rfl⟩, ⟨_, s1, by simp, GW_low rfl⟩, ⟨_, s5, by simp, GW_low rfl⟩, ⟨_, s7, by simp, GW_sl (by omega) (by omega) (by omega) rfl⟩, ⟨_, s8, by simp, GW_sl (by omega) (by omega) (by omega) rfl⟩, ⟨_, s9, by simp [i64], GW_i64 (wrap_nat i (by omega))⟩, trivial⟩
    · obtain rfl : i = l.length := by omega
      obtain ⟨st, v1, v2, v3, v4, v6, v7⟩ := view_out (y0_end nn l.length l c x0 x1 l.length)
      refine ⟨_, _, _, st, v1, by omega, ⟨?_, by rw [v7]; simp⟩, .inr ⟨by simp, rfl, ?_⟩⟩
      · rw [v6]; simp [allT]
      · simp only [List.map_cons, List.map_nil, List.cons.injEq, and_true] at v2 v3
        obtain ⟨s0, s1, s5, s7, s8, s9⟩ := v2
        obtain ⟨b0, b10, b20, b21, _⟩ := v3
        refine wk_mk (ρ := fun id => .inl id) (by omega) (by omega) (by unfold lim; omega) v4 rfl ?_ ?_
        · exact ⟨.inl ⟨.inl (by omega), b0, rBlk_low⟩, .inl ⟨.inl (by omega), b10, low_x⟩, .inr (.inl ⟨by omega, by omega, 20, _, rfl, b20, BEq.refl _, wBlk_low⟩), .inr (.inl ⟨by omega, by omega, 21, _, rfl, b21, BEq.refl _, wBlk_low⟩), trivial⟩
        · exact ⟨⟨_, s0, by simp [i64], GW_i64 rfl⟩, ⟨_, s1, by simp, GW_low rfl⟩, ⟨_, s5, by simp, GW_low rfl⟩, ⟨_, s7, by simp, GW_sl (by omega) (by omega) (by omega) rfl⟩, ⟨_, s8, by simp, GW_sl (by omega) (by omega) (by omega) rfl⟩, trivial⟩

set_option maxRecDepth 100000 in
theorem y2_sum (l : List Held) (c : Nat) (hl : l.length ≤ 100) :
    LoopV Try.prog (loopAt Try.prog 6 2) [1, 7, 12] [0, 20] [some (.c (.sl 0 0 0 l.length (some c))), some (.c (.sl 20 0 0 l.length none)), some (i64 0)]
      [some (hfB 53 l), some (hwB 53 l l.length)] 87 13145752 (mkFr 87 []) [] 300000000 (.exit 4) := by
  refine loop_ob hE3 (fuel := 100) (S := Nat) (inv := fun i => i ≤ l.length) (μ := fun i => l.length - i) (tmI := fun i => y2T i l.length c) (mI := fun i => y2M 53 l) (nh := 200000000) (str := 65536) (by omega) (by omega) (s0 := 0) (by omega) ?_ ?_
  · intro tm m h1 h2 h3
    simp only [List.map_cons, List.map_nil, List.cons.injEq, and_true] at h1 h2
    obtain ⟨s1, s7, s12⟩ := h1
    obtain ⟨b0, b20⟩ := h2
    refine wk_mk (ρ := fun _ => .inr 56) (by omega) (by omega) (by unfold lim; omega) h3 rfl ?_ ?_
    · exact ⟨.inl ⟨.inl (by omega), b0, rBlk_low⟩, .inl ⟨.inl (by omega), b20, wBlk_low⟩, trivial⟩
    · exact ⟨⟨_, s1, by simp, GW_low rfl⟩, ⟨_, s7, by simp, GW_low rfl⟩, ⟨_, s12, by simp [i64], GW_i64 rfl⟩, trivial⟩
  · intro i hi
    have hin : ∀ q j, q < l.length → j ≤ 56 → (hfB 53 l).inb q j = true := fun q j h1 h2 => inb_rBlk h1 h2
    have hin2 : ∀ q j, q < l.length → j ≤ 56 → (hwB 53 l l.length).inb q j = true := fun q j h1 h2 => inb_wBlk h1 h2
    by_cases he : i < l.length
    · obtain ⟨st, v1, v2, v3, v4, v6, v7⟩ := view_out (y2_go i l c)
      refine ⟨_, _, _, st, v1, by omega, ⟨?_, by rw [v7]; simp⟩, .inl ⟨rfl, i + 1, by omega, by omega, ?_⟩⟩
      · rw [v6]
        simp only [↓eqF_refl, Int.toNat_natCast, Nat.zero_add, hin i 56 he (by omega), hin2 i 56 he (by omega)]
        simp [allT, he]
      · simp only [List.map_cons, List.map_nil, List.cons.injEq, and_true] at v2 v3
        obtain ⟨s1, s7, s12⟩ := v2
        obtain ⟨b0, b20⟩ := v3
        refine wk_mk (ρ := fun _ => .inr 56) (by omega) (by omega) (by unfold lim; omega) v4 rfl ?_ ?_
        · exact ⟨.inl ⟨.inl (by omega), b0, rBlk_low⟩, .inl ⟨.inl (by omega), b20, wBlk_low⟩, trivial⟩
        · exact ⟨⟨_, s1, by simp, GW_low rfl⟩, ⟨_, s7, by simp, GW_low rfl⟩, ⟨_, s12, by simp [i64], GW_i64 (wrap_nat i (by omega))⟩, trivial⟩
    · obtain rfl : i = l.length := by omega
      obtain ⟨st, v1, v2, v3, v4, v6, v7⟩ := view_out (y2_end l.length l c)
      refine ⟨_, _, _, st, v1, by omega, ⟨?_, by rw [v7]; simp⟩, .inr ⟨by simp, rfl, ?_⟩⟩
      · rw [v6]; simp [allT]
      · exact wk_mk (ρ := fun _ => .inr 56) (by omega) (by omega) (by unfold lim; omega) v4 rfl trivial trivial

theorem flat_all (l : List Held) (h : ∀ x ∈ l, x.Ok) : (List.all (List.range l.length) fun k => flatB Held.ks ((fun k => List.map AC.v ((fun k => Held.cellsE (List.getD l k Held.zero)) k)) k)) = true := by
  refine List.all_eq_true.2 fun k hk => ?_
  have hk' : k < l.length := by simpa using hk
  have e : l.getD k Held.zero = l[k] := by simp [List.getD, hk']
  simp only [e, Held.cellsE_eq]
  exact flatB_mk (Held.ok_flat (h _ (List.getElem_mem hk')))

set_option maxRecDepth 100000 in
theorem run (nn : Int) (l : List Held) (c : Nat) (x0 x1 : Said) (hc : l.length ≤ c) (hok : ∀ x ∈ l, x.Ok) :
    ∃ path b n ob po, yCall Try.prog 53 nn l c x0 x1 path = some (bo true, b, n, ob, po) ∧ n ≤ 400000000 ∧ allT ob ∧ ∀ p ∈ po, p := by
  by_cases hbig : 100 < l.length
  · exact ⟨_, _, _, _, _, yF_big nn l c x0 x1, by omega, by simp [allT]; omega, by simp⟩
  · have s0 := y0_sum nn l c x0 x1 (by omega)
    have s2 := y2_sum l c (by omega)
    have hfl := flat_all l hok
    have hlen : l.length ≤ 1000000 := by omega
    refine ⟨_, _, _, _, _, yF nn l c x0 x1, by omega, ?_, ?_⟩
    · simp only [↓eqF_refl, hfl, decide_eq_true hlen]
      simp [allT]
      omega
    · simp only [List.forall_mem_cons]
      exact ⟨s2, s0, by simp⟩

theorem walk (nn : Int) (A : Option Addr) (n c : Nat) (l : List Held) (x0 x1 : Said) (w : World) (n0 : -9223372036854775808 ≤ nn) (n1 : nn ≤ 9223372036854775807) (hnc : n ≤ c) (hn : c ≤ maxLen) (hA : SlAt w A n c) (hsl : Sl w w.heap.size 56 A n (l.flatMap Held.cells)) (h1 : l.length = n) (hok : ∀ x ∈ l, x.Ok) (_ : x0.Ok) (_ : x1.Ok) :
    Calls Try.prog 6 #[.int .i64 nn, .slice A n c, .agg (x0.cells ++ x1.cells).toArray] w fun e w' => e = .returned (.bool true) ∧ Below w.heap.size w w' := by
  obtain ⟨path, b, n', ob, po, hrun, hn', hob, hpo⟩ := run nn l c x0 x1 (by omega) hok
  obtain ⟨s', r1, r2, r3, r4⟩ := viewF_out hrun
  obtain ⟨L, hγ, hrel⟩ : ∃ L, γ1 (nm1 L) (.c (.sl 0 0 0 l.length (some c))) = some (.slice A n c) ∧ Rel (loneC w) (nm1 L) [(0, hfB 53 l)] w := by
    rw [hfB_eq]
    rcases hA with ⟨rfl, rfl, rfl⟩ | ⟨b, o, rfl, hb⟩
    · obtain rfl := List.length_eq_zero_iff.1 h1
      exact ⟨⟨0, 0, 56, 0, true⟩, by simp [γ1, γc, nm1], rel_nm1 rfl (fun h => by cases h) (fun _ => rfl) (fun k hk => by simp at hk) (fun k hk => by simp at hk) fun k j u hk => by simp at hk⟩
    · refine ⟨⟨b, o, 56, c, false⟩, by simp [γ1, γc, nm1, h1], rel_nm1 rfl (fun _ => hb) (fun h => by cases h) (fun k hk => Held.len _) (fun k hk => Held.one _) fun k j u hk hu => ?_⟩
      have hj : j < 56 := by have := (List.getElem?_eq_some_iff.1 hu).1; rwa [Held.len] at this
      obtain ⟨b', o', e', _, hc⟩ := hsl.at_ (by omega)
      cases e'
      refine hc (k * 56 + j) u ?_
      rw [flat_get l (k * 56 + j) (by omega)]
      simp only [show (k * 56 + j) / 56 = k by omega, show (k * 56 + j) % 56 = j by omega]
      rw [← hu]
      simp [List.getD, hk]
  have hcalls := calls_f hE3 r1 ⟨by rw [r3]; exact hob, by rw [r4]; exact hpo⟩ (C := loneC w) (β := nm1 L) (w := w) (vs := [.int .i64 nn, .slice A n c, .agg (x0.cells ++ x1.cells).toArray]) (by simp only [γt]; rw [hγ]; rfl) hrel (fun id h1 h2 => by simp only [nm1]; rw [if_neg (by omega)])
  refine hcalls.mono ?_
  rintro e w' ⟨β', v, rfl, _, _, hv, hr⟩
  refine ⟨?_, below_lone hr⟩
  cases hv
  rfl

set_option maxRecDepth 100000 in
theorem lifted (os : Os) (started : os.Started) (H : Type) (enc : TypeId × Value → H) :
    ReturnsInHanded {} Try.checked os 6 .any (Rows.reportsAnySpec.pre6 enc Try.prog Try.f6 [] false) (Rows.reportsAnySpec.post enc Try.prog Try.f6 false true false false) := by
  refine law_lifted (C := Try.checked) (by kernel_rfl) started (by kernel_rfl) Try.func6 (by kernel_rfl) (by kernel_rfl) rfl Try.underlying4 rfl
    (fun ds h => by match ds, h with | [_, _, _], _ => rfl)
    (ChangeSpec.witness6 (enc := enc) (C := Try.checked) false ⟨#[], #[.int .i64 0, .slice none 0 0, .agg (Said.zero.cells ++ Said.zero.cells).toArray], []⟩ 8 (by kernel_rfl) (by kernel_rfl) (by kernel_rfl) (by kernel_rfl)) ?_
  intro W base args ds p hval hA _
  change DataW.TrodAll enc Try.prog W 0 (fun _ => true) true Try.f6.params.toList args.toList ds p at hA
  rw [Try.params6] at hA hval
  obtain ⟨v0, vs0, d0, ds0, p0, q0, hargs, rfl, rfl, h0, r0⟩ := trodAll_cons hA
  obtain ⟨v1, vs1, d1, ds1, p1, q1, rfl, rfl, rfl, h1, r1⟩ := trodAll_cons r0
  obtain ⟨v2, vs2, d2, ds2, p2, q2, rfl, rfl, rfl, h2, r2⟩ := trodAll_cons r1
  obtain ⟨rfl, rfl, rfl⟩ := trodAll_nil r2
  obtain rfl : args = #[v0, v1, v2] := by cases args; simp_all
  obtain ⟨a0, rfl, rfl, rfl, w0⟩ := open_int Try.underlying3 (hval 0 3 v0 rfl rfl) h0
  have b0 := bounds_i64 w0
  obtain ⟨A1, n1, c1, l1, rfl, hl1, hm1, pl1, hs1, ll1, ol1⟩ := open_slflat (m := 9) Try.underlying35 Held.cells Held.Ok Held.len (by kernel_rfl) (by kernel_rfl) (fun _ h => Held.of_flat h) (by omega) (hval 1 35 v1 rfl rfl) h1
  obtain ⟨cs2, fl2, rfl⟩ := open_raw (m := 9) (ks := (Said.ks ++ (Said.ks ++ []))) (by kernel_rfl) (by kernel_rfl) (hval 2 42 v2 rfl rfl) h2
  obtain ⟨_, _, rfl, g2_0, fl2_0⟩ := fl2.unapp
  obtain ⟨x2_0, ox2_0, rfl⟩ := Said.of_flat g2_0
  obtain ⟨_, _, rfl, g2_1, fl2_1⟩ := fl2_0.unapp
  obtain ⟨x2_1, ox2_1, rfl⟩ := Said.of_flat g2_1
  obtain rfl := fl2_1.unnil
  try simp only [List.append_nil] at *
  exact walk a0 A1 n1 c1 l1 x2_0 x2_1 W b0.1 b0.2 hl1 hm1 pl1 hs1 ll1 ol1 ox2_0 ox2_1

theorem proved : Rows.ReportsAnySaid :=
  OpenClaim.holds_of_wide 6 Try.f6 rfl rfl rfl rfl rfl rfl rfl ⟨rfl, rfl, rfl, rfl, rfl⟩ rfl rfl rfl rfl rfl (by kernel_rfl) Try.func6 (by kernel_rfl)
    (of_decide_eq_true (by kernel_rfl)) (by unfold Func.isWrapper; first | (rw [if_pos (by decide +kernel)]; kernel_rfl) | (rw [if_neg (by decide +kernel)]; exact ⟨rfl, rfl⟩))
    (fun os started H enc _ => lifted os started H enc)
#print axioms proved
end Go.Proofs.Ytjmiocacnilchaa.reportsAny
