/- ReportsEach: for any number, entries and slot the law returns true (its '..Said'). No further condition. -/
import Derived.Test.YtjmiocacnilchaaRows
import Derived.Test.YtjmiocacnilchaaRepH
set_option linter.unusedSimpArgs false
set_option linter.unusedVariables false
namespace Go.Proofs.Ytjmiocacnilchaa.reportsEach
open Go.RowKit Go.WideShapes Go.ChangeShapes Go.ChangeAt

theorem heldsA_eq (l : List Held) : ∀ n, n ≤ l.length → heldsA (fun k => List.map AC.v ((fun k => Held.cells (List.getD l k Held.zero)) k)) n = (l.take n).map rp
  | 0, _ => rfl
  | n + 1, h => by
    have e : l.getD n Held.zero = l[n] := by simp [List.getD, show n < l.length by omega]
    have ih := heldsA_eq l n (by omega)
    unfold heldsA at ih ⊢
    rw [List.range_succ, List.map_append, ih, List.take_succ_eq_append_getElem (by omega), List.map_append, List.map_singleton, List.map_singleton]
    congr 2
    exact (congrArg (fun x : Held => rpA (x.cells.map .v)) e).trans (rpA_cells _)
theorem heldsA_all (l : List Held) : heldsA (fun k => List.map AC.v ((fun k => Held.cells (List.getD l k Held.zero)) k)) l.length = l.map rp := by rw [heldsA_eq l _ (Nat.le_refl _), List.take_length]
theorem flat_all (l : List Held) (h : ∀ x ∈ l, x.Ok) : (List.all (List.range l.length) fun k => flatB Held.ks ((fun k => List.map AC.v ((fun k => Held.cells (List.getD l k Held.zero)) k)) k)) = true := by
  refine List.all_eq_true.2 fun k hk => ?_
  have hk' : k < l.length := by simpa using hk
  have e : l.getD k Held.zero = l[k] := by simp [List.getD, hk']
  simp only [e]
  exact flatB_mk (Held.ok_flat (h _ (List.getElem_mem hk')))

theorem run (nn a : Int) (l : List Held) (c : Nat) (hc : l.length ≤ c) (hok : ∀ x ∈ l, x.Ok) :
    ∃ path b n ob po, eCall Try.prog 53 nn a l c path = some (bo true, b, n, ob, po) ∧ n ≤ 2000000 ∧ allT ob ∧ ∀ p ∈ po, p := by
  by_cases hbig : 16 < l.length
  · exact ⟨_, _, _, _, _, eF_big nn a l c, by omega, by simp [allT]; omega, by simp⟩
  · obtain ⟨f1, f2, f3, f4⟩ := dlv_facts nn a l
    have s2 := e2_sum nn a l c (dlv nn (l.map rp) a) (by omega) f1
    have hfl := flat_all l hok
    have hcap : capB (some c) l.length false = true := by simp [capB, hc]
    have hlen : l.length ≤ 1000000 := by omega
    cases hd : (dlv nn (l.map rp) a).is
    · have hz := f3 hd
      refine ⟨_, _, _, _, _, eF_no nn a (pc2 a l (many nn l) : Nat) l c (dlv nn (l.map rp) a), by omega, ?_, ?_⟩
      · have hq : eqF [none, some IntKind.i64, some IntKind.u8, some IntKind.u8, some IntKind.u32, some IntKind.u32] [AC.v (Value.bool Said.zero.is), AC.v (Value.int IntKind.i64 Said.zero.at_), AC.v (Value.int IntKind.u8 Said.zero.p.kind), AC.v (Value.int IntKind.u8 Said.zero.p.st), AC.v (Value.int IntKind.u32 Said.zero.p.seq), AC.v (Value.int IntKind.u32 Said.zero.p.val)]
          [AC.v (Value.bool false), AC.v (Value.int IntKind.i64 (Int.ofNat 0)), AC.v (Value.int IntKind.u8 (Int.ofNat 0)), AC.v (Value.int IntKind.u8 (Int.ofNat 0)), AC.v (Value.int IntKind.u32 (Int.ofNat 0)), AC.v (Value.int IntKind.u32 (Int.ofNat 0))] = true := by decide
        simp only [hz, hq, hfl, hcap, decide_eq_true hlen]
        simp [allT, Said.zero]
        omega
      · rw [heldsA_all]
        intro p hp
        rw [List.mem_singleton.1 hp]
        exact s2
    · obtain ⟨k, i, g1, g2, g3, g4⟩ := f2 hd
      have hpos := pc2_pos a l i k g1 (many nn l) (by unfold many; omega) g4
      refine ⟨_, _, _, _, _, eF_is nn a (pc2 a l (many nn l) : Nat) l c (dlv nn (l.map rp) a), by omega, ?_, ?_⟩
      · simp only [hd, hfl, hcap, decide_eq_true hlen]
        simp [allT]
        omega
      · rw [heldsA_all]
        intro p hp
        rw [List.mem_singleton.1 hp]
        exact s2

theorem walk (nn : Int) (A : Option Addr) (n c : Nat) (l : List Held) (a : Int) (w : World) (n0 : -9223372036854775808 ≤ nn) (n1 : nn ≤ 9223372036854775807) (hnc : n ≤ c) (hn : c ≤ maxLen) (hA : SlAt w A n c) (hsl : Sl w w.heap.size 56 A n (l.flatMap Held.cells)) (h1 : l.length = n) (hok : ∀ x ∈ l, x.Ok) (a0 : -9223372036854775808 ≤ a) (a1 : a ≤ 9223372036854775807) :
    Calls Try.prog 8 #[.int .i64 nn, .slice A n c, .int .i64 a] w fun e w' => e = .returned (.bool true) ∧ Below w.heap.size w w' := by
  obtain ⟨path, b, n', ob, po, hrun, hn', hob, hpo⟩ := run nn a l c (by omega) hok
  obtain ⟨s', r1, r2, r3, r4⟩ := viewF_out hrun
  obtain ⟨L, hγ, hrel⟩ : ∃ L, γ1 (nm1 L) (.c (.sl 0 0 0 l.length (some c))) = some (.slice A n c) ∧ Rel (loneC w) (nm1 L) [(0, heB 53 l)] w := by
    rcases hA with ⟨rfl, rfl, rfl⟩ | ⟨b, o, rfl, hb⟩
    · obtain rfl := List.length_eq_zero_iff.1 h1
      exact ⟨⟨0, 0, 56, 0, true⟩, by simp [γ1, γc, nm1], rel_nm1 rfl (fun h => by cases h) (fun _ => rfl) (fun k hk => by simp at hk) (fun k hk => by simp at hk) fun k j u hk => by simp at hk⟩
    · refine ⟨⟨b, o, 56, c, false⟩, by simp [γ1, γc, nm1, h1], rel_nm1 rfl (fun _ => hb) (fun h => by cases h) (fun k hk => Held.len _) (fun k hk => Held.one _) fun k j u hk hu => ?_⟩
      have hj : j < 56 := by have := (List.getElem?_eq_some_iff.1 hu).1; rwa [Held.len] at this
      obtain ⟨b', o', e', _, hc⟩ := hsl.at_ (by omega)
      cases e'
      refine hc (k * 56 + j) u ?_
      rw [flat_get l (k * 56 + j) (by omega)]
      simp only [show (k * 56 + j) / 56 = k by omega, show (k * 56 + j) % 56 = j by omega]
      rw [← hu]
      simp [List.getD, hk]
  have hcalls := calls_f hE3 r1 ⟨by rw [r3]; exact hob, by rw [r4]; exact hpo⟩ (C := loneC w) (β := nm1 L) (w := w) (vs := [.int .i64 nn, .slice A n c, .int .i64 a]) (by simp only [γt]; rw [hγ]; rfl) hrel (fun id h1 h2 => by simp only [nm1]; rw [if_neg (by omega)])
  refine hcalls.mono ?_
  rintro e w' ⟨β', v, rfl, _, _, hv, hr⟩
  refine ⟨?_, below_lone hr⟩
  cases hv
  rfl

set_option maxRecDepth 100000 in
theorem lifted (os : Os) (started : os.Started) (H : Type) (enc : TypeId × Value → H) :
    ReturnsInHanded {} Try.checked os 8 .any (Rows.reportsEachSpec.pre6 enc Try.prog Try.f8 [] false) (Rows.reportsEachSpec.post enc Try.prog Try.f8 false true false false) := by
  refine law_lifted (C := Try.checked) (by kernel_rfl) started (by kernel_rfl) Try.func8 (by kernel_rfl) (by kernel_rfl) rfl Try.underlying4 rfl
    (fun ds h => by match ds, h with | [_, _, _], _ => rfl)
    (ChangeSpec.witness6 (enc := enc) (C := Try.checked) false ⟨#[], #[.int .i64 0, .slice none 0 0, .int .i64 0], []⟩ 8 (by kernel_rfl) (by kernel_rfl) (by kernel_rfl) (by kernel_rfl)) ?_
  intro W base args ds p hval hA _
  change DataW.TrodAll enc Try.prog W 0 (fun _ => true) true Try.f8.params.toList args.toList ds p at hA
  rw [Try.params8] at hA hval
  obtain ⟨v0, vs0, d0, ds0, p0, q0, hargs, rfl, rfl, h0, r0⟩ := trodAll_cons hA
  obtain ⟨v1, vs1, d1, ds1, p1, q1, rfl, rfl, rfl, h1, r1⟩ := trodAll_cons r0
  obtain ⟨v2, vs2, d2, ds2, p2, q2, rfl, rfl, rfl, h2, r2⟩ := trodAll_cons r1
  obtain ⟨rfl, rfl, rfl⟩ := trodAll_nil r2
  obtain rfl : args = #[v0, v1, v2] := by cases args; simp_all
  obtain ⟨a0, rfl, rfl, rfl, w0⟩ := open_int Try.underlying3 (hval 0 3 v0 rfl rfl) h0
  have b0 := bounds_i64 w0
  obtain ⟨A1, n1, c1, l1, rfl, hl1, hm1, pl1, hs1, ll1, ol1⟩ := open_slflat (m := 9) Try.underlying35 Held.cells Held.Ok Held.len (by kernel_rfl) (by kernel_rfl) (fun _ h => Held.of_flat h) (by omega) (hval 1 35 v1 rfl rfl) h1
  obtain ⟨a2, rfl, rfl, rfl, w2⟩ := open_int Try.underlying2 (hval 2 2 v2 rfl rfl) h2
  have b2 := bounds_i64 w2
  exact walk a0 A1 n1 c1 l1 a2 W b0.1 b0.2 hl1 hm1 pl1 hs1 ll1 ol1 b2.1 b2.2

theorem proved : Rows.ReportsEachSaid :=
  OpenClaim.holds_of_wide 8 Try.f8 rfl rfl rfl rfl rfl rfl rfl ⟨rfl, rfl, rfl, rfl, rfl⟩ rfl rfl rfl rfl rfl (by kernel_rfl) Try.func8 (by kernel_rfl)
    (of_decide_eq_true (by kernel_rfl)) (by unfold Func.isWrapper; first | (rw [if_pos (by decide +kernel)]; kernel_rfl) | (rw [if_neg (by decide +kernel)]; exact ⟨rfl, rfl⟩))
    (fun os started H enc _ => lifted os started H enc)
#print axioms proved
end Go.Proofs.Ytjmiocacnilchaa.reportsEach
