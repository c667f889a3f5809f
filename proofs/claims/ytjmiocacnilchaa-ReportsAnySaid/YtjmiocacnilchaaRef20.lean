/- sennitref20.Deliver: what it returns, as a function of lists. -/
import Derived.Test.YtjmiocacnilchaaRef20E
set_option linter.unusedSimpArgs false
set_option linter.unusedVariables false
namespace Go.Proofs.Ytjmiocacnilchaa
open Go.RowKit

def hitR (a : Int) (h : RHeld) : Bool := h.is && (h.cell.report.is && (h.cell.report.at_ == a))
/-- the payloads that are reported of the slot, by the first 'i' entries -/
def hits (a : Int) (ws : List RHeld) (i : Nat) : List Payload := ((ws.take i).filter (hitR a)).map (·.cell.report.p)
theorem hits_succ (a : Int) (ws : List RHeld) (i : Nat) (h : i < ws.length) : hits a ws (i + 1) = hits a ws i ++ if hitR a (ws.getD i RHeld.zero) = true then [(ws.getD i RHeld.zero).cell.report.p] else [] := by
  have e : ws.getD i RHeld.zero = ws[i] := by simp [List.getD, h]
  rw [e]
  simp only [hits, List.take_succ_eq_append_getElem h, List.filter_append, List.map_append]
  congr 1
  by_cases hh : hitR a ws[i] = true
  · simp [hh]
  · simp [hh]

theorem pyB_snoc {ty : Nat} {L : List Payload} {p : Payload} :
    BEq ⟨true, true, ty, 4, .arr (L.length + 1) fun k => if k < L.length then ((L.getD k Payload.zero).cells).map .v else elt ⟨true, false, ty, 0, .lit (p.cells.map .v)⟩ 0 0 4 (k - L.length)⟩ (pyB ty (L ++ [p])) := by
  unfold pyB
  rw [List.length_append]
  exact BEq_snoc rfl (fun k hk => by rw [getD_snoc1 hk]) (by rw [getD_snoc2])
theorem hE1 : EnvOk (E1 Try.prog) := envOk (fun f g h => by cases h) (by kernel_rfl) (by kernel_rfl)

theorem d1_sum (nn a : Int) (ws : List RHeld) (c : Nat) (hw : ws.length ≤ 1000000) (hn : 4 ≤ nn ∧ nn ≤ 16) :
    LoopV Try.prog (loopAt Try.prog 24 0) [0, 1, 2, 6, 7, 8] [0, 10] [some (i64 nn), some (.c (.sl 0 0 0 ws.length (some c))), some (i64 a), some (.c (.ptr 10 0 0)), some (.c (.v (.slice none 0 0))), some (i64 0)] [some (wsB 54 ws), some (zsB 41)] 117 27
      (d1F a (hits a ws nn.toNat).length) (d1N 41 39 (hits a ws nn.toNat)) 100 (.exit 0) := by
  refine loop_ob hE1 (fuel := 100) (S := Nat) (inv := fun i => (i : Int) ≤ nn ∧ i ≤ ws.length) (μ := fun i => ws.length - i) (tmI := fun i => d1T nn a i ws.length c (hits a ws i).length) (mI := fun i => d1M 54 41 39 ws (hits a ws i)) (nh := 28) (str := 65536) (by omega) (by omega) (s0 := 0) ⟨by omega, by omega⟩ ?_ ?_
  · intro tm m h1 h2 h3
    simp only [List.map_cons, List.map_nil, List.cons.injEq, and_true] at h1 h2
    obtain ⟨s0, s1, s2, s6, s7, s8⟩ := h1
    obtain ⟨b0, b10⟩ := h2
    refine wk_mk (ρ := fun _ => .inr 4) (by omega) (by omega) (by unfold lim; omega) h3 rfl ?_ ?_
    · exact ⟨.inl ⟨.inl (by omega), b0, rBlk_low⟩, .inl ⟨.inl (by omega), b10, oBlk_low⟩, .inr (.inr ⟨by omega, by omega, rfl, by show 0 < 4; omega, _, rfl⟩), trivial⟩
    · exact ⟨⟨_, s0, by simp [i64], GW_i64 rfl⟩, ⟨_, s1, by simp, GW_low rfl⟩, ⟨_, s2, by simp [i64], GW_i64 rfl⟩, ⟨_, s6, by simp, GW_low rfl⟩, ⟨_, s7, by simp, GW_nil (by omega) (by omega) (by omega) rfl⟩, ⟨_, s8, by simp [i64], GW_i64 rfl⟩, trivial⟩
  · intro i ⟨hi1, hi2⟩
    have hlen : (hits a ws i).length ≤ 1000000 := by
      have : (hits a ws i).length ≤ (ws.take i).length := by simp only [hits, List.length_map]; exact List.length_filter_le _ _
      simp at this; omega
    have hws : ∀ k j, k < ws.length → j ≤ 56 → (wsB 54 ws).inb k j = true := fun k j h1 h2 => inb_rBlk h1 h2
    have hws1 := fun h => hws i 1 h (by omega)
    have hws2 := fun h => hws i 14 h (by omega)
    by_cases he1 : (i : Int) < nn
    · by_cases he2 : i < ws.length
      · have hsuc := hits_succ a ws i he2
        generalize hg : ws.getD i RHeld.zero = g at hsuc
        have hmiss : hitR a g = false → ∀ (n1 : Nat) (ob : List Bool) (p : List Bool), view [0, 1, 2, 6, 7, 8] [0, 10, 27] (fC (E1 Try.prog) 100 (loopAt Try.prog 24 0) 28 65536 (sH (d1T nn a i ws.length c (hits a ws i).length) (d1M 54 41 39 ws (hits a ws i)) p)) = some (.normal, [some (i64 nn), some (.c (.sl 0 0 0 ws.length (some c))), some (i64 a), some (.c (.ptr 10 0 0)), some (.c (.sl 27 0 0 (hits a ws i).length none)), some (i64 (IntKind.i64.wrap (i + Int.ofNat 1)))], [some (wsB 54 ws), some (zsB 41), some (pyB 39 (hits a ws i))], 117, n1, ob, []) → n1 ≤ 100 → allT ob →
            ∃ path e' n1 st', fC (E1 Try.prog) 100 (loopAt Try.prog 24 0) 28 65536 ⟨d1T nn a i ws.length c (hits a ws i).length, d1M 54 41 39 ws (hits a ws i), 0, 0, false, path, [], []⟩ = some (e', n1, st') ∧ n1 ≤ 100 ∧ Obs st' ∧
              ((e' = .normal ∧ ∃ s' : Nat, ((s' : Int) ≤ nn ∧ s' ≤ ws.length) ∧ ws.length - s' < ws.length - i ∧ Wk 27 28 100 st'.tm st'.m (d1T nn a s' ws.length c (hits a ws s').length) (d1M 54 41 39 ws (hits a ws s'))) ∨ (e' ≠ .normal ∧ e' = .exit 0 ∧ Wk 27 100 100 st'.tm st'.m (d1F a (hits a ws nn.toNat).length) (d1N 41 39 (hits a ws nn.toNat)))) := by
          intro hh n1 ob0 p hv hn0 hob
          rw [hh] at hsuc
          simp only [Bool.false_eq_true, if_false, List.append_nil] at hsuc
          obtain ⟨st, v1, v2, v3, v4, v6, v7⟩ := view_out hv
          refine ⟨_, _, _, st, v1, by omega, ⟨by rw [v6]; exact hob, by rw [v7]; simp⟩, .inl ⟨rfl, i + 1, ⟨by omega, by omega⟩, by omega, ?_⟩⟩
          simp only [List.map_cons, List.map_nil, List.cons.injEq, and_true] at v2 v3
          obtain ⟨s0, s1, s2, s6, s7, s8⟩ := v2
          obtain ⟨b0, b10, b27⟩ := v3
          rw [hsuc]
          refine wk_mk (ρ := fun _ => .inl 27) (by omega) (by omega) (by unfold lim; omega) v4 rfl ?_ ?_
          · exact ⟨.inl ⟨.inl (by omega), b0, rBlk_low⟩, .inl ⟨.inl (by omega), b10, oBlk_low⟩, .inr (.inl ⟨by omega, by omega, 27, _, rfl, b27, BEq.refl _, wBlk_low⟩), trivial⟩
          · exact ⟨⟨_, s0, by simp [i64], GW_i64 rfl⟩, ⟨_, s1, by simp, GW_low rfl⟩, ⟨_, s2, by simp [i64], GW_i64 rfl⟩, ⟨_, s6, by simp, GW_low rfl⟩, ⟨_, s7, by simp, GW_sl (by omega) (by omega) (by omega) rfl⟩, ⟨_, s8, by simp [i64], GW_i64 (wrap_succ i (by omega))⟩, trivial⟩
        by_cases c1 : g.is = true
        · by_cases c2 : g.cell.report.is = true
          · by_cases c3 : g.cell.report.at_ = a
            · -- it is reported
              have hh : hitR a g = true := by simp [hitR, c1, c2, c3]
              rw [if_pos hh] at hsuc
              obtain ⟨st, v1, v2, v3, v4, v6, v7⟩ := view_out (d1_hit nn a i ws (hits a ws i) c)
              refine ⟨_, _, _, st, v1, by omega, ⟨?_, by rw [v7]; simp⟩, .inl ⟨rfl, i + 1, ⟨by omega, by omega⟩, by omega, ?_⟩⟩
              · rw [v6]
                simp only [Int.toNat_natCast, Nat.zero_add, hg, c1, c2, c3, he1, he2, hws1 he2, hws2 he2]
                simp [allT]
                omega
              · simp only [List.map_cons, List.map_nil, List.cons.injEq, and_true] at v2 v3
                obtain ⟨s0, s1, s2, s6, s7, s8⟩ := v2
                obtain ⟨b0, b10, b64⟩ := v3
                rw [hsuc]
                simp only [Int.toNat_natCast, Nat.zero_add, hg] at b64
                refine wk_mk (ρ := fun _ => .inl 64) (by omega) (by omega) (by unfold lim; omega) v4 rfl ?_ ?_
                · exact ⟨.inl ⟨.inl (by omega), b0, rBlk_low⟩, .inl ⟨.inl (by omega), b10, oBlk_low⟩, .inr (.inl ⟨by omega, by omega, 64, _, rfl, b64, pyB_snoc, wBlk_low⟩), trivial⟩
                · exact ⟨⟨_, s0, by simp [i64], GW_i64 rfl⟩, ⟨_, s1, by simp, GW_low rfl⟩, ⟨_, s2, by simp [i64], GW_i64 rfl⟩, ⟨_, s6, by simp, GW_low rfl⟩, ⟨_, s7, by simp, by simp only [List.length_append, List.length_cons, List.length_nil]; exact GW_sl (by omega) (by omega) (by omega) rfl⟩, ⟨_, s8, by simp [i64], GW_i64 (wrap_succ i (by omega))⟩, trivial⟩
            · skip
              refine hmiss (by simp [hitR, c3]) _ _ _ (d1_no3 nn a i ws (hits a ws i) c) (by omega) ?_
              simp only [Int.toNat_natCast, Nat.zero_add, hg, c1, c2, he1, he2, hws1 he2, hws2 he2]
              simp [allT, c3]
              try omega
          · skip
            refine hmiss (by simp [hitR, c2]) _ _ _ (d1_no2 nn a i ws (hits a ws i) c) (by omega) ?_
            simp only [Int.toNat_natCast, Nat.zero_add, hg, c1, he1, he2, hws1 he2, hws2 he2]
            simp [allT, c2]
            try omega
        · skip
          refine hmiss (by simp [hitR, c1]) _ _ _ (d1_no1 nn a i ws (hits a ws i) c) (by omega) ?_
          simp only [Int.toNat_natCast, Nat.zero_add, hg, he1, he2, hws1 he2, hws2 he2]
          simp [allT, c1]
          try omega
      · -- behind the last entry
        have hend : hits a ws nn.toNat = hits a ws i := by
          simp only [hits]
          rw [List.take_of_length_le (by omega), List.take_of_length_le (by omega)]
        obtain ⟨st, v1, v2, v3, v4, v6, v7⟩ := view_out (d1_end2 nn a i ws (hits a ws i) c)
        refine ⟨_, _, _, st, v1, by omega, ⟨?_, by rw [v7]; simp⟩, .inr ⟨by simp, rfl, ?_⟩⟩
        · rw [v6]; simp [allT]; omega
        · simp only [List.map_cons, List.map_nil, List.cons.injEq, and_true] at v2 v3
          obtain ⟨s2, s6, s7⟩ := v2
          obtain ⟨b10, b27⟩ := v3
          rw [hend]
          refine wk_mk (ρ := fun _ => .inl 27) (by omega) (by omega) (by unfold lim; omega) v4 rfl ?_ ?_
          · exact ⟨.inl ⟨.inl (by omega), b10, oBlk_low⟩, .inr (.inl ⟨by omega, by omega, 27, _, rfl, b27, BEq.refl _, wBlk_low⟩), trivial⟩
          · exact ⟨⟨_, s2, by simp [i64], GW_i64 rfl⟩, ⟨_, s6, by simp, GW_low rfl⟩, ⟨_, s7, by simp, GW_sl (by omega) (by omega) (by omega) rfl⟩, trivial⟩
    · have hend : hits a ws nn.toNat = hits a ws i := by rw [show nn.toNat = i by omega]
      obtain ⟨st, v1, v2, v3, v4, v6, v7⟩ := view_out (d1_end1 nn a i ws (hits a ws i) c)
      refine ⟨_, _, _, st, v1, by omega, ⟨?_, by rw [v7]; simp⟩, .inr ⟨by simp, rfl, ?_⟩⟩
      · rw [v6]; simp [allT]; omega
      · simp only [List.map_cons, List.map_nil, List.cons.injEq, and_true] at v2 v3
        obtain ⟨s2, s6, s7⟩ := v2
        obtain ⟨b10, b27⟩ := v3
        rw [hend]
        refine wk_mk (ρ := fun _ => .inl 27) (by omega) (by omega) (by unfold lim; omega) v4 rfl ?_ ?_
        · exact ⟨.inl ⟨.inl (by omega), b10, oBlk_low⟩, .inr (.inl ⟨by omega, by omega, 27, _, rfl, b27, BEq.refl _, wBlk_low⟩), trivial⟩
        · exact ⟨⟨_, s2, by simp [i64], GW_i64 rfl⟩, ⟨_, s6, by simp, GW_low rfl⟩, ⟨_, s7, by simp, GW_sl (by omega) (by omega) (by omega) rfl⟩, trivial⟩

/-! ### pairs of equal payloads -/
theorem eqF_pay (p q : Payload) : eqF [some IntKind.u8, some IntKind.u8, some IntKind.u32, some IntKind.u32] [AC.v (Value.int IntKind.u8 p.kind), AC.v (Value.int IntKind.u8 p.st), AC.v (Value.int IntKind.u32 p.seq), AC.v (Value.int IntKind.u32 p.val)]
    [AC.v (Value.int IntKind.u8 q.kind), AC.v (Value.int IntKind.u8 q.st), AC.v (Value.int IntKind.u32 q.seq), AC.v (Value.int IntKind.u32 q.val)] = decide (p = q) := by
  obtain ⟨a, b, c, d⟩ := p
  obtain ⟨a', b', c', d'⟩ := q
  by_cases h1 : a = a' <;> by_cases h2 : b = b' <;> by_cases h3 : c = c' <;> by_cases h4 : d = d' <;> simp [eqF, asI, h1, h2, h3, h4]
/-- of the first 'k' those that are the i-th one -/
def fnd3 (L : List Payload) (i k : Nat) : List Payload := (L.take k).filter fun q => decide (q = L.getD i Payload.zero)
theorem fnd3_succ (L : List Payload) (i k : Nat) (h : k < L.length) : fnd3 L i (k + 1) = fnd3 L i k ++ if L.getD k Payload.zero = L.getD i Payload.zero then [L.getD i Payload.zero] else [] := by
  have e : L.getD k Payload.zero = L[k] := by simp [List.getD, h]
  rw [e]
  simp only [fnd3, List.take_succ_eq_append_getElem h, List.filter_append]
  congr 1
  generalize L.getD i Payload.zero = z
  by_cases hh : L[k] = z
  · simp [hh]
  · simp [hh]
theorem len_snoc {α : Type} (l : List α) (x : α) : (l ++ [x]).length = l.length + 1 := by simp
def fnd2 (L : List Payload) : Nat → List Payload
  | 0 => []
  | i + 1 => fnd2 L i ++ fnd3 L i i
theorem fnd3_len (L : List Payload) (i k : Nat) : (fnd3 L i k).length ≤ k := by
  have : (fnd3 L i k).length ≤ (L.take k).length := List.length_filter_le _ _
  simp at this; omega
theorem fnd2_len (L : List Payload) : ∀ i, i ≤ 16 → (fnd2 L i).length ≤ 16 * i
  | 0, _ => by simp [fnd2]
  | i + 1, h => by
    have := fnd2_len L i (by omega)
    have := fnd3_len L i i
    simp only [fnd2, List.length_append]; omega

theorem d3_sum (a : Int) (i : Nat) (L F : List Payload) (hL : L.length ≤ 16) (hi : i < L.length) (hF : F.length ≤ 1000000) :
    LoopV Try.prog (loopAt Try.prog 24 2) [2, 6, 7, 10, 11, 12] [10, 27, 102] [some (i64 a), some (.c (.ptr 10 0 0)), some (.c (.sl 27 0 0 L.length none)), some (.c (.sl 102 0 0 F.length none)), some (i64 i), some (i64 0)]
      [some (zsB 41), some (pyB 39 L), some (pyB 39 F)] 117 108 (d3F a i L.length (F ++ fnd3 L i i).length) (d3M 41 39 L (F ++ fnd3 L i i)) 1000000 (.exit 4) := by
  refine loop_ob hE1 (fuel := 100) (S := Nat) (inv := fun k => k ≤ i) (μ := fun k => i - k) (tmI := fun k => d3T a i k L.length (F ++ fnd3 L i k).length) (mI := fun k => d3M 41 39 L (F ++ fnd3 L i k)) (nh := 109) (str := 65536) (by omega) (by omega) (s0 := 0) (by omega) ?_ ?_
  · intro tm m h1 h2 h3
    simp only [List.map_cons, List.map_nil, List.cons.injEq, and_true] at h1 h2
    obtain ⟨s2, s6, s7, s10, s11, s12⟩ := h1
    obtain ⟨b10, b27, b102⟩ := h2
    have e0 : F ++ fnd3 L i 0 = F := by simp [fnd3]
    rw [e0]
    refine wk_mk (ρ := fun _ => .inl 102) (by omega) (by omega) (by unfold lim; omega) h3 rfl ?_ ?_
    · exact ⟨.inl ⟨.inl (by omega), b10, oBlk_low⟩, .inl ⟨.inl (by omega), b27, wBlk_low⟩, .inr (.inl ⟨by omega, by omega, 102, _, rfl, b102, BEq.refl _, wBlk_low⟩), trivial⟩
    · exact ⟨⟨_, s2, by simp [i64], GW_i64 rfl⟩, ⟨_, s6, by simp, GW_low rfl⟩, ⟨_, s7, by simp, GW_low rfl⟩, ⟨_, s10, by simp, GW_sl (by omega) (by omega) (by omega) rfl⟩, ⟨_, s11, by simp [i64], GW_i64 rfl⟩, ⟨_, s12, by simp [i64], GW_i64 rfl⟩, trivial⟩
  · intro k hk
    have hl3 := fnd3_len L i k
    have hin : ∀ q, q < L.length → (pyB 39 L).inb q 4 = true := fun q h => inb_wBlk h (by omega)
    by_cases he : k < i
    · have hsuc := fnd3_succ L i k (by omega)
      by_cases hq : L.getD k Payload.zero = L.getD i Payload.zero
      · rw [if_pos hq] at hsuc
        obtain ⟨st, v1, v2, v3, v4, v6, v7⟩ := view_out (d3_eq a i k L (F ++ fnd3 L i k))
        refine ⟨_, _, _, st, v1, by omega, ⟨?_, by rw [v7]; simp⟩, .inl ⟨rfl, k + 1, by omega, by omega, ?_⟩⟩
        · rw [v6]
          simp only [Int.toNat_natCast, Nat.zero_add, eqF_pay, hin i hi, hin k (by omega), hq]
          simp [allT, he]
          omega
        · simp only [List.map_cons, List.map_nil, List.cons.injEq, and_true] at v2 v3
          obtain ⟨s2, s6, s7, s10, s11, s12⟩ := v2
          obtain ⟨b10, b27, bN⟩ := v3
          rw [hsuc, ← List.append_assoc]
          simp only [Int.toNat_natCast, Nat.zero_add] at bN
          refine wk_mk (ρ := fun _ => .inl 589942) (by omega) (by omega) (by unfold lim; omega) v4 rfl ?_ ?_
          · exact ⟨.inl ⟨.inl (by omega), b10, oBlk_low⟩, .inl ⟨.inl (by omega), b27, wBlk_low⟩, .inr (.inl ⟨by omega, by omega, _, _, rfl, bN, pyB_snoc, wBlk_low⟩), trivial⟩
          · exact ⟨⟨_, s2, by simp [i64], GW_i64 rfl⟩, ⟨_, s6, by simp, GW_low rfl⟩, ⟨_, s7, by simp, GW_low rfl⟩, ⟨_, s10, by simp, by rw [len_snoc]; exact GW_sl (by omega) (by omega) (by omega) rfl⟩, ⟨_, s11, by simp [i64], GW_i64 rfl⟩, ⟨_, s12, by simp [i64], GW_i64 (wrap_succ k (by omega))⟩, trivial⟩
      · rw [if_neg hq, List.append_nil] at hsuc
        obtain ⟨st, v1, v2, v3, v4, v6, v7⟩ := view_out (d3_ne a i k L (F ++ fnd3 L i k))
        refine ⟨_, _, _, st, v1, by omega, ⟨?_, by rw [v7]; simp⟩, .inl ⟨rfl, k + 1, by omega, by omega, ?_⟩⟩
        · rw [v6]
          simp only [Int.toNat_natCast, Nat.zero_add, eqF_pay, hin i hi, hin k (by omega)]
          simp [allT, he]
          simp only [List.getD] at hq
          exact ⟨hq, by omega, by omega⟩
        · simp only [List.map_cons, List.map_nil, List.cons.injEq, and_true] at v2 v3
          obtain ⟨s2, s6, s7, s10, s11, s12⟩ := v2
          obtain ⟨b10, b27, b108⟩ := v3
          rw [hsuc]
          refine wk_mk (ρ := fun _ => .inl 108) (by omega) (by omega) (by unfold lim; omega) v4 rfl ?_ ?_
          · exact ⟨.inl ⟨.inl (by omega), b10, oBlk_low⟩, .inl ⟨.inl (by omega), b27, wBlk_low⟩, .inr (.inl ⟨by omega, by omega, _, _, rfl, b108, BEq.refl _, wBlk_low⟩), trivial⟩
          · exact ⟨⟨_, s2, by simp [i64], GW_i64 rfl⟩, ⟨_, s6, by simp, GW_low rfl⟩, ⟨_, s7, by simp, GW_low rfl⟩, ⟨_, s10, by simp, GW_sl (by omega) (by omega) (by omega) rfl⟩, ⟨_, s11, by simp [i64], GW_i64 rfl⟩, ⟨_, s12, by simp [i64], GW_i64 (wrap_succ k (by omega))⟩, trivial⟩
    · obtain rfl : k = i := by omega
      obtain ⟨st, v1, v2, v3, v4, v6, v7⟩ := view_out (d3_end a k k L (F ++ fnd3 L k k))
      refine ⟨_, _, _, st, v1, by omega, ⟨?_, by rw [v7]; simp⟩, .inr ⟨by simp, rfl, ?_⟩⟩
      · rw [v6]; simp [allT]
      · simp only [List.map_cons, List.map_nil, List.cons.injEq, and_true] at v2 v3
        obtain ⟨s2, s6, s7, s10, s11⟩ := v2
        obtain ⟨b10, b27, b108⟩ := v3
        refine wk_mk (ρ := fun _ => .inl 108) (by omega) (by omega) (by unfold lim; omega) v4 rfl ?_ ?_
        · exact ⟨.inl ⟨.inl (by omega), b10, oBlk_low⟩, .inl ⟨.inl (by omega), b27, wBlk_low⟩, .inr (.inl ⟨by omega, by omega, _, _, rfl, b108, BEq.refl _, wBlk_low⟩), trivial⟩
        · exact ⟨⟨_, s2, by simp [i64], GW_i64 rfl⟩, ⟨_, s6, by simp, GW_low rfl⟩, ⟨_, s7, by simp, GW_low rfl⟩, ⟨_, s10, by simp, GW_sl (by omega) (by omega) (by omega) rfl⟩, ⟨_, s11, by simp [i64], GW_i64 rfl⟩, trivial⟩

theorem d2_sum (a : Int) (L : List Payload) (hL : L.length ≤ 16) :
    LoopV Try.prog (loopAt Try.prog 24 1) [2, 6, 7, 10, 11] [10, 27] [some (i64 a), some (.c (.ptr 10 0 0)), some (.c (.sl 27 0 0 L.length none)), some (.c (.v (.slice none 0 0))), some (i64 0)]
      [some (zsB 41), some (pyB 39 L)] 117 102 (d2F a (fnd2 L L.length).length) (d2N 41 39 (fnd2 L L.length)) 2000000 (.exit 2) := by
  refine loop_ob hE1 (fuel := 100) (S := Nat) (inv := fun i => i ≤ L.length) (μ := fun i => L.length - i) (tmI := fun i => d2T a i L.length (fnd2 L i).length) (mI := fun i => d2M 41 39 L (fnd2 L i)) (nh := 103) (str := 65536) (by omega) (by omega) (s0 := 0) (by omega) ?_ ?_
  · intro tm m h1 h2 h3
    simp only [List.map_cons, List.map_nil, List.cons.injEq, and_true] at h1 h2
    obtain ⟨s2, s6, s7, s10, s11⟩ := h1
    obtain ⟨b10, b27⟩ := h2
    refine wk_mk (ρ := fun _ => .inr 4) (by omega) (by omega) (by unfold lim; omega) h3 rfl ?_ ?_
    · exact ⟨.inl ⟨.inl (by omega), b10, oBlk_low⟩, .inl ⟨.inl (by omega), b27, wBlk_low⟩, .inr (.inr ⟨by omega, by omega, rfl, by show 0 < 4; omega, _, rfl⟩), trivial⟩
    · exact ⟨⟨_, s2, by simp [i64], GW_i64 rfl⟩, ⟨_, s6, by simp, GW_low rfl⟩, ⟨_, s7, by simp, GW_low rfl⟩, ⟨_, s10, by simp, GW_nil (by omega) (by omega) (by omega) rfl⟩, ⟨_, s11, by simp [i64], GW_i64 rfl⟩, trivial⟩
  · intro i hi
    have hl2 := fnd2_len L i (by omega)
    by_cases he : i < L.length
    · obtain ⟨st, v1, v2, v3, v4, v6, v7⟩ := view_out (d2_rd a i L (fnd2 L i) (fnd2 L (i + 1)))
      refine ⟨_, _, _, st, v1, by omega, ⟨?_, ?_⟩, .inl ⟨rfl, i + 1, by omega, by omega, ?_⟩⟩
      · rw [v6]; simp [allT, he]
      · rw [v7]
        intro p hp
        rw [List.mem_singleton.1 hp]
        exact d3_sum a i L (fnd2 L i) hL he (by omega)
      · simp only [List.map_cons, List.map_nil, List.cons.injEq, and_true] at v2 v3
        obtain ⟨s2, s6, s7, s10, s11⟩ := v2
        obtain ⟨b10, b27, b108⟩ := v3
        refine wk_mk (ρ := fun _ => .inl 108) (by omega) (by omega) (by unfold lim; omega) v4 rfl ?_ ?_
        · exact ⟨.inl ⟨.inl (by omega), b10, oBlk_low⟩, .inl ⟨.inl (by omega), b27, wBlk_low⟩, .inr (.inl ⟨by omega, by omega, _, _, rfl, b108, BEq.refl _, wBlk_low⟩), trivial⟩
        · exact ⟨⟨_, s2, by simp [i64], GW_i64 rfl⟩, ⟨_, s6, by simp, GW_low rfl⟩, ⟨_, s7, by simp, GW_low rfl⟩, ⟨_, s10, by simp, GW_sl (by omega) (by omega) (by omega) rfl⟩, ⟨_, s11, by simp [i64], GW_i64 (wrap_succ i (by omega))⟩, trivial⟩
    · obtain rfl : i = L.length := by omega
      obtain ⟨st, v1, v2, v3, v4, v6, v7⟩ := view_out (d2_end a L.length L (fnd2 L L.length))
      refine ⟨_, _, _, st, v1, by omega, ⟨?_, by rw [v7]; simp⟩, .inr ⟨by simp, rfl, ?_⟩⟩
      · rw [v6]; simp [allT]
      · simp only [List.map_cons, List.map_nil, List.cons.injEq, and_true] at v2 v3
        obtain ⟨s2, s6, s10⟩ := v2
        obtain ⟨b10, b102⟩ := v3
        refine wk_mk (ρ := fun _ => .inl 102) (by omega) (by omega) (by unfold lim; omega) v4 rfl ?_ ?_
        · exact ⟨.inl ⟨.inl (by omega), b10, oBlk_low⟩, .inr (.inl ⟨by omega, by omega, _, _, rfl, b102, BEq.refl _, wBlk_low⟩), trivial⟩
        · exact ⟨⟨_, s2, by simp [i64], GW_i64 rfl⟩, ⟨_, s6, by simp, GW_low rfl⟩, ⟨_, s10, by simp, GW_sl (by omega) (by omega) (by omega) rfl⟩, trivial⟩

/-- are all of them the first one? -/
def same1 (F : List Payload) (i : Nat) : Bool := (F.take i).all fun p => decide (p = F.getD 0 Payload.zero)
theorem same1_succ (F : List Payload) (i : Nat) (h : i < F.length) : same1 F (i + 1) = (same1 F i && decide (F.getD i Payload.zero = F.getD 0 Payload.zero)) := by
  have e : F.getD i Payload.zero = F[i] := by simp [List.getD, h]
  rw [e]
  simp only [same1, List.take_succ_eq_append_getElem h, List.all_append, List.all_cons, List.all_nil, Bool.and_true]
def d4E (F : List Payload) : Exit := if same1 F F.length = true then .exit 6 else .ret
theorem d4_sum (a : Int) (F : List Payload) (hF : F.length ≤ 1000000) :
    LoopV Try.prog (loopAt Try.prog 24 3) [2, 6, 10, 13] [10, 102] [some (i64 a), some (.c (.ptr 10 0 0)), some (.c (.sl 102 0 0 F.length none)), some (i64 0)]
      [some (zsB 41), some (pyB 39 F)] 117 2000001 (d2F a F.length) (d2N 41 39 F) 3000000 (d4E F) := by
  refine loop_ob hE1 (fuel := 100) (S := Nat) (inv := fun i => i ≤ F.length ∧ same1 F i = true) (μ := fun i => F.length - i) (tmI := fun i => d4T a i F.length) (mI := fun i => d2N 41 39 F) (nh := 2000001) (str := 65536) (by omega) (by omega) (s0 := 0) ⟨by omega, rfl⟩ ?_ ?_
  · intro tm m h1 h2 h3
    simp only [List.map_cons, List.map_nil, List.cons.injEq, and_true] at h1 h2
    obtain ⟨s2, s6, s10, s13⟩ := h1
    obtain ⟨b10, b102⟩ := h2
    refine wk_mk (ρ := fun _ => .inr 4) (by omega) (by omega) (by unfold lim; omega) h3 rfl ?_ ?_
    · exact ⟨.inl ⟨.inl (by omega), b10, oBlk_low⟩, .inl ⟨.inl (by omega), b102, wBlk_low⟩, trivial⟩
    · exact ⟨⟨_, s2, by simp [i64], GW_i64 rfl⟩, ⟨_, s6, by simp, GW_low rfl⟩, ⟨_, s10, by simp, GW_low rfl⟩, ⟨_, s13, by simp [i64], GW_i64 rfl⟩, trivial⟩
  · intro i ⟨hi, hs⟩
    have hin : ∀ q, q < F.length → (pyB 39 F).inb q 4 = true := fun q h => inb_wBlk h (by omega)
    by_cases he : i < F.length
    · have hsuc := same1_succ F i he
      by_cases hq : F.getD i Payload.zero = F.getD 0 Payload.zero
      · obtain ⟨st, v1, v2, v3, v4, v6, v7⟩ := view_out (d4_same a i F)
        refine ⟨_, _, _, st, v1, by omega, ⟨?_, by rw [v7]; simp⟩, .inl ⟨rfl, i + 1, ⟨by omega, by simp only [hsuc, hs, hq, decide_true, Bool.and_self]⟩, by omega, ?_⟩⟩
        · rw [v6]
          simp only [Int.toNat_natCast, Nat.zero_add, Int.toNat_zero, eqF_pay, hin i he, hin 0 (by omega), hq]
          simp [allT, he]
          omega
        · simp only [List.map_cons, List.map_nil, List.cons.injEq, and_true] at v2 v3
          obtain ⟨s2, s6, s10, s13⟩ := v2
          obtain ⟨b10, b102⟩ := v3
          refine wk_mk (ρ := fun _ => .inr 4) (by omega) (by omega) (by unfold lim; omega) v4 rfl ?_ ?_
          · exact ⟨.inl ⟨.inl (by omega), b10, oBlk_low⟩, .inl ⟨.inl (by omega), b102, wBlk_low⟩, trivial⟩
          · exact ⟨⟨_, s2, by simp [i64], GW_i64 rfl⟩, ⟨_, s6, by simp, GW_low rfl⟩, ⟨_, s10, by simp, GW_low rfl⟩, ⟨_, s13, by simp [i64], GW_i64 (wrap_succ i (by omega))⟩, trivial⟩
      · have hall : same1 F F.length = false := by
          rw [Bool.eq_false_iff]
          intro h
          have := List.all_eq_true.1 h F[i] (by rw [List.take_length]; exact List.getElem_mem he)
          apply hq
          have e : F.getD i Payload.zero = F[i] := by simp [List.getD, he]
          rw [e]
          simpa using this
        obtain ⟨st, v1, v2, v3, v4, v6, v7⟩ := view_out (d4_ret a i F)
        refine ⟨_, _, _, st, v1, by omega, ⟨?_, by rw [v7]; simp⟩, .inr ⟨by simp, by simp [d4E, hall], ?_⟩⟩
        · rw [v6]
          simp only [Int.toNat_natCast, Nat.zero_add, Int.toNat_zero, eqF_pay, hin i he, hin 0 (by omega)]
          simp only [List.getD] at hq
          simp [allT, he, hq]
          exact ⟨fun e => hq (by rw [List.getElem?_eq_getElem he]; exact e), by omega⟩
        · simp only [List.map_cons, List.map_nil, List.cons.injEq, and_true] at v2 v3
          obtain ⟨s2, s6, s10⟩ := v2
          obtain ⟨b10, b102⟩ := v3
          refine wk_mk (ρ := fun _ => .inr 4) (by omega) (by omega) (by unfold lim; omega) v4 rfl ?_ ?_
          · exact ⟨.inl ⟨.inl (by omega), b10, oBlk_low⟩, .inl ⟨.inl (by omega), b102, wBlk_low⟩, trivial⟩
          · exact ⟨⟨_, s2, by simp [i64], GW_i64 rfl⟩, ⟨_, s6, by simp, GW_low rfl⟩, ⟨_, s10, by simp, GW_low rfl⟩, trivial⟩
    · obtain rfl : i = F.length := by omega
      obtain ⟨st, v1, v2, v3, v4, v6, v7⟩ := view_out (d4_end a F.length F)
      refine ⟨_, _, _, st, v1, by omega, ⟨?_, by rw [v7]; simp⟩, .inr ⟨by simp, by simp [d4E, hs], ?_⟩⟩
      · rw [v6]; simp [allT]
      · simp only [List.map_cons, List.map_nil, List.cons.injEq, and_true] at v2 v3
        obtain ⟨s2, s6, s10⟩ := v2
        obtain ⟨b10, b102⟩ := v3
        refine wk_mk (ρ := fun _ => .inr 4) (by omega) (by omega) (by unfold lim; omega) v4 rfl ?_ ?_
        · exact ⟨.inl ⟨.inl (by omega), b10, oBlk_low⟩, .inl ⟨.inl (by omega), b102, wBlk_low⟩, trivial⟩
        · exact ⟨⟨_, s2, by simp [i64], GW_i64 rfl⟩, ⟨_, s6, by simp, GW_low rfl⟩, ⟨_, s10, by simp, GW_low rfl⟩, trivial⟩
end Go.Proofs.Ytjmiocacnilchaa
