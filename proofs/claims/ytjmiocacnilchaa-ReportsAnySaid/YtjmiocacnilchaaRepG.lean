/- ReportsEach: its loops, its answer. -/
import Derived.Test.YtjmiocacnilchaaRepF
set_option linter.unusedSimpArgs false
set_option linter.unusedVariables false
namespace Go.Proofs.Ytjmiocacnilchaa
open Go.RowKit

theorem eqF_said (p q : Said) : eqF [none, some IntKind.i64, some IntKind.u8, some IntKind.u8, some IntKind.u32, some IntKind.u32] [AC.v (Value.bool p.is), AC.v (Value.int IntKind.i64 p.at_), AC.v (Value.int IntKind.u8 p.p.kind), AC.v (Value.int IntKind.u8 p.p.st), AC.v (Value.int IntKind.u32 p.p.seq), AC.v (Value.int IntKind.u32 p.p.val)]
    [AC.v (Value.bool q.is), AC.v (Value.int IntKind.i64 q.at_), AC.v (Value.int IntKind.u8 q.p.kind), AC.v (Value.int IntKind.u8 q.p.st), AC.v (Value.int IntKind.u32 q.p.seq), AC.v (Value.int IntKind.u32 q.p.val)] = decide (p = q) := by
  obtain ⟨i, t, p⟩ := p
  obtain ⟨i', t', p'⟩ := q
  have := eqF_pay p p'
  rw [show eqF [none, some IntKind.i64, some IntKind.u8, some IntKind.u8, some IntKind.u32, some IntKind.u32] [AC.v (Value.bool i), AC.v (Value.int IntKind.i64 t), AC.v (Value.int IntKind.u8 p.kind), AC.v (Value.int IntKind.u8 p.st), AC.v (Value.int IntKind.u32 p.seq), AC.v (Value.int IntKind.u32 p.val)]
    [AC.v (Value.bool i'), AC.v (Value.int IntKind.i64 t'), AC.v (Value.int IntKind.u8 p'.kind), AC.v (Value.int IntKind.u8 p'.st), AC.v (Value.int IntKind.u32 p'.seq), AC.v (Value.int IntKind.u32 p'.val)] = ((i == i') && ((t == t') && eqF [some IntKind.u8, some IntKind.u8, some IntKind.u32, some IntKind.u32] [AC.v (Value.int IntKind.u8 p.kind), AC.v (Value.int IntKind.u8 p.st), AC.v (Value.int IntKind.u32 p.seq), AC.v (Value.int IntKind.u32 p.val)]
    [AC.v (Value.int IntKind.u8 p'.kind), AC.v (Value.int IntKind.u8 p'.st), AC.v (Value.int IntKind.u32 p'.seq), AC.v (Value.int IntKind.u32 p'.val)])) from rfl, this]
  by_cases h1 : i = i' <;> by_cases h2 : t = t' <;> by_cases h3 : p = p' <;> simp [h1, h2, h3]

def hAt (l : List Held) (i : Nat) : Held := l.getD i Held.zero
def vld (a : Int) (l : List Held) (i k : Nat) : Bool := (hAt l i).is && ((hAt l k).is && ((hAt l i).cell.report.is && (decide ((hAt l i).cell.report = (hAt l k).cell.report) && decide ((hAt l i).cell.report.at_ = a))))
def pc3 (a : Int) (l : List Held) (i : Nat) : Nat → Nat
  | 0 => 0
  | k + 1 => pc3 a l i k + if vld a l i k = true then 1 else 0
def pc2 (a : Int) (l : List Held) : Nat → Nat
  | 0 => 0
  | i + 1 => pc2 a l i + pc3 a l i i
theorem pc3_le (a : Int) (l : List Held) (i : Nat) : ∀ k, pc3 a l i k ≤ k
  | 0 => Nat.le_refl _
  | k + 1 => by have := pc3_le a l i k; simp only [pc3]; split <;> omega
theorem pc2_le (a : Int) (l : List Held) : ∀ i, i ≤ 16 → pc2 a l i ≤ 16 * i
  | 0, _ => Nat.le_refl _
  | i + 1, h => by have := pc2_le a l i (by omega); have := pc3_le a l i i; simp only [pc2]; omega
theorem wrap_nat (x : Nat) (h : x < 1000000) : IntKind.wrap .i64 ((x : Int) + Int.ofNat 1) = ((x + 1 : Nat) : Int) := wrap_succ x (by omega)

theorem e3_sum (nn a : Int) (i : Nat) (l : List Held) (c : Nat) (d : Said) (hl : l.length ≤ 16) (hi : i < l.length) (hd : ∀ k, k < i → vld a l i k = true → d.is = true → d.p = (hAt l i).cell.report.p) :
    LoopV Try.prog (loopAt Try.prog 8 1) [0, 1, 2, 7, 8, 9, 10] [0, 17] [some (i64 nn), some (.c (.sl 0 0 0 l.length (some c))), some (i64 a), some (.c (.ptr 17 0 0)), some (i64 (pc2 a l i : Nat)), some (i64 i), some (i64 0)]
      [some (heB 53 l), some (saB 41 d)] 107 110 (e3F nn a (pc2 a l (i + 1) : Nat) i l.length c) (eM 53 41 l d) 2000 (.exit 2) := by
  refine loop_ob hE3 (fuel := 100) (S := Nat) (inv := fun k => k ≤ i) (μ := fun k => i - k) (tmI := fun k => e3T nn a (pc2 a l i + pc3 a l i k : Nat) i k l.length c) (mI := fun k => eM 53 41 l d) (nh := 1000) (str := 65536) (by omega) (by omega) (s0 := 0) (by omega) ?_ ?_
  · intro tm m h1 h2 h3
    simp only [List.map_cons, List.map_nil, List.cons.injEq, and_true] at h1 h2
    obtain ⟨s0, s1, s2, s7, s8, s9, s10⟩ := h1
    obtain ⟨b0, b17⟩ := h2
    refine wk_mk (ρ := fun _ => .inr 4) (by omega) (by omega) (by unfold lim; omega) h3 rfl ?_ ?_
    · exact ⟨.inl ⟨.inl (by omega), b0, rBlk_low⟩, .inl ⟨.inl (by omega), b17, oBlk_low⟩, trivial⟩
    · exact ⟨⟨_, s0, by simp [i64], GW_i64 rfl⟩, ⟨_, s1, by simp, GW_low rfl⟩, ⟨_, s2, by simp [i64], GW_i64 rfl⟩, ⟨_, s7, by simp, GW_low rfl⟩, ⟨_, s8, by simp [i64], GW_i64 rfl⟩, ⟨_, s9, by simp [i64], GW_i64 rfl⟩, ⟨_, s10, by simp [i64], GW_i64 rfl⟩, trivial⟩
  · intro k hk
    have hp3 := pc3_le a l i k
    have hp2 := pc2_le a l i (by omega)
    have hin : ∀ q j, q < l.length → j ≤ 56 → (heB 53 l).inb q j = true := fun q j h1 h2 => inb_rBlk h1 h2
    have hstep : ∀ (n1 : Nat) (ob : List Bool) (pr' : Int) (p : List Bool), e3R Try.prog 53 41 nn a (pc2 a l i + pc3 a l i k : Nat) i k l c d p = some (.normal, [some (i64 nn), some (.c (.sl 0 0 0 l.length (some c))), some (i64 a), some (.c (.ptr 17 0 0)), some (i64 pr'), some (i64 i), some (i64 (IntKind.i64.wrap (k + Int.ofNat 1)))], [some (heB 53 l), some (saB 41 d)], 107, n1, ob, []) → n1 ≤ 2000 → k < i →
        pr' = (pc2 a l i + pc3 a l i (k + 1) : Nat) → allT ob →
          ∃ path e' n1 st', fC (E3 Try.prog) 100 (loopAt Try.prog 8 1) 1000 65536 ⟨e3T nn a (pc2 a l i + pc3 a l i k : Nat) i k l.length c, eM 53 41 l d, 0, 0, false, path, [], []⟩ = some (e', n1, st') ∧ n1 ≤ 2000 ∧ Obs st' ∧
            ((e' = .normal ∧ ∃ s' : Nat, s' ≤ i ∧ i - s' < i - k ∧ Wk 110 1000 2000 st'.tm st'.m (e3T nn a (pc2 a l i + pc3 a l i s' : Nat) i s' l.length c) (eM 53 41 l d)) ∨ (e' ≠ .normal ∧ e' = .exit 2 ∧ Wk 110 2000 2000 st'.tm st'.m (e3F nn a (pc2 a l (i + 1) : Nat) i l.length c) (eM 53 41 l d))) := by
      intro n1 ob pr' p hv hn1 hki hpr hob
      obtain ⟨st, v1, v2, v3, v4, v6, v7⟩ := view_out hv
      refine ⟨_, _, _, st, v1, hn1, ⟨by rw [v6]; exact hob, by rw [v7]; simp⟩, .inl ⟨rfl, k + 1, by omega, by omega, ?_⟩⟩
      simp only [List.map_cons, List.map_nil, List.cons.injEq, and_true] at v2 v3
      obtain ⟨s0, s1, s2, s7, s8, s9, s10⟩ := v2
      obtain ⟨b0, b17⟩ := v3
      refine wk_mk (ρ := fun _ => .inr 4) (by omega) (by omega) (by unfold lim; omega) v4 rfl ?_ ?_
      · exact ⟨.inl ⟨.inl (by omega), b0, rBlk_low⟩, .inl ⟨.inl (by omega), b17, oBlk_low⟩, trivial⟩
      · exact ⟨⟨_, s0, by simp [i64], GW_i64 rfl⟩, ⟨_, s1, by simp, GW_low rfl⟩, ⟨_, s2, by simp [i64], GW_i64 rfl⟩, ⟨_, s7, by simp, GW_low rfl⟩, ⟨_, s8, by simp [i64], GW_i64 hpr⟩, ⟨_, s9, by simp [i64], GW_i64 rfl⟩, ⟨_, s10, by simp [i64], GW_i64 (wrap_nat k (by omega))⟩, trivial⟩
    by_cases he : k < i
    · have g1 : l.getD i Held.zero = hAt l i := rfl
      have g2 : l.getD k Held.zero = hAt l k := rfl
      have hI : ∀ j, j ≤ 56 → (heB 53 l).inb i j = true := fun j h => hin i j hi h
      have hK : ∀ j, j ≤ 56 → (heB 53 l).inb k j = true := fun j h => hin k j (by omega) h
      have hI1 := hI 1 (by omega)
      have hI14 := hI 14 (by omega)
      have hK1 := hK 1 (by omega)
      have hK14 := hK 14 (by omega)
      have hkl : k < l.length := by omega
      have hno : vld a l i k = false → ((pc2 a l i + pc3 a l i k : Nat) : Int) = (pc2 a l i + pc3 a l i (k + 1) : Nat) := fun h => by simp [pc3, h]
      have hdk := hd k he
      have hv0 : vld a l i k = ((hAt l i).is && ((hAt l k).is && ((hAt l i).cell.report.is && (decide ((hAt l i).cell.report = (hAt l k).cell.report) && decide ((hAt l i).cell.report.at_ = a))))) := rfl
      have hyes : vld a l i k = true → IntKind.i64.wrap (((pc2 a l i + pc3 a l i k : Nat) : Int) + Int.ofNat 1) = (pc2 a l i + pc3 a l i (k + 1) : Nat) := fun h => by
        rw [wrap_nat _ (by omega)]
        simp only [pc3, h, if_true]
        omega
      cases c1 : (hAt l i).is
      · refine hstep _ _ _ _ (e3_wi nn a _ i k l c d) (by omega) he (hno (by simp [hv0, c1])) ?_
        simp only [Int.toNat_natCast, Nat.zero_add, g1, g2, eqF_said, eqF_pay, hI1, hI14, hK1, hK14]
        simp only [c1]
        simp [allT, he, hi, hkl]
      cases c2 : (hAt l k).is
      · refine hstep _ _ _ _ (e3_wk nn a _ i k l c d) (by omega) he (hno (by simp [hv0, c2])) ?_
        simp only [Int.toNat_natCast, Nat.zero_add, g1, g2, eqF_said, eqF_pay, hI1, hI14, hK1, hK14]
        simp only [c1, c2]
        simp [allT, he, hi, hkl]
      cases c3 : (hAt l i).cell.report.is
      · refine hstep _ _ _ _ (e3_ai nn a _ i k l c d) (by omega) he (hno (by simp [hv0, c3])) ?_
        simp only [Int.toNat_natCast, Nat.zero_add, g1, g2, eqF_said, eqF_pay, hI1, hI14, hK1, hK14]
        simp only [c1, c2, c3]
        simp [allT, he, hi, hkl]
      by_cases c4 : (hAt l i).cell.report = (hAt l k).cell.report
      · by_cases c5 : (hAt l i).cell.report.at_ = a
        · have hv : vld a l i k = true := by rw [hv0, c1, c2, c3, decide_eq_true c4, decide_eq_true c5]; rfl
          cases c6 : d.is
          · refine hstep _ _ _ _ (e3_y2 nn a _ i k l c d) (by omega) he (hyes hv) ?_
            simp only [Int.toNat_natCast, Nat.zero_add, g1, g2, eqF_said, eqF_pay, hI1, hI14, hK1, hK14]
            simp only [c1, c2, c3, c5, c6, decide_eq_true c4]
            simp [allT, he, hi, hkl]
          · have c7 := hdk hv c6
            refine hstep _ _ _ _ (e3_y1 nn a _ i k l c d) (by omega) he (hyes hv) ?_
            simp only [Int.toNat_natCast, Nat.zero_add, g1, g2, eqF_said, eqF_pay, hI1, hI14, hK1, hK14]
            simp only [c1, c2, c3, c5, c6, decide_eq_true c4, c7]
            simp [allT, he, hi, hkl]
        · refine hstep _ _ _ _ (e3_at nn a _ i k l c d) (by omega) he (hno (by simp [hv0, c5])) ?_
          simp only [Int.toNat_natCast, Nat.zero_add, g1, g2, eqF_said, eqF_pay, hI1, hI14, hK1, hK14]
          simp only [c1, c2, c3, decide_eq_true c4]
          simp [allT, he, hi, hkl, c5]
      · refine hstep _ _ _ _ (e3_ne nn a _ i k l c d) (by omega) he (hno (by simp [hv0, c4])) ?_
        simp only [Int.toNat_natCast, Nat.zero_add, g1, g2, eqF_said, eqF_pay, hI1, hI14, hK1, hK14]
        simp only [c1, c2, c3, decide_eq_false c4]
        simp [allT, he, hi, hkl]
    · obtain rfl : k = i := by omega
      obtain ⟨st, v1, v2, v3, v4, v6, v7⟩ := view_out (e3_end nn a (pc2 a l k + pc3 a l k k : Nat) k k l c d)
      refine ⟨_, _, _, st, v1, by omega, ⟨?_, by rw [v7]; simp⟩, .inr ⟨by simp, rfl, ?_⟩⟩
      · rw [v6]; simp [allT]
      · simp only [List.map_cons, List.map_nil, List.cons.injEq, and_true] at v2 v3
        obtain ⟨s0, s1, s2, s7, s8, s9, s10⟩ := v2
        obtain ⟨b0, b17⟩ := v3
        refine wk_mk (ρ := fun _ => .inr 4) (by omega) (by omega) (by unfold lim; omega) v4 rfl ?_ ?_
        · exact ⟨.inl ⟨.inl (by omega), b0, rBlk_low⟩, .inl ⟨.inl (by omega), b17, oBlk_low⟩, trivial⟩
        · exact ⟨⟨_, s0, by simp [i64], GW_i64 rfl⟩, ⟨_, s1, by simp, GW_low rfl⟩, ⟨_, s2, by simp [i64], GW_i64 rfl⟩, ⟨_, s7, by simp, GW_low rfl⟩, ⟨_, s8, by simp [i64], GW_i64 rfl⟩, ⟨_, s9, by simp [i64], GW_i64 rfl⟩, trivial⟩
end Go.Proofs.Ytjmiocacnilchaa
