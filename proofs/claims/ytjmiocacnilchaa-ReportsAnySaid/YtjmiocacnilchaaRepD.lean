/- The reference's Deliver: its contract. -/
import Derived.Test.YtjmiocacnilchaaRepC
set_option linter.unusedSimpArgs false
set_option linter.unusedVariables false
namespace Go.Proofs.Ytjmiocacnilchaa
open Go.RowKit

/-- a name for one list that is only read -/
def nm1 (L : Loc) : Nm := fun i => if i = 0 then some L else none
theorem rel_nm1 {w : World} {L : Loc} {ty sz n : Nat} {f : Nat → List Value} (hs : L.s = sz) (hb : L.nil = false → L.b < w.heap.size) (hn : L.nil = true → n = 0) (hlen : ∀ k, k < n → (f k).length = sz) (hone : ∀ k, k < n → allOne (f k) = true)
    (hc : ∀ k j u, k < n → (f k)[j]? = some u → w.cell? ⟨L.b, L.o + (k * sz + j), none⟩ = some u) : Rel (loneC w) (nm1 L) [(0, rBlk ty sz n f)] w := by
  have look0 : ∀ id x, look [(0, rBlk ty sz n f)] id = some x → id = 0 ∧ x = rBlk ty sz n f := by
    intro id x h
    simp only [look_cons] at h
    split at h
    · rename_i e
      cases h
      exact ⟨(Nat.eq_of_beq_eq_true e).symm, rfl⟩
    · cases h
  refine ⟨rfl, rfl, rfl, Nat.le_refl _, Nat.le_refl _, fun _ _ _ => rfl, fun id x hx => ?_, fun id id' x x' L1 L2 hx hx' hne => ?_, fun g L1 h => ?_⟩
  · obtain ⟨rfl, rfl⟩ := look0 id x hx
    refine ⟨L, by simp [nm1], hs, fun l h => (by cases h), fun k j hi => ?_, hb, fun h => (by cases h), fun q g hg i hi => ?_, fun h => (by cases h)⟩
    · simp only [ABlk.inb, rBlk, Bool.and_eq_true, decide_eq_true_eq] at hi
      obtain ⟨h1, h2⟩ := hi
      have h2 : j + 1 ≤ sz := of_decide_eq_true h2
      have hj : j < (f k).length := by rw [hlen k h1]; omega
      refine ⟨?_, (f k)[j], ?_, ?_, ?_⟩
      · cases h : L.nil with
        | false => rfl
        | true => have := hn h; omega
      · simp [rBlk, Cs.get, List.getD, hj, γc]
      · exact List.all_eq_true.1 (hone k h1) _ (List.getElem_mem hj)
      · rw [hs]; exact hc k j _ h1 (List.getElem?_eq_getElem hj)
    · cases hg
      rw [List.length_map]
      exact hlen i hi
  · obtain ⟨rfl, rfl⟩ := look0 id x hx
    obtain ⟨rfl, rfl⟩ := look0 id' x' hx'
    exact absurd rfl hne
  · simp only [nm1] at h
    split at h
    · rename_i e; unfold gid at e; omega
    · cases h
theorem below_lone {w w' : World} {β : Nm} {m : AMem} (h : Rel (loneC w) β m w') : Below w.heap.size w w' := ⟨h.os, h.tape, h.output, h.size, fun b hb => h.out b hb fun h => h⟩

def toR (h : Held) : RHeld := ⟨h.is, h.cell⟩
theorem toR_cells (h : Held) : (toR h).cells = h.cells := rfl
theorem hE1' : EnvOk (E1 Try.prog) := hE1

theorem hits_toR (a : Int) (l : List Held) (i : Nat) : hits a (l.map toR) i = hitsP a (l.map rp) i := by
  rw [← hits_rpR, List.map_map]; rfl
theorem said_z : AV.agg [AC.v (Value.bool false), AC.v (Value.int IntKind.i64 (Int.ofNat 0)), AC.v (Value.int IntKind.u8 (Int.ofNat 0)), AC.v (Value.int IntKind.u8 (Int.ofNat 0)), AC.v (Value.int IntKind.u32 (Int.ofNat 0)), AC.v (Value.int IntKind.u32 (Int.ofNat 0))] = .agg (Said.zero.cells.map .v) := rfl
theorem hits_len (a : Int) (ws : List RHeld) (i : Nat) : (hits a ws i).length ≤ i := by
  have : (hits a ws i).length ≤ (ws.take i).length := by simp only [hits, List.length_map]; exact List.length_filter_le _ _
  simp at this; omega

theorem dk {P : Program} {f tw : Nat} {nn a : Int} {ws : List RHeld} {c : Nat} {path : List Dec} {x y : AV} {b : List (Option ABlk)} {n : Nat} {ob : List Bool} {po : List Prop} (h : dCall P f tw nn a ws c path = some (x, b, n, ob, po)) (hx : x = y) (hn : n ≤ 4000000) (ho : allT ob) (hp : ∀ p ∈ po, p) :
    ∃ path n b ob po, dCall P f tw nn a ws c path = some (y, b, n, ob, po) ∧ n ≤ 4000000 ∧ allT ob ∧ ∀ p ∈ po, p := by
  subst hx
  exact ⟨path, n, b, ob, po, h, hn, ho, hp⟩
/-- the run, by what it does -/
theorem dRun (nn a : Int) (ws : List RHeld) (c : Nat) (hw : ws.length ≤ 1000000) :
    ∃ path n b ob po, dCall Try.prog 24 54 nn a ws c path = some (.agg ((dlv nn (ws.map rpR) a).cells.map .v), b, n, ob, po) ∧ n ≤ 4000000 ∧ allT ob ∧ ∀ p ∈ po, p := by
  by_cases h1 : nn < 4
  · exact dk (dF_1 nn a ws c) (by rw [said_z, dlv, if_neg (by omega)]) (by omega) (by simp [allT]; omega) (by simp)
  by_cases h2 : nn > 16
  · exact dk (dF_2 nn a ws c) (by rw [said_z, dlv, if_neg (by omega)]) (by omega) (by simp [allT]; omega) (by simp)
  by_cases h3 : a < 0
  · exact dk (dF_3 nn a ws c) (by rw [said_z, dlv, if_neg (by rw [inAge_iff]; omega)]) (by omega) (by simp [allT]; omega) (by simp)
  by_cases h4 : a > 1099511627776
  · exact dk (dF_4 nn a ws c) (by rw [said_z, dlv, if_neg (by rw [inAge_iff]; omega)]) (by omega) (by simp [allT]; omega) (by simp)
  have hd : dlv nn (ws.map rpR) a = dl a (hits a ws nn.toNat) := by
    rw [dlv, if_pos ⟨by omega, by omega, inAge_iff.2 ⟨by omega, by omega⟩⟩, hits_rpR]
  have s1 := d1_sum nn a ws c hw ⟨by omega, by omega⟩
  have hl1 := hits_len a ws nn.toNat
  rw [hd]
  generalize hits a ws nn.toNat = L at s1 hl1 ⊢
  have s2 := d2_sum a L (by omega)
  have hl2 := fnd2_len L L.length (by omega)
  unfold dl
  generalize fnd2 L L.length = F at s2 hl2 ⊢
  have s4 := d4_sum a F (by omega)
  have hpo : ∀ e, d4E F = e → ∀ p ∈ [LoopV Try.prog (loopAt Try.prog 24 3) [2, 6, 10, 13] [10, 102] [some (i64 a), some (.c (.ptr 10 0 0)), some (.c (.sl 102 0 0 F.length none)), some (i64 0)]
      [some (zsB 41), some (pyB 39 F)] 117 2000001 (d2F a F.length) (d2N 41 39 F) 3000000 e,
      LoopV Try.prog (loopAt Try.prog 24 1) [2, 6, 7, 10, 11] [10, 27] [some (i64 a), some (.c (.ptr 10 0 0)), some (.c (.sl 27 0 0 L.length none)), some (.c (.v (.slice none 0 0))), some (i64 0)]
      [some (zsB 41), some (pyB 39 L)] 117 102 (d2F a F.length) (d2N 41 39 F) 2000000 (.exit 2),
      LoopV Try.prog (loopAt Try.prog 24 0) [0, 1, 2, 6, 7, 8] [0, 10] [some (i64 nn), some (.c (.sl 0 0 0 ws.length (some c))), some (i64 a), some (.c (.ptr 10 0 0)), some (.c (.v (.slice none 0 0))), some (i64 0)] [some (wsB 54 ws), some (zsB 41)] 117 27
      (d1F a L.length) (d1N 41 39 L) 100 (.exit 0)], p := by
    intro e he
    subst he
    simp only [List.forall_mem_cons]
    exact ⟨s4, s2, s1, by simp⟩
  by_cases h5 : F = []
  · rw [if_pos h5]
    exact dk (dF_none nn a ws c L F) (by rw [said_z]) (by omega) (by simp [allT, h5]; omega) (hpo _ (by subst h5; rfl))
  rw [if_neg h5]
  by_cases h6 : same1 F F.length = true
  · rw [if_pos h6]
    refine dk (dF_one nn a ws c L F) rfl (by omega) ?_ (hpo _ (by simp [d4E, h6]))
    have hF : 0 < F.length := List.length_pos_iff.2 h5
    have hin : (pyB 39 F).inb 0 4 = true := inb_wBlk hF (by omega)
    simp [allT, hin, hF, h5]
    omega
  · rw [if_neg h6]
    exact dk (dF_unlike nn a ws c L F) (by rw [said_z]) (by omega) (by simp [allT]; omega) (hpo _ (by simp [d4E, h6]))

theorem ref20_Deliver (nn a : Int) (A : Option Addr) (n c : Nat) (l : List Held) (w : World) (hnc : n ≤ c) (hn : n ≤ 1000000) (h1 : l.length = n) (h2 : ∀ h ∈ l, h.Ok) (hA : (A = none ∧ n = 0 ∧ c = 0) ∨ ∃ b o, A = some ⟨b, o, none⟩ ∧ b < w.heap.size) (hsl : Sl w w.heap.size 56 A n (l.flatMap Held.cells)) :
    Calls Try.prog 24 #[.int .i64 nn, .slice A n c, .int .i64 a] w fun e w' => e = .returned (.agg (dlv nn (l.map rp) a).cells.toArray) ∧ Below w.heap.size w w' := by
  obtain ⟨path, n', b, ob, po, hrun, hn', hob, hpo⟩ := dRun nn a (l.map toR) c (by simp [h1, hn])
  have e : (l.map toR).map rpR = l.map rp := by rw [List.map_map]; rfl
  rw [e] at hrun
  obtain ⟨s', r1, r2, r3, r4⟩ := viewF_out hrun
  obtain ⟨L, hγ, hrel⟩ : ∃ L, γ1 (nm1 L) (.c (.sl 0 0 0 (l.map toR).length (some c))) = some (.slice A n c) ∧ Rel (loneC w) (nm1 L) [(0, wsB 54 (l.map toR))] w := by
    rcases hA with ⟨rfl, rfl, rfl⟩ | ⟨b, o, rfl, hb⟩
    · obtain rfl := List.length_eq_zero_iff.1 h1
      exact ⟨⟨0, 0, 56, 0, true⟩, by simp [γ1, γc, nm1], rel_nm1 rfl (fun h => by cases h) (fun _ => rfl) (fun k hk => by simp at hk) (fun k hk => by simp at hk) fun k j u hk => by simp at hk⟩
    · refine ⟨⟨b, o, 56, c, false⟩, by simp [γ1, γc, nm1, h1], rel_nm1 rfl (fun _ => hb) (fun h => by cases h) (fun k hk => RHeld.len _) (fun k hk => RHeld.one _) fun k j u hk hu => ?_⟩
      simp only [List.length_map] at hk
      have hj : j < 56 := by have := (List.getElem?_eq_some_iff.1 hu).1; rwa [RHeld.len] at this
      obtain ⟨b', o', e', _, hc⟩ := hsl.at_ (by omega)
      cases e'
      refine hc (k * 56 + j) u ?_
      rw [flat_get l (k * 56 + j) (by omega)]
      simp only [show (k * 56 + j) / 56 = k by omega, show (k * 56 + j) % 56 = j by omega]
      rw [← hu]
      simp [List.getD, hk, toR_cells]
  have hcalls := calls_f hE1 r1 ⟨by rw [r3]; exact hob, by rw [r4]; exact hpo⟩ (C := loneC w) (β := nm1 L) (w := w) (vs := [.int .i64 nn, .slice A n c, .int .i64 a]) (by simp only [γt]; rw [hγ]; rfl) hrel (fun id h1 h2 => by simp only [nm1]; rw [if_neg (by omega)])
  refine hcalls.mono ?_
  rintro e w' ⟨β', v, rfl, _, _, hv, hr⟩
  refine ⟨?_, below_lone hr⟩
  simp only [γ, γ1, γs_vs] at hv
  cases hv
  rfl
theorem ct_ref20_Deliver : CtOk Try.prog 24 ctD :=
  ctD_of ⟨_, _, Try.func24, rfl⟩ ref20_Deliver
end Go.Proofs.Ytjmiocacnilchaa
