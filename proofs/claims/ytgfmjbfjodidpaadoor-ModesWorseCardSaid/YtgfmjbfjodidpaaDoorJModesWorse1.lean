/- Parts, one behind the other. modes.in: its loop's round as the evaluator runs it. -/
import Derived.Test.YtgfmjbfjodidpaaDoorJB0x14
import Derived.Test.YtgfmjbfjodidpaaDoorJModesWorse0
set_option linter.unusedSimpArgs false
set_option linter.unusedVariables false
/- modes.in: its loop's round as the evaluator runs it. -/
section
namespace Go.Proofs.YtgfmjbfjodidpaaDoor
open Go.RowKit

def ctFirst : CtF := ctNet (fun c nq fq zs => i64 (headN c nq fq (zs.headD 0))) fun c nq fq zs => true && decide (zs.length = 1)
def ENf (P : Program) : Env := ⟨P, [(37, ctFirst)]⟩
theorem hENf : EnvOk (ENf Tryd.prog) := by
  refine envOk (fun f g h => ?_) (by kernel_rfl) (by kernel_rfl)
  simp only [ENf, List.mem_cons, Prod.mk.injEq, List.not_mem_nil, or_false] at h
  obtain ⟨rfl, rfl⟩ := h
  exact ct_first
/-- has a net such a pair? is it in? -/
def hasB (c : Cfg) (nq : Nat) (fq : Nat → Int) (p : Nat) : Bool := decide (0 ≤ headN c nq fq (Int.ofNat p))
def inB (c : Cfg) (nq : Nat) (fq : Nat → Int) (v : Vw) (p : Nat) : Bool := hasB c nq fq p && v.inn p
abbrev vwB (v : Vw) : ABlk := ⟨true, false, 32, 0, .lit (v.cells.map .v)⟩
abbrev netY0 (c : Cfg) (nq : Nat) : ABlk := ⟨false, false, 130, 0, .lit (netC0 c nq)⟩
abbrev netIds : List Nat := [gid 0, 0, 1, 2, 3, 4, 5]
abbrev netBk (c : Cfg) (nq : Nat) (fq : Nat → Int) : List ABlk := [signB, ints 3 c.np c.fp, ints 3 c.ns c.fs, ints 3 c.nb c.fb, sts c.nt c.ft, ints 3 nq fq, netY0 c nq]
abbrev mdV (c : Cfg) (nq : Nat) (fq : Nat → Int) (v : Vw) (k : Nat) : List AV := [.c (.ptr 5 0 0), .c (.ptr 1000 0 0), i64 (Int.ofNat (cntF (inB c nq fq v) k)), i64 (Int.ofNat (cntF (hasB c nq fq) k)), i64 (Int.ofNat k)]
def mdR (P : Program) (c : Cfg) (nq : Nat) (fq : Nat → Int) (v : Vw) (k : Nat) (path : List Dec) : Option VC :=
  view ([0, 3, 4, 5, 7] ++ []) (netIds ++ [1000]) (fC (ENf P) 100 (loopAt P 69 0) 1000000000000000000000000000000000000000000 10000000000000000000000000000000000000000 (stH 25 [0, 3, 4, 5, 7] (netIds ++ [1000]) (mdV c nq fq v k) (netBk c nq fq ++ [vwB v]) path []))
theorem md (c : Cfg) (nq : Nat) (fq : Nat → Int) (v : Vw) (k : Nat) (Q : VC → Prop) (H : (((decide (Int.ofNat k < Int.ofNat 8)) = true → (((decide (headN c nq fq (List.headD [Int.ofNat k] (Int.ofNat 0)) < Int.ofNat 0)) = true → Q (Exit.normal, [some (lkA (List.zip [0, 3, 4, 5, 7] (mdV c nq fq v k)) 0), some (lkA (List.zip [0, 3, 4, 5, 7] (mdV c nq fq v k)) (0 + 1 + 1 + 1)), some (lkA (List.zip [0, 3, 4, 5, 7] (mdV c nq fq v k)) (0 + 1 + 1 + 1 + 1)), some (lkA (List.zip [0, 3, 4, 5, 7] (mdV c nq fq v k)) (0 + 1 + 1 + 1 + 1 + 1)), some (.c (.v (.int .i64 (IntKind.wrap .i64 (Int.ofNat k + Int.ofNat 1)))))], [some (ABlk.mk false false 107 0 (Cs.lit [.v (.int .i64 (Int.ofNat 1)), .v (.int .i64 (Int.negSucc 0))])), some (ABlk.mk false false 3 1 (Cs.arr (c.np) fun k => List.map AC.v ((fun i => [Value.int .i64 (c.fp i)]) k))), some (ABlk.mk false false 3 1 (Cs.arr (c.ns) fun k => List.map AC.v ((fun i => [Value.int .i64 (c.fs i)]) k))), some (ABlk.mk false false 3 1 (Cs.arr (c.nb) fun k => List.map AC.v ((fun i => [Value.int .i64 (c.fb i)]) k))), some (ABlk.mk false false 47 3 (Cs.arr (c.nt) fun k => List.map AC.v ((fun i => [Value.int .i64 (Station.node (c.ft i)), Value.int .u32 (Station.safe (c.ft i)), Value.int .i64 (Station.hold (c.ft i))]) k))), some (ABlk.mk false false 3 1 (Cs.arr nq fun k => List.map AC.v ((fun i => [Value.int .i64 (fq i)]) k))), some (ABlk.mk false false 130 0 (Cs.lit [.v (.int .i64 (c.nodes)), AC.sl 0 0 0 (c.np) none, AC.sl 1 0 0 (c.ns) none, .v (.int .i64 (c.long)), AC.sl 2 0 0 (c.nb) none, AC.sl 3 0 0 (c.nt) none, .v (.int .i64 (c.miss)), .v (.int .i64 (c.good)), .v (.int .i64 (c.fresh)), AC.sl 4 0 0 nq none])), some (ABlk.mk true false 32 0 (Cs.lit (vwL v)))], 25, 1000000000000000000000000000000000000000008, [decide (headN c nq fq (List.headD [Int.ofNat k] (Int.ofNat 0)) < Int.ofNat 0) == true, netK c nq fq, true, decide (Int.ofNat k < Int.ofNat 8) == true], [])) ∧ ((decide (headN c nq fq (List.headD [Int.ofNat k] (Int.ofNat 0)) < Int.ofNat 0)) = false → (((asB (List.getD (vwL v) (0 + Int.toNat (Int.ofNat k) * 1) nov)) = true → Q (Exit.normal, [some (lkA (List.zip [0, 3, 4, 5, 7] (mdV c nq fq v k)) 0), some (lkA (List.zip [0, 3, 4, 5, 7] (mdV c nq fq v k)) (0 + 1 + 1 + 1)), some (.c (.v (.int .i64 (IntKind.wrap .i64 (Int.ofNat (cntF (inB c nq fq v) k) + Int.ofNat 1))))), some (.c (.v (.int .i64 (IntKind.wrap .i64 (Int.ofNat (cntF (hasB c nq fq) k) + Int.ofNat 1))))), some (.c (.v (.int .i64 (IntKind.wrap .i64 (Int.ofNat k + Int.ofNat 1)))))], [some (ABlk.mk false false 107 0 (Cs.lit [.v (.int .i64 (Int.ofNat 1)), .v (.int .i64 (Int.negSucc 0))])), some (ABlk.mk false false 3 1 (Cs.arr (c.np) fun k => List.map AC.v ((fun i => [Value.int .i64 (c.fp i)]) k))), some (ABlk.mk false false 3 1 (Cs.arr (c.ns) fun k => List.map AC.v ((fun i => [Value.int .i64 (c.fs i)]) k))), some (ABlk.mk false false 3 1 (Cs.arr (c.nb) fun k => List.map AC.v ((fun i => [Value.int .i64 (c.fb i)]) k))), some (ABlk.mk false false 47 3 (Cs.arr (c.nt) fun k => List.map AC.v ((fun i => [Value.int .i64 (Station.node (c.ft i)), Value.int .u32 (Station.safe (c.ft i)), Value.int .i64 (Station.hold (c.ft i))]) k))), some (ABlk.mk false false 3 1 (Cs.arr nq fun k => List.map AC.v ((fun i => [Value.int .i64 (fq i)]) k))), some (ABlk.mk false false 130 0 (Cs.lit [.v (.int .i64 (c.nodes)), AC.sl 0 0 0 (c.np) none, AC.sl 1 0 0 (c.ns) none, .v (.int .i64 (c.long)), AC.sl 2 0 0 (c.nb) none, AC.sl 3 0 0 (c.nt) none, .v (.int .i64 (c.miss)), .v (.int .i64 (c.good)), .v (.int .i64 (c.fresh)), AC.sl 4 0 0 nq none])), some (ABlk.mk true false 32 0 (Cs.lit (vwL v)))], 25, 1000000000000000000000000000000000000000018, [asB (List.getD (vwL v) (0 + Int.toNat (Int.ofNat k) * 1) nov) == true, ABlk.inb (ABlk.mk true false 32 0 (Cs.lit (vwL v))) 0 (0 + Int.toNat (Int.ofNat k) * 1 + 1), okl Kd.b (List.getD (vwL v) (0 + Int.toNat (Int.ofNat k) * 1) nov), decide (Int.ofNat 0 ≤ Int.ofNat k ∧ Int.ofNat k < Int.ofNat 8), decide (headN c nq fq (List.headD [Int.ofNat k] (Int.ofNat 0)) < Int.ofNat 0) == false, netK c nq fq, true, decide (Int.ofNat k < Int.ofNat 8) == true], [])) ∧ ((asB (List.getD (vwL v) (0 + Int.toNat (Int.ofNat k) * 1) nov)) = false → Q (Exit.normal, [some (lkA (List.zip [0, 3, 4, 5, 7] (mdV c nq fq v k)) 0), some (lkA (List.zip [0, 3, 4, 5, 7] (mdV c nq fq v k)) (0 + 1 + 1 + 1)), some (lkA (List.zip [0, 3, 4, 5, 7] (mdV c nq fq v k)) (0 + 1 + 1 + 1 + 1)), some (.c (.v (.int .i64 (IntKind.wrap .i64 (Int.ofNat (cntF (hasB c nq fq) k) + Int.ofNat 1))))), some (.c (.v (.int .i64 (IntKind.wrap .i64 (Int.ofNat k + Int.ofNat 1)))))], [some (ABlk.mk false false 107 0 (Cs.lit [.v (.int .i64 (Int.ofNat 1)), .v (.int .i64 (Int.negSucc 0))])), some (ABlk.mk false false 3 1 (Cs.arr (c.np) fun k => List.map AC.v ((fun i => [Value.int .i64 (c.fp i)]) k))), some (ABlk.mk false false 3 1 (Cs.arr (c.ns) fun k => List.map AC.v ((fun i => [Value.int .i64 (c.fs i)]) k))), some (ABlk.mk false false 3 1 (Cs.arr (c.nb) fun k => List.map AC.v ((fun i => [Value.int .i64 (c.fb i)]) k))), some (ABlk.mk false false 47 3 (Cs.arr (c.nt) fun k => List.map AC.v ((fun i => [Value.int .i64 (Station.node (c.ft i)), Value.int .u32 (Station.safe (c.ft i)), Value.int .i64 (Station.hold (c.ft i))]) k))), some (ABlk.mk false false 3 1 (Cs.arr nq fun k => List.map AC.v ((fun i => [Value.int .i64 (fq i)]) k))), some (ABlk.mk false false 130 0 (Cs.lit [.v (.int .i64 (c.nodes)), AC.sl 0 0 0 (c.np) none, AC.sl 1 0 0 (c.ns) none, .v (.int .i64 (c.long)), AC.sl 2 0 0 (c.nb) none, AC.sl 3 0 0 (c.nt) none, .v (.int .i64 (c.miss)), .v (.int .i64 (c.good)), .v (.int .i64 (c.fresh)), AC.sl 4 0 0 nq none])), some (ABlk.mk true false 32 0 (Cs.lit (vwL v)))], 25, 1000000000000000000000000000000000000000015, [asB (List.getD (vwL v) (0 + Int.toNat (Int.ofNat k) * 1) nov) == false, ABlk.inb (ABlk.mk true false 32 0 (Cs.lit (vwL v))) 0 (0 + Int.toNat (Int.ofNat k) * 1 + 1), okl Kd.b (List.getD (vwL v) (0 + Int.toNat (Int.ofNat k) * 1) nov), decide (Int.ofNat 0 ≤ Int.ofNat k ∧ Int.ofNat k < Int.ofNat 8), decide (headN c nq fq (List.headD [Int.ofNat k] (Int.ofNat 0)) < Int.ofNat 0) == false, netK c nq fq, true, decide (Int.ofNat k < Int.ofNat 8) == true], [])))))) ∧ ((decide (Int.ofNat k < Int.ofNat 8)) = false → Q (Exit.exit 0, [some (lkA (List.zip [0, 3, 4, 5, 7] (mdV c nq fq v k)) 0), some (lkA (List.zip [0, 3, 4, 5, 7] (mdV c nq fq v k)) (0 + 1 + 1 + 1)), some (lkA (List.zip [0, 3, 4, 5, 7] (mdV c nq fq v k)) (0 + 1 + 1 + 1 + 1)), some (lkA (List.zip [0, 3, 4, 5, 7] (mdV c nq fq v k)) (0 + 1 + 1 + 1 + 1 + 1)), some (lkA (List.zip [0, 3, 4, 5, 7] (mdV c nq fq v k)) (0 + 1 + 1 + 1 + 1 + 1 + 1 + 1))], [some (ABlk.mk false false 107 0 (Cs.lit [.v (.int .i64 (Int.ofNat 1)), .v (.int .i64 (Int.negSucc 0))])), some (ABlk.mk false false 3 1 (Cs.arr (c.np) fun k => List.map AC.v ((fun i => [Value.int .i64 (c.fp i)]) k))), some (ABlk.mk false false 3 1 (Cs.arr (c.ns) fun k => List.map AC.v ((fun i => [Value.int .i64 (c.fs i)]) k))), some (ABlk.mk false false 3 1 (Cs.arr (c.nb) fun k => List.map AC.v ((fun i => [Value.int .i64 (c.fb i)]) k))), some (ABlk.mk false false 47 3 (Cs.arr (c.nt) fun k => List.map AC.v ((fun i => [Value.int .i64 (Station.node (c.ft i)), Value.int .u32 (Station.safe (c.ft i)), Value.int .i64 (Station.hold (c.ft i))]) k))), some (ABlk.mk false false 3 1 (Cs.arr nq fun k => List.map AC.v ((fun i => [Value.int .i64 (fq i)]) k))), some (ABlk.mk false false 130 0 (Cs.lit [.v (.int .i64 (c.nodes)), AC.sl 0 0 0 (c.np) none, AC.sl 1 0 0 (c.ns) none, .v (.int .i64 (c.long)), AC.sl 2 0 0 (c.nb) none, AC.sl 3 0 0 (c.nt) none, .v (.int .i64 (c.miss)), .v (.int .i64 (c.good)), .v (.int .i64 (c.fresh)), AC.sl 4 0 0 nq none])), some (ABlk.mk true false 32 0 (Cs.lit (vwL v)))], 25, 1000000000000000000000000000000000000000001, [decide (Int.ofNat k < Int.ofNat 8) == false], [])))) :
    ∃ p r, mdR Tryd.prog c nq fq v k p = some r ∧ Q r := by
  rcases Bool.eq_false_or_eq_true (decide (Int.ofNat k < Int.ofNat 8)) with h2 | h2
  · have g2 := H.1 h2
    rcases Bool.eq_false_or_eq_true (decide (headN c nq fq (List.headD [Int.ofNat k] (Int.ofNat 0)) < Int.ofNat 0)) with h4 | h4
    · have g4 := g2.1 h4
      exact ⟨([.b true, .b true] : List Dec), _, by kernel_rfl, g4⟩
    · have g4 := g2.2 h4
      rcases Bool.eq_false_or_eq_true (asB (List.getD (vwL v) (0 + Int.toNat (Int.ofNat k) * 1) nov)) with h6 | h6
      · have g6 := g4.1 h6
        exact ⟨([.b true, .b false, .b true] : List Dec), _, by kernel_rfl, g6⟩
      · have g6 := g4.2 h6
        exact ⟨([.b true, .b false, .b false] : List Dec), _, by kernel_rfl, g6⟩
  · have g2 := H.2 h2
    exact ⟨([.b false] : List Dec), _, by kernel_rfl, g2⟩
end Go.Proofs.YtgfmjbfjodidpaaDoor
end
/- modes.in: how many pairs are in, of how many: its contract. -/
section
namespace Go.Proofs.YtgfmjbfjodidpaaDoor
open Go.RowKit

theorem vw_inn (v : Vw) (k : Nat) (h : k < 8) : asB (List.getD (vwL v) (0 + Int.toNat (Int.ofNat k) * 1) nov) = v.inn k := by
  match k, h with
  | 0, _ => rfl
  | 1, _ => rfl
  | 2, _ => rfl
  | 3, _ => rfl
  | 4, _ => rfl
  | 5, _ => rfl
  | 6, _ => rfl
  | 7, _ => rfl
theorem vw_innB (v : Vw) (k : Nat) (h : k < 8) : okl .b (List.getD (vwL v) (0 + Int.toNat (Int.ofNat k) * 1) nov) = true := by
  match k, h with
  | 0, _ => rfl
  | 1, _ => rfl
  | 2, _ => rfl
  | 3, _ => rfl
  | 4, _ => rfl
  | 5, _ => rfl
  | 6, _ => rfl
  | 7, _ => rfl
theorem vwB_low {n : Nat} {v : Vw} : lowB n (vwB v) := low_lit (List.all_eq_true.2 fun x hx => by
  obtain ⟨y, _, rfl⟩ := List.mem_map.1 hx
  rfl)
theorem netBk_low {c : Cfg} {nq : Nat} {fq : Nat → Int} {n : Nat} (hn : 10 ≤ n) : ∀ b ∈ netBk c nq fq, lowB n b := by
  intro b hb
  have hc : ∀ i, i < 10 → Nat.blt i n = true := fun i h => by rw [Nat.blt_eq]; omega
  simp only [List.mem_cons, List.not_mem_nil, or_false] at hb
  rcases hb with rfl | rfl | rfl | rfl | rfl | rfl | rfl
  · exact low_lit rfl
  · exact rBlk_low
  · exact rBlk_low
  · exact rBlk_low
  · exact rBlk_low
  · exact rBlk_low
  · exact low_lit (by simp [lowC, hc 0 (by omega), hc 1 (by omega), hc 2 (by omega), hc 3 (by omega), hc 4 (by omega), Nat.blt_eq]; try omega)
theorem cntF_succ (f : Nat → Bool) (k : Nat) : cntF f (k + 1) = cntF f k + (if f k then 1 else 0) := rfl
theorem wrap_nat1 (k : Nat) (h : k ≤ 1000000) : IntKind.wrap IntKind.i64 (Int.ofNat k + Int.ofNat 1) = Int.ofNat (k + 1) := by rw [wrap_nat _ (by simp; omega) (by simp; omega)]; simp
theorem md_sum (c : Cfg) (nq : Nat) (fq : Nat → Int) (v : Vw) {eblks : List (Option ABlk)} (heb : BL (netBk c nq fq ++ [vwB v]) eblks) :
    LoopV Tryd.prog (loopAt Tryd.prog 69 0) [0, 3, 4, 5, 7] (netIds ++ [1000]) ((mdV c nq fq v 0).map some) eblks 25 1004 (mkFr 25 [(4, i64 (Int.ofNat (cntF (inB c nq fq v) 8))), (5, i64 (Int.ofNat (cntF (hasB c nq fq) 8)))]) [] 100000000000000000000000000000000000000000000000000 (.exit 0) none := by
  refine loop_viewE hENf (fuel := 100) (str := 10000000000000000000000000000000000000000) (nh := 1000000000000000000000000000000000000000000) (S := Nat) (fun k => k ≤ 8) (fun k => 8 - k) [0, 3, 4, 5, 7] [] (netIds ++ [1000]) (mdV c nq fq v) (fun _ => netBk c nq fq ++ [vwB v]) (by decide) (by decide) (by unfold lim; omega) (s0 := 0) (by omega) (fun _ => ⟨rfl, rfl⟩) (by kernel_rfl) heb (fun k _ => ⟨rfl, ?_⟩) ?_
  · intro b hb
    rcases List.mem_append.1 hb with h | h
    · exact netBk_low (by omega) b h
    · rw [List.mem_singleton.1 h]; exact vwB_low
  intro k hk
  refine (?_ : (∃ p r, mdR Tryd.prog c nq fq v k p = some r ∧ _) → _) (md c nq fq v k (StepV 1004 100000000000000000000000000000000000000000000000000 25 [0, 3, 4, 5, 7] [] (netIds ++ [1000]) (fun k => k ≤ 8) (fun k => 8 - k) (mdV c nq fq v) (fun _ => netBk c nq fq ++ [vwB v]) (.exit 0) [(4, i64 (Int.ofNat (cntF (inB c nq fq v) 8))), (5, i64 (Int.ofNat (cntF (hasB c nq fq) 8)))] [] k) ?_)
  · rintro ⟨p, r, h1, h2⟩
    exact ⟨p, [], r, h1, h2⟩
  · have hb := cntF_le (hasB c nq fq) k
    have hi := cntF_le (inB c nq fq v) k
    have nx : ∀ {a b : Int} {i j : Nat}, i = cntF (inB c nq fq v) (k + 1) → j = cntF (hasB c nq fq) (k + 1) → k < 8 → a = Int.ofNat i → b = Int.ofNat j → [some (.c (.ptr 5 0 0)), some (.c (.ptr 1000 0 0)), some (i64 a), some (i64 b), some (i64 (Int.ofNat (k + 1)))] = (mdV c nq fq v (k + 1)).map some := by
      rintro a b i j rfl rfl _ rfl rfl; rfl
    refine ⟨fun c1 => ⟨fun c2 => ?_, fun c2 => ⟨fun c3 => ?_, fun c3 => ?_⟩⟩, fun c1 => ?_⟩
    · have hlt : k < 8 := by simp at c1; omega
      have h0 : hasB c nq fq k = false := by simpa [hasB] using c2
      refine ⟨?_, rfl, by dsimp only; omega, rfl, .inl ⟨rfl, k + 1, by omega, by show 8 - (k + 1) < 8 - k; omega, ?_, by exact BL.refl (netBk c nq fq ++ [vwB v])⟩⟩
      · simp [allT, hlt, c2, cfgK_t, netK_t, intsOk_ints, stsOk_sts, intsOk_s, stsOk_s]
        simp at c2
        omega
      · rw [wrap_nat1 k (by omega)]
        exact nx (i := cntF (inB c nq fq v) k) (j := cntF (hasB c nq fq) k) (by rw [cntF_succ]; simp [inB, h0]) (by rw [cntF_succ]; simp [h0]) hlt rfl rfl
    · have hlt : k < 8 := by simp at c1; omega
      have h0 : hasB c nq fq k = true := by simpa [hasB] using c2
      rw [vw_inn v k hlt] at c3
      refine ⟨?_, rfl, by dsimp only; omega, rfl, .inl ⟨rfl, k + 1, by omega, by show 8 - (k + 1) < 8 - k; omega, ?_, by exact BL.refl (netBk c nq fq ++ [vwB v])⟩⟩
      · simp only [allT, List.forall_mem_cons, vw_inn v k hlt, vw_innB v k hlt]
        simp [allT, hlt, c3, cfgK_t, netK_t, intsOk_ints, stsOk_sts, intsOk_s, stsOk_s, Vw.len, inb_lit, inb_arr]
        simp at c2
        omega
      · rw [wrap_nat1 k (by omega), wrap_nat1 _ (by omega), wrap_nat1 _ (by omega)]
        exact nx (i := cntF (inB c nq fq v) k + 1) (j := cntF (hasB c nq fq) k + 1) (by rw [cntF_succ]; simp [inB, h0, c3]) (by rw [cntF_succ]; simp [h0]) hlt rfl rfl
    · have hlt : k < 8 := by simp at c1; omega
      have h0 : hasB c nq fq k = true := by simpa [hasB] using c2
      rw [vw_inn v k hlt] at c3
      refine ⟨?_, rfl, by dsimp only; omega, rfl, .inl ⟨rfl, k + 1, by omega, by show 8 - (k + 1) < 8 - k; omega, ?_, by exact BL.refl (netBk c nq fq ++ [vwB v])⟩⟩
      · simp only [allT, List.forall_mem_cons, vw_inn v k hlt, vw_innB v k hlt]
        simp [allT, hlt, c3, cfgK_t, netK_t, intsOk_ints, stsOk_sts, intsOk_s, stsOk_s, Vw.len, inb_lit, inb_arr]
        simp at c2
        omega
      · rw [wrap_nat1 k (by omega), wrap_nat1 _ (by omega)]
        exact nx (i := cntF (inB c nq fq v) k) (j := cntF (hasB c nq fq) k + 1) (by rw [cntF_succ]; simp [inB, h0, c3]) (by rw [cntF_succ]; simp [h0]) hlt rfl rfl
    · have hge : k = 8 := by simp at c1; omega
      subst hge
      refine ⟨by simp [allT], rfl, by dsimp only; omega, rfl, .inr ⟨by simp, rfl, fun q hq => ?_, fun p hpp => (by cases hpp)⟩⟩
      simp only [List.mem_cons, List.not_mem_nil, or_false] at hq
      rcases hq with rfl | rfl
      · exact ⟨rfl, by simp [lkA]⟩
      · exact ⟨rfl, by simp [lkA]⟩
/-- of a view among the arguments -/
def rV (R : Cfg → Nat → (Nat → Int) → List AC → List AV → AV) : NetS → AV
  | ⟨c, nq, fq, .agg l :: r⟩ => R c nq fq l r
  | _ => i64 0
def pV (pre : List AC → List AV → Bool) : NetS → Bool
  | ⟨_, _, _, .agg l :: r⟩ => isVw l && pre l r
  | _ => false
theorem pV_out {G : AMem} (hG : (G.all fun p => Nat.ble lim p.1) = true) {pre : List AC → List AV → Bool} {s : NetS} (h : pV pre s = true) : ∃ c nq fq v r, pre (vwL v) r = true ∧ (netRdG G hG).args s = .c (.ptr 5 0 0) :: .agg (vwL v) :: r ∧ (netRdG G hG).mem s = G ++ netL c nq fq ∧ ∀ R, rV R s = R c nq fq (vwL v) r := by
  obtain ⟨c, nq, fq, rest⟩ := s
  match rest with
  | .agg l :: r =>
    simp only [pV, Bool.and_eq_true] at h
    have e := vw_eq h.1
    exact ⟨c, nq, fq, vwOf l, r, by rw [vwL, ← e]; exact h.2, by rw [vwL, ← e]; rfl, rfl, fun R => by rw [vwL, ← e]; rfl⟩
  | [] => simp [pV] at h
  | .c _ :: _ => simp [pV] at h
  | .tup _ :: _ => simp [pV] at h
  | .any :: _ => simp [pV] at h
theorem rV_plain {R : Cfg → Nat → (Nat → Int) → List AC → List AV → AV} (h : ∀ c nq fq v r, plainR (R c nq fq v r) = true) (s : NetS) : plainR (rV R s) = true := by
  unfold rV
  split
  · exact h _ _ _ _ _
  · rfl
/-- a contract of a function of a net and a view -/
theorem ctVwG_of {G : AMem} (hG : (G.all fun p => Nat.ble lim p.1) = true) {E : Env} (hE : EnvOk E) {f : FuncId} {R : Cfg → Nat → (Nat → Int) → List AC → List AV → AV} {pre : List AC → List AV → Bool} (hf : ∃ (fn : Func) (c : Code), E.P.funcs[f]? = some fn ∧ fn.body = some c) (hres : ∀ c nq fq v r, plainR (R c nq fq v r) = true)
    (run : ∀ c nq fq v r, pre (vwL v) r = true → ∃ p lp q, viewF [] (fCallF E (fC E 300) f (.c (.ptr 5 0 0) :: .agg (vwL v) :: r) 1000 10000000000000000000000000000000000000000 (stA (G ++ netL c nq fq) p lp)) = some q ∧ GoodF (R c nq fq (vwL v) r) q) : CtOk E.P f (ctRd (netRdG G hG) (rV R) (pV pre)) := by
  refine ctRd_ofE hE (netRdG G hG) (fuel := 300) (str := 10000000000000000000000000000000000000000) hf (rV_plain hres) fun s hs => ?_
  obtain ⟨c, nq, fq, v, r, h1, h2, h3, h4⟩ := pV_out hG hs
  rw [h2, h3, h4]
  exact run c nq fq v r h1
theorem ctVw_of {E : Env} (hE : EnvOk E) {f : FuncId} {R : Cfg → Nat → (Nat → Int) → List AC → List AV → AV} {pre : List AC → List AV → Bool} (hf : ∃ (fn : Func) (c : Code), E.P.funcs[f]? = some fn ∧ fn.body = some c) (hres : ∀ c nq fq v r, plainR (R c nq fq v r) = true)
    (run : ∀ c nq fq v r, pre (vwL v) r = true → ∃ p lp q, viewF [] (fCallF E (fC E 300) f (.c (.ptr 5 0 0) :: .agg (vwL v) :: r) 1000 10000000000000000000000000000000000000000 (stA (netM c nq fq) p lp)) = some q ∧ GoodF (R c nq fq (vwL v) r) q) : CtOk E.P f (ctRd netRd (rV R) (pV pre)) :=
  ctVwG_of (G := mS) (by kernel_rfl) hE hf hres run
/-- how many pairs are in, by the view's first cells; how many there are -/
def insN (c : Cfg) (nq : Nat) (fq : Nat → Int) (l : List AC) : Nat := cntF (fun p => hasB c nq fq p && asB (l.getD p nov)) 8
def allN (c : Cfg) (nq : Nat) (fq : Nat → Int) : Nat := cntF (hasB c nq fq) 8
abbrev inL (v : Vw) : List AC := [.v (.bool (v.inn 0)), .v (.bool (v.inn 1)), .v (.bool (v.inn 2)), .v (.bool (v.inn 3)), .v (.bool (v.inn 4)), .v (.bool (v.inn 5)), .v (.bool (v.inn 6)), .v (.bool (v.inn 7))]
theorem insN_eq (c : Cfg) (nq : Nat) (fq : Nat → Int) (v : Vw) : insN c nq fq (inL v) = cntF (inB c nq fq v) 8 :=
  cntF_congr fun i hi => by
    have : asB ((inL v).getD i nov) = v.inn i := by
      match i, hi with
      | 0, _ => rfl
      | 1, _ => rfl
      | 2, _ => rfl
      | 3, _ => rfl
      | 4, _ => rfl
      | 5, _ => rfl
      | 6, _ => rfl
      | 7, _ => rfl
    simp only [inB, this]
def modsR (c : Cfg) (nq : Nat) (fq : Nat → Int) (l : List AC) (_ : List AV) : AV := .tup [i64 (Int.ofNat (insN c nq fq (l.take 8))), i64 (Int.ofNat (allN c nq fq))]
def vwE (E : Env) (f : FuncId) (c : Cfg) (nq : Nat) (fq : Nat → Int) (v : Vw) (r : List AV) (path : List Dec) (lp : List (Option LSum)) : Option VF := viewF [] (fCallF E (fC E 300) f (.c (.ptr 5 0 0) :: .agg (vwL v) :: r) 1000 10000000000000000000000000000000000000000 (stA (netM c nq fq) path lp))
theorem mdIn (c : Cfg) (nq : Nat) (fq : Nat → Int) (v : Vw) (Q : VF → Prop) (H : Q (.tup [.c (.v (.int .i64 (Int.ofNat (cntF (inB c nq fq v) 8)))), .c (.v (.int .i64 (Int.ofNat (cntF (hasB c nq fq) 8))))], [], 100000000000000000000000000000000000000000000000004, [], [LoopV Tryd.prog (loopAt Tryd.prog 69 0) [0, 3, 4, 5, 7] (netIds ++ [1000]) [some (.c (.ptr 5 0 0)), some (.c (.ptr 1000 0 0)), some (.c (.v (.int .i64 (Int.ofNat 0)))), some (.c (.v (.int .i64 (Int.ofNat 0)))), some (.c (.v (.int .i64 (Int.ofNat 0))))] [some (ABlk.mk false false 107 0 (Cs.lit [.v (.int .i64 (Int.ofNat 1)), .v (.int .i64 (Int.negSucc 0))])), some (ABlk.mk false false 3 1 (Cs.arr (c.np) fun k => List.map AC.v ((fun i => [Value.int .i64 (c.fp i)]) k))), some (ABlk.mk false false 3 1 (Cs.arr (c.ns) fun k => List.map AC.v ((fun i => [Value.int .i64 (c.fs i)]) k))), some (ABlk.mk false false 3 1 (Cs.arr (c.nb) fun k => List.map AC.v ((fun i => [Value.int .i64 (c.fb i)]) k))), some (ABlk.mk false false 47 3 (Cs.arr (c.nt) fun k => List.map AC.v ((fun i => [Value.int .i64 (Station.node (c.ft i)), Value.int .u32 (Station.safe (c.ft i)), Value.int .i64 (Station.hold (c.ft i))]) k))), some (ABlk.mk false false 3 1 (Cs.arr nq fun k => List.map AC.v ((fun i => [Value.int .i64 (fq i)]) k))), some (ABlk.mk false false 130 0 (Cs.lit [.v (.int .i64 (c.nodes)), AC.sl 0 0 0 (c.np) none, AC.sl 1 0 0 (c.ns) none, .v (.int .i64 (c.long)), AC.sl 2 0 0 (c.nb) none, AC.sl 3 0 0 (c.nt) none, .v (.int .i64 (c.miss)), .v (.int .i64 (c.good)), .v (.int .i64 (c.fresh)), AC.sl 4 0 0 nq none])), some (ABlk.mk true false 32 0 (Cs.lit (vwL v)))] 25 1004 (mkFr 25 [(4, i64 (Int.ofNat (cntF (inB c nq fq v) 8))), (5, i64 (Int.ofNat (cntF (hasB c nq fq) 8)))]) [] 100000000000000000000000000000000000000000000000000 (Exit.exit 0) none])) :
    ∃ p r, vwE (ENf Tryd.prog) 69 c nq fq v [] p [some ⟨[0, 3, 4, 5, 7], netIds ++ [1000], mkFr 25 [(4, i64 (Int.ofNat (cntF (inB c nq fq v) 8))), (5, i64 (Int.ofNat (cntF (hasB c nq fq) 8)))], [], 100000000000000000000000000000000000000000000000000, .exit 0⟩] = some r ∧ Q r := by
  exact ⟨([] : List Dec), _, by kernel_rfl, H⟩
end Go.Proofs.YtgfmjbfjodidpaaDoor
end
/- modes.Asks: what a view asks for: its contract. -/
section
namespace Go.Proofs.YtgfmjbfjodidpaaDoor
open Go.RowKit

theorem ct_mdIn : CtOk Tryd.prog 69 (ctRd netRd (rV modsR) (pV fun _ r => r.isEmpty)) := by
  refine ctVw_of (E := ENf Tryd.prog) hENf ⟨_, _, Tryd.func69, rfl⟩ (fun _ _ _ _ _ => rfl) fun c nq fq v r hr => ?_
  obtain rfl := List.isEmpty_iff.1 hr
  refine (?_ : (∃ p q, vwE (ENf Tryd.prog) 69 c nq fq v [] p [some ⟨[0, 3, 4, 5, 7], netIds ++ [1000], mkFr 25 [(4, i64 (Int.ofNat (cntF (inB c nq fq v) 8))), (5, i64 (Int.ofNat (cntF (hasB c nq fq) 8)))], [], 100000000000000000000000000000000000000000000000000, .exit 0⟩] = some q ∧ GoodF (modsR c nq fq (vwL v) []) q) → _) (mdIn c nq fq v _ ?_)
  · rintro ⟨p, q, h1, h2⟩
    exact ⟨p, _, q, h1, h2⟩
  · refine ⟨by simp only [modsR, i64, allN]; rw [← insN_eq]; rfl, (by first | (unfold lim; omega) | (dsimp only; unfold lim; omega)), by simp [allT], fun q hq => ?_⟩
    rw [List.mem_singleton.1 hq]
    exact md_sum c nq fq v (BL.refl _)
def ctMdIn : CtF := ctRd netRd (rV modsR) (pV fun _ r => r.isEmpty)
def ENas (P : Program) : Env := ⟨P, [(69, ctMdIn)]⟩
theorem hENas : EnvOk (ENas Tryd.prog) := by
  refine envOk (fun f g h => ?_) (by kernel_rfl) (by kernel_rfl)
  simp only [ENas, List.mem_cons, Prod.mk.injEq, List.not_mem_nil, or_false] at h
  obtain ⟨rfl, rfl⟩ := h
  exact ct_mdIn
/-- what a view asks for, by how many are in, of how many, and who commands -/
def asksZ (is all : Nat) (cmd : Int) : Int := if cmd < 0 ∨ is = 0 then 4 else if is = all then 1 else if is = 1 then 3 else 2
def asksC (c : Cfg) (nq : Nat) (fq : Nat → Int) (l : List AC) (cmd : Int) : Int := asksZ (insN c nq fq l) (allN c nq fq) cmd
def asksR (c : Cfg) (nq : Nat) (fq : Nat → Int) (l : List AC) (_ : List AV) : AV := .c (.v (.int .u8 (asksC c nq fq (l.take 8) (asI (l.getD 40 nov)))))
theorem mdAs (c : Cfg) (nq : Nat) (fq : Nat → Int) (v : Vw) (Q : VF → Prop) (H : (((decide (Vw.command v < Int.ofNat 0)) = true → Q (.c (.v (.int .u8 (Int.ofNat 4))), [], 1016, [decide (Vw.command v < Int.ofNat 0) == true, true, true, netK c nq fq, true, true, true, true, true, true, true, true, true, true, true, true, true, true, true, true, true, true, true, true, true, true, true, true, true, true, true, true, true, true, true, true, true, true, true, true, true, true, true, true, true, true, true, true], [])) ∧ ((decide (Vw.command v < Int.ofNat 0)) = false → (((Int.ofNat (insN c nq fq (inL v)) == Int.ofNat 0) = true → Q (.c (.v (.int .u8 (Int.ofNat 4))), [], 1018, [(Int.ofNat (insN c nq fq (inL v)) == Int.ofNat 0) == true, decide (Vw.command v < Int.ofNat 0) == false, true, true, netK c nq fq, true, true, true, true, true, true, true, true, true, true, true, true, true, true, true, true, true, true, true, true, true, true, true, true, true, true, true, true, true, true, true, true, true, true, true, true, true, true, true, true, true, true, true, true], [])) ∧ ((Int.ofNat (insN c nq fq (inL v)) == Int.ofNat 0) = false → (((Int.ofNat (insN c nq fq (inL v)) == Int.ofNat (allN c nq fq)) = true → Q (.c (.v (.int .u8 (Int.ofNat 1))), [], 1022, [(Int.ofNat (insN c nq fq (inL v)) == Int.ofNat (allN c nq fq)) == true, (Int.ofNat (insN c nq fq (inL v)) == Int.ofNat 0) == false, decide (Vw.command v < Int.ofNat 0) == false, true, true, netK c nq fq, true, true, true, true, true, true, true, true, true, true, true, true, true, true, true, true, true, true, true, true, true, true, true, true, true, true, true, true, true, true, true, true, true, true, true, true, true, true, true, true, true, true, true, true], [])) ∧ ((Int.ofNat (insN c nq fq (inL v)) == Int.ofNat (allN c nq fq)) = false → (((Int.ofNat (insN c nq fq (inL v)) == Int.ofNat 1) = true → Q (.c (.v (.int .u8 (Int.ofNat 3))), [], 1025, [(Int.ofNat (insN c nq fq (inL v)) == Int.ofNat 1) == true, (Int.ofNat (insN c nq fq (inL v)) == Int.ofNat (allN c nq fq)) == false, (Int.ofNat (insN c nq fq (inL v)) == Int.ofNat 0) == false, decide (Vw.command v < Int.ofNat 0) == false, true, true, netK c nq fq, true, true, true, true, true, true, true, true, true, true, true, true, true, true, true, true, true, true, true, true, true, true, true, true, true, true, true, true, true, true, true, true, true, true, true, true, true, true, true, true, true, true, true, true], [])) ∧ ((Int.ofNat (insN c nq fq (inL v)) == Int.ofNat 1) = false → Q (.c (.v (.int .u8 (Int.ofNat 2))), [], 1025, [(Int.ofNat (insN c nq fq (inL v)) == Int.ofNat 1) == false, (Int.ofNat (insN c nq fq (inL v)) == Int.ofNat (allN c nq fq)) == false, (Int.ofNat (insN c nq fq (inL v)) == Int.ofNat 0) == false, decide (Vw.command v < Int.ofNat 0) == false, true, true, netK c nq fq, true, true, true, true, true, true, true, true, true, true, true, true, true, true, true, true, true, true, true, true, true, true, true, true, true, true, true, true, true, true, true, true, true, true, true, true, true, true, true, true, true, true, true, true], [])))))))))) :
    ∃ p r, vwE (ENas Tryd.prog) 17 c nq fq v [] p [] = some r ∧ Q r := by
  rcases Bool.eq_false_or_eq_true (decide (Vw.command v < Int.ofNat 0)) with h2 | h2
  · have g2 := H.1 h2
    exact ⟨([.b true, .a, .a] : List Dec), _, by kernel_rfl, g2⟩
  · have g2 := H.2 h2
    rcases Bool.eq_false_or_eq_true (Int.ofNat (insN c nq fq (inL v)) == Int.ofNat 0) with h4 | h4
    · have g4 := g2.1 h4
      exact ⟨([.b false, .a, .b true] : List Dec), _, by kernel_rfl, g4⟩
    · have g4 := g2.2 h4
      rcases Bool.eq_false_or_eq_true (Int.ofNat (insN c nq fq (inL v)) == Int.ofNat (allN c nq fq)) with h6 | h6
      · have g6 := g4.1 h6
        exact ⟨([.b false, .a, .b false, .b true] : List Dec), _, by kernel_rfl, g6⟩
      · have g6 := g4.2 h6
        rcases Bool.eq_false_or_eq_true (Int.ofNat (insN c nq fq (inL v)) == Int.ofNat 1) with h8 | h8
        · have g8 := g6.1 h8
          exact ⟨([.b false, .a, .b false, .b false, .b true] : List Dec), _, by kernel_rfl, g8⟩
        · have g8 := g6.2 h8
          exact ⟨([.b false, .a, .b false, .b false, .b false] : List Dec), _, by kernel_rfl, g8⟩
end Go.Proofs.YtgfmjbfjodidpaaDoor
end
/- modes.Asks, modes.Edge: their contracts. -/
section
namespace Go.Proofs.YtgfmjbfjodidpaaDoor
open Go.RowKit

def ctAsks : CtF := ctRd netRd (rV asksR) (pV fun _ r => r.isEmpty)
theorem ct_asks : CtOk Tryd.prog 17 ctAsks := by
  refine ctVw_of (E := ENas Tryd.prog) hENas ⟨_, _, Tryd.func17, rfl⟩ (fun _ _ _ _ _ => rfl) fun c nq fq v r hr => ?_
  obtain rfl := List.isEmpty_iff.1 hr
  refine (?_ : (∃ p q, vwE (ENas Tryd.prog) 17 c nq fq v [] p [] = some q ∧ GoodF (asksR c nq fq (vwL v) []) q) → _) (mdAs c nq fq v _ ?_)
  · rintro ⟨p, q, h1, h2⟩
    exact ⟨p, _, q, h1, h2⟩
  · have hr : asksR c nq fq (vwL v) [] = .c (.v (.int .u8 (asksZ (insN c nq fq (inL v)) (allN c nq fq) v.command))) := rfl
    rw [hr]
    generalize insN c nq fq (inL v) = i
    generalize allN c nq fq = a
    (repeat' (first | refine ⟨fun h => ?_, fun h => ?_⟩ | fail))
    all_goals (refine ⟨?_, (by first | (unfold lim; omega) | (dsimp only; unfold lim; omega)), ?_, by simp⟩)
    all_goals (first | (simp_all [asksZ]; done) | (simp_all [asksZ]; omega) | (simp_all [allT, cfgK_t, netK_t, intsOk_ints, stsOk_sts, intsOk_s, stsOk_s, isVw_cells, inb_lit, inb_arr, Vw.len]; done) | (simp_all [allT, cfgK_t, netK_t, intsOk_ints, stsOk_sts, intsOk_s, stsOk_s, isVw_cells, inb_lit, inb_arr, Vw.len]; omega))
/-! modes.edges -/
abbrev edgeL : List Bool := [true, true, true, true, true, false, true, true, true, true, false, true, true, true, true, false, false, true, true, true, false, false, false, true, true]
def edgeB : ABlk := ⟨false, false, 169, 0, .lit (edgeL.map fun b => .v (.bool b))⟩
def mE : AMem := [(gid 2, edgeB)]
def edgeF (a b : Int) : Bool := decide (b < 5) && edgeL.getD ((if 5 ≤ a then 0 else a.toNat) * 5 + b.toNat) false
def edR (P : Program) (a b : Int) (path : List Dec) : Option VF := viewF [] (fCallF (E1 P) (fC (E1 P) 300) 68 [.c (.v (.int .u8 a)), .c (.v (.int .u8 b))] 1000 10000000000000000000000000000000000000000 (stA mE path []))
theorem ed (a b : Int) (Q : VF → Prop) (H : (((decide (a ≥ Int.ofNat 5)) = true → (((decide (b < Int.ofNat 5)) = true → Q (.c (.v (.bool (asB (List.getD [.v (.bool true), .v (.bool true), .v (.bool true), .v (.bool true), .v (.bool true), .v (.bool false), .v (.bool true), .v (.bool true), .v (.bool true), .v (.bool true), .v (.bool false), .v (.bool true), .v (.bool true), .v (.bool true), .v (.bool true), .v (.bool false), .v (.bool false), .v (.bool true), .v (.bool true), .v (.bool true), .v (.bool false), .v (.bool false), .v (.bool false), .v (.bool true), .v (.bool true)] (0 + Int.toNat b * 1) nov)))), [], 1014, [ABlk.inb (ABlk.mk false false 169 0 (Cs.lit [.v (.bool true), .v (.bool true), .v (.bool true), .v (.bool true), .v (.bool true), .v (.bool false), .v (.bool true), .v (.bool true), .v (.bool true), .v (.bool true), .v (.bool false), .v (.bool true), .v (.bool true), .v (.bool true), .v (.bool true), .v (.bool false), .v (.bool false), .v (.bool true), .v (.bool true), .v (.bool true), .v (.bool false), .v (.bool false), .v (.bool false), .v (.bool true), .v (.bool true)])) 0 (0 + Int.toNat b * 1 + 1), okl Kd.b (List.getD [.v (.bool true), .v (.bool true), .v (.bool true), .v (.bool true), .v (.bool true), .v (.bool false), .v (.bool true), .v (.bool true), .v (.bool true), .v (.bool true), .v (.bool false), .v (.bool true), .v (.bool true), .v (.bool true), .v (.bool true), .v (.bool false), .v (.bool false), .v (.bool true), .v (.bool true), .v (.bool true), .v (.bool false), .v (.bool false), .v (.bool false), .v (.bool true), .v (.bool true)] (0 + Int.toNat b * 1) nov), decide (Int.ofNat 0 ≤ b ∧ b < Int.ofNat 5), true, decide (b < Int.ofNat 5) == true, decide (a ≥ Int.ofNat 5) == true], [])) ∧ ((decide (b < Int.ofNat 5)) = false → Q (.c (.v (.bool false)), [], 1009, [decide (b < Int.ofNat 5) == false, decide (a ≥ Int.ofNat 5) == true], [])))) ∧ ((decide (a ≥ Int.ofNat 5)) = false → (((decide (b < Int.ofNat 5)) = true → Q (.c (.v (.bool (asB (List.getD [.v (.bool true), .v (.bool true), .v (.bool true), .v (.bool true), .v (.bool true), .v (.bool false), .v (.bool true), .v (.bool true), .v (.bool true), .v (.bool true), .v (.bool false), .v (.bool true), .v (.bool true), .v (.bool true), .v (.bool true), .v (.bool false), .v (.bool false), .v (.bool true), .v (.bool true), .v (.bool true), .v (.bool false), .v (.bool false), .v (.bool false), .v (.bool true), .v (.bool true)] (0 + Int.toNat a * 5 + Int.toNat b * 1) nov)))), [], 1013, [ABlk.inb (ABlk.mk false false 169 0 (Cs.lit [.v (.bool true), .v (.bool true), .v (.bool true), .v (.bool true), .v (.bool true), .v (.bool false), .v (.bool true), .v (.bool true), .v (.bool true), .v (.bool true), .v (.bool false), .v (.bool true), .v (.bool true), .v (.bool true), .v (.bool true), .v (.bool false), .v (.bool false), .v (.bool true), .v (.bool true), .v (.bool true), .v (.bool false), .v (.bool false), .v (.bool false), .v (.bool true), .v (.bool true)])) 0 (0 + Int.toNat a * 5 + Int.toNat b * 1 + 1), okl Kd.b (List.getD [.v (.bool true), .v (.bool true), .v (.bool true), .v (.bool true), .v (.bool true), .v (.bool false), .v (.bool true), .v (.bool true), .v (.bool true), .v (.bool true), .v (.bool false), .v (.bool true), .v (.bool true), .v (.bool true), .v (.bool true), .v (.bool false), .v (.bool false), .v (.bool true), .v (.bool true), .v (.bool true), .v (.bool false), .v (.bool false), .v (.bool false), .v (.bool true), .v (.bool true)] (0 + Int.toNat a * 5 + Int.toNat b * 1) nov), decide (Int.ofNat 0 ≤ b ∧ b < Int.ofNat 5), decide (Int.ofNat 0 ≤ a ∧ a < Int.ofNat 5), decide (b < Int.ofNat 5) == true, decide (a ≥ Int.ofNat 5) == false], [])) ∧ ((decide (b < Int.ofNat 5)) = false → Q (.c (.v (.bool false)), [], 1008, [decide (b < Int.ofNat 5) == false, decide (a ≥ Int.ofNat 5) == false], [])))))) :
    ∃ p r, edR Tryd.prog a b p = some r ∧ Q r := by
  rcases Bool.eq_false_or_eq_true (decide (a ≥ Int.ofNat 5)) with h2 | h2
  · have g2 := H.1 h2
    rcases Bool.eq_false_or_eq_true (decide (b < Int.ofNat 5)) with h4 | h4
    · have g4 := g2.1 h4
      exact ⟨([.b true, .b true, .a, .a, .a, .a] : List Dec), _, by kernel_rfl, g4⟩
    · have g4 := g2.2 h4
      exact ⟨([.b true, .b false, .a, .a, .a, .a] : List Dec), _, by kernel_rfl, g4⟩
  · have g2 := H.2 h2
    rcases Bool.eq_false_or_eq_true (decide (b < Int.ofNat 5)) with h4 | h4
    · have g4 := g2.1 h4
      exact ⟨([.b false, .b true, .a, .a, .a, .a] : List Dec), _, by kernel_rfl, g4⟩
    · have g4 := g2.2 h4
      exact ⟨([.b false, .b false, .a, .a, .a, .a] : List Dec), _, by kernel_rfl, g4⟩
end Go.Proofs.YtgfmjbfjodidpaaDoor
end
/- modes.Edge: its contract; modes.Next as the evaluator runs it. -/
section
namespace Go.Proofs.YtgfmjbfjodidpaaDoor
open Go.RowKit

theorem edge_tab (a b : Nat) (ha : a < 5) (hb : b < 5) : asB (List.getD (edgeL.map fun b => AC.v (.bool b)) (a * 5 + b) nov) = edgeL.getD (a * 5 + b) false ∧ okl .b (List.getD (edgeL.map fun b => AC.v (.bool b)) (a * 5 + b) nov) = true := by
  have h : a * 5 + b < 25 := by omega
  generalize a * 5 + b = k at h
  match k, h with
  | 0, _ => exact ⟨rfl, rfl⟩
  | 1, _ => exact ⟨rfl, rfl⟩
  | 2, _ => exact ⟨rfl, rfl⟩
  | 3, _ => exact ⟨rfl, rfl⟩
  | 4, _ => exact ⟨rfl, rfl⟩
  | 5, _ => exact ⟨rfl, rfl⟩
  | 6, _ => exact ⟨rfl, rfl⟩
  | 7, _ => exact ⟨rfl, rfl⟩
  | 8, _ => exact ⟨rfl, rfl⟩
  | 9, _ => exact ⟨rfl, rfl⟩
  | 10, _ => exact ⟨rfl, rfl⟩
  | 11, _ => exact ⟨rfl, rfl⟩
  | 12, _ => exact ⟨rfl, rfl⟩
  | 13, _ => exact ⟨rfl, rfl⟩
  | 14, _ => exact ⟨rfl, rfl⟩
  | 15, _ => exact ⟨rfl, rfl⟩
  | 16, _ => exact ⟨rfl, rfl⟩
  | 17, _ => exact ⟨rfl, rfl⟩
  | 18, _ => exact ⟨rfl, rfl⟩
  | 19, _ => exact ⟨rfl, rfl⟩
  | 20, _ => exact ⟨rfl, rfl⟩
  | 21, _ => exact ⟨rfl, rfl⟩
  | 22, _ => exact ⟨rfl, rfl⟩
  | 23, _ => exact ⟨rfl, rfl⟩
  | 24, _ => exact ⟨rfl, rfl⟩
  | n + 25, h => exact absurd h (by omega)
def ctEdge : CtF := ctRd (pureRd mE (by kernel_rfl)) (fun | [.c (.v (.int .u8 a)), .c (.v (.int .u8 b))] => bo (edgeF a b) | _ => bo false) (fun | [.c (.v (.int .u8 a)), .c (.v (.int .u8 b))] => decide (0 ≤ a) && decide (0 ≤ b) | _ => false)
theorem edge_L : edgeL.map (fun b => AC.v (.bool b)) = [.v (.bool true), .v (.bool true), .v (.bool true), .v (.bool true), .v (.bool true), .v (.bool false), .v (.bool true), .v (.bool true), .v (.bool true), .v (.bool true), .v (.bool false), .v (.bool true), .v (.bool true), .v (.bool true), .v (.bool true), .v (.bool false), .v (.bool false), .v (.bool true), .v (.bool true), .v (.bool true), .v (.bool false), .v (.bool false), .v (.bool false), .v (.bool true), .v (.bool true)] := rfl
theorem ct_edge : CtOk Tryd.prog 68 ctEdge := by
  refine ctRd_ofE (E := E1 Tryd.prog) hE1 (pureRd mE (by kernel_rfl)) (fuel := 300) (str := 10000000000000000000000000000000000000000) ⟨_, _, Tryd.func68, rfl⟩ (fun s => by split <;> rfl) fun s hs => ?_
  split at hs
  · rename_i a b
    simp only [Bool.and_eq_true, decide_eq_true_eq] at hs
    obtain ⟨a0, b0⟩ := hs
    refine (?_ : (∃ p q, edR Tryd.prog a b p = some q ∧ GoodF (bo (edgeF a b)) q) → _) (ed a b _ ?_)
    · rintro ⟨p, q, h1, h2⟩
      exact ⟨p, _, q, h1, h2⟩
    · obtain ⟨x, rfl⟩ := Int.eq_ofNat_of_zero_le a0
      obtain ⟨y, rfl⟩ := Int.eq_ofNat_of_zero_le b0
      simp only [← edge_L]
      refine ⟨fun h1 => ⟨fun h2 => ?_, fun h2 => ?_⟩, fun h1 => ⟨fun h2 => ?_, fun h2 => ?_⟩⟩
      · have h1' : (5 : Int) ≤ (x : Int) := by simpa using h1
        have h2' : (y : Int) < 5 := by simpa using h2
        have e := edge_tab 0 y (by omega) (by omega)
        simp only [Nat.zero_mul] at e
        refine ⟨?_, (by first | (unfold lim; omega) | (dsimp only; unfold lim; omega)), ?_, by simp⟩
        · simp only [edgeF, Int.toNat_natCast, Nat.mul_one, e.1]
          simp [bo, h1', h2']
        · simp only [allT, List.forall_mem_cons, Int.toNat_natCast, Nat.mul_one, e.2]
          simp [inb_lit, h1', h2']
          omega
      · have h2' : ¬ (y : Int) < 5 := by simpa using h2
        refine ⟨by simp [bo, edgeF, h2'], (by first | (unfold lim; omega) | (dsimp only; unfold lim; omega)), by simp [allT, h1, h2]; simp at h1 h2; omega, by simp⟩
      · have h1' : ¬ (5 : Int) ≤ (x : Int) := by simpa using h1
        have h2' : (y : Int) < 5 := by simpa using h2
        have e := edge_tab x y (by omega) (by omega)
        refine ⟨?_, (by first | (unfold lim; omega) | (dsimp only; unfold lim; omega)), ?_, by simp⟩
        · simp only [edgeF, Int.toNat_natCast, Nat.mul_one, Nat.zero_add, e.1]
          simp [bo, h1', h2']
        · simp only [allT, List.forall_mem_cons, Int.toNat_natCast, Nat.mul_one, Nat.zero_add, e.2]
          simp [inb_lit, h1', h2']
          omega
      · have h2' : ¬ (y : Int) < 5 := by simpa using h2
        refine ⟨by simp [bo, edgeF, h2'], (by first | (unfold lim; omega) | (dsimp only; unfold lim; omega)), by simp [allT, h1, h2]; simp at h1 h2; omega, by simp⟩
  · cases hs
def mSE : AMem := mS ++ mE
def ENnx (P : Program) : Env := ⟨P, [(17, ctAsks), (68, ctEdge)]⟩
theorem hENnx : EnvOk (ENnx Tryd.prog) := by
  refine envOk (fun f g h => ?_) (by kernel_rfl) (by kernel_rfl)
  simp only [ENnx, List.mem_cons, Prod.mk.injEq, List.not_mem_nil, or_false] at h
  rcases h with ⟨rfl, rfl⟩ | ⟨rfl, rfl⟩
  · exact ct_asks
  · exact ct_edge
/-- the next mode -/
def nextZ (to mode : Int) : Int := if edgeF mode to = true then to else IntKind.wrap .u8 (mode - 1)
def nextR (c : Cfg) (nq : Nat) (fq : Nat → Int) (l : List AC) (_ : List AV) : AV := .c (.v (.int .u8 (nextZ (asksC c nq fq (l.take 8) (asI (l.getD 40 nov))) (asI (l.getD 41 nov)))))
def vwGE (G : AMem) (E : Env) (f : FuncId) (c : Cfg) (nq : Nat) (fq : Nat → Int) (v : Vw) (r : List AV) (path : List Dec) (lp : List (Option LSum)) : Option VF := viewF [] (fCallF E (fC E 300) f (.c (.ptr 5 0 0) :: .agg (vwL v) :: r) 1000 10000000000000000000000000000000000000000 (stA (G ++ netL c nq fq) path lp))
theorem mdNx (c : Cfg) (nq : Nat) (fq : Nat → Int) (v : Vw) (Q : VF → Prop) (H : (((edgeF (Vw.mode v) (asksC c nq fq (inL v) (Vw.command v))) = true → Q   (AV.c (AC.v (Value.int IntKind.u8 (asksC c nq fq (inL v) (Vw.command v)))), [], 1010,     [edgeF (Vw.mode v) (asksC c nq fq (inL v) (Vw.command v)) == true, true,       match [AV.c (AC.v (Value.int IntKind.u8 (Vw.mode v))), AV.c (AC.v (Value.int IntKind.u8 (asksC c nq fq (inL v) (Vw.command v))))] with       | [AV.c (AC.v (Value.int IntKind.u8 a)), AV.c (AC.v (Value.int IntKind.u8 b))] => decide (0 ≤ a) && decide (0 ≤ b)       | x => false,       true, true, netK c nq fq, true, true, true, true, true, true, true, true, true, true, true, true, true, true, true, true, true, true, true, true, true, true, true, true, true, true, true, true, true, true, true, true, true, true, true, true, true, true, true, true, true, true, true, true],     [])) ∧ ((edgeF (Vw.mode v) (asksC c nq fq (inL v) (Vw.command v))) = false → Q   (AV.c (AC.v (Value.int IntKind.u8 (IntKind.wrap IntKind.u8 (Vw.mode v - Int.ofNat 1)))), [], 1012,     [true, true, edgeF (Vw.mode v) (asksC c nq fq (inL v) (Vw.command v)) == false, true,       match [AV.c (AC.v (Value.int IntKind.u8 (Vw.mode v))), AV.c (AC.v (Value.int IntKind.u8 (asksC c nq fq (inL v) (Vw.command v))))] with       | [AV.c (AC.v (Value.int IntKind.u8 a)), AV.c (AC.v (Value.int IntKind.u8 b))] => decide (0 ≤ a) && decide (0 ≤ b)       | x => false,       true, true, netK c nq fq, true, true, true, true, true, true, true, true, true, true, true, true, true, true, true, true, true, true, true, true, true, true, true, true, true, true, true, true, true, true, true, true, true, true, true, true, true, true, true, true, true, true, true, true],     [])))) :
    ∃ p r, vwGE mSE (ENnx Tryd.prog) 67 c nq fq v [] p [] = some r ∧ Q r := by
  rcases Bool.eq_false_or_eq_true (edgeF (Vw.mode v) (asksC c nq fq (inL v) (Vw.command v))) with h2 | h2
  · have g2 := H.1 h2
    exact ⟨([.b true] : List Dec), _, by kernel_rfl, g2⟩
  · have g2 := H.2 h2
    exact ⟨([.b false] : List Dec), _, by kernel_rfl, g2⟩
end Go.Proofs.YtgfmjbfjodidpaaDoor
end
/- modes.Next: its contract; layer 25's examples. -/
section
namespace Go.Proofs.YtgfmjbfjodidpaaDoor
open Go.RowKit

def ctNext : CtF := ctRd (netRdG mSE (by kernel_rfl)) (rV nextR) (pV fun l r => r.isEmpty && decide (0 ≤ asI (l.getD 41 nov)))
theorem asksZ_pos (i a : Nat) (c : Int) : 1 ≤ asksZ i a c ∧ asksZ i a c ≤ 4 := by
  unfold asksZ
  repeat' split
  all_goals omega
theorem asksC_pos (c : Cfg) (nq : Nat) (fq : Nat → Int) (l : List AC) (cmd : Int) : 1 ≤ asksC c nq fq l cmd ∧ asksC c nq fq l cmd ≤ 4 := asksZ_pos _ _ _
theorem ct_nextM : CtOk Tryd.prog 67 ctNext := by
  refine ctVwG_of (G := mSE) (by kernel_rfl) (E := ENnx Tryd.prog) hENnx ⟨_, _, Tryd.func67, rfl⟩ (fun _ _ _ _ _ => rfl) fun c nq fq v r hr => ?_
  simp only [Bool.and_eq_true, decide_eq_true_eq] at hr
  obtain ⟨hr, h0⟩ := hr
  have h0 : 0 ≤ v.mode := h0
  obtain rfl := List.isEmpty_iff.1 hr
  refine (?_ : (∃ p q, vwGE mSE (ENnx Tryd.prog) 67 c nq fq v [] p [] = some q ∧ GoodF (nextR c nq fq (vwL v) []) q) → _) (mdNx c nq fq v _ ?_)
  · rintro ⟨p, q, h1, h2⟩
    exact ⟨p, _, q, h1, h2⟩
  · have hr : nextR c nq fq (vwL v) [] = .c (.v (.int .u8 (nextZ (asksC c nq fq (inL v) v.command) v.mode))) := rfl
    have ha := asksC_pos c nq fq (inL v) v.command
    rw [hr]
    generalize asksC c nq fq (inL v) v.command = a at *
    (repeat' (first | refine ⟨fun h => ?_, fun h => ?_⟩ | fail))
    all_goals (refine ⟨?_, (by first | (unfold lim; omega) | (dsimp only; unfold lim; omega)), ?_, by simp⟩)
    · simp [nextZ, h]
    · simp [allT, cfgK_t, netK_t, intsOk_ints, stsOk_sts, intsOk_s, stsOk_s, h, h0]; omega
    · simp [nextZ, h]
    · simp [allT, cfgK_t, netK_t, intsOk_ints, stsOk_sts, intsOk_s, stsOk_s, h, h0]; omega
def lv25 (P : Program) : Option VF := viewF [] (fCallF (E1 P) (fC (E1 P) 300) 16 [] 10 10000000000000000000000000000000000000000 (stC mSE))
theorem lv25_run  : lv25 Tryd.prog =
    some (.c (.v (.bool true)), [], 1550000000000000000000000000000000000003121, [], []) := by kernel_rfl
end Go.Proofs.YtgfmjbfjodidpaaDoor
end
/- What a view asks for, by how many of its first cells are in. No Go text is in sight. -/
section
namespace Go.Proofs.YtgfmjbfjodidpaaDoor
open Go.RowKit

/-- of a view's first cells: how many are in, of so many -/
def refN (n : Nat) (l : List AC) : Nat := cntF (fun p => asB (l.getD p nov)) n
theorem refN_eq (v : Vw) {n : Nat} (h : n ≤ 8) : refN n (inL v) = cntF v.inn n :=
  cntF_congr fun i hi => by
    match i, show i < 8 by omega with
    | 0, _ => rfl
    | 1, _ => rfl
    | 2, _ => rfl
    | 3, _ => rfl
    | 4, _ => rfl
    | 5, _ => rfl
    | 6, _ => rfl
    | 7, _ => rfl
def refAs (n : Nat) (l : List AC) (cmd : Int) : Int := asksZ (refN n l) n cmd
end Go.Proofs.YtgfmjbfjodidpaaDoor
end
