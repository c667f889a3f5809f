/- Parts, one behind the other. ActuatorsRun: the sum of its loop, round by round. -/
import Derived.Test.YtgfmjbfjodidpaaDoorJActuatorsRun5
set_option linter.unusedSimpArgs false
set_option linter.unusedVariables false
/- ActuatorsRun: the sum of its loop, round by round. -/
section
namespace Go.Proofs.YtgfmjbfjodidpaaDoor
open Go.RowKit

theorem tkI_t {x y : Int} : tkI true x y = x := rfl
theorem tkI_f {x y : Int} : tkI false x y = y := rfl
theorem i64B_s {z : Int} (h0 : -1000 ≤ z) (h1 : z ≤ 1000000) : i64B z = true := i64B_t (by omega) (by omega)
set_option maxHeartbeats 1000000 in
theorem ar_sum (c : Cfg) (safe hz : Int) (n : Nat) (f : Nat → Deliv) (g : ArC c safe hz) (hn : n ≤ 200) (hf : ∀ i, (f i).Ok) {eblks : List (Option ABlk)} (heb : BL (arBk c n f false 0 0 0) eblks) :
    LoopV Tryd.prog (loopAt Tryd.prog 7 0) [0, 2, 7, 8, 9, 10, 11, 12, 13] arIds ((arV safe hz n 0 (-1) 0 0).map some) eblks 172 62 (mkFr 172 []) [(gid 0, signB)] 100000000000000000000000000000000000000000000000000 (.exit 0) none := by
  obtain ⟨hh0, hh1⟩ := g.hh
  refine loop_viewE (hENl0 ctsAa_ok) (fuel := 100) (str := 10000000000000000000000000000000000000000) (nh := 1000000000000000000000000000000000000000000) (n := 62) (n' := 100000000000000000000000000000000000000000000000000) (S := ArS) (arInv n f) (fun s => n - s.i) [0, 2, 7, 8, 9, 10, 11, 12, 13] [] arIds (fun s => arV safe hz n s.R s.last s.since s.i) (fun s => arBk c n f s.y s.q s.u s.t) (by decide) (by decide) (by unfold lim; omega) (s0 := ⟨0, false, 0, 0, 0, 0, -1, 0⟩) ⟨Nat.zero_le _, by show (0 : Int) ≤ 0; omega, by show (0 : Int) ≤ 50 * ((0 : Nat) : Int); omega, by show (-100 : Int) ≤ 0; omega, by show (0 : Int) ≤ 0; omega, .inl ⟨rfl, rfl⟩⟩ (fun _ => ⟨rfl, rfl⟩) (by kernel_rfl) heb (fun s _ => ⟨rfl, arBk_low (by omega)⟩) ?_
  intro s hs
  obtain ⟨i1, i2, i3, i4, i5, i6⟩ := hs
  refine (?_ : (∃ p r, arR Tryd.prog cfgErr c safe hz n f s.y s.q s.u s.t s.R s.last s.since s.i p = some r ∧ _) → _) (ar cfgErr c safe hz n f s.y s.q s.u s.t s.R s.last s.since s.i (StepV 62 100000000000000000000000000000000000000000000000000 172 [0, 2, 7, 8, 9, 10, 11, 12, 13] [] arIds (arInv n f) (fun s => n - s.i) (fun s => arV safe hz n s.R s.last s.since s.i) (fun s => arBk c n f s.y s.q s.u s.t) (.exit 0) [] [(gid 0, signB)] s) ?_)
  · rintro ⟨p, r, h1, h2⟩
    exact ⟨p, [], r, h1, h2⟩
  · rcases Nat.lt_or_ge s.i n with hlt | hge
    · have hd : arD' f s.i = f s.i := by unfold arD'; congr 1; simp
      have hr := ar_round (d := f s.i) i2 (by omega)
      have w1 : IntKind.wrap IntKind.i64 (Int.ofNat s.i + Int.ofNat 1) = Int.ofNat (s.i + 1) := wrap_nat1 s.i (by omega)
      have d0 : decide (Int.ofNat s.i < (n : Int)) = true := decide_eq_true (by simp; omega)
      have ou0 : ∀ y u t v, ouV c (Int.ofNat 0) y u t v = if y = true ∧ t ≤ v ∧ v - t < hz then u else safe := fun y u t v => ar_ou g y u t v
      have ou1 : ∀ y u t v, ouV c (Int.ofNat 1) y u t v = 0 := fun y u t v => ou_none g.b1
      have htk := fun e => ar_tk (c := c) (y := s.y) (q := s.q) (R := s.R) (d := f s.i) e (by have := hf s.i; exact this.1.2.2.1)
      have htw := fun b k st pr cm rd => tk_twice (c := c) (z := Int.ofNat 0) (dq := (f s.i).said.p.seq) (b := b) (k := k) (st := st) (pr := pr) (cm := cm) (rd := rd)
      obtain ⟨RR, eR⟩ : ∃ RR, arRR s.R (f s.i) = RR := ⟨_, rfl⟩
      rw [eR] at hr
      have w2 : IntKind.wrap IntKind.i64 (RR - RR) = 0 := by rw [wrap_nat _ (by omega) (by omega)]; omega
      have w3 : IntKind.wrap IntKind.i64 (RR - Int.negSucc 999) = RR + 1000 := by rw [show RR - Int.negSucc 999 = RR + 1000 by omega]; exact wrap_nat _ (by omega) (by omega)
      have w4 : -1000 ≤ s.since → s.since ≤ RR → IntKind.wrap IntKind.i64 (RR - s.since) = RR - s.since := fun _ _ => wrap_nat _ (by omega) (by omega)
      have m99 : Int.negSucc 99 = -100 := rfl
      have bR := i64B_s (z := RR) (by omega) (by omega)
      have bt := i64B_s (z := s.t) (by omega) (by omega)
      have b99 : i64B (-100) = true := rfl
      have b0 : i64B 0 = true := rfl
      have p1 := g.pre
      have p2 := g.holds
      have hlast : s.last < (n : Int) := by
        rcases i6 with ⟨e1, e2⟩ | ⟨j, e1, e2, e3, e4, e5, e6⟩ <;> omega
      simp only [hd, eR, w1, w2, w3, d0, m99]
      obtain ⟨TK, eT⟩ : ∃ b, arTK c s.y s.q s.R (f s.i) = b := ⟨_, rfl⟩
      rw [eT] at htk
      simp only [eT]
      have o99 : (if s.y = true ∧ -100 ≤ RR ∧ RR - -100 < hz then s.u else safe) = safe := if_neg (by omega)
      have o90 : (if s.y = true ∧ -100 ≤ Int.ofNat 0 ∧ Int.ofNat 0 - -100 < hz then s.u else safe) = safe := if_neg (by simp; omega)
      have oR : ∀ V : Int, (if true = true ∧ RR ≤ RR ∧ RR - RR < hz then V else safe) = V := fun V => if_pos ⟨rfl, by omega, by omega⟩
      have dR : decide ((0 : Int) < hz) = true := decide_eq_true (by omega)
      have dS : decide (RR + 1000 < hz) = false := decide_eq_false (by omega)
      have ne : (safe != safe) = false := by simp
      have nV : ∀ V : Int, (V != V) = false := fun V => by simp
      cases TK
      · simp only [Bool.false_or, tkI_f, eqF_same, ou0, ou1, o99, o90, dS, ne]
        rcases Bool.eq_false_or_eq_true (Int.tmod (f s.i).said.at_ (Int.ofNat 7) == Int.ofNat 3) with hA | hA
        · have hi : arInv n f ⟨s.i + 1, s.y, s.q, s.u, -100, RR, s.last, -1000⟩ := by
            refine ⟨by show s.i + 1 ≤ n; omega, by show 0 ≤ RR; omega, by show RR ≤ 50 * ((s.i + 1 : Nat) : Int); omega, by show (-100 : Int) ≤ -100; omega, by show (-100 : Int) ≤ RR; omega, ?_⟩
            rcases i6 with ⟨e1, e2⟩ | ⟨j, e1, e2, e3, e4, e5, e6⟩
            · exact .inl ⟨e1, e2⟩
            · exact .inr ⟨j, e1, by show j < s.i + 1; omega, e3, e4, e5, .inr ⟨rfl, rfl⟩⟩
          simp only [hA, Bool.false_eq_true, Bool.true_eq_false, false_implies, true_implies, forall_const, and_true, true_and]
          (repeat' (first | refine ⟨fun h => ?_, fun h => ?_⟩ | fail))
          all_goals (refine ⟨?_, rfl, by dsimp only; omega, rfl, .inl ⟨rfl, ⟨s.i + 1, s.y, s.q, s.u, -100, RR, s.last, -1000⟩, hi, by show n - (s.i + 1) < n - s.i; omega, rfl, BL.refl (arBk c n f s.y s.q s.u (-100))⟩⟩)
          all_goals (simp only [allT, List.forall_mem_cons, ntkQ_eq, nouQ_eq, p1, p2, bR, bt, b99, b0])
          all_goals (simp_all [cfgK_t, netK_t, intsOk_ints, stsOk_sts, intsOk_s, stsOk_s, inb_arr, inb_lit])
          all_goals (first | done | omega)
        · have hi : arInv n f ⟨s.i + 1, s.y, s.q, s.u, s.t, RR, s.last, s.since⟩ := by
            refine ⟨by show s.i + 1 ≤ n; omega, by show 0 ≤ RR; omega, by show RR ≤ 50 * ((s.i + 1 : Nat) : Int); omega, i4, by show s.t ≤ RR; omega, ?_⟩
            rcases i6 with ⟨e1, e2⟩ | ⟨j, e1, e2, e3, e4, e5, e6⟩
            · exact .inl ⟨e1, e2⟩
            · exact .inr ⟨j, e1, by show j < s.i + 1; omega, e3, e4, e5, e6⟩
          simp only [hA, Bool.false_eq_true, Bool.true_eq_false, false_implies, true_implies, forall_const, and_true, true_and]
          have hO : ∀ V : Int, (decide (s.last ≥ Int.ofNat 0) = false → V = safe) → (decide (s.last ≥ Int.ofNat 0) = true → V = if decide (IntKind.wrap IntKind.i64 (RR - s.since) < hz) = true then (f (0 + s.last.toNat)).said.p.val else safe) → (if s.y = true ∧ s.t ≤ RR ∧ RR - s.t < hz then s.u else safe) = V := by
            intro V v1 v2
            rcases i6 with ⟨e1, e2⟩ | ⟨j, e1, e2, e3, e4, e5, e6⟩
            · rw [if_neg (by rw [e2]; simp), v1 (by rw [e1]; rfl)]
            · have hl : decide (s.last ≥ Int.ofNat 0) = true := by rw [e1]; simp
              rw [v2 hl, e1]
              simp only [Int.toNat_natCast, Nat.zero_add]
              rcases e6 with ⟨e6, e7⟩ | ⟨e6, e7⟩
              · rw [w4 (by omega) (by omega)]
                by_cases hc : RR - s.since < hz
                · rw [if_pos ⟨e3, by omega, by omega⟩, if_pos (by simpa using hc), e5]
                · rw [if_neg (by omega), if_neg (by simpa using hc)]
              · rw [w4 (by omega) (by omega), if_neg (by omega), if_neg (by simp; omega)]
          (repeat' (first | refine ⟨fun h => ?_, fun h => ?_⟩ | fail))
          all_goals (first
            | (exfalso
               have e := hO safe (fun _ => rfl) (fun e2 => by first | (rw [if_neg (by rw [‹decide (IntKind.wrap IntKind.i64 (RR - s.since) < hz) = false›]; simp)]; done) | (exfalso; rw [‹decide (s.last ≥ Int.ofNat 0) = false›] at e2; cases e2; done) | fail)
               rw [e] at h
               simp at h; done)
            | (exfalso
               have e := hO (f (0 + s.last.toNat)).said.p.val (fun e2 => by first | (exfalso; rw [‹decide (s.last ≥ Int.ofNat 0) = true›] at e2; cases e2; done) | fail) (fun e2 => by first | (rw [if_pos ‹decide (IntKind.wrap IntKind.i64 (RR - s.since) < hz) = true›]; done) | fail)
               rw [e] at h
               simp at h; done)
            | skip)
          all_goals (first | (refine ⟨?_, rfl, by dsimp only; omega, rfl, .inl ⟨rfl, ⟨s.i + 1, s.y, s.q, s.u, s.t, RR, s.last, s.since⟩, hi, by show n - (s.i + 1) < n - s.i; omega, rfl, BL.refl (arBk c n f s.y s.q s.u s.t)⟩⟩) | skip)
          all_goals (simp only [allT, List.forall_mem_cons, ntkQ_eq, nouQ_eq, p1, p2, bR, bt, b99, b0])
          all_goals (simp_all [cfgK_t, netK_t, intsOk_ints, stsOk_sts, intsOk_s, stsOk_s, inb_arr, inb_lit])
          all_goals (first | done | omega)
      · obtain ⟨k1, k2, k3, k4, k5, k6⟩ := htk rfl
        simp only [Bool.true_or, tkI_t, eqF_same, ou0, ou1, htw, oR, dR, o99, o90, nV]
        have hi : arInv n f ⟨s.i + 1, true, (f s.i).said.p.seq, (f s.i).said.p.val, RR, RR, Int.ofNat s.i, RR⟩ := by
          refine ⟨by show s.i + 1 ≤ n; omega, by show 0 ≤ RR; omega, by show RR ≤ 50 * ((s.i + 1 : Nat) : Int); omega, by show -100 ≤ RR; omega, by show RR ≤ RR; omega, .inr ⟨s.i, rfl, by show s.i < s.i + 1; omega, rfl, rfl, rfl, .inl ⟨rfl, by show 0 ≤ RR; omega⟩⟩⟩
        have hq : s.last ≥ 0 → decide ((f s.i).said.p.seq ≤ (f (0 + s.last.toNat)).said.p.seq) = false := by
          intro hl
          rcases i6 with ⟨e1, e2⟩ | ⟨j, e1, e2, e3, e4, e5, e6⟩
          · omega
          · have := k6 e3
            rw [e1]
            simp
            omega
        (repeat' (first | refine ⟨fun h => ?_, fun h => ?_⟩ | fail))
        all_goals (first | (exfalso; simp at *; done) | skip)
        all_goals (first | (refine ⟨?_, rfl, by dsimp only; omega, rfl, .inl ⟨rfl, ⟨s.i + 1, true, (f s.i).said.p.seq, (f s.i).said.p.val, RR, RR, Int.ofNat s.i, RR⟩, hi, by show n - (s.i + 1) < n - s.i; omega, rfl, BL.refl (arBk c n f true (f s.i).said.p.seq (f s.i).said.p.val RR)⟩⟩) | skip)
        all_goals (simp only [allT, List.forall_mem_cons, ntkQ_eq, nouQ_eq, p1, p2, bR, bt, b99, b0])
        all_goals (simp_all [cfgK_t, netK_t, intsOk_ints, stsOk_sts, intsOk_s, stsOk_s, inb_arr, inb_lit])
        all_goals (first | done | omega)
    · have hin : s.i = n := by omega
      refine ⟨fun h1 => ?_, fun h1 => ?_⟩
      · exfalso; simp at h1; omega
      · refine ⟨by simp [allT]; omega, rfl, by dsimp only; omega, rfl, .inr ⟨by simp, rfl, (fun q hq => by cases hq), fun p hpp => ?_⟩⟩
        rw [List.mem_singleton.1 hpp]
        exact ⟨by kernel_rfl, low_lit rfl, signB, List.mem_cons_self .., BEq.refl _⟩
end Go.Proofs.YtgfmjbfjodidpaaDoor
end
/- ActuatorsRun as the evaluator runs it, its loop told by its sum; its config. -/
section
namespace Go.Proofs.YtgfmjbfjodidpaaDoor
open Go.RowKit

abbrev hM (hold : Int) : Int := IntKind.wrap .i64 (Int.ofNat 1 + Int.tmod (IntKind.wrap .i64 hold) (Int.ofNat 100))
def cL (safe h : Int) : Cfg := Cfg.mk (Int.ofNat 4) 2 (fA (eltZ (ABlk.mk true false 3 0 (Cs.lit [.v (.int .i64 (Int.ofNat 0)), .v (.int .i64 (Int.ofNat 2))])) 0 0 1)) 2 (fA (eltZ (ABlk.mk true false 3 0 (Cs.lit [.v (.int .i64 (Int.ofNat 0)), .v (.int .i64 (Int.ofNat 1))])) 0 0 1)) (Int.ofNat 120) 4 (fA (eltZ (ABlk.mk true false 3 0 (Cs.lit [.v (.int .i64 (Int.ofNat 0)), .v (.int .i64 (Int.ofNat 0)), .v (.int .i64 (Int.ofNat 0)), .v (.int .i64 (Int.ofNat 0))])) 0 0 1)) 1 (stOf (eltZ (ABlk.mk true false 47 0 (Cs.lit [.v (.int .i64 (Int.ofNat 0)), .v (.int .u32 safe), .v (.int .i64 h)])) 0 0 3)) (Int.ofNat 3) (Int.ofNat 3) (Int.ofNat 3)
theorem cL_ft (safe h : Int) : (cL safe h).ft 0 = ⟨0, safe, h⟩ := by simp [cL, stOf, eltZ, elt, asI, Cs.get]
theorem cL_err {safe h : Int} (h0 : 1 ≤ h) (h1 : h ≤ 100) : cfgErr (cL safe h) = 0 := by
  have r1 : rule1 (cL safe h) = 0 := by rfl
  have r2 : rule2 (cL safe h) = 0 := by rfl
  have r3 : rule3 (cL safe h) = 0 := by rfl
  have r4 : rule4 (cL safe h) = 0 := by rfl
  have r5 : rule5 (cL safe h) = 0 := by rfl
  have r6 : rule6 (cL safe h) = 0 := by rfl
  have r7 : rule7 (cL safe h) = 0 := by rfl
  have r8 : rule8 (cL safe h) = 0 := by rfl
  have r10 : rule10 (cL safe h) = 0 := by rfl
  have rs : ruleSt (cL safe h) 0 = 0 := by
    unfold ruleSt withinF
    rw [cL_ft, if_pos ⟨by simp, by show (0 : Int) < Int.ofNat 4; simp⟩]
    simp only
    rw [if_neg (by omega), if_neg (by omega)]
  have r9 : rule9 (cL safe h) = 0 := by
    unfold rule9
    have : (List.range (cL safe h).nt) = [0] := rfl
    rw [this]
    simp [rs]
  unfold cfgErr
  simp [r1, r2, r3, r4, r5, r6, r7, r8, r9, r10]
theorem cL_ok {safe h : Int} (h0 : 1 ≤ h) (h1 : h ≤ 100) : ArC (cL safe h) safe h := by
  refine ⟨rfl, ?_, rfl, rfl, ?_, ?_, h0, h1⟩
  · exact good_holds (cL_err h0 h1)
  · have b : stB (cL safe h) 0 = true := rfl
    unfold stS
    rw [if_pos b]
    exact congrArg Station.safe (cL_ft safe h)
  · have b : stB (cL safe h) 0 = true := rfl
    unfold stH'
    rw [if_pos b]
    exact congrArg Station.hold (cL_ft safe h)
def arS : LSum := ⟨[0, 2, 7, 8, 9, 10, 11, 12, 13], arIds, mkFr 172 [], [(gid 0, signB)], 100000000000000000000000000000000000000000000000000, .exit 0⟩
theorem arA (err : Cfg → Int) (safe hold : Int) (n : Nat) (f : Nat → Deliv) (Q : VF → Prop) (H : (((decide (↑n > Int.ofNat 200)) = true → Q (.c (.v (.bool true)), [], 15, [decide (↑n > Int.ofNat 200) == true], [])) ∧ ((decide (↑n > Int.ofNat 200)) = false → Q (.c (.v (.bool true)), [], 100000000000000000000000000000000000000000000000001, [true, true, true, decide (err (Cfg.mk (Int.ofNat 4) 2 (fA (eltZ (ABlk.mk true false 3 0 (Cs.lit [.v (.int .i64 (Int.ofNat 0)), .v (.int .i64 (Int.ofNat 2))])) 0 0 1)) 2 (fA (eltZ (ABlk.mk true false 3 0 (Cs.lit [.v (.int .i64 (Int.ofNat 0)), .v (.int .i64 (Int.ofNat 1))])) 0 0 1)) (Int.ofNat 120) 4 (fA (eltZ (ABlk.mk true false 3 0 (Cs.lit [.v (.int .i64 (Int.ofNat 0)), .v (.int .i64 (Int.ofNat 0)), .v (.int .i64 (Int.ofNat 0)), .v (.int .i64 (Int.ofNat 0))])) 0 0 1)) 1 (stOf (eltZ (ABlk.mk true false 47 0 (Cs.lit [.v (.int .i64 (Int.ofNat 0)), .v (.int .u32 safe), .v (.int .i64 (IntKind.wrap .i64 (Int.ofNat 1 + Int.tmod (IntKind.wrap .i64 hold) (Int.ofNat 100))))])) 0 0 3)) (Int.ofNat 3) (Int.ofNat 3) (Int.ofNat 3)) = Int.ofNat 0), true, true, true, true, true, true, true, true, true, true, true, true, true, true, true, true, decide (↑n > Int.ofNat 200) == false], [LoopV Tryd.prog (loopAt Tryd.prog 7 0) [0, 2, 7, 8, 9, 10, 11, 12, 13] arIds [some (.c (.v (.int .u32 safe))), some (.c (.sl 0 0 0 n none)), some (.c (.v (.int .i64 (IntKind.wrap .i64 (Int.ofNat 1 + Int.tmod (IntKind.wrap .i64 hold) (Int.ofNat 100)))))), some (.c (.ptr 37 0 0)), some (.c (.ptr 56 0 0)), some (.c (.v (.int .i64 (Int.ofNat 0)))), some (.c (.v (.int .i64 (Int.negSucc 0)))), some (.c (.v (.int .i64 (Int.ofNat 0)))), some (.c (.v (.int .i64 (Int.ofNat 0))))] [some (ABlk.mk false false 107 0 (Cs.lit [.v (.int .i64 (Int.ofNat 1)), .v (.int .i64 (Int.negSucc 0))])), some (ABlk.mk false false 57 9 (Cs.arr n fun k => List.map AC.v ((fun i => [Value.bool (Said.is (Deliv.said (f i))), Value.int .i64 (Said.at_ (Deliv.said (f i))), Value.int .u8 (Payload.kind (Said.p (Deliv.said (f i)))), Value.int .u8 (Payload.st (Said.p (Deliv.said (f i)))), Value.int .u32 (Payload.seq (Said.p (Deliv.said (f i)))), Value.int .u32 (Payload.val (Said.p (Deliv.said (f i)))), Value.int .i64 (Deliv.pair (f i)), Value.int .i64 (Deliv.command (f i)), Value.int .i64 (Deliv.round (f i))]) k))), some (ABlk.mk true false 130 0 (Cs.lit [.v (.int .i64 (Cfg.nodes (Cfg.mk (Int.ofNat 4) 2 (fA (eltZ (ABlk.mk true false 3 0 (Cs.lit [.v (.int .i64 (Int.ofNat 0)), .v (.int .i64 (Int.ofNat 2))])) 0 0 1)) 2 (fA (eltZ (ABlk.mk true false 3 0 (Cs.lit [.v (.int .i64 (Int.ofNat 0)), .v (.int .i64 (Int.ofNat 1))])) 0 0 1)) (Int.ofNat 120) 4 (fA (eltZ (ABlk.mk true false 3 0 (Cs.lit [.v (.int .i64 (Int.ofNat 0)), .v (.int .i64 (Int.ofNat 0)), .v (.int .i64 (Int.ofNat 0)), .v (.int .i64 (Int.ofNat 0))])) 0 0 1)) 1 (stOf (eltZ (ABlk.mk true false 47 0 (Cs.lit [.v (.int .i64 (Int.ofNat 0)), .v (.int .u32 safe), .v (.int .i64 (IntKind.wrap .i64 (Int.ofNat 1 + Int.tmod (IntKind.wrap .i64 hold) (Int.ofNat 100))))])) 0 0 3)) (Int.ofNat 3) (Int.ofNat 3) (Int.ofNat 3)))), AC.sl 39 0 0 2 (some 2), AC.sl 40 0 0 2 (some 2), .v (.int .i64 (Cfg.long (Cfg.mk (Int.ofNat 4) 2 (fA (eltZ (ABlk.mk true false 3 0 (Cs.lit [.v (.int .i64 (Int.ofNat 0)), .v (.int .i64 (Int.ofNat 2))])) 0 0 1)) 2 (fA (eltZ (ABlk.mk true false 3 0 (Cs.lit [.v (.int .i64 (Int.ofNat 0)), .v (.int .i64 (Int.ofNat 1))])) 0 0 1)) (Int.ofNat 120) 4 (fA (eltZ (ABlk.mk true false 3 0 (Cs.lit [.v (.int .i64 (Int.ofNat 0)), .v (.int .i64 (Int.ofNat 0)), .v (.int .i64 (Int.ofNat 0)), .v (.int .i64 (Int.ofNat 0))])) 0 0 1)) 1 (stOf (eltZ (ABlk.mk true false 47 0 (Cs.lit [.v (.int .i64 (Int.ofNat 0)), .v (.int .u32 safe), .v (.int .i64 (IntKind.wrap .i64 (Int.ofNat 1 + Int.tmod (IntKind.wrap .i64 hold) (Int.ofNat 100))))])) 0 0 3)) (Int.ofNat 3) (Int.ofNat 3) (Int.ofNat 3)))), AC.sl 41 0 0 4 (some 4), AC.sl 42 0 0 1 (some 1), .v (.int .i64 (Cfg.miss (Cfg.mk (Int.ofNat 4) 2 (fA (eltZ (ABlk.mk true false 3 0 (Cs.lit [.v (.int .i64 (Int.ofNat 0)), .v (.int .i64 (Int.ofNat 2))])) 0 0 1)) 2 (fA (eltZ (ABlk.mk true false 3 0 (Cs.lit [.v (.int .i64 (Int.ofNat 0)), .v (.int .i64 (Int.ofNat 1))])) 0 0 1)) (Int.ofNat 120) 4 (fA (eltZ (ABlk.mk true false 3 0 (Cs.lit [.v (.int .i64 (Int.ofNat 0)), .v (.int .i64 (Int.ofNat 0)), .v (.int .i64 (Int.ofNat 0)), .v (.int .i64 (Int.ofNat 0))])) 0 0 1)) 1 (stOf (eltZ (ABlk.mk true false 47 0 (Cs.lit [.v (.int .i64 (Int.ofNat 0)), .v (.int .u32 safe), .v (.int .i64 (IntKind.wrap .i64 (Int.ofNat 1 + Int.tmod (IntKind.wrap .i64 hold) (Int.ofNat 100))))])) 0 0 3)) (Int.ofNat 3) (Int.ofNat 3) (Int.ofNat 3)))), .v (.int .i64 (Cfg.good (Cfg.mk (Int.ofNat 4) 2 (fA (eltZ (ABlk.mk true false 3 0 (Cs.lit [.v (.int .i64 (Int.ofNat 0)), .v (.int .i64 (Int.ofNat 2))])) 0 0 1)) 2 (fA (eltZ (ABlk.mk true false 3 0 (Cs.lit [.v (.int .i64 (Int.ofNat 0)), .v (.int .i64 (Int.ofNat 1))])) 0 0 1)) (Int.ofNat 120) 4 (fA (eltZ (ABlk.mk true false 3 0 (Cs.lit [.v (.int .i64 (Int.ofNat 0)), .v (.int .i64 (Int.ofNat 0)), .v (.int .i64 (Int.ofNat 0)), .v (.int .i64 (Int.ofNat 0))])) 0 0 1)) 1 (stOf (eltZ (ABlk.mk true false 47 0 (Cs.lit [.v (.int .i64 (Int.ofNat 0)), .v (.int .u32 safe), .v (.int .i64 (IntKind.wrap .i64 (Int.ofNat 1 + Int.tmod (IntKind.wrap .i64 hold) (Int.ofNat 100))))])) 0 0 3)) (Int.ofNat 3) (Int.ofNat 3) (Int.ofNat 3)))), .v (.int .i64 (Cfg.fresh (Cfg.mk (Int.ofNat 4) 2 (fA (eltZ (ABlk.mk true false 3 0 (Cs.lit [.v (.int .i64 (Int.ofNat 0)), .v (.int .i64 (Int.ofNat 2))])) 0 0 1)) 2 (fA (eltZ (ABlk.mk true false 3 0 (Cs.lit [.v (.int .i64 (Int.ofNat 0)), .v (.int .i64 (Int.ofNat 1))])) 0 0 1)) (Int.ofNat 120) 4 (fA (eltZ (ABlk.mk true false 3 0 (Cs.lit [.v (.int .i64 (Int.ofNat 0)), .v (.int .i64 (Int.ofNat 0)), .v (.int .i64 (Int.ofNat 0)), .v (.int .i64 (Int.ofNat 0))])) 0 0 1)) 1 (stOf (eltZ (ABlk.mk true false 47 0 (Cs.lit [.v (.int .i64 (Int.ofNat 0)), .v (.int .u32 safe), .v (.int .i64 (IntKind.wrap .i64 (Int.ofNat 1 + Int.tmod (IntKind.wrap .i64 hold) (Int.ofNat 100))))])) 0 0 3)) (Int.ofNat 3) (Int.ofNat 3) (Int.ofNat 3)))), AC.sl 38 0 0 4 none])), some (ABlk.mk true true 3 1 (Cs.arr 4 fun k => List.map AC.v ((fun i => [Value.int .i64 (pairF (Cfg.mk (Int.ofNat 4) 2 (fA (eltZ (ABlk.mk true false 3 0 (Cs.lit [.v (.int .i64 (Int.ofNat 0)), .v (.int .i64 (Int.ofNat 2))])) 0 0 1)) 2 (fA (eltZ (ABlk.mk true false 3 0 (Cs.lit [.v (.int .i64 (Int.ofNat 0)), .v (.int .i64 (Int.ofNat 1))])) 0 0 1)) (Int.ofNat 120) 4 (fA (eltZ (ABlk.mk true false 3 0 (Cs.lit [.v (.int .i64 (Int.ofNat 0)), .v (.int .i64 (Int.ofNat 0)), .v (.int .i64 (Int.ofNat 0)), .v (.int .i64 (Int.ofNat 0))])) 0 0 1)) 1 (stOf (eltZ (ABlk.mk true false 47 0 (Cs.lit [.v (.int .i64 (Int.ofNat 0)), .v (.int .u32 safe), .v (.int .i64 (IntKind.wrap .i64 (Int.ofNat 1 + Int.tmod (IntKind.wrap .i64 hold) (Int.ofNat 100))))])) 0 0 3)) (Int.ofNat 3) (Int.ofNat 3) (Int.ofNat 3)) (2 * Cfg.np (Cfg.mk (Int.ofNat 4) 2 (fA (eltZ (ABlk.mk true false 3 0 (Cs.lit [.v (.int .i64 (Int.ofNat 0)), .v (.int .i64 (Int.ofNat 2))])) 0 0 1)) 2 (fA (eltZ (ABlk.mk true false 3 0 (Cs.lit [.v (.int .i64 (Int.ofNat 0)), .v (.int .i64 (Int.ofNat 1))])) 0 0 1)) (Int.ofNat 120) 4 (fA (eltZ (ABlk.mk true false 3 0 (Cs.lit [.v (.int .i64 (Int.ofNat 0)), .v (.int .i64 (Int.ofNat 0)), .v (.int .i64 (Int.ofNat 0)), .v (.int .i64 (Int.ofNat 0))])) 0 0 1)) 1 (stOf (eltZ (ABlk.mk true false 47 0 (Cs.lit [.v (.int .i64 (Int.ofNat 0)), .v (.int .u32 safe), .v (.int .i64 (IntKind.wrap .i64 (Int.ofNat 1 + Int.tmod (IntKind.wrap .i64 hold) (Int.ofNat 100))))])) 0 0 3)) (Int.ofNat 3) (Int.ofNat 3) (Int.ofNat 3))) i)]) k))), some (ABlk.mk true true 3 1 (Cs.arr 2 fun k => List.map AC.v ((fun i => [Value.int .i64 (Cfg.fp (Cfg.mk (Int.ofNat 4) 2 (fA (eltZ (ABlk.mk true false 3 0 (Cs.lit [.v (.int .i64 (Int.ofNat 0)), .v (.int .i64 (Int.ofNat 2))])) 0 0 1)) 2 (fA (eltZ (ABlk.mk true false 3 0 (Cs.lit [.v (.int .i64 (Int.ofNat 0)), .v (.int .i64 (Int.ofNat 1))])) 0 0 1)) (Int.ofNat 120) 4 (fA (eltZ (ABlk.mk true false 3 0 (Cs.lit [.v (.int .i64 (Int.ofNat 0)), .v (.int .i64 (Int.ofNat 0)), .v (.int .i64 (Int.ofNat 0)), .v (.int .i64 (Int.ofNat 0))])) 0 0 1)) 1 (stOf (eltZ (ABlk.mk true false 47 0 (Cs.lit [.v (.int .i64 (Int.ofNat 0)), .v (.int .u32 safe), .v (.int .i64 (IntKind.wrap .i64 (Int.ofNat 1 + Int.tmod (IntKind.wrap .i64 hold) (Int.ofNat 100))))])) 0 0 3)) (Int.ofNat 3) (Int.ofNat 3) (Int.ofNat 3)) i)]) k))), some (ABlk.mk true true 3 1 (Cs.arr 2 fun k => List.map AC.v ((fun i => [Value.int .i64 (Cfg.fs (Cfg.mk (Int.ofNat 4) 2 (fA (eltZ (ABlk.mk true false 3 0 (Cs.lit [.v (.int .i64 (Int.ofNat 0)), .v (.int .i64 (Int.ofNat 2))])) 0 0 1)) 2 (fA (eltZ (ABlk.mk true false 3 0 (Cs.lit [.v (.int .i64 (Int.ofNat 0)), .v (.int .i64 (Int.ofNat 1))])) 0 0 1)) (Int.ofNat 120) 4 (fA (eltZ (ABlk.mk true false 3 0 (Cs.lit [.v (.int .i64 (Int.ofNat 0)), .v (.int .i64 (Int.ofNat 0)), .v (.int .i64 (Int.ofNat 0)), .v (.int .i64 (Int.ofNat 0))])) 0 0 1)) 1 (stOf (eltZ (ABlk.mk true false 47 0 (Cs.lit [.v (.int .i64 (Int.ofNat 0)), .v (.int .u32 safe), .v (.int .i64 (IntKind.wrap .i64 (Int.ofNat 1 + Int.tmod (IntKind.wrap .i64 hold) (Int.ofNat 100))))])) 0 0 3)) (Int.ofNat 3) (Int.ofNat 3) (Int.ofNat 3)) i)]) k))), some (ABlk.mk true true 3 1 (Cs.arr 4 fun k => List.map AC.v ((fun i => [Value.int .i64 (Cfg.fb (Cfg.mk (Int.ofNat 4) 2 (fA (eltZ (ABlk.mk true false 3 0 (Cs.lit [.v (.int .i64 (Int.ofNat 0)), .v (.int .i64 (Int.ofNat 2))])) 0 0 1)) 2 (fA (eltZ (ABlk.mk true false 3 0 (Cs.lit [.v (.int .i64 (Int.ofNat 0)), .v (.int .i64 (Int.ofNat 1))])) 0 0 1)) (Int.ofNat 120) 4 (fA (eltZ (ABlk.mk true false 3 0 (Cs.lit [.v (.int .i64 (Int.ofNat 0)), .v (.int .i64 (Int.ofNat 0)), .v (.int .i64 (Int.ofNat 0)), .v (.int .i64 (Int.ofNat 0))])) 0 0 1)) 1 (stOf (eltZ (ABlk.mk true false 47 0 (Cs.lit [.v (.int .i64 (Int.ofNat 0)), .v (.int .u32 safe), .v (.int .i64 (IntKind.wrap .i64 (Int.ofNat 1 + Int.tmod (IntKind.wrap .i64 hold) (Int.ofNat 100))))])) 0 0 3)) (Int.ofNat 3) (Int.ofNat 3) (Int.ofNat 3)) i)]) k))), some (ABlk.mk true true 47 3 (Cs.arr 1 fun k => List.map AC.v ((fun i => [Value.int .i64 (Station.node (Cfg.ft (Cfg.mk (Int.ofNat 4) 2 (fA (eltZ (ABlk.mk true false 3 0 (Cs.lit [.v (.int .i64 (Int.ofNat 0)), .v (.int .i64 (Int.ofNat 2))])) 0 0 1)) 2 (fA (eltZ (ABlk.mk true false 3 0 (Cs.lit [.v (.int .i64 (Int.ofNat 0)), .v (.int .i64 (Int.ofNat 1))])) 0 0 1)) (Int.ofNat 120) 4 (fA (eltZ (ABlk.mk true false 3 0 (Cs.lit [.v (.int .i64 (Int.ofNat 0)), .v (.int .i64 (Int.ofNat 0)), .v (.int .i64 (Int.ofNat 0)), .v (.int .i64 (Int.ofNat 0))])) 0 0 1)) 1 (stOf (eltZ (ABlk.mk true false 47 0 (Cs.lit [.v (.int .i64 (Int.ofNat 0)), .v (.int .u32 safe), .v (.int .i64 (IntKind.wrap .i64 (Int.ofNat 1 + Int.tmod (IntKind.wrap .i64 hold) (Int.ofNat 100))))])) 0 0 3)) (Int.ofNat 3) (Int.ofNat 3) (Int.ofNat 3)) i)), Value.int .u32 (Station.safe (Cfg.ft (Cfg.mk (Int.ofNat 4) 2 (fA (eltZ (ABlk.mk true false 3 0 (Cs.lit [.v (.int .i64 (Int.ofNat 0)), .v (.int .i64 (Int.ofNat 2))])) 0 0 1)) 2 (fA (eltZ (ABlk.mk true false 3 0 (Cs.lit [.v (.int .i64 (Int.ofNat 0)), .v (.int .i64 (Int.ofNat 1))])) 0 0 1)) (Int.ofNat 120) 4 (fA (eltZ (ABlk.mk true false 3 0 (Cs.lit [.v (.int .i64 (Int.ofNat 0)), .v (.int .i64 (Int.ofNat 0)), .v (.int .i64 (Int.ofNat 0)), .v (.int .i64 (Int.ofNat 0))])) 0 0 1)) 1 (stOf (eltZ (ABlk.mk true false 47 0 (Cs.lit [.v (.int .i64 (Int.ofNat 0)), .v (.int .u32 safe), .v (.int .i64 (IntKind.wrap .i64 (Int.ofNat 1 + Int.tmod (IntKind.wrap .i64 hold) (Int.ofNat 100))))])) 0 0 3)) (Int.ofNat 3) (Int.ofNat 3) (Int.ofNat 3)) i)), Value.int .i64 (Station.hold (Cfg.ft (Cfg.mk (Int.ofNat 4) 2 (fA (eltZ (ABlk.mk true false 3 0 (Cs.lit [.v (.int .i64 (Int.ofNat 0)), .v (.int .i64 (Int.ofNat 2))])) 0 0 1)) 2 (fA (eltZ (ABlk.mk true false 3 0 (Cs.lit [.v (.int .i64 (Int.ofNat 0)), .v (.int .i64 (Int.ofNat 1))])) 0 0 1)) (Int.ofNat 120) 4 (fA (eltZ (ABlk.mk true false 3 0 (Cs.lit [.v (.int .i64 (Int.ofNat 0)), .v (.int .i64 (Int.ofNat 0)), .v (.int .i64 (Int.ofNat 0)), .v (.int .i64 (Int.ofNat 0))])) 0 0 1)) 1 (stOf (eltZ (ABlk.mk true false 47 0 (Cs.lit [.v (.int .i64 (Int.ofNat 0)), .v (.int .u32 safe), .v (.int .i64 (IntKind.wrap .i64 (Int.ofNat 1 + Int.tmod (IntKind.wrap .i64 hold) (Int.ofNat 100))))])) 0 0 3)) (Int.ofNat 3) (Int.ofNat 3) (Int.ofNat 3)) i))]) k))), some (ABlk.mk true false 50 0 (Cs.lit [.v (.bool false), .v (.int .u32 (Int.ofNat 0)), .v (.int .u32 (Int.ofNat 0)), .v (.int .i64 (Int.ofNat 0))]))] 172 62 (mkFr 172 []) [(gid 0, signB)] 100000000000000000000000000000000000000000000000000 (Exit.exit 0) none])))) :
    ∃ p r, arE Tryd.prog err safe hold n f p [some arS] = some r ∧ Q r := by
  rcases Bool.eq_false_or_eq_true (decide (↑n > Int.ofNat 200)) with h2 | h2
  · have g2 := H.1 h2
    exact ⟨([.b true] : List Dec), _, by kernel_rfl, g2⟩
  · have g2 := H.2 h2
    exact ⟨([.b false, .a, .a] : List Dec), _, by kernel_rfl, g2⟩
end Go.Proofs.YtgfmjbfjodidpaaDoor
end
/- ActuatorsRun: what its run answers. -/
section
namespace Go.Proofs.YtgfmjbfjodidpaaDoor
open Go.RowKit

theorem hM_in {hold : Int} (g0 : 0 ≤ hold) (g1 : hold ≤ 255) : 1 ≤ hM hold ∧ hM hold ≤ 100 := by
  unfold hM
  rw [wrap_nat hold (by omega) (by omega)]
  have e1 : 0 ≤ Int.tmod hold (Int.ofNat 100) := Int.tmod_nonneg _ g0
  have e2 : Int.tmod hold (Int.ofNat 100) < 100 := Int.tmod_lt_of_pos _ (by simp)
  generalize Int.tmod hold (Int.ofNat 100) = t at e1 e2 ⊢
  rw [wrap_nat _ (by simp; omega) (by simp; omega)]
  simp
  omega
set_option maxRecDepth 1000000 in
theorem ar_run (safe hold : Int) (n : Nat) (f : Nat → Deliv) (g0 : 0 ≤ hold) (g1 : hold ≤ 255) (hf : ∀ i, (f i).Ok) : ∃ p lp r, arE Tryd.prog cfgErr safe hold n f p lp = some r ∧ GoodF (bo true) r := by
  obtain ⟨h0, h1⟩ := hM_in g0 g1
  have hc := cL_ok (safe := safe) h0 h1
  have he := cL_err (safe := safe) h0 h1
  refine (?_ : (∃ p r, arE Tryd.prog cfgErr safe hold n f p [some arS] = some r ∧ GoodF (bo true) r) → _) (arA cfgErr safe hold n f _ ?_)
  · rintro ⟨p, r, h1, h2⟩
    exact ⟨p, _, r, h1, h2⟩
  · (repeat' (first | refine ⟨fun h => ?_, fun h => ?_⟩ | fail))
    · exact ⟨rfl, (by first | (unfold lim; omega) | (dsimp only; unfold lim; omega)), by simp [allT]; simpa using h, by simp⟩
    · have hn : n ≤ 200 := by simp at h; omega
      refine ⟨rfl, (by first | (unfold lim; omega) | (dsimp only; unfold lim; omega)), ?_, fun q hq => ?_⟩
      · have hb : (decide ((n : Int) > Int.ofNat 200) == false) = true := by rw [h]; rfl
        simp only [allT, List.forall_mem_cons]
        repeat' (first | apply And.intro | fail)
        all_goals (first | rfl | exact hb | exact decide_eq_true he | (intro x hx; cases hx; done) | (simp; done))
      · rw [List.mem_singleton.1 hq]
        exact ar_sum (cL safe (hM hold)) safe (hM hold) n f hc hn hf (BL.refl (arBk (cL safe (hM hold)) n f false 0 0 0))
end Go.Proofs.YtgfmjbfjodidpaaDoor
end
