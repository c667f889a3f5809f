/- Parts, one behind the other. actuators.Take, Output, sennitref26.Take, Output: as the evaluator runs them. -/
import Derived.Test.YtgfmjbfjodidpaaDoorJActuatorsAny2
import Derived.Test.YtgfmjbfjodidpaaDoorJB0x17
import Derived.Test.YtgfmjbfjodidpaaDoorJB0x9
set_option linter.unusedSimpArgs false
set_option linter.unusedVariables false
/- actuators.Take, Output, sennitref26.Take, Output: as the evaluator runs them. -/
section
namespace Go.Proofs.YtgfmjbfjodidpaaDoor
open Go.RowKit

/-- a net's station -/
def stB (c : Cfg) (z : Int) : Bool := decide (0 ≤ z) && decide (z < c.nt)
def stN (c : Cfg) (z : Int) : Int := if stB c z = true then (c.ft z.toNat).node else 0
def stS (c : Cfg) (z : Int) : Int := if stB c z = true then (c.ft z.toNat).safe else 0
def stH' (c : Cfg) (z : Int) : Int := if stB c z = true then (c.ft z.toNat).hold else 0
def stPre (c : Cfg) (nq : Nat) : Bool := decide (0 < nq) && (decide (1 ≤ c.np ∧ 1 ≤ c.ns ∧ 1 ≤ c.nb) && (decide (c.np ≤ 1000) && (decide (c.ns ≤ 1000) && (decide (c.nb ≤ 1000) && decide (c.nt ≤ 1000)))))
def stnR : NetS → AV
  | ⟨c, _, _, [.c (.v (.int .i64 z))]⟩ => .tup [.agg [.v (.int .i64 (stN c z)), .v (.int .u32 (stS c z)), .v (.int .i64 (stH' c z))], bo (stB c z)]
  | _ => i64 0
def stnQ : NetS → Bool
  | ⟨c, nq, _, [.c (.v (.int .i64 _))]⟩ => stPre c nq
  | _ => false
theorem stnQ_eq (c : Cfg) (nq : Nat) (fq : Nat → Int) (z : Int) : stnQ ⟨c, nq, fq, [.c (.v (.int .i64 z))]⟩ = stPre c nq := rfl
def ctStation : CtF := ctRd netRd stnR stnQ
set_option maxRecDepth 100000 in
theorem ct_station : CtOk Tryd.prog 77 ctStation := by
  refine ctRd_ofE (E := ENst Tryd.prog) hENst netRd (fuel := 300) (str := 10000000000000000000000000000000000000000) ⟨_, _, Tryd.func77, rfl⟩ (fun s => by unfold stnR; split <;> rfl) fun s hs => ?_
  unfold stnQ at hs
  split at hs
  · rename_i c nq fq z
    simp only [stPre, Bool.and_eq_true, decide_eq_true_eq] at hs
    refine (?_ : (∃ p q, ntE (ENst Tryd.prog) 77 c nq fq [i64 z] p [] = some q ∧ GoodF (.tup [.agg [.v (.int .i64 (stN c z)), .v (.int .u32 (stS c z)), .v (.int .i64 (stH' c z))], bo (stB c z)]) q) → _) (anSt c nq fq z _ ?_)
    · rintro ⟨p, q, h1, h2⟩
      exact ⟨p, [], q, h1, h2⟩
    · have hno : ¬ (0 ≤ z ∧ z < c.nt) → stB c z = false := fun h => by simp [stB]; omega
      have hye : (0 ≤ z ∧ z < c.nt) → stB c z = true := fun h => by simp [stB]; omega
      (repeat' (first | refine ⟨fun h => ?_, fun h => ?_⟩ | fail))
      all_goals (refine ⟨?_, (by first | (unfold lim; omega) | (dsimp only; unfold lim; omega)), ?_, by simp⟩)
      · have := hno (by simp at h; omega)
        simp [stN, stS, stH', this, bo]
      · simp [allT, cfgK_t, netK_t, intsOk_ints, stsOk_sts, intsOk_s, stsOk_s, slC, slRow, inb_arr]
        simp at h
        omega
      · have := hno (by simp at h; omega)
        simp [stN, stS, stH', this, bo]
      · simp [allT, cfgK_t, netK_t, intsOk_ints, stsOk_sts, intsOk_s, stsOk_s, slC, slRow, inb_arr]
        simp at *
        omega
      · have := hye (by simp at *; omega)
        simp [stN, stS, stH', this, bo, stOf, asI]
      · simp [allT, cfgK_t, netK_t, intsOk_ints, stsOk_sts, intsOk_s, stsOk_s, slC, slRow, inb_arr, inb_lit]
        simp at *
        omega
  · cases hs
def ctRounds : CtF
  | [.c (.v (.int .i64 a)), .c (.v (.int .i64 h))], _, ib => some (.c (.sl ib 0 0 (lenR a h.toNat) none), [(ib, i64sB a (lenR a h.toNat))], 1, [decide (0 ≤ h), decide (h ≤ 1000000), decide (-9223372036854775808 ≤ a), decide (a ≤ 9223372036854775807)])
  | _, _, _ => none

theorem ct_roundsL : CtOk Tryd.prog 84 ctRounds := by
  refine ⟨⟨_, _, Tryd.func84, rfl⟩, fun C β m m2 w args ib r news k' ob vs hct ho hs hr hfree hlim hv => ?_⟩
  unfold ctRounds at hct
  split at hct
  · rename_i a h
    simp only [Option.some.injEq, Prod.mk.injEq] at hct
    obtain ⟨rfl, rfl, rfl, rfl⟩ := hct
    simp only [allT, List.forall_mem_cons, decide_eq_true_eq] at ho
    obtain ⟨o1, o2, o3, o4, _⟩ := ho
    cases hv
    obtain ⟨s', r1, r2, r3, r4⟩ := viewF_out (rdsL_run a h)
    refine (calls_f hE1 r1 ⟨by rw [r3]; simp [allT], by
      rw [r4]
      intro q hq
      rw [List.mem_singleton.1 hq]
      exact round_sum a h _ (by omega) (by omega) o1 o2 o3 o4⟩ (C := loneC w) (β := fun _ => none) (w := w) (vs := [.int .i64 a, .int .i64 h]) rfl (rel_nil w) (fun _ _ _ => rfl)).mono ?_
    rintro e w' ⟨β', u, rfl, _, _, hu, hr'⟩
    simp only [List.map_cons, List.map_nil, List.cons.injEq, and_true] at r2
    obtain ⟨L, hL, hb⟩ := hr'.blk 2000 _ r2
    have hid : β ib = none := hfree ib (Nat.le_refl _) (by omega)
    refine ⟨ext1 β ib L, u, rfl, ext1_ext hid, fun id h => ?_, ?_, ?_⟩
    · unfold ext1
      rw [if_neg (by omega)]
    · simp only [γ, γ1, γc, hL] at hu
      simp only [γ, γ1, γc, ext1_same]
      exact hu
    · refine rel_fresh hr ⟨hr'.os, hr'.tape, hr'.output, hr'.size, fun b hb => hr'.out b hb fun h => h⟩ hid (not_gid (by omega)) hr' r2 rfl rfl (fun k j _ => ?_) hL
      match j with
      | 0 => exact ⟨_, rfl⟩
      | j + 1 => exact ⟨_, rfl⟩
  · cases hct
def ctsAn : List (FuncId × CtF) := [(77, ctStation), (84, ctRounds), (83, ctContainsL)]
theorem ctsAn_ok : ∀ f g, (f, g) ∈ ctsAn → CtOk Tryd.prog f g := by
  intro f g h
  simp only [ctsAn, List.mem_cons, Prod.mk.injEq, List.not_mem_nil, or_false] at h
  rcases h with ⟨rfl, rfl⟩ | ⟨rfl, rfl⟩ | ⟨rfl, rfl⟩
  · exact ct_station
  · exact ct_roundsL
  · exact ct_containsL
def ENan (P : Program) : Env := ⟨P, ctsAn⟩
theorem hENan : EnvOk (ENan Tryd.prog) := envOk ctsAn_ok (by kernel_rfl) (by kernel_rfl)
abbrev staA (y : Bool) (q u t : Int) : AV := .agg [.v (.bool y), .v (.int .u32 q), .v (.int .u32 u), .v (.int .i64 t)]
abbrev delA (b : Bool) (t k st q u pr cm rd : Int) : AV := .agg [.v (.bool b), .v (.int .i64 t), .v (.int .u8 k), .v (.int .u8 st), .v (.int .u32 q), .v (.int .u32 u), .v (.int .i64 pr), .v (.int .i64 cm), .v (.int .i64 rd)]
end Go.Proofs.YtgfmjbfjodidpaaDoor
end
/- actuators.Take, Output, sennitref26.Take, Output: as the evaluator runs them. -/
section
namespace Go.Proofs.YtgfmjbfjodidpaaDoor
open Go.RowKit

theorem anTk (c : Cfg) (nq : Nat) (fq : Nat → Int) (z : Int) (y : Bool) (q u t : Int) (b : Bool) (dt k st dq du pr cm rd : Int) (Q : VF → Prop) (H : (((stB c z) = true → (((!b) = true → Q (.tup [.agg [.v (.bool y), .v (.int .u32 q), .v (.int .u32 u), .v (.int .i64 t)], .c (.v (.bool false))], [], 1051, [true, true, true, true, true, true, true, true, true, true, true, (!b) == true, true, true, stB c z == true, true, true, true, true, true, true, true, true, true, true, true, true, true, true, netK c nq fq, stnQ (NetS.mk c nq fq [.c (.v (.int .i64 z))]), true, true], [])) ∧ ((!b) = false → (((k == Int.ofNat 2) = true → (((!IntKind.wrap .i64 st == z) = true → Q (.tup [.agg [.v (.bool y), .v (.int .u32 q), .v (.int .u32 u), .v (.int .i64 t)], .c (.v (.bool false))], [], 1073, [true, true, true, true, true, true, true, true, true, true, true, (!IntKind.wrap .i64 st == z) == true, true, true, true, true, (k == Int.ofNat 2) == true, true, true, true, true, true, true, (!b) == false, true, true, stB c z == true, true, true, true, true, true, true, true, true, true, true, true, true, true, true, netK c nq fq, stnQ (NetS.mk c nq fq [.c (.v (.int .i64 z))]), true, true], [])) ∧ ((!IntKind.wrap .i64 st == z) = false → (((decide (cm ≥ Int.ofNat 0)) = true → (((!pr == cm) = true → Q (.tup [.agg [.v (.bool y), .v (.int .u32 q), .v (.int .u32 u), .v (.int .i64 t)], .c (.v (.bool false))], [], 1095, [true, true, true, true, true, true, true, true, true, true, true, (!pr == cm) == true, true, true, true, true, decide (cm ≥ Int.ofNat 0) == true, true, true, true, true, true, true, (!IntKind.wrap .i64 st == z) == false, true, true, true, true, (k == Int.ofNat 2) == true, true, true, true, true, true, true, (!b) == false, true, true, stB c z == true, true, true, true, true, true, true, true, true, true, true, true, true, true, true, netK c nq fq, stnQ (NetS.mk c nq fq [.c (.v (.int .i64 z))]), true, true], [])) ∧ ((!pr == cm) = false → (((decide (rd ≥ Int.ofNat 0)) = true → (((!decide (rd ≤ Int.ofNat 1099511627776)) = true → Q (.tup [.agg [.v (.bool y), .v (.int .u32 q), .v (.int .u32 u), .v (.int .i64 t)], .c (.v (.bool false))], [], 1115, [true, true, true, true, true, true, true, true, true, true, true, (!decide (rd ≤ Int.ofNat 1099511627776)) == true, true, true, decide (rd ≥ Int.ofNat 0) == true, true, true, true, true, true, true, (!pr == cm) == false, true, true, true, true, decide (cm ≥ Int.ofNat 0) == true, true, true, true, true, true, true, (!IntKind.wrap .i64 st == z) == false, true, true, true, true, (k == Int.ofNat 2) == true, true, true, true, true, true, true, (!b) == false, true, true, stB c z == true, true, true, true, true, true, true, true, true, true, true, true, true, true, true, netK c nq fq, stnQ (NetS.mk c nq fq [.c (.v (.int .i64 z))]), true, true], [])) ∧ ((!decide (rd ≤ Int.ofNat 1099511627776)) = false → (((!y) = true → Q (.tup [.agg [.v (.bool true), .v (.int .u32 dq), .v (.int .u32 du), .v (.int .i64 rd)], .c (.v (.bool true))], [], 1141, [true, true, true, true, true, true, true, true, true, true, true, true, (!y) == true, true, true, true, true, true, true, (!decide (rd ≤ Int.ofNat 1099511627776)) == false, true, true, decide (rd ≥ Int.ofNat 0) == true, true, true, true, true, true, true, (!pr == cm) == false, true, true, true, true, decide (cm ≥ Int.ofNat 0) == true, true, true, true, true, true, true, (!IntKind.wrap .i64 st == z) == false, true, true, true, true, (k == Int.ofNat 2) == true, true, true, true, true, true, true, (!b) == false, true, true, stB c z == true, true, true, true, true, true, true, true, true, true, true, true, true, true, true, netK c nq fq, stnQ (NetS.mk c nq fq [.c (.v (.int .i64 z))]), true, true], [])) ∧ ((!y) = false → (((!decide (dq > q)) = true → Q (.tup [.agg [.v (.bool y), .v (.int .u32 q), .v (.int .u32 u), .v (.int .i64 t)], .c (.v (.bool false))], [], 1137, [true, true, true, true, true, true, true, true, true, true, true, (!decide (dq > q)) == true, true, true, true, true, (!y) == false, true, true, true, true, true, true, (!decide (rd ≤ Int.ofNat 1099511627776)) == false, true, true, decide (rd ≥ Int.ofNat 0) == true, true, true, true, true, true, true, (!pr == cm) == false, true, true, true, true, decide (cm ≥ Int.ofNat 0) == true, true, true, true, true, true, true, (!IntKind.wrap .i64 st == z) == false, true, true, true, true, (k == Int.ofNat 2) == true, true, true, true, true, true, true, (!b) == false, true, true, stB c z == true, true, true, true, true, true, true, true, true, true, true, true, true, true, true, netK c nq fq, stnQ (NetS.mk c nq fq [.c (.v (.int .i64 z))]), true, true], [])) ∧ ((!decide (dq > q)) = false → Q (.tup [.agg [.v (.bool true), .v (.int .u32 dq), .v (.int .u32 du), .v (.int .i64 rd)], .c (.v (.bool true))], [], 1146, [true, true, true, true, true, true, true, true, true, true, true, true, (!decide (dq > q)) == false, true, true, true, true, (!y) == false, true, true, true, true, true, true, (!decide (rd ≤ Int.ofNat 1099511627776)) == false, true, true, decide (rd ≥ Int.ofNat 0) == true, true, true, true, true, true, true, (!pr == cm) == false, true, true, true, true, decide (cm ≥ Int.ofNat 0) == true, true, true, true, true, true, true, (!IntKind.wrap .i64 st == z) == false, true, true, true, true, (k == Int.ofNat 2) == true, true, true, true, true, true, true, (!b) == false, true, true, stB c z == true, true, true, true, true, true, true, true, true, true, true, true, true, true, true, netK c nq fq, stnQ (NetS.mk c nq fq [.c (.v (.int .i64 z))]), true, true], [])))))))) ∧ ((decide (rd ≥ Int.ofNat 0)) = false → Q (.tup [.agg [.v (.bool y), .v (.int .u32 q), .v (.int .u32 u), .v (.int .i64 t)], .c (.v (.bool false))], [], 1112, [true, true, true, true, true, true, true, true, true, true, true, decide (rd ≥ Int.ofNat 0) == false, true, true, true, true, true, true, (!pr == cm) == false, true, true, true, true, decide (cm ≥ Int.ofNat 0) == true, true, true, true, true, true, true, (!IntKind.wrap .i64 st == z) == false, true, true, true, true, (k == Int.ofNat 2) == true, true, true, true, true, true, true, (!b) == false, true, true, stB c z == true, true, true, true, true, true, true, true, true, true, true, true, true, true, true, netK c nq fq, stnQ (NetS.mk c nq fq [.c (.v (.int .i64 z))]), true, true], [])))))) ∧ ((decide (cm ≥ Int.ofNat 0)) = false → Q (.tup [.agg [.v (.bool y), .v (.int .u32 q), .v (.int .u32 u), .v (.int .i64 t)], .c (.v (.bool false))], [], 1090, [true, true, true, true, true, true, true, true, true, true, true, decide (cm ≥ Int.ofNat 0) == false, true, true, true, true, true, true, (!IntKind.wrap .i64 st == z) == false, true, true, true, true, (k == Int.ofNat 2) == true, true, true, true, true, true, true, (!b) == false, true, true, stB c z == true, true, true, true, true, true, true, true, true, true, true, true, true, true, true, netK c nq fq, stnQ (NetS.mk c nq fq [.c (.v (.int .i64 z))]), true, true], [])))))) ∧ ((k == Int.ofNat 2) = false → Q (.tup [.agg [.v (.bool y), .v (.int .u32 q), .v (.int .u32 u), .v (.int .i64 t)], .c (.v (.bool false))], [], 1068, [true, true, true, true, true, true, true, true, true, true, true, (k == Int.ofNat 2) == false, true, true, true, true, true, true, (!b) == false, true, true, stB c z == true, true, true, true, true, true, true, true, true, true, true, true, true, true, true, netK c nq fq, stnQ (NetS.mk c nq fq [.c (.v (.int .i64 z))]), true, true], [])))))) ∧ ((stB c z) = false → Q (.tup [.agg [.v (.bool y), .v (.int .u32 q), .v (.int .u32 u), .v (.int .i64 t)], .c (.v (.bool false))], [], 1048, [true, true, true, true, true, true, true, true, true, true, true, stB c z == false, true, true, true, true, true, true, true, true, true, true, true, true, true, true, netK c nq fq, stnQ (NetS.mk c nq fq [.c (.v (.int .i64 z))]), true, true], [])))) :
    ∃ p r, ntE (ENan Tryd.prog) 29 c nq fq [i64 z, staA y q u t, delA b dt k st dq du pr cm rd] p [] = some r ∧ Q r := by
  rcases Bool.eq_false_or_eq_true (stB c z) with h2 | h2
  · have g2 := H.1 h2
    rcases Bool.eq_false_or_eq_true (!b) with h4 | h4
    · have g4 := g2.1 h4
      exact ⟨([.a, .b true, .a, .a, .b true] : List Dec), _, by kernel_rfl, g4⟩
    · have g4 := g2.2 h4
      rcases Bool.eq_false_or_eq_true (k == Int.ofNat 2) with h6 | h6
      · have g6 := g4.1 h6
        rcases Bool.eq_false_or_eq_true (!IntKind.wrap .i64 st == z) with h8 | h8
        · have g8 := g6.1 h8
          exact ⟨([.a, .b true, .a, .a, .b false, .a, .b true, .a, .a, .a, .a, .b true] : List Dec), _, by kernel_rfl, g8⟩
        · have g8 := g6.2 h8
          rcases Bool.eq_false_or_eq_true (decide (cm ≥ Int.ofNat 0)) with h10 | h10
          · have g10 := g8.1 h10
            rcases Bool.eq_false_or_eq_true (!pr == cm) with h12 | h12
            · have g12 := g10.1 h12
              exact ⟨([.a, .b true, .a, .a, .b false, .a, .b true, .a, .a, .a, .a, .b false, .a, .b true, .a, .a, .a, .a, .b true] : List Dec), _, by kernel_rfl, g12⟩
            · have g12 := g10.2 h12
              rcases Bool.eq_false_or_eq_true (decide (rd ≥ Int.ofNat 0)) with h14 | h14
              · have g14 := g12.1 h14
                rcases Bool.eq_false_or_eq_true (!decide (rd ≤ Int.ofNat 1099511627776)) with h16 | h16
                · have g16 := g14.1 h16
                  exact ⟨([.a, .b true, .a, .a, .b false, .a, .b true, .a, .a, .a, .a, .b false, .a, .b true, .a, .a, .a, .a, .b false, .a, .b true, .a, .a, .b true] : List Dec), _, by kernel_rfl, g16⟩
                · have g16 := g14.2 h16
                  rcases Bool.eq_false_or_eq_true (!y) with h18 | h18
                  · have g18 := g16.1 h18
                    exact ⟨([.a, .b true, .a, .a, .b false, .a, .b true, .a, .a, .a, .a, .b false, .a, .b true, .a, .a, .a, .a, .b false, .a, .b true, .a, .a, .b false, .a, .b true, .a, .a, .a, .a, .a, .a] : List Dec), _, by kernel_rfl, g18⟩
                  · have g18 := g16.2 h18
                    rcases Bool.eq_false_or_eq_true (!decide (dq > q)) with h20 | h20
                    · have g20 := g18.1 h20
                      exact ⟨([.a, .b true, .a, .a, .b false, .a, .b true, .a, .a, .a, .a, .b false, .a, .b true, .a, .a, .a, .a, .b false, .a, .b true, .a, .a, .b false, .a, .b false, .a, .a, .a, .a, .b true] : List Dec), _, by kernel_rfl, g20⟩
                    · have g20 := g18.2 h20
                      exact ⟨([.a, .b true, .a, .a, .b false, .a, .b true, .a, .a, .a, .a, .b false, .a, .b true, .a, .a, .a, .a, .b false, .a, .b true, .a, .a, .b false, .a, .b false, .a, .a, .a, .a, .b false, .a] : List Dec), _, by kernel_rfl, g20⟩
              · have g14 := g12.2 h14
                exact ⟨([.a, .b true, .a, .a, .b false, .a, .b true, .a, .a, .a, .a, .b false, .a, .b true, .a, .a, .a, .a, .b false, .a, .b false, .a, .a, .a] : List Dec), _, by kernel_rfl, g14⟩
          · have g10 := g8.2 h10
            exact ⟨([.a, .b true, .a, .a, .b false, .a, .b true, .a, .a, .a, .a, .b false, .a, .b false, .a, .a, .a, .a, .a] : List Dec), _, by kernel_rfl, g10⟩
      · have g6 := g4.2 h6
        exact ⟨([.a, .b true, .a, .a, .b false, .a, .b false, .a, .a, .a, .a, .a] : List Dec), _, by kernel_rfl, g6⟩
  · have g2 := H.2 h2
    exact ⟨([.a, .b false, .a, .a, .a] : List Dec), _, by kernel_rfl, g2⟩
theorem anOu (c : Cfg) (nq : Nat) (fq : Nat → Int) (z : Int) (y : Bool) (q u t v : Int) (Q : VF → Prop) (H : (((!stB c z) = true → Q (.c (.v (.int .u32 (Int.ofNat 0))), [], 1014, [(!stB c z) == true, true, netK c nq fq, stnQ (NetS.mk c nq fq [.c (.v (.int .i64 z))])], [])) ∧ ((!stB c z) = false → (((y) = true → (((hasF (fun i => t + Int.ofNat i) (lenR t (Int.toNat (stH' c z))) v) = true → Q (.c (.v (.int .u32 u)), [], 1027, [true, true, hasF (fun i => t + Int.ofNat i) (lenR t (Int.toNat (stH' c z))) v == true, decide (0 + lenR t (Int.toNat (stH' c z)) ≤ lenR t (Int.toNat (stH' c z))), decide (lenR t (Int.toNat (stH' c z)) ≤ 1000000), intsOk (lenR t (Int.toNat (stH' c z))) fun k => List.map AC.v ((fun i => [Value.int .i64 (t + Int.ofNat i)]) k), decide (Int.ofNat 0 ≤ stH' c z), decide (stH' c z ≤ Int.ofNat 1000000), decide (Int.negSucc 9223372036854775807 ≤ t), decide (t ≤ Int.ofNat 9223372036854775807), true, true, true, true, y == true, true, true, (!stB c z) == false, true, netK c nq fq, stnQ (NetS.mk c nq fq [.c (.v (.int .i64 z))])], [])) ∧ ((hasF (fun i => t + Int.ofNat i) (lenR t (Int.toNat (stH' c z))) v) = false → Q (.c (.v (.int .u32 (stS c z))), [], 1027, [true, true, hasF (fun i => t + Int.ofNat i) (lenR t (Int.toNat (stH' c z))) v == false, decide (0 + lenR t (Int.toNat (stH' c z)) ≤ lenR t (Int.toNat (stH' c z))), decide (lenR t (Int.toNat (stH' c z)) ≤ 1000000), intsOk (lenR t (Int.toNat (stH' c z))) fun k => List.map AC.v ((fun i => [Value.int .i64 (t + Int.ofNat i)]) k), decide (Int.ofNat 0 ≤ stH' c z), decide (stH' c z ≤ Int.ofNat 1000000), decide (Int.negSucc 9223372036854775807 ≤ t), decide (t ≤ Int.ofNat 9223372036854775807), true, true, true, true, y == true, true, true, (!stB c z) == false, true, netK c nq fq, stnQ (NetS.mk c nq fq [.c (.v (.int .i64 z))])], [])))) ∧ ((y) = false → Q (.c (.v (.int .u32 (stS c z))), [], 1021, [true, true, y == false, true, true, (!stB c z) == false, true, netK c nq fq, stnQ (NetS.mk c nq fq [.c (.v (.int .i64 z))])], [])))))) :
    ∃ p r, ntE (ENan Tryd.prog) 30 c nq fq [i64 z, staA y q u t, i64 v] p [] = some r ∧ Q r := by
  rcases Bool.eq_false_or_eq_true (!stB c z) with h2 | h2
  · have g2 := H.1 h2
    exact ⟨([.b true] : List Dec), _, by kernel_rfl, g2⟩
  · have g2 := H.2 h2
    rcases Bool.eq_false_or_eq_true (y) with h4 | h4
    · have g4 := g2.1 h4
      rcases Bool.eq_false_or_eq_true (hasF (fun i => t + Int.ofNat i) (lenR t (Int.toNat (stH' c z))) v) with h6 | h6
      · have g6 := g4.1 h6
        exact ⟨([.b false, .b true, .a, .a, .a, .a, .a, .a, .b true] : List Dec), _, by kernel_rfl, g6⟩
      · have g6 := g4.2 h6
        exact ⟨([.b false, .b true, .a, .a, .a, .a, .a, .a, .b false] : List Dec), _, by kernel_rfl, g6⟩
    · have g4 := g2.2 h4
      exact ⟨([.b false, .b false, .a, .a, .a, .a, .a, .a, .a] : List Dec), _, by kernel_rfl, g4⟩
theorem rfTk (c : Cfg) (z : Int) (y : Bool) (q u t : Int) (b : Bool) (dt k st dq du pr cm rd : Int) (Q : VF → Prop) (H : (((decide (z < Int.ofNat 0)) = true → Q (.tup [.agg [.v (.bool y), .v (.int .u32 q), .v (.int .u32 u), .v (.int .i64 t)], .c (.v (.bool false))], [], 1018, [true, true, true, true, true, true, true, true, true, true, true, decide (z < Int.ofNat 0) == true], [])) ∧ ((decide (z < Int.ofNat 0)) = false → (((decide (z ≥ ↑(c.nt))) = true → Q (.tup [.agg [.v (.bool y), .v (.int .u32 q), .v (.int .u32 u), .v (.int .i64 t)], .c (.v (.bool false))], [], 1023, [true, true, true, true, true, true, true, true, true, true, true, decide (z ≥ ↑(c.nt)) == true, true, decide (z < Int.ofNat 0) == false], [])) ∧ ((decide (z ≥ ↑(c.nt))) = false → (((!b) = true → Q (.tup [.agg [.v (.bool y), .v (.int .u32 q), .v (.int .u32 u), .v (.int .i64 t)], .c (.v (.bool false))], [], 1027, [true, true, true, true, true, true, true, true, true, true, true, (!b) == true, true, true, decide (z ≥ ↑(c.nt)) == false, true, decide (z < Int.ofNat 0) == false], [])) ∧ ((!b) = false → (((k != Int.ofNat 2) = true → Q (.tup [.agg [.v (.bool y), .v (.int .u32 q), .v (.int .u32 u), .v (.int .i64 t)], .c (.v (.bool false))], [], 1032, [true, true, true, true, true, true, true, true, true, true, true, (k != Int.ofNat 2) == true, true, true, (!b) == false, true, true, decide (z ≥ ↑(c.nt)) == false, true, decide (z < Int.ofNat 0) == false], [])) ∧ ((k != Int.ofNat 2) = false → (((IntKind.wrap .i64 st != z) = true → Q (.tup [.agg [.v (.bool y), .v (.int .u32 q), .v (.int .u32 u), .v (.int .i64 t)], .c (.v (.bool false))], [], 1039, [true, true, true, true, true, true, true, true, true, true, true, (IntKind.wrap .i64 st != z) == true, true, true, (k != Int.ofNat 2) == false, true, true, (!b) == false, true, true, decide (z ≥ ↑(c.nt)) == false, true, decide (z < Int.ofNat 0) == false], [])) ∧ ((IntKind.wrap .i64 st != z) = false → (((decide (cm < Int.ofNat 0)) = true → Q (.tup [.agg [.v (.bool y), .v (.int .u32 q), .v (.int .u32 u), .v (.int .i64 t)], .c (.v (.bool false))], [], 1048, [true, true, true, true, true, true, true, true, true, true, true, decide (cm < Int.ofNat 0) == true, true, true, (IntKind.wrap .i64 st != z) == false, true, true, (k != Int.ofNat 2) == false, true, true, (!b) == false, true, true, decide (z ≥ ↑(c.nt)) == false, true, decide (z < Int.ofNat 0) == false], [])) ∧ ((decide (cm < Int.ofNat 0)) = false → (((pr != cm) = true → Q (.tup [.agg [.v (.bool y), .v (.int .u32 q), .v (.int .u32 u), .v (.int .i64 t)], .c (.v (.bool false))], [], 1053, [true, true, true, true, true, true, true, true, true, true, true, (pr != cm) == true, true, true, true, true, decide (cm < Int.ofNat 0) == false, true, true, (IntKind.wrap .i64 st != z) == false, true, true, (k != Int.ofNat 2) == false, true, true, (!b) == false, true, true, decide (z ≥ ↑(c.nt)) == false, true, decide (z < Int.ofNat 0) == false], [])) ∧ ((pr != cm) = false → (((decide (rd < Int.ofNat 0)) = true → Q (.tup [.agg [.v (.bool y), .v (.int .u32 q), .v (.int .u32 u), .v (.int .i64 t)], .c (.v (.bool false))], [], 1056, [true, true, true, true, true, true, true, true, true, true, true, decide (rd < Int.ofNat 0) == true, true, true, (pr != cm) == false, true, true, true, true, decide (cm < Int.ofNat 0) == false, true, true, (IntKind.wrap .i64 st != z) == false, true, true, (k != Int.ofNat 2) == false, true, true, (!b) == false, true, true, decide (z ≥ ↑(c.nt)) == false, true, decide (z < Int.ofNat 0) == false], [])) ∧ ((decide (rd < Int.ofNat 0)) = false → (((decide (rd > Int.ofNat 1099511627776)) = true → Q (.tup [.agg [.v (.bool y), .v (.int .u32 q), .v (.int .u32 u), .v (.int .i64 t)], .c (.v (.bool false))], [], 1059, [true, true, true, true, true, true, true, true, true, true, true, decide (rd > Int.ofNat 1099511627776) == true, true, true, decide (rd < Int.ofNat 0) == false, true, true, (pr != cm) == false, true, true, true, true, decide (cm < Int.ofNat 0) == false, true, true, (IntKind.wrap .i64 st != z) == false, true, true, (k != Int.ofNat 2) == false, true, true, (!b) == false, true, true, decide (z ≥ ↑(c.nt)) == false, true, decide (z < Int.ofNat 0) == false], [])) ∧ ((decide (rd > Int.ofNat 1099511627776)) = false → (((y) = true → (((decide (dq ≤ q)) = true → Q (.tup [.agg [.v (.bool y), .v (.int .u32 q), .v (.int .u32 u), .v (.int .i64 t)], .c (.v (.bool false))], [], 1070, [true, true, true, true, true, true, true, true, true, true, true, decide (dq ≤ q) == true, true, true, true, true, y == true, true, true, decide (rd > Int.ofNat 1099511627776) == false, true, true, decide (rd < Int.ofNat 0) == false, true, true, (pr != cm) == false, true, true, true, true, decide (cm < Int.ofNat 0) == false, true, true, (IntKind.wrap .i64 st != z) == false, true, true, (k != Int.ofNat 2) == false, true, true, (!b) == false, true, true, decide (z ≥ ↑(c.nt)) == false, true, decide (z < Int.ofNat 0) == false], [])) ∧ ((decide (dq ≤ q)) = false → Q (.tup [.agg [.v (.bool true), .v (.int .u32 dq), .v (.int .u32 du), .v (.int .i64 rd)], .c (.v (.bool true))], [], 1080, [true, true, true, true, true, true, true, true, true, true, true, true, decide (dq ≤ q) == false, true, true, true, true, y == true, true, true, decide (rd > Int.ofNat 1099511627776) == false, true, true, decide (rd < Int.ofNat 0) == false, true, true, (pr != cm) == false, true, true, true, true, decide (cm < Int.ofNat 0) == false, true, true, (IntKind.wrap .i64 st != z) == false, true, true, (k != Int.ofNat 2) == false, true, true, (!b) == false, true, true, decide (z ≥ ↑(c.nt)) == false, true, decide (z < Int.ofNat 0) == false], [])))) ∧ ((y) = false → Q (.tup [.agg [.v (.bool true), .v (.int .u32 dq), .v (.int .u32 du), .v (.int .i64 rd)], .c (.v (.bool true))], [], 1073, [true, true, true, true, true, true, true, true, true, true, true, true, y == false, true, true, decide (rd > Int.ofNat 1099511627776) == false, true, true, decide (rd < Int.ofNat 0) == false, true, true, (pr != cm) == false, true, true, true, true, decide (cm < Int.ofNat 0) == false, true, true, (IntKind.wrap .i64 st != z) == false, true, true, (k != Int.ofNat 2) == false, true, true, (!b) == false, true, true, decide (z ≥ ↑(c.nt)) == false, true, decide (z < Int.ofNat 0) == false], [])))))))))))))))))))))) :
    ∃ p r, cfE (E1 Tryd.prog) 31 c [i64 z, staA y q u t, delA b dt k st dq du pr cm rd] p [] = some r ∧ Q r := by
  rcases Bool.eq_false_or_eq_true (decide (z < Int.ofNat 0)) with h2 | h2
  · have g2 := H.1 h2
    exact ⟨([.b true, .a, .a, .a, .a, .a, .a, .a, .a, .a, .a, .a, .a, .a, .a, .a, .a, .a, .a, .a, .a, .a] : List Dec), _, by kernel_rfl, g2⟩
  · have g2 := H.2 h2
    rcases Bool.eq_false_or_eq_true (decide (z ≥ ↑(c.nt))) with h4 | h4
    · have g4 := g2.1 h4
      exact ⟨([.b false, .a, .a, .a, .a, .b true, .a, .a, .a, .a, .a, .a, .a, .a, .a, .a, .a, .a, .a, .a, .a, .a] : List Dec), _, by kernel_rfl, g4⟩
    · have g4 := g2.2 h4
      rcases Bool.eq_false_or_eq_true (!b) with h6 | h6
      · have g6 := g4.1 h6
        exact ⟨([.b false, .a, .a, .a, .a, .b false, .a, .a, .a, .b true, .a, .a, .a, .a, .a, .a, .a, .a, .a, .a, .a, .a] : List Dec), _, by kernel_rfl, g6⟩
      · have g6 := g4.2 h6
        rcases Bool.eq_false_or_eq_true (k != Int.ofNat 2) with h8 | h8
        · have g8 := g6.1 h8
          exact ⟨([.b false, .a, .a, .a, .a, .b false, .a, .a, .a, .b false, .a, .a, .a, .a, .b true, .a, .a, .a, .a, .a, .a, .a] : List Dec), _, by kernel_rfl, g8⟩
        · have g8 := g6.2 h8
          rcases Bool.eq_false_or_eq_true (IntKind.wrap .i64 st != z) with h10 | h10
          · have g10 := g8.1 h10
            exact ⟨([.b false, .a, .a, .a, .a, .b false, .a, .a, .a, .b false, .a, .a, .a, .a, .b false, .a, .a, .a, .a, .a, .a, .b true] : List Dec), _, by kernel_rfl, g10⟩
          · have g10 := g8.2 h10
            rcases Bool.eq_false_or_eq_true (decide (cm < Int.ofNat 0)) with h12 | h12
            · have g12 := g10.1 h12
              exact ⟨([.b false, .a, .a, .a, .a, .b false, .a, .a, .a, .b false, .a, .a, .a, .a, .b false, .a, .a, .a, .a, .a, .a, .b false, .b true, .a, .a, .a, .a, .a, .a, .a, .a, .a, .a, .a] : List Dec), _, by kernel_rfl, g12⟩
            · have g12 := g10.2 h12
              rcases Bool.eq_false_or_eq_true (pr != cm) with h14 | h14
              · have g14 := g12.1 h14
                exact ⟨([.b false, .a, .a, .a, .a, .b false, .a, .a, .a, .b false, .a, .a, .a, .a, .b false, .a, .a, .a, .a, .a, .a, .b false, .b false, .a, .a, .a, .a, .b true, .a, .a, .a, .a, .a, .a] : List Dec), _, by kernel_rfl, g14⟩
              · have g14 := g12.2 h14
                rcases Bool.eq_false_or_eq_true (decide (rd < Int.ofNat 0)) with h16 | h16
                · have g16 := g14.1 h16
                  exact ⟨([.b false, .a, .a, .a, .a, .b false, .a, .a, .a, .b false, .a, .a, .a, .a, .b false, .a, .a, .a, .a, .a, .a, .b false, .b false, .a, .a, .a, .a, .b false, .a, .a, .b true, .a, .a, .a] : List Dec), _, by kernel_rfl, g16⟩
                · have g16 := g14.2 h16
                  rcases Bool.eq_false_or_eq_true (decide (rd > Int.ofNat 1099511627776)) with h18 | h18
                  · have g18 := g16.1 h18
                    exact ⟨([.b false, .a, .a, .a, .a, .b false, .a, .a, .a, .b false, .a, .a, .a, .a, .b false, .a, .a, .a, .a, .a, .a, .b false, .b false, .a, .a, .a, .a, .b false, .a, .a, .b false, .a, .a, .b true] : List Dec), _, by kernel_rfl, g18⟩
                  · have g18 := g16.2 h18
                    rcases Bool.eq_false_or_eq_true (y) with h20 | h20
                    · have g20 := g18.1 h20
                      rcases Bool.eq_false_or_eq_true (decide (dq ≤ q)) with h22 | h22
                      · have g22 := g20.1 h22
                        exact ⟨([.b false, .a, .a, .a, .a, .b false, .a, .a, .a, .b false, .a, .a, .a, .a, .b false, .a, .a, .a, .a, .a, .a, .b false, .b false, .a, .a, .a, .a, .b false, .a, .a, .b false, .a, .a, .b false, .b true, .a, .a, .a, .a, .a, .a, .b true] : List Dec), _, by kernel_rfl, g22⟩
                      · have g22 := g20.2 h22
                        exact ⟨([.b false, .a, .a, .a, .a, .b false, .a, .a, .a, .b false, .a, .a, .a, .a, .b false, .a, .a, .a, .a, .a, .a, .b false, .b false, .a, .a, .a, .a, .b false, .a, .a, .b false, .a, .a, .b false, .b true, .a, .a, .a, .a, .a, .a, .b false] : List Dec), _, by kernel_rfl, g22⟩
                    · have g20 := g18.2 h20
                      exact ⟨([.b false, .a, .a, .a, .a, .b false, .a, .a, .a, .b false, .a, .a, .a, .a, .b false, .a, .a, .a, .a, .a, .a, .b false, .b false, .a, .a, .a, .a, .b false, .a, .a, .b false, .a, .a, .b false, .b false, .a, .a, .a, .a, .a, .a, .a] : List Dec), _, by kernel_rfl, g20⟩
theorem rfOu (c : Cfg) (z : Int) (y : Bool) (q u t v : Int) (Q : VF → Prop) (H : (((decide (z < Int.ofNat 0)) = true → Q (.c (.v (.int .u32 (Int.ofNat 0))), [], 1008, [decide (z < Int.ofNat 0) == true], [])) ∧ ((decide (z < Int.ofNat 0)) = false → (((decide (z ≥ ↑(c.nt))) = true → Q (.c (.v (.int .u32 (Int.ofNat 0))), [], 1013, [decide (z ≥ ↑(c.nt)) == true, true, decide (z < Int.ofNat 0) == false], [])) ∧ ((decide (z ≥ ↑(c.nt))) = false → (((y) = true → (((decide (v ≥ t)) = true → (((decide (IntKind.wrap .u64 (IntKind.wrap .u64 v - IntKind.wrap .u64 t) < IntKind.wrap .u64 (Station.hold (c.10 (0 + Int.toNat z))))) = true → Q (.c (.v (.int .u32 u)), [], 1042, [true, true, decide (IntKind.wrap .u64 (IntKind.wrap .u64 v - IntKind.wrap .u64 t) < IntKind.wrap .u64 (Station.hold (c.10 (0 + Int.toNat z)))) == true, true, true, true, true, decide (v ≥ t) == true, true, true, y == true, true, true, true, ABlk.inb (ABlk.mk false false 47 3 (Cs.arr (c.nt) fun k => List.map AC.v ((fun i => [Value.int .i64 (Station.node (c.ft i)), Value.int .u32 (Station.safe (c.ft i)), Value.int .i64 (Station.hold (c.ft i))]) k))) (0 + Int.toNat z) 3, true, true, true, decide (Int.ofNat 0 ≤ z ∧ z < ↑(c.nt)), true, decide (z ≥ ↑(c.nt)) == false, true, decide (z < Int.ofNat 0) == false], [])) ∧ ((decide (IntKind.wrap .u64 (IntKind.wrap .u64 v - IntKind.wrap .u64 t) < IntKind.wrap .u64 (Station.hold (c.10 (0 + Int.toNat z))))) = false → Q (.c (.v (.int .u32 (Station.safe (c.10 (0 + Int.toNat z))))), [], 1042, [true, true, decide (IntKind.wrap .u64 (IntKind.wrap .u64 v - IntKind.wrap .u64 t) < IntKind.wrap .u64 (Station.hold (c.10 (0 + Int.toNat z)))) == false, true, true, true, true, decide (v ≥ t) == true, true, true, y == true, true, true, true, ABlk.inb (ABlk.mk false false 47 3 (Cs.arr (c.nt) fun k => List.map AC.v ((fun i => [Value.int .i64 (Station.node (c.ft i)), Value.int .u32 (Station.safe (c.ft i)), Value.int .i64 (Station.hold (c.ft i))]) k))) (0 + Int.toNat z) 3, true, true, true, decide (Int.ofNat 0 ≤ z ∧ z < ↑(c.nt)), true, decide (z ≥ ↑(c.nt)) == false, true, decide (z < Int.ofNat 0) == false], [])))) ∧ ((decide (v ≥ t)) = false → Q (.c (.v (.int .u32 (Station.safe (c.10 (0 + Int.toNat z))))), [], 1032, [true, true, decide (v ≥ t) == false, true, true, y == true, true, true, true, ABlk.inb (ABlk.mk false false 47 3 (Cs.arr (c.nt) fun k => List.map AC.v ((fun i => [Value.int .i64 (Station.node (c.ft i)), Value.int .u32 (Station.safe (c.ft i)), Value.int .i64 (Station.hold (c.ft i))]) k))) (0 + Int.toNat z) 3, true, true, true, decide (Int.ofNat 0 ≤ z ∧ z < ↑(c.nt)), true, decide (z ≥ ↑(c.nt)) == false, true, decide (z < Int.ofNat 0) == false], [])))) ∧ ((y) = false → Q (.c (.v (.int .u32 (Station.safe (c.10 (0 + Int.toNat z))))), [], 1028, [true, true, y == false, true, true, true, ABlk.inb (ABlk.mk false false 47 3 (Cs.arr (c.nt) fun k => List.map AC.v ((fun i => [Value.int .i64 (Station.node (c.ft i)), Value.int .u32 (Station.safe (c.ft i)), Value.int .i64 (Station.hold (c.ft i))]) k))) (0 + Int.toNat z) 3, true, true, true, decide (Int.ofNat 0 ≤ z ∧ z < ↑(c.nt)), true, decide (z ≥ ↑(c.nt)) == false, true, decide (z < Int.ofNat 0) == false], [])))))))) :
    ∃ p r, cfE (E1 Tryd.prog) 32 c [i64 z, staA y q u t, i64 v] p [] = some r ∧ Q r := by
  rcases Bool.eq_false_or_eq_true (decide (z < Int.ofNat 0)) with h2 | h2
  · have g2 := H.1 h2
    exact ⟨([.b true, .a, .a, .a, .a, .a] : List Dec), _, by kernel_rfl, g2⟩
  · have g2 := H.2 h2
    rcases Bool.eq_false_or_eq_true (decide (z ≥ ↑(c.nt))) with h4 | h4
    · have g4 := g2.1 h4
      exact ⟨([.b false, .a, .a, .a, .a, .b true] : List Dec), _, by kernel_rfl, g4⟩
    · have g4 := g2.2 h4
      rcases Bool.eq_false_or_eq_true (y) with h6 | h6
      · have g6 := g4.1 h6
        rcases Bool.eq_false_or_eq_true (decide (v ≥ t)) with h8 | h8
        · have g8 := g6.1 h8
          rcases Bool.eq_false_or_eq_true (decide (IntKind.wrap .u64 (IntKind.wrap .u64 v - IntKind.wrap .u64 t) < IntKind.wrap .u64 (Station.hold (c.10 (0 + Int.toNat z))))) with h10 | h10
          · have g10 := g8.1 h10
            exact ⟨([.b false, .a, .a, .a, .a, .b false, .b true, .a, .a, .a, .b true, .a, .a, .a, .a, .a, .a, .a, .a, .a, .b true] : List Dec), _, by kernel_rfl, g10⟩
          · have g10 := g8.2 h10
            exact ⟨([.b false, .a, .a, .a, .a, .b false, .b true, .a, .a, .a, .b true, .a, .a, .a, .a, .a, .a, .a, .a, .a, .b false] : List Dec), _, by kernel_rfl, g10⟩
        · have g8 := g6.2 h8
          exact ⟨([.b false, .a, .a, .a, .a, .b false, .b true, .a, .a, .a, .b false, .a, .a, .a, .a, .a, .a, .a, .a, .a, .a] : List Dec), _, by kernel_rfl, g8⟩
      · have g6 := g4.2 h6
        exact ⟨([.b false, .a, .a, .a, .a, .b false, .b false, .a, .a, .a, .a, .a, .a, .a, .a, .a, .a, .a, .a, .a, .a] : List Dec), _, by kernel_rfl, g6⟩
end Go.Proofs.YtgfmjbfjodidpaaDoor
end
/- Contracts of actuators.Take, Output, sennitref26.Take, Output. -/
section
namespace Go.Proofs.YtgfmjbfjodidpaaDoor
open Go.RowKit

/-- is it taken? -/
def tkB (c : Cfg) (z : Int) (y : Bool) (q : Int) (b : Bool) (k st dq pr cm rd : Int) : Bool := stB c z && (b && (decide (k = 2) && (decide (IntKind.wrap .i64 st = z) && (decide (0 ≤ cm) && (decide (pr = cm) && (decide (0 ≤ rd) && (decide (rd ≤ 1099511627776) && (!y || decide (q < dq)))))))))
def tkI (b : Bool) (x y : Int) : Int := if b = true then x else y
/-- what a station puts out -/
def ouB (c : Cfg) (z : Int) (y : Bool) (t v : Int) : Bool := y && (decide (t ≤ v) && decide (v - t < stH' c z))
def ouV (c : Cfg) (z : Int) (y : Bool) (u t v : Int) : Int := if stB c z = true then tkI (ouB c z y t v) u (stS c z) else 0
def holdsOk (c : Cfg) : Bool := (List.range c.nt).all fun i => decide (1 ≤ (c.ft i).hold ∧ (c.ft i).hold ≤ 100)
def i64B (z : Int) : Bool := decide (-9223372036854775808 ≤ z) && decide (z ≤ 9223372036854775807)
theorem hold_in {c : Cfg} (h : holdsOk c = true) (z : Int) : 0 ≤ stH' c z ∧ stH' c z ≤ 100 := by
  unfold stH'
  split
  · rename_i hz
    simp [stB] at hz
    have := List.all_eq_true.1 h z.toNat (by simp; omega)
    simp at this
    omega
  · omega
theorem has_round {t v : Int} {h : Nat} (h1 : v ≤ 9223372036854775807) : hasF (fun i => t + Int.ofNat i) (lenR t h) v = (decide (t ≤ v) && decide (v - t < h)) := by
  rw [Bool.eq_iff_iff]
  unfold hasF
  rw [List.any_eq_true]
  constructor
  · rintro ⟨i, hi, he⟩
    simp at hi he
    unfold lenR at hi
    simp
    omega
  · intro hh
    simp at hh
    refine ⟨(v - t).toNat, ?_, ?_⟩
    · simp [lenR]; omega
    · simp; omega
def tkR (c : Cfg) (z : Int) : List AV → AV
  | [.agg [.v (.bool y), .v (.int .u32 q), .v (.int .u32 u), .v (.int .i64 t)], .agg [.v (.bool b), .v (.int .i64 _), .v (.int .u8 k), .v (.int .u8 st), .v (.int .u32 dq), .v (.int .u32 du), .v (.int .i64 pr), .v (.int .i64 cm), .v (.int .i64 rd)]] =>
    .tup [.agg [.v (.bool (tkB c z y q b k st dq pr cm rd || y)), .v (.int .u32 (tkI (tkB c z y q b k st dq pr cm rd) dq q)), .v (.int .u32 (tkI (tkB c z y q b k st dq pr cm rd) du u)), .v (.int .i64 (tkI (tkB c z y q b k st dq pr cm rd) rd t))], bo (tkB c z y q b k st dq pr cm rd)]
  | _ => i64 0
def tkQ : List AV → Bool
  | [.agg [.v (.bool _), .v (.int .u32 _), .v (.int .u32 _), .v (.int .i64 _)], .agg [.v (.bool _), .v (.int .i64 _), .v (.int .u8 _), .v (.int .u8 _), .v (.int .u32 _), .v (.int .u32 _), .v (.int .i64 _), .v (.int .i64 _), .v (.int .i64 _)]] => true
  | _ => false
def ntkR : NetS → AV
  | ⟨c, _, _, .c (.v (.int .i64 z)) :: r⟩ => tkR c z r
  | _ => i64 0
def ntkQ : NetS → Bool
  | ⟨c, nq, _, .c (.v (.int .i64 _)) :: r⟩ => stPre c nq && tkQ r
  | _ => false
def ctkR : CfgS → AV
  | ⟨c, .c (.v (.int .i64 z)) :: r⟩ => tkR c z r
  | _ => i64 0
def ctkQ : CfgS → Bool
  | ⟨_, .c (.v (.int .i64 _)) :: r⟩ => tkQ r
  | _ => false
theorem tkR_plain (c : Cfg) (z : Int) (r : List AV) : plainR (tkR c z r) = true := by unfold tkR; split <;> rfl
theorem tkQ_out {r : List AV} (h : tkQ r = true) : ∃ y q u t b dt k st dq du pr cm rd, r = [staA y q u t, delA b dt k st dq du pr cm rd] := by
  unfold tkQ at h
  split at h
  · exact ⟨_, _, _, _, _, _, _, _, _, _, _, _, _, rfl⟩
  · cases h
theorem tkR_eq (c : Cfg) (z : Int) (y : Bool) (q u t : Int) (b : Bool) (dt k st dq du pr cm rd : Int) : tkR c z [staA y q u t, delA b dt k st dq du pr cm rd] = .tup [.agg [.v (.bool (tkB c z y q b k st dq pr cm rd || y)), .v (.int .u32 (tkI (tkB c z y q b k st dq pr cm rd) dq q)), .v (.int .u32 (tkI (tkB c z y q b k st dq pr cm rd) du u)), .v (.int .i64 (tkI (tkB c z y q b k st dq pr cm rd) rd t))], bo (tkB c z y q b k st dq pr cm rd)] := rfl
theorem tk_no {c : Cfg} {z : Int} {y : Bool} {q u t : Int} {b : Bool} {dt k st dq du pr cm rd : Int} (h : tkB c z y q b k st dq pr cm rd = false) : tkR c z [staA y q u t, delA b dt k st dq du pr cm rd] = .tup [staA y q u t, bo false] := by
  rw [tkR_eq, h]; simp [tkI]
theorem tk_ye {c : Cfg} {z : Int} {y : Bool} {q u t : Int} {b : Bool} {dt k st dq du pr cm rd : Int} (h : tkB c z y q b k st dq pr cm rd = true) : tkR c z [staA y q u t, delA b dt k st dq du pr cm rd] = .tup [staA true dq du rd, bo true] := by
  rw [tkR_eq, h]; simp [tkI]
def ctTake : CtF := ctRd netRd ntkR ntkQ
def ctRTake : CtF := ctRd cfgRd ctkR ctkQ
set_option maxRecDepth 100000 in
theorem ct_take : CtOk Tryd.prog 29 ctTake := by
  refine ctRd_ofE (E := ENan Tryd.prog) hENan netRd (fuel := 300) (str := 10000000000000000000000000000000000000000) ⟨_, _, Tryd.func29, rfl⟩ (fun s => by unfold ntkR; split <;> first | exact tkR_plain _ _ _ | rfl) fun s hs => ?_
  unfold ntkQ at hs
  split at hs
  · rename_i c nq fq z r
    rw [Bool.and_eq_true] at hs
    obtain ⟨y, q, u, t, b, dt, k, st, dq, du, pr, cm, rd, rfl⟩ := tkQ_out hs.2
    refine (?_ : (∃ p x, ntE (ENan Tryd.prog) 29 c nq fq [i64 z, staA y q u t, delA b dt k st dq du pr cm rd] p [] = some x ∧ GoodF (tkR c z [staA y q u t, delA b dt k st dq du pr cm rd]) x) → _) (anTk c nq fq z y q u t b dt k st dq du pr cm rd _ ?_)
    · rintro ⟨p, x, h1, h2⟩
      exact ⟨p, [], x, h1, h2⟩
    · have h1 := hs.1
      (repeat' (first | refine ⟨fun h => ?_, fun h => ?_⟩ | fail))
      all_goals (refine ⟨?_, (by first | (unfold lim; omega) | (dsimp only; unfold lim; omega)), ?_, by simp⟩)
      all_goals first
        | (have hn : tkB c z y q b k st dq pr cm rd = true := (by first | (simp_all [tkB]; done) | fail)
           rw [tk_ye hn]; rfl)
        | (have hn : tkB c z y q b k st dq pr cm rd = true := (by first | (simp_all [tkB]; omega) | fail)
           rw [tk_ye hn]; rfl)
        | (have hn : tkB c z y q b k st dq pr cm rd = false := (by first | (simp_all [tkB]; done) | fail)
           rw [tk_no hn]; rfl)
        | (have hn : tkB c z y q b k st dq pr cm rd = false := (by first | (simp_all [tkB]; intros; exfalso; omega) | fail)
           rw [tk_no hn]; rfl)
        | (simp_all [allT, cfgK_t, netK_t, intsOk_ints, stsOk_sts, intsOk_s, stsOk_s, stnQ_eq]; done)
        | (simp_all [allT, cfgK_t, netK_t, intsOk_ints, stsOk_sts, intsOk_s, stsOk_s, stnQ_eq]; omega)
  · cases hs
set_option maxRecDepth 100000 in
theorem ct_rtake : CtOk Tryd.prog 31 ctRTake := by
  refine ctRd_ofE (E := E1 Tryd.prog) hE1 cfgRd (fuel := 300) (str := 10000000000000000000000000000000000000000) ⟨_, _, Tryd.func31, rfl⟩ (fun s => by unfold ctkR; split <;> first | exact tkR_plain _ _ _ | rfl) fun s hs => ?_
  unfold ctkQ at hs
  split at hs
  · rename_i c z r
    obtain ⟨y, q, u, t, b, dt, k, st, dq, du, pr, cm, rd, rfl⟩ := tkQ_out hs
    refine (?_ : (∃ p x, cfE (E1 Tryd.prog) 31 c [i64 z, staA y q u t, delA b dt k st dq du pr cm rd] p [] = some x ∧ GoodF (tkR c z [staA y q u t, delA b dt k st dq du pr cm rd]) x) → _) (rfTk c z y q u t b dt k st dq du pr cm rd _ ?_)
    · rintro ⟨p, x, h1, h2⟩
      exact ⟨p, [], x, h1, h2⟩
    · (repeat' (first | refine ⟨fun h => ?_, fun h => ?_⟩ | fail))
      all_goals (refine ⟨?_, (by first | (unfold lim; omega) | (dsimp only; unfold lim; omega)), ?_, by simp⟩)
      all_goals first
        | (have hn : tkB c z y q b k st dq pr cm rd = true := (by first | (simp_all [tkB, stB]; done) | fail)
           rw [tk_ye hn]; rfl)
        | (have hn : tkB c z y q b k st dq pr cm rd = true := (by first | (simp_all [tkB, stB]; omega) | fail)
           rw [tk_ye hn]; rfl)
        | (have hn : tkB c z y q b k st dq pr cm rd = false := (by first | (simp_all [tkB, stB]; done) | fail)
           rw [tk_no hn]; rfl)
        | (have hn : tkB c z y q b k st dq pr cm rd = false := (by first | (simp_all [tkB, stB]; intros; exfalso; omega) | fail)
           rw [tk_no hn]; rfl)
        | (simp_all [allT, cfgK_t, netK_t, intsOk_ints, stsOk_sts, intsOk_s, stsOk_s]; done)
        | (simp_all [allT, cfgK_t, netK_t, intsOk_ints, stsOk_sts, intsOk_s, stsOk_s]; omega)
  · cases hs
def nouR : NetS → AV
  | ⟨c, _, _, [.c (.v (.int .i64 z)), .agg [.v (.bool y), .v (.int .u32 _), .v (.int .u32 u), .v (.int .i64 t)], .c (.v (.int .i64 v))]⟩ => .c (.v (.int .u32 (ouV c z y u t v)))
  | _ => i64 0
def nouQ : NetS → Bool
  | ⟨c, nq, _, [.c (.v (.int .i64 _)), .agg [.v (.bool _), .v (.int .u32 _), .v (.int .u32 _), .v (.int .i64 t)], .c (.v (.int .i64 v))]⟩ => stPre c nq && (holdsOk c && (i64B t && i64B v))
  | _ => false
def couR : CfgS → AV
  | ⟨c, [.c (.v (.int .i64 z)), .agg [.v (.bool y), .v (.int .u32 _), .v (.int .u32 u), .v (.int .i64 t)], .c (.v (.int .i64 v))]⟩ => .c (.v (.int .u32 (ouV c z y u t v)))
  | _ => i64 0
def couQ : CfgS → Bool
  | ⟨c, [.c (.v (.int .i64 _)), .agg [.v (.bool _), .v (.int .u32 _), .v (.int .u32 _), .v (.int .i64 t)], .c (.v (.int .i64 v))]⟩ => holdsOk c && (i64B t && i64B v)
  | _ => false
def ctOutput : CtF := ctRd netRd nouR nouQ
def ctROutput : CtF := ctRd cfgRd couR couQ
theorem u64_wrap (x : Int) (h0 : -9223372036854775808 ≤ x) (h1 : x ≤ 9223372036854775807) : IntKind.wrap .u64 x = if 0 ≤ x then x else x + 18446744073709551616 := by
  simp only [IntKind.wrap, IntKind.bits, IntKind.signed]
  first | omega | (simp; split <;> omega)
theorem u64_wrap2 (x : Int) (h0 : -18446744073709551616 ≤ x) (h1 : x < 18446744073709551616) : IntKind.wrap .u64 x = if 0 ≤ x then x else x + 18446744073709551616 := by
  simp only [IntKind.wrap, IntKind.bits, IntKind.signed]
  first | omega | (simp; split <;> omega)
theorem ou_none {c : Cfg} {z : Int} {y : Bool} {u t v : Int} (h : stB c z = false) : ouV c z y u t v = 0 := by simp [ouV, h]
theorem ou_no {c : Cfg} {z : Int} {y : Bool} {u t v : Int} (h : stB c z = true) (h2 : ¬ (y = true ∧ t ≤ v ∧ v - t < stH' c z)) : ouV c z y u t v = stS c z := by
  have : ouB c z y t v = false := by
    cases y
    · rfl
    · simp only [true_and] at h2
      simp [ouB]; omega
  simp [ouV, h, this, tkI]
theorem ou_ye {c : Cfg} {z : Int} {y : Bool} {u t v : Int} (h : stB c z = true) (h2 : y = true ∧ t ≤ v ∧ v - t < stH' c z) : ouV c z y u t v = u := by
  have : ouB c z y t v = true := by
    obtain ⟨rfl, g⟩ := h2
    simp [ouB]; omega
  simp [ouV, h, this, tkI]
set_option maxRecDepth 100000 in
theorem ct_output : CtOk Tryd.prog 30 ctOutput := by
  refine ctRd_ofE (E := ENan Tryd.prog) hENan netRd (fuel := 300) (str := 10000000000000000000000000000000000000000) ⟨_, _, Tryd.func30, rfl⟩ (fun s => by unfold nouR; split <;> rfl) fun s hs => ?_
  unfold nouQ at hs
  split at hs
  · rename_i c nq fq z y q u t v
    simp only [i64B, Bool.and_eq_true, decide_eq_true_eq] at hs
    obtain ⟨h1, h2, ⟨t0, t1⟩, v0, v1⟩ := hs
    obtain ⟨g0, g1⟩ := hold_in h2 z
    refine (?_ : (∃ p x, ntE (ENan Tryd.prog) 30 c nq fq [i64 z, staA y q u t, i64 v] p [] = some x ∧ GoodF (.c (.v (.int .u32 (ouV c z y u t v)))) x) → _) (anOu c nq fq z y q u t v _ ?_)
    · rintro ⟨p, x, h1, h2⟩
      exact ⟨p, [], x, h1, h2⟩
    · rw [has_round v1]
      have hl : lenR t (stH' c z).toNat ≤ 1000000 := by unfold lenR; omega
      have eh : (((stH' c z).toNat : Nat) : Int) = stH' c z := Int.toNat_of_nonneg g0
      simp only [eh]
      have hb : ∀ x, (decide (t ≤ v) && decide (v - t < x)) = true ↔ t ≤ v ∧ v - t < x := fun x => by simp
      have hb2 : ∀ x, (decide (t ≤ v) && decide (v - t < x)) = false ↔ ¬ (t ≤ v ∧ v - t < x) := fun x => by rw [← hb]; simp
      simp only [hb, hb2]
      (repeat' (first | refine ⟨fun h => ?_, fun h => ?_⟩ | fail))
      all_goals (refine ⟨?_, (by first | (unfold lim; omega) | (dsimp only; unfold lim; omega)), ?_, by simp⟩)
      · simp at h
        rw [ou_none h]; rfl
      · simp_all [allT, cfgK_t, netK_t, intsOk_ints, stsOk_sts, intsOk_s, stsOk_s, stnQ_eq]
      · rename_i g1 g2
        simp at g1
        rw [ou_ye g1 ⟨g2, h⟩]
      · rename_i g1 g2
        simp only [allT, List.forall_mem_cons]
        simp_all [cfgK_t, netK_t, intsOk_ints, stsOk_sts, intsOk_s, stsOk_s, stnQ_eq, inb_arr, has_round v1]
        try omega
      · rename_i g1 g2
        simp at g1
        rw [ou_no g1 (fun e => h e.2)]
      · rename_i g1 g2
        simp only [allT, List.forall_mem_cons]
        simp_all [cfgK_t, netK_t, intsOk_ints, stsOk_sts, intsOk_s, stsOk_s, stnQ_eq, inb_arr, has_round v1]
        try omega
      · rename_i g1
        simp at g1
        rw [ou_no g1 (fun e => by rw [h] at e; exact absurd e.1 (by simp))]
      · rename_i g1
        simp only [allT, List.forall_mem_cons]
        simp_all [cfgK_t, netK_t, intsOk_ints, stsOk_sts, intsOk_s, stsOk_s, stnQ_eq]
  · cases hs
set_option maxRecDepth 100000 in
theorem ct_routput : CtOk Tryd.prog 32 ctROutput := by
  refine ctRd_ofE (E := E1 Tryd.prog) hE1 cfgRd (fuel := 300) (str := 10000000000000000000000000000000000000000) ⟨_, _, Tryd.func32, rfl⟩ (fun s => by unfold couR; split <;> rfl) fun s hs => ?_
  unfold couQ at hs
  split at hs
  · rename_i c z y q u t v
    simp only [i64B, Bool.and_eq_true, decide_eq_true_eq] at hs
    obtain ⟨h2, ⟨t0, t1⟩, v0, v1⟩ := hs
    obtain ⟨g0, g1⟩ := hold_in h2 z
    refine (?_ : (∃ p x, cfE (E1 Tryd.prog) 32 c [i64 z, staA y q u t, i64 v] p [] = some x ∧ GoodF (.c (.v (.int .u32 (ouV c z y u t v)))) x) → _) (rfOu c z y q u t v _ ?_)
    · rintro ⟨p, x, h1, h2⟩
      exact ⟨p, [], x, h1, h2⟩
    · have hd : t ≤ v → IntKind.wrap .u64 (IntKind.wrap .u64 v - IntKind.wrap .u64 t) = v - t := fun h => by
        rw [u64_wrap v v0 v1, u64_wrap t t0 t1]
        rw [u64_wrap2 _ (by repeat' split
                            all_goals omega) (by repeat' split
                                                 all_goals omega)]
        repeat' split
        all_goals omega
      have hs1 : 0 ≤ z → z < c.nt → stB c z = true ∧ stH' c z = (c.ft (0 + z.toNat)).hold ∧ stS c z = (c.ft (0 + z.toNat)).safe := fun a b => by
        have : stB c z = true := by simp [stB]; omega
        simp [stH', stS, this]
      have hs0 : ¬ (0 ≤ z ∧ z < c.nt) → stB c z = false := fun h => by simp [stB]; omega
      have hh : 0 ≤ z → z < c.nt → IntKind.wrap .u64 (c.ft (0 + z.toNat)).hold = stH' c z := fun a b => by
        obtain ⟨_, e, _⟩ := hs1 a b
        rw [← e, u64_wrap _ (by omega) (by omega), if_pos g0]
      (repeat' (first | refine ⟨fun h => ?_, fun h => ?_⟩ | fail))
      all_goals (simp only [decide_eq_true_eq, decide_eq_false_iff_not, Int.ofNat_eq_natCast, Int.cast_ofNat_Int, gt_iff_lt, ge_iff_le] at *)
      all_goals (refine ⟨?_, (by first | (unfold lim; omega) | (dsimp only; unfold lim; omega)), ?_, by simp⟩)
      all_goals first
        | (have e := hs0 (by omega)
           rw [ou_none e]; done)
        | (obtain ⟨e1, e2, e3⟩ := hs1 (by omega) (by omega)
           have hv : t ≤ v := (by omega)
           have e4 := hh (by omega) (by omega)
           have e5 := hd (by omega)
           have e6 : v - t < stH' c z := (by rw [e4, e5] at *; omega)
           rw [ou_ye e1 ⟨by assumption, hv, e6⟩]; done)
        | (obtain ⟨e1, e2, e3⟩ := hs1 (by omega) (by omega)
           have e4 := hh (by omega) (by omega)
           have e7 : ¬ (y = true ∧ t ≤ v ∧ v - t < stH' c z) := (by
             rintro ⟨k1, k2, k3⟩
             have e5 := hd k2
             rw [e4, e5] at *
             first | omega | (simp_all; done))
           rw [ou_no e1 e7, e3]; done)
        | (obtain ⟨e1, e2, e3⟩ := hs1 (by omega) (by omega)
           have e7 : ¬ (y = true ∧ t ≤ v ∧ v - t < stH' c z) := (by
             rintro ⟨k1, k2, k3⟩
             first | omega | (simp_all; done))
           rw [ou_no e1 e7, e3]; done)
        | (simp only [allT, List.forall_mem_cons]; simp_all [cfgK_t, netK_t, intsOk_ints, stsOk_sts, intsOk_s, stsOk_s, inb_arr]; done)
        | (simp only [allT, List.forall_mem_cons]; simp_all [cfgK_t, netK_t, intsOk_ints, stsOk_sts, intsOk_s, stsOk_s, inb_arr]; omega)
  · cases hs
end Go.Proofs.YtgfmjbfjodidpaaDoor
end
/- The examples of layer 26 as the evaluator runs them. -/
section
namespace Go.Proofs.YtgfmjbfjodidpaaDoor
open Go.RowKit
def lv26 (P : Program) : Option VF := viewF [] (fCallF (ENan P) (fC (ENan P) 300) 25 [] 10 10000000000000000000000000000000000000000 (stC mS))
theorem lv26_run  : lv26 Tryd.prog =
    some (.c (.v (.bool true)), [], 1920000000000000000000000000000000000001359, [], []) := by kernel_rfl
end Go.Proofs.YtgfmjbfjodidpaaDoor
end
/- ActuatorsAny as the evaluator runs it. -/
section
namespace Go.Proofs.YtgfmjbfjodidpaaDoor
open Go.RowKit

def ctsAa : List (FuncId × CtF) := [(29, ctTake), (30, ctOutput), (31, ctRTake), (32, ctROutput), (25, ctTG mS)]
theorem ctsAa_ok : ∀ f g, (f, g) ∈ ctsAa → CtOk Tryd.prog f g := by
  intro f g h
  simp only [ctsAa, List.mem_cons, Prod.mk.injEq, List.not_mem_nil, or_false] at h
  rcases h with ⟨rfl, rfl⟩ | ⟨rfl, rfl⟩ | ⟨rfl, rfl⟩ | ⟨rfl, rfl⟩ | ⟨rfl, rfl⟩
  · exact ct_take
  · exact ct_output
  · exact ct_rtake
  · exact ct_routput
  · exact ctTG_of (E := ENan Tryd.prog) hENan ⟨_, _, Tryd.func25, rfl⟩ (by kernel_rfl) (by unfold lim; omega) lv26_run
abbrev trA (z : Int) (y : Bool) (q u t : Int) (b : Bool) (dt k st dq du pr cm rd v : Int) : AV := .agg [.v (.int .i64 z), .v (.bool y), .v (.int .u32 q), .v (.int .u32 u), .v (.int .i64 t), .v (.bool b), .v (.int .i64 dt), .v (.int .u8 k), .v (.int .u8 st), .v (.int .u32 dq), .v (.int .u32 du), .v (.int .i64 pr), .v (.int .i64 cm), .v (.int .i64 rd), .v (.int .i64 v)]
end Go.Proofs.YtgfmjbfjodidpaaDoor
end
/- ActuatorsAny as the evaluator runs it: trees. -/
section
namespace Go.Proofs.YtgfmjbfjodidpaaDoor
open Go.RowKit

theorem aaE (err : Cfg → Int) (c : Cfg) (z : Int) (y : Bool) (q u t : Int) (b : Bool) (dt k st dq du pr cm rd v : Int) (Q : VF → Prop) (H : (((decide (↑(c.np) > Int.ofNat 60)) = true → Q (.c (.v (.bool true)), [], 24, [decide (↑(c.np) > Int.ofNat 60) == true, true], [])) ∧ ((decide (↑(c.np) > Int.ofNat 60)) = false → (((decide (↑(c.ns) > Int.ofNat 60)) = true → Q (.c (.v (.bool true)), [], 28, [decide (↑(c.ns) > Int.ofNat 60) == true, true, decide (↑(c.np) > Int.ofNat 60) == false, true], [])) ∧ ((decide (↑(c.ns) > Int.ofNat 60)) = false → (((decide (↑(c.nb) > Int.ofNat 60)) = true → Q (.c (.v (.bool true)), [], 32, [decide (↑(c.nb) > Int.ofNat 60) == true, true, decide (↑(c.ns) > Int.ofNat 60) == false, true, decide (↑(c.np) > Int.ofNat 60) == false, true], [])) ∧ ((decide (↑(c.nb) > Int.ofNat 60)) = false → (((decide (↑(c.nt) > Int.ofNat 60)) = true → Q (.c (.v (.bool true)), [], 36, [decide (↑(c.nt) > Int.ofNat 60) == true, true, decide (↑(c.nb) > Int.ofNat 60) == false, true, decide (↑(c.ns) > Int.ofNat 60) == false, true, decide (↑(c.np) > Int.ofNat 60) == false, true], [])) ∧ ((decide (↑(c.nt) > Int.ofNat 60)) = false → (((!eqF [none, some .u32, some .u32, some .i64] [.v (.bool y), .v (.int .u32 q), .v (.int .u32 u), .v (.int .i64 (Int.negSucc 99))] [.v (.bool y), .v (.int .u32 q), .v (.int .u32 u), .v (.int .i64 (Int.negSucc 99))]) = true → Q (.c (.v (.bool false)), [], 90000000000000000000000000000000000000045, [(!eqF [none, some .u32, some .u32, some .i64] [.v (.bool y), .v (.int .u32 q), .v (.int .u32 u), .v (.int .i64 (Int.negSucc 99))] [.v (.bool y), .v (.int .u32 q), .v (.int .u32 u), .v (.int .i64 (Int.negSucc 99))]) == true, true, true, true, true, true, true, true, true, true, true, true, true, true, true, true, true, true, true, true, true, true, true, true, true, true, true, true, true, true, true, true, true, true, true, true, true, true, true, true, true, true, true, true, true, true, true, true, true, true, true, true, true, true, true, true, true, true, true, true, true, true, true, true, true, true, true, true, true, true, true, (err c != err c) == false, cfgK c, true, true, true, true, true, true, true, cfgK c, decide (c.nb ≤ 9223372036854775807), decide (err c ≠ Int.ofNat 0), true, true, true, true, true, true, decide (↑(c.nt) > Int.ofNat 60) == false, true, decide (↑(c.nb) > Int.ofNat 60) == false, true, decide (↑(c.ns) > Int.ofNat 60) == false, true, decide (↑(c.np) > Int.ofNat 60) == false, true], [])) ∧ ((!eqF [none, some .u32, some .u32, some .i64] [.v (.bool y), .v (.int .u32 q), .v (.int .u32 u), .v (.int .i64 (Int.negSucc 99))] [.v (.bool y), .v (.int .u32 q), .v (.int .u32 u), .v (.int .i64 (Int.negSucc 99))]) = false → (((decide (z < Int.ofNat 0)) = true → (((eqF [none, some .u32, some .u32, some .i64] [.v (.bool y), .v (.int .u32 q), .v (.int .u32 u), .v (.int .i64 t)] [.v (.bool y), .v (.int .u32 q), .v (.int .u32 u), .v (.int .i64 t)]) = true → Q (.c (.v (.bool true)), [], 90000000000000000000000000000000000000191, [true, true, true, true, true, true, decide (z < Int.ofNat 0) == true, true, true, true, true, true, true, true, true, true, true, true, true, true, true, true, true, eqF [none, some .u32, some .u32, some .i64] [.v (.bool y), .v (.int .u32 q), .v (.int .u32 u), .v (.int .i64 t)] [.v (.bool y), .v (.int .u32 q), .v (.int .u32 u), .v (.int .i64 t)] == true, true, true, true, true, true, true, true, true, true, true, true, true, true, true, true, true, true, true, (err c != Int.ofNat 0) == true, true, true, true, true, true, true, true, true, true, true, true, true, true, true, true, true, true, true, true, true, true, true, true, true, true, true, true, true, true, true, true, decide (z < Int.ofNat 0) == true, true, true, true, true, true, true, true, true, true, true, true, true, true, true, true, true, true, true, true, true, true, true, true, true, true, true, true, true, true, true, true, true, true, true, true, true, true, (!eqF [none, some .u32, some .u32, some .i64] [.v (.bool y), .v (.int .u32 q), .v (.int .u32 u), .v (.int .i64 (Int.negSucc 99))] [.v (.bool y), .v (.int .u32 q), .v (.int .u32 u), .v (.int .i64 (Int.negSucc 99))]) == false, true, true, true, true, true, true, true, true, true, true, true, true, true, true, true, true, true, true, true, true, true, true, true, true, true, true, true, true, true, true, true, true, true, true, true, true, true, true, true, true, true, true, true, true, true, true, true, true, true, true, true, true, true, true, true, true, true, true, true, true, true, true, true, true, true, true, true, true, true, true, (err c != err c) == false, cfgK c, true, true, true, true, true, true, true, cfgK c, decide (c.nb ≤ 9223372036854775807), decide (err c ≠ Int.ofNat 0), true, true, true, true, true, true, decide (↑(c.nt) > Int.ofNat 60) == false, true, decide (↑(c.nb) > Int.ofNat 60) == false, true, decide (↑(c.ns) > Int.ofNat 60) == false, true, decide (↑(c.np) > Int.ofNat 60) == false, true], [])) ∧ ((eqF [none, some .u32, some .u32, some .i64] [.v (.bool y), .v (.int .u32 q), .v (.int .u32 u), .v (.int .i64 t)] [.v (.bool y), .v (.int .u32 q), .v (.int .u32 u), .v (.int .i64 t)]) = false → Q (.c (.v (.bool false)), [], 90000000000000000000000000000000000000144, [eqF [none, some .u32, some .u32, some .i64] [.v (.bool y), .v (.int .u32 q), .v (.int .u32 u), .v (.int .i64 t)] [.v (.bool y), .v (.int .u32 q), .v (.int .u32 u), .v (.int .i64 t)] == false, true, true, true, true, true, true, true, true, true, true, true, true, true, true, true, true, true, true, (err c != Int.ofNat 0) == true, true, true, true, true, true, true, true, true, true, true, true, true, true, true, true, true, true, true, true, true, true, true, true, true, true, true, true, true, true, true, true, decide (z < Int.ofNat 0) == true, true, true, true, true, true, true, true, true, true, true, true, true, true, true, true, true, true, true, true, true, true, true, true, true, true, true, true, true, true, true, true, true, true, true, true, true, true, (!eqF [none, some .u32, some .u32, some .i64] [.v (.bool y), .v (.int .u32 q), .v (.int .u32 u), .v (.int .i64 (Int.negSucc 99))] [.v (.bool y), .v (.int .u32 q), .v (.int .u32 u), .v (.int .i64 (Int.negSucc 99))]) == false, true, true, true, true, true, true, true, true, true, true, true, true, true, true, true, true, true, true, true, true, true, true, true, true, true, true, true, true, true, true, true, true, true, true, true, true, true, true, true, true, true, true, true, true, true, true, true, true, true, true, true, true, true, true, true, true, true, true, true, true, true, true, true, true, true, true, true, true, true, true, (err c != err c) == false, cfgK c, true, true, true, true, true, true, true, cfgK c, decide (c.nb ≤ 9223372036854775807), decide (err c ≠ Int.ofNat 0), true, true, true, true, true, true, decide (↑(c.nt) > Int.ofNat 60) == false, true, decide (↑(c.nb) > Int.ofNat 60) == false, true, decide (↑(c.ns) > Int.ofNat 60) == false, true, decide (↑(c.np) > Int.ofNat 60) == false, true], [])))) ∧ ((decide (z < Int.ofNat 0)) = false → (((eqF [none, some .u32, some .u32, some .i64] [.v (.bool y), .v (.int .u32 q), .v (.int .u32 u), .v (.int .i64 t)] [.v (.bool y), .v (.int .u32 q), .v (.int .u32 u), .v (.int .i64 t)]) = true → Q (.c (.v (.bool true)), [], 90000000000000000000000000000000000000199, [true, true, true, true, true, true, decide (z ≥ Int.ofNat 0) == true, decide (z < Int.ofNat 0) == false, true, true, true, true, true, true, true, true, true, true, true, true, true, true, true, true, eqF [none, some .u32, some .u32, some .i64] [.v (.bool y), .v (.int .u32 q), .v (.int .u32 u), .v (.int .i64 t)] [.v (.bool y), .v (.int .u32 q), .v (.int .u32 u), .v (.int .i64 t)] == true, true, true, true, true, true, true, true, true, true, true, true, true, true, true, true, true, true, true, (err c != Int.ofNat 0) == true, true, true, true, true, true, true, true, true, true, true, true, true, true, true, true, true, true, true, true, true, true, true, true, true, true, true, true, true, true, true, true, decide (z ≥ Int.ofNat 0) == true, decide (z < Int.ofNat 0) == false, true, true, true, true, true, true, true, true, true, true, true, true, true, true, true, true, true, true, true, true, true, true, true, true, true, true, true, true, true, true, true, true, true, true, true, true, true, (!eqF [none, some .u32, some .u32, some .i64] [.v (.bool y), .v (.int .u32 q), .v (.int .u32 u), .v (.int .i64 (Int.negSucc 99))] [.v (.bool y), .v (.int .u32 q), .v (.int .u32 u), .v (.int .i64 (Int.negSucc 99))]) == false, true, true, true, true, true, true, true, true, true, true, true, true, true, true, true, true, true, true, true, true, true, true, true, true, true, true, true, true, true, true, true, true, true, true, true, true, true, true, true, true, true, true, true, true, true, true, true, true, true, true, true, true, true, true, true, true, true, true, true, true, true, true, true, true, true, true, true, true, true, true, (err c != err c) == false, cfgK c, true, true, true, true, true, true, true, cfgK c, decide (c.nb ≤ 9223372036854775807), decide (err c ≠ Int.ofNat 0), true, true, true, true, true, true, decide (↑(c.nt) > Int.ofNat 60) == false, true, decide (↑(c.nb) > Int.ofNat 60) == false, true, decide (↑(c.ns) > Int.ofNat 60) == false, true, decide (↑(c.np) > Int.ofNat 60) == false, true], [])) ∧ ((eqF [none, some .u32, some .u32, some .i64] [.v (.bool y), .v (.int .u32 q), .v (.int .u32 u), .v (.int .i64 t)] [.v (.bool y), .v (.int .u32 q), .v (.int .u32 u), .v (.int .i64 t)]) = false → Q (.c (.v (.bool false)), [], 90000000000000000000000000000000000000148, [eqF [none, some .u32, some .u32, some .i64] [.v (.bool y), .v (.int .u32 q), .v (.int .u32 u), .v (.int .i64 t)] [.v (.bool y), .v (.int .u32 q), .v (.int .u32 u), .v (.int .i64 t)] == false, true, true, true, true, true, true, true, true, true, true, true, true, true, true, true, true, true, true, (err c != Int.ofNat 0) == true, true, true, true, true, true, true, true, true, true, true, true, true, true, true, true, true, true, true, true, true, true, true, true, true, true, true, true, true, true, true, true, decide (z ≥ Int.ofNat 0) == true, decide (z < Int.ofNat 0) == false, true, true, true, true, true, true, true, true, true, true, true, true, true, true, true, true, true, true, true, true, true, true, true, true, true, true, true, true, true, true, true, true, true, true, true, true, true, (!eqF [none, some .u32, some .u32, some .i64] [.v (.bool y), .v (.int .u32 q), .v (.int .u32 u), .v (.int .i64 (Int.negSucc 99))] [.v (.bool y), .v (.int .u32 q), .v (.int .u32 u), .v (.int .i64 (Int.negSucc 99))]) == false, true, true, true, true, true, true, true, true, true, true, true, true, true, true, true, true, true, true, true, true, true, true, true, true, true, true, true, true, true, true, true, true, true, true, true, true, true, true, true, true, true, true, true, true, true, true, true, true, true, true, true, true, true, true, true, true, true, true, true, true, true, true, true, true, true, true, true, true, true, true, (err c != err c) == false, cfgK c, true, true, true, true, true, true, true, cfgK c, decide (c.nb ≤ 9223372036854775807), decide (err c ≠ Int.ofNat 0), true, true, true, true, true, true, decide (↑(c.nt) > Int.ofNat 60) == false, true, decide (↑(c.nb) > Int.ofNat 60) == false, true, decide (↑(c.ns) > Int.ofNat 60) == false, true, decide (↑(c.np) > Int.ofNat 60) == false, true], [])))))))))))))))) :
    ∃ p r, lwR (ENl1 Tryd.prog err ctsAa) 6 mS c [trA z y q u t b dt k st dq du pr cm rd v] p [] = some r ∧ Q r := by
  rcases Bool.eq_false_or_eq_true (decide (↑(c.np) > Int.ofNat 60)) with h2 | h2
  · have g2 := H.1 h2
    exact ⟨([.b true, .a, .a, .a, .a, .a, .a, .a, .a, .a, .a, .a, .a] : List Dec), _, by kernel_rfl, g2⟩
  · have g2 := H.2 h2
    rcases Bool.eq_false_or_eq_true (decide (↑(c.ns) > Int.ofNat 60)) with h4 | h4
    · have g4 := g2.1 h4
      exact ⟨([.b false, .a, .a, .a, .b true, .a, .a, .a, .a, .a, .a, .a, .a] : List Dec), _, by kernel_rfl, g4⟩
    · have g4 := g2.2 h4
      rcases Bool.eq_false_or_eq_true (decide (↑(c.nb) > Int.ofNat 60)) with h6 | h6
      · have g6 := g4.1 h6
        exact ⟨([.b false, .a, .a, .a, .b false, .a, .a, .a, .b true, .a, .a, .a, .a] : List Dec), _, by kernel_rfl, g6⟩
      · have g6 := g4.2 h6
        rcases Bool.eq_false_or_eq_true (decide (↑(c.nt) > Int.ofNat 60)) with h8 | h8
        · have g8 := g6.1 h8
          exact ⟨([.b false, .a, .a, .a, .b false, .a, .a, .a, .b false, .a, .a, .a, .b true] : List Dec), _, by kernel_rfl, g8⟩
        · have g8 := g6.2 h8
          rcases Bool.eq_false_or_eq_true (!eqF [none, some .u32, some .u32, some .i64] [.v (.bool y), .v (.int .u32 q), .v (.int .u32 u), .v (.int .i64 (Int.negSucc 99))] [.v (.bool y), .v (.int .u32 q), .v (.int .u32 u), .v (.int .i64 (Int.negSucc 99))]) with h10 | h10
          · have g10 := g8.1 h10
            exact ⟨([.b false, .a, .a, .a, .b false, .a, .a, .a, .b false, .a, .a, .a, .b false, .b false, .b true] : List Dec), _, by kernel_rfl, g10⟩
          · have g10 := g8.2 h10
            rcases Bool.eq_false_or_eq_true (decide (z < Int.ofNat 0)) with h12 | h12
            · have g12 := g10.1 h12
              rcases Bool.eq_false_or_eq_true (eqF [none, some .u32, some .u32, some .i64] [.v (.bool y), .v (.int .u32 q), .v (.int .u32 u), .v (.int .i64 t)] [.v (.bool y), .v (.int .u32 q), .v (.int .u32 u), .v (.int .i64 t)]) with h14 | h14
              · have g14 := g12.1 h14
                exact ⟨([.b false, .a, .a, .a, .b false, .a, .a, .a, .b false, .a, .a, .a, .b false, .b false, .b false, .a, .a, .a, .a, .a, .a, .a, .b true, .a, .a, .a, .a, .a, .a, .a, .a, .a, .b true, .b true, .a, .a, .a, .a, .a, .a, .a, .a, .a, .a, .a, .a, .a, .a, .a, .a, .b true, .a, .a, .a, .a, .a, .a, .a] : List Dec), _, by kernel_rfl, g14⟩
              · have g14 := g12.2 h14
                exact ⟨([.b false, .a, .a, .a, .b false, .a, .a, .a, .b false, .a, .a, .a, .b false, .b false, .b false, .a, .a, .a, .a, .a, .a, .a, .b true, .a, .a, .a, .a, .a, .a, .a, .a, .a, .b true, .b false, .a, .a, .a, .a, .a, .a, .a, .a, .a, .a, .a] : List Dec), _, by kernel_rfl, g14⟩
            · have g12 := g10.2 h12
              rcases Bool.eq_false_or_eq_true (eqF [none, some .u32, some .u32, some .i64] [.v (.bool y), .v (.int .u32 q), .v (.int .u32 u), .v (.int .i64 t)] [.v (.bool y), .v (.int .u32 q), .v (.int .u32 u), .v (.int .i64 t)]) with h14 | h14
              · have g14 := g12.1 h14
                exact ⟨([.b false, .a, .a, .a, .b false, .a, .a, .a, .b false, .a, .a, .a, .b false, .b false, .b false, .a, .a, .a, .a, .a, .a, .a, .b false, .a, .a, .a, .b true, .a, .a, .a, .a, .a, .b true, .b true, .a, .a, .a, .a, .a, .a, .a, .a, .a, .a, .a, .a, .a, .a, .a, .a, .b false, .a, .a, .a, .b true, .a, .a, .a] : List Dec), _, by kernel_rfl, g14⟩
              · have g14 := g12.2 h14
                exact ⟨([.b false, .a, .a, .a, .b false, .a, .a, .a, .b false, .a, .a, .a, .b false, .b false, .b false, .a, .a, .a, .a, .a, .a, .a, .b false, .a, .a, .a, .b true, .a, .a, .a, .a, .a, .b true, .b false, .a, .a, .a, .a, .a, .a, .a, .a, .a, .a, .a] : List Dec), _, by kernel_rfl, g14⟩
theorem aaA (err : Cfg → Int) (c : Cfg) (z : Int) (y : Bool) (q u t : Int) (b : Bool) (dt k st dq du pr cm rd v : Int) (Q : VF → Prop) (H : (((decide (↑(c.np) > Int.ofNat 60)) = true → Q (.c (.v (.bool true)), [], 24, [decide (↑(c.np) > Int.ofNat 60) == true, true], [])) ∧ ((decide (↑(c.np) > Int.ofNat 60)) = false → (((decide (↑(c.ns) > Int.ofNat 60)) = true → Q (.c (.v (.bool true)), [], 28, [decide (↑(c.ns) > Int.ofNat 60) == true, true, decide (↑(c.np) > Int.ofNat 60) == false, true], [])) ∧ ((decide (↑(c.ns) > Int.ofNat 60)) = false → (((decide (↑(c.nb) > Int.ofNat 60)) = true → Q (.c (.v (.bool true)), [], 32, [decide (↑(c.nb) > Int.ofNat 60) == true, true, decide (↑(c.ns) > Int.ofNat 60) == false, true, decide (↑(c.np) > Int.ofNat 60) == false, true], [])) ∧ ((decide (↑(c.nb) > Int.ofNat 60)) = false → (((decide (↑(c.nt) > Int.ofNat 60)) = true → Q (.c (.v (.bool true)), [], 36, [decide (↑(c.nt) > Int.ofNat 60) == true, true, decide (↑(c.nb) > Int.ofNat 60) == false, true, decide (↑(c.ns) > Int.ofNat 60) == false, true, decide (↑(c.np) > Int.ofNat 60) == false, true], [])) ∧ ((decide (↑(c.nt) > Int.ofNat 60)) = false → (((!eqF [none, some .u32, some .u32, some .i64] [.v (.bool y), .v (.int .u32 q), .v (.int .u32 u), .v (.int .i64 (Int.negSucc 99))] [.v (.bool y), .v (.int .u32 q), .v (.int .u32 u), .v (.int .i64 (Int.negSucc 99))]) = true → Q (.c (.v (.bool false)), [], 90000000000000000000000000000000000000051, [(!eqF [none, some .u32, some .u32, some .i64] [.v (.bool y), .v (.int .u32 q), .v (.int .u32 u), .v (.int .i64 (Int.negSucc 99))] [.v (.bool y), .v (.int .u32 q), .v (.int .u32 u), .v (.int .i64 (Int.negSucc 99))]) == true, true, true, true, true, true, true, true, true, true, true, true, true, true, true, true, true, true, true, true, true, true, true, true, true, true, true, true, true, true, true, true, true, true, true, true, true, true, true, true, true, true, true, true, true, true, true, true, true, true, true, true, true, true, true, true, true, true, true, true, true, true, true, true, true, true, true, true, true, true, true, (Int.ofNat 0 != err c) == false, cfgK c, true, true, true, true, true, true, true, cfgK c, decide (c.nb ≤ 9223372036854775807), decide (err c = Int.ofNat 0), true, true, true, true, true, true, decide (↑(c.nt) > Int.ofNat 60) == false, true, decide (↑(c.nb) > Int.ofNat 60) == false, true, decide (↑(c.ns) > Int.ofNat 60) == false, true, decide (↑(c.np) > Int.ofNat 60) == false, true], [])) ∧ ((!eqF [none, some .u32, some .u32, some .i64] [.v (.bool y), .v (.int .u32 q), .v (.int .u32 u), .v (.int .i64 (Int.negSucc 99))] [.v (.bool y), .v (.int .u32 q), .v (.int .u32 u), .v (.int .i64 (Int.negSucc 99))]) = false → (((eqF [none, some .u32, some .u32, some .i64] [.v (.bool (tkB c z y q b k st dq pr cm rd || y)), .v (.int .u32 (tkI (tkB c z y q b k st dq pr cm rd) dq q)), .v (.int .u32 (tkI (tkB c z y q b k st dq pr cm rd) du u)), .v (.int .i64 (tkI (tkB c z y q b k st dq pr cm rd) rd t))] [.v (.bool (tkB c z y q b k st dq pr cm rd || y)), .v (.int .u32 (tkI (tkB c z y q b k st dq pr cm rd) dq q)), .v (.int .u32 (tkI (tkB c z y q b k st dq pr cm rd) du u)), .v (.int .i64 (tkI (tkB c z y q b k st dq pr cm rd) rd t))]) = true → (((tkB c z y q b k st dq pr cm rd == tkB c z y q b k st dq pr cm rd) = true → (((ouV c z y u t v == ouV c z y u t v) = true → Q (.c (.v (.bool true)), [], 640000000000000000000000000000000000000068, [(ouV c z y u t v == ouV c z y u t v) == true, cfgK c, couQ (CfgS.mk c [.c (.v (.int .i64 z)), .agg [.v (.bool y), .v (.int .u32 q), .v (.int .u32 u), .v (.int .i64 t)], .c (.v (.int .i64 v))]), true, true, true, true, true, true, true, true, true, true, true, true, true, true, true, true, true, true, true, true, true, true, true, true, true, true, true, true, true, netK c (Int.toNat (c.nodes)) (pairF c (2 * c.np)), nouQ (NetS.mk c (Int.toNat (c.nodes)) (pairF c (2 * c.np)) [.c (.v (.int .i64 z)), .agg [.v (.bool y), .v (.int .u32 q), .v (.int .u32 u), .v (.int .i64 t)], .c (.v (.int .i64 v))]), true, true, true, true, true, true, true, true, true, (tkB c z y q b k st dq pr cm rd == tkB c z y q b k st dq pr cm rd) == true, eqF [none, some .u32, some .u32, some .i64] [.v (.bool (tkB c z y q b k st dq pr cm rd || y)), .v (.int .u32 (tkI (tkB c z y q b k st dq pr cm rd) dq q)), .v (.int .u32 (tkI (tkB c z y q b k st dq pr cm rd) du u)), .v (.int .i64 (tkI (tkB c z y q b k st dq pr cm rd) rd t))] [.v (.bool (tkB c z y q b k st dq pr cm rd || y)), .v (.int .u32 (tkI (tkB c z y q b k st dq pr cm rd) dq q)), .v (.int .u32 (tkI (tkB c z y q b k st dq pr cm rd) du u)), .v (.int .i64 (tkI (tkB c z y q b k st dq pr cm rd) rd t))] == true, true, true, true, true, true, true, true, true, true, true, true, true, true, true, true, true, true, true, true, true, true, true, true, true, true, true, true, true, true, true, true, true, true, cfgK c, true, true, true, true, true, true, true, true, true, true, true, true, true, true, true, true, true, true, true, true, true, true, true, true, true, true, true, true, true, true, true, true, true, true, true, true, true, true, true, true, true, true, netK c (Int.toNat (c.nodes)) (pairF c (2 * c.np)), ntkQ (NetS.mk c (Int.toNat (c.nodes)) (pairF c (2 * c.np)) [.c (.v (.int .i64 z)), .agg [.v (.bool y), .v (.int .u32 q), .v (.int .u32 u), .v (.int .i64 t)], .agg [.v (.bool b), .v (.int .i64 dt), .v (.int .u8 k), .v (.int .u8 st), .v (.int .u32 dq), .v (.int .u32 du), .v (.int .i64 pr), .v (.int .i64 cm), .v (.int .i64 rd)]]), true, true, true, true, true, true, true, true, true, true, true, true, true, true, true, true, true, true, true, true, true, true, true, true, true, true, true, true, (!eqF [none, some .u32, some .u32, some .i64] [.v (.bool y), .v (.int .u32 q), .v (.int .u32 u), .v (.int .i64 (Int.negSucc 99))] [.v (.bool y), .v (.int .u32 q), .v (.int .u32 u), .v (.int .i64 (Int.negSucc 99))]) == false, true, true, true, true, true, true, true, true, true, true, true, true, true, true, true, true, true, true, true, true, true, true, true, true, true, true, true, true, true, true, true, true, true, true, true, true, true, true, true, true, true, true, true, true, true, true, true, true, true, true, true, true, true, true, true, true, true, true, true, true, true, true, true, true, true, true, true, true, true, true, (Int.ofNat 0 != err c) == false, cfgK c, true, true, true, true, true, true, true, cfgK c, decide (c.nb ≤ 9223372036854775807), decide (err c = Int.ofNat 0), true, true, true, true, true, true, decide (↑(c.nt) > Int.ofNat 60) == false, true, decide (↑(c.nb) > Int.ofNat 60) == false, true, decide (↑(c.ns) > Int.ofNat 60) == false, true, decide (↑(c.np) > Int.ofNat 60) == false, true], [])) ∧ ((ouV c z y u t v == ouV c z y u t v) = false → Q (.c (.v (.bool false)), [], 640000000000000000000000000000000000000068, [(ouV c z y u t v == ouV c z y u t v) == false, cfgK c, couQ (CfgS.mk c [.c (.v (.int .i64 z)), .agg [.v (.bool y), .v (.int .u32 q), .v (.int .u32 u), .v (.int .i64 t)], .c (.v (.int .i64 v))]), true, true, true, true, true, true, true, true, true, true, true, true, true, true, true, true, true, true, true, true, true, true, true, true, true, true, true, true, true, netK c (Int.toNat (c.nodes)) (pairF c (2 * c.np)), nouQ (NetS.mk c (Int.toNat (c.nodes)) (pairF c (2 * c.np)) [.c (.v (.int .i64 z)), .agg [.v (.bool y), .v (.int .u32 q), .v (.int .u32 u), .v (.int .i64 t)], .c (.v (.int .i64 v))]), true, true, true, true, true, true, true, true, true, (tkB c z y q b k st dq pr cm rd == tkB c z y q b k st dq pr cm rd) == true, eqF [none, some .u32, some .u32, some .i64] [.v (.bool (tkB c z y q b k st dq pr cm rd || y)), .v (.int .u32 (tkI (tkB c z y q b k st dq pr cm rd) dq q)), .v (.int .u32 (tkI (tkB c z y q b k st dq pr cm rd) du u)), .v (.int .i64 (tkI (tkB c z y q b k st dq pr cm rd) rd t))] [.v (.bool (tkB c z y q b k st dq pr cm rd || y)), .v (.int .u32 (tkI (tkB c z y q b k st dq pr cm rd) dq q)), .v (.int .u32 (tkI (tkB c z y q b k st dq pr cm rd) du u)), .v (.int .i64 (tkI (tkB c z y q b k st dq pr cm rd) rd t))] == true, true, true, true, true, true, true, true, true, true, true, true, true, true, true, true, true, true, true, true, true, true, true, true, true, true, true, true, true, true, true, true, true, true, cfgK c, true, true, true, true, true, true, true, true, true, true, true, true, true, true, true, true, true, true, true, true, true, true, true, true, true, true, true, true, true, true, true, true, true, true, true, true, true, true, true, true, true, true, netK c (Int.toNat (c.nodes)) (pairF c (2 * c.np)), ntkQ (NetS.mk c (Int.toNat (c.nodes)) (pairF c (2 * c.np)) [.c (.v (.int .i64 z)), .agg [.v (.bool y), .v (.int .u32 q), .v (.int .u32 u), .v (.int .i64 t)], .agg [.v (.bool b), .v (.int .i64 dt), .v (.int .u8 k), .v (.int .u8 st), .v (.int .u32 dq), .v (.int .u32 du), .v (.int .i64 pr), .v (.int .i64 cm), .v (.int .i64 rd)]]), true, true, true, true, true, true, true, true, true, true, true, true, true, true, true, true, true, true, true, true, true, true, true, true, true, true, true, true, (!eqF [none, some .u32, some .u32, some .i64] [.v (.bool y), .v (.int .u32 q), .v (.int .u32 u), .v (.int .i64 (Int.negSucc 99))] [.v (.bool y), .v (.int .u32 q), .v (.int .u32 u), .v (.int .i64 (Int.negSucc 99))]) == false, true, true, true, true, true, true, true, true, true, true, true, true, true, true, true, true, true, true, true, true, true, true, true, true, true, true, true, true, true, true, true, true, true, true, true, true, true, true, true, true, true, true, true, true, true, true, true, true, true, true, true, true, true, true, true, true, true, true, true, true, true, true, true, true, true, true, true, true, true, true, (Int.ofNat 0 != err c) == false, cfgK c, true, true, true, true, true, true, true, cfgK c, decide (c.nb ≤ 9223372036854775807), decide (err c = Int.ofNat 0), true, true, true, true, true, true, decide (↑(c.nt) > Int.ofNat 60) == false, true, decide (↑(c.nb) > Int.ofNat 60) == false, true, decide (↑(c.ns) > Int.ofNat 60) == false, true, decide (↑(c.np) > Int.ofNat 60) == false, true], [])))) ∧ ((tkB c z y q b k st dq pr cm rd == tkB c z y q b k st dq pr cm rd) = false → Q (.c (.v (.bool false)), [], 640000000000000000000000000000000000000068, [(tkB c z y q b k st dq pr cm rd == tkB c z y q b k st dq pr cm rd) == false, eqF [none, some .u32, some .u32, some .i64] [.v (.bool (tkB c z y q b k st dq pr cm rd || y)), .v (.int .u32 (tkI (tkB c z y q b k st dq pr cm rd) dq q)), .v (.int .u32 (tkI (tkB c z y q b k st dq pr cm rd) du u)), .v (.int .i64 (tkI (tkB c z y q b k st dq pr cm rd) rd t))] [.v (.bool (tkB c z y q b k st dq pr cm rd || y)), .v (.int .u32 (tkI (tkB c z y q b k st dq pr cm rd) dq q)), .v (.int .u32 (tkI (tkB c z y q b k st dq pr cm rd) du u)), .v (.int .i64 (tkI (tkB c z y q b k st dq pr cm rd) rd t))] == true, true, true, true, true, true, true, true, true, true, true, true, true, true, true, true, true, true, true, true, true, true, true, true, true, true, true, true, true, true, true, true, true, true, cfgK c, true, true, true, true, true, true, true, true, true, true, true, true, true, true, true, true, true, true, true, true, true, true, true, true, true, true, true, true, true, true, true, true, true, true, true, true, true, true, true, true, true, true, netK c (Int.toNat (c.nodes)) (pairF c (2 * c.np)), ntkQ (NetS.mk c (Int.toNat (c.nodes)) (pairF c (2 * c.np)) [.c (.v (.int .i64 z)), .agg [.v (.bool y), .v (.int .u32 q), .v (.int .u32 u), .v (.int .i64 t)], .agg [.v (.bool b), .v (.int .i64 dt), .v (.int .u8 k), .v (.int .u8 st), .v (.int .u32 dq), .v (.int .u32 du), .v (.int .i64 pr), .v (.int .i64 cm), .v (.int .i64 rd)]]), true, true, true, true, true, true, true, true, true, true, true, true, true, true, true, true, true, true, true, true, true, true, true, true, true, true, true, true, (!eqF [none, some .u32, some .u32, some .i64] [.v (.bool y), .v (.int .u32 q), .v (.int .u32 u), .v (.int .i64 (Int.negSucc 99))] [.v (.bool y), .v (.int .u32 q), .v (.int .u32 u), .v (.int .i64 (Int.negSucc 99))]) == false, true, true, true, true, true, true, true, true, true, true, true, true, true, true, true, true, true, true, true, true, true, true, true, true, true, true, true, true, true, true, true, true, true, true, true, true, true, true, true, true, true, true, true, true, true, true, true, true, true, true, true, true, true, true, true, true, true, true, true, true, true, true, true, true, true, true, true, true, true, true, (Int.ofNat 0 != err c) == false, cfgK c, true, true, true, true, true, true, true, cfgK c, decide (c.nb ≤ 9223372036854775807), decide (err c = Int.ofNat 0), true, true, true, true, true, true, decide (↑(c.nt) > Int.ofNat 60) == false, true, decide (↑(c.nb) > Int.ofNat 60) == false, true, decide (↑(c.ns) > Int.ofNat 60) == false, true, decide (↑(c.np) > Int.ofNat 60) == false, true], [])))) ∧ ((eqF [none, some .u32, some .u32, some .i64] [.v (.bool (tkB c z y q b k st dq pr cm rd || y)), .v (.int .u32 (tkI (tkB c z y q b k st dq pr cm rd) dq q)), .v (.int .u32 (tkI (tkB c z y q b k st dq pr cm rd) du u)), .v (.int .i64 (tkI (tkB c z y q b k st dq pr cm rd) rd t))] [.v (.bool (tkB c z y q b k st dq pr cm rd || y)), .v (.int .u32 (tkI (tkB c z y q b k st dq pr cm rd) dq q)), .v (.int .u32 (tkI (tkB c z y q b k st dq pr cm rd) du u)), .v (.int .i64 (tkI (tkB c z y q b k st dq pr cm rd) rd t))]) = false → Q (.c (.v (.bool false)), [], 640000000000000000000000000000000000000068, [eqF [none, some .u32, some .u32, some .i64] [.v (.bool (tkB c z y q b k st dq pr cm rd || y)), .v (.int .u32 (tkI (tkB c z y q b k st dq pr cm rd) dq q)), .v (.int .u32 (tkI (tkB c z y q b k st dq pr cm rd) du u)), .v (.int .i64 (tkI (tkB c z y q b k st dq pr cm rd) rd t))] [.v (.bool (tkB c z y q b k st dq pr cm rd || y)), .v (.int .u32 (tkI (tkB c z y q b k st dq pr cm rd) dq q)), .v (.int .u32 (tkI (tkB c z y q b k st dq pr cm rd) du u)), .v (.int .i64 (tkI (tkB c z y q b k st dq pr cm rd) rd t))] == false, true, true, true, true, true, true, true, true, true, true, true, true, true, true, true, true, true, true, true, true, true, true, true, true, true, true, true, true, true, true, true, true, true, cfgK c, true, true, true, true, true, true, true, true, true, true, true, true, true, true, true, true, true, true, true, true, true, true, true, true, true, true, true, true, true, true, true, true, true, true, true, true, true, true, true, true, true, true, netK c (Int.toNat (c.nodes)) (pairF c (2 * c.np)), ntkQ (NetS.mk c (Int.toNat (c.nodes)) (pairF c (2 * c.np)) [.c (.v (.int .i64 z)), .agg [.v (.bool y), .v (.int .u32 q), .v (.int .u32 u), .v (.int .i64 t)], .agg [.v (.bool b), .v (.int .i64 dt), .v (.int .u8 k), .v (.int .u8 st), .v (.int .u32 dq), .v (.int .u32 du), .v (.int .i64 pr), .v (.int .i64 cm), .v (.int .i64 rd)]]), true, true, true, true, true, true, true, true, true, true, true, true, true, true, true, true, true, true, true, true, true, true, true, true, true, true, true, true, (!eqF [none, some .u32, some .u32, some .i64] [.v (.bool y), .v (.int .u32 q), .v (.int .u32 u), .v (.int .i64 (Int.negSucc 99))] [.v (.bool y), .v (.int .u32 q), .v (.int .u32 u), .v (.int .i64 (Int.negSucc 99))]) == false, true, true, true, true, true, true, true, true, true, true, true, true, true, true, true, true, true, true, true, true, true, true, true, true, true, true, true, true, true, true, true, true, true, true, true, true, true, true, true, true, true, true, true, true, true, true, true, true, true, true, true, true, true, true, true, true, true, true, true, true, true, true, true, true, true, true, true, true, true, true, (Int.ofNat 0 != err c) == false, cfgK c, true, true, true, true, true, true, true, cfgK c, decide (c.nb ≤ 9223372036854775807), decide (err c = Int.ofNat 0), true, true, true, true, true, true, decide (↑(c.nt) > Int.ofNat 60) == false, true, decide (↑(c.nb) > Int.ofNat 60) == false, true, decide (↑(c.ns) > Int.ofNat 60) == false, true, decide (↑(c.np) > Int.ofNat 60) == false, true], [])))))))))))))) :
    ∃ p r, lwR (ENl0 Tryd.prog err ctsAa) 6 mS c [trA z y q u t b dt k st dq du pr cm rd v] p [] = some r ∧ Q r := by
  rcases Bool.eq_false_or_eq_true (decide (↑(c.np) > Int.ofNat 60)) with h2 | h2
  · have g2 := H.1 h2
    exact ⟨([.b true, .a, .a, .a, .a, .a, .a, .a, .a, .a, .a, .a, .a] : List Dec), _, by kernel_rfl, g2⟩
  · have g2 := H.2 h2
    rcases Bool.eq_false_or_eq_true (decide (↑(c.ns) > Int.ofNat 60)) with h4 | h4
    · have g4 := g2.1 h4
      exact ⟨([.b false, .a, .a, .a, .b true, .a, .a, .a, .a, .a, .a, .a, .a] : List Dec), _, by kernel_rfl, g4⟩
    · have g4 := g2.2 h4
      rcases Bool.eq_false_or_eq_true (decide (↑(c.nb) > Int.ofNat 60)) with h6 | h6
      · have g6 := g4.1 h6
        exact ⟨([.b false, .a, .a, .a, .b false, .a, .a, .a, .b true, .a, .a, .a, .a] : List Dec), _, by kernel_rfl, g6⟩
      · have g6 := g4.2 h6
        rcases Bool.eq_false_or_eq_true (decide (↑(c.nt) > Int.ofNat 60)) with h8 | h8
        · have g8 := g6.1 h8
          exact ⟨([.b false, .a, .a, .a, .b false, .a, .a, .a, .b false, .a, .a, .a, .b true] : List Dec), _, by kernel_rfl, g8⟩
        · have g8 := g6.2 h8
          rcases Bool.eq_false_or_eq_true (!eqF [none, some .u32, some .u32, some .i64] [.v (.bool y), .v (.int .u32 q), .v (.int .u32 u), .v (.int .i64 (Int.negSucc 99))] [.v (.bool y), .v (.int .u32 q), .v (.int .u32 u), .v (.int .i64 (Int.negSucc 99))]) with h10 | h10
          · have g10 := g8.1 h10
            exact ⟨([.b false, .a, .a, .a, .b false, .a, .a, .a, .b false, .a, .a, .a, .b false, .b false, .b true] : List Dec), _, by kernel_rfl, g10⟩
          · have g10 := g8.2 h10
            rcases Bool.eq_false_or_eq_true (eqF [none, some .u32, some .u32, some .i64] [.v (.bool (tkB c z y q b k st dq pr cm rd || y)), .v (.int .u32 (tkI (tkB c z y q b k st dq pr cm rd) dq q)), .v (.int .u32 (tkI (tkB c z y q b k st dq pr cm rd) du u)), .v (.int .i64 (tkI (tkB c z y q b k st dq pr cm rd) rd t))] [.v (.bool (tkB c z y q b k st dq pr cm rd || y)), .v (.int .u32 (tkI (tkB c z y q b k st dq pr cm rd) dq q)), .v (.int .u32 (tkI (tkB c z y q b k st dq pr cm rd) du u)), .v (.int .i64 (tkI (tkB c z y q b k st dq pr cm rd) rd t))]) with h12 | h12
            · have g12 := g10.1 h12
              rcases Bool.eq_false_or_eq_true (tkB c z y q b k st dq pr cm rd == tkB c z y q b k st dq pr cm rd) with h14 | h14
              · have g14 := g12.1 h14
                rcases Bool.eq_false_or_eq_true (ouV c z y u t v == ouV c z y u t v) with h16 | h16
                · have g16 := g14.1 h16
                  exact ⟨([.b false, .a, .a, .a, .b false, .a, .a, .a, .b false, .a, .a, .a, .b false, .b false, .b false, .a, .b true, .a, .a, .b true, .a, .a, .a, .a, .a, .a, .a, .a, .a, .a, .a, .a, .a, .a, .a, .a, .a, .b true] : List Dec), _, by kernel_rfl, g16⟩
                · have g16 := g14.2 h16
                  exact ⟨([.b false, .a, .a, .a, .b false, .a, .a, .a, .b false, .a, .a, .a, .b false, .b false, .b false, .a, .b true, .a, .a, .b true, .a, .a, .a, .a, .a, .a, .a, .a, .a, .a, .a, .a, .a, .a, .a, .a, .a, .b false] : List Dec), _, by kernel_rfl, g16⟩
              · have g14 := g12.2 h14
                exact ⟨([.b false, .a, .a, .a, .b false, .a, .a, .a, .b false, .a, .a, .a, .b false, .b false, .b false, .a, .b true, .a, .a, .b false, .a, .a, .a, .a, .a, .a, .a, .a, .a, .a, .a, .a, .a, .a, .a, .a, .a, .a] : List Dec), _, by kernel_rfl, g14⟩
            · have g12 := g10.2 h12
              exact ⟨([.b false, .a, .a, .a, .b false, .a, .a, .a, .b false, .a, .a, .a, .b false, .b false, .b false, .a, .b false, .a, .a, .a, .a, .a, .a, .a, .a, .a, .a, .a, .a, .a, .a, .a, .a, .a, .a, .a, .a, .a] : List Dec), _, by kernel_rfl, g12⟩
end Go.Proofs.YtgfmjbfjodidpaaDoor
end
/- ActuatorsAny: what its runs answer. -/
section
namespace Go.Proofs.YtgfmjbfjodidpaaDoor
open Go.RowKit

theorem eqF_same : ∀ (ks : List (Option IntKind)) (xs : List AC), eqF ks xs xs = true
  | none :: ks, x :: xs => by simp [eqF, eqF_same ks xs]
  | some _ :: ks, x :: xs => by simp [eqF, eqF_same ks xs]
  | [], _ => by simp [eqF]
  | none :: _, [] => by simp [eqF]
  | some _ :: _, [] => by simp [eqF]
theorem good_holds {c : Cfg} (h : cfgErr c = 0) : holdsOk c = true := by
  have h9 := (cfgErr_zero h).2.2.2.2.2.2.2.2.1
  unfold rule9 at h9
  refine List.all_eq_true.2 fun i hi => ?_
  have hz : ruleSt c i = 0 := by
    split at h9
    · rename_i j hj
      have := List.find?_some hj
      rw [h9] at this
      simp at this
    · rename_i hn
      have := List.find?_eq_none.1 hn i hi
      simpa using this
  unfold ruleSt at hz
  split at hz
  · have := withinF_zero hz
    simpa using this
  · cases hz
theorem good_st {c : Cfg} (g : CfgGood c) : stPre c c.nodes.toNat = true := by
  have := g.n4
  have := g.n16
  have := g.p2
  have := g.p8
  have := g.s1
  have := g.s16
  have := g.nt
  have := g.nb
  simp [stPre]
  omega
theorem ntkQ_eq (c : Cfg) (nq : Nat) (fq : Nat → Int) (z : Int) (y : Bool) (q u t : Int) (b : Bool) (dt k st dq du pr cm rd : Int) : ntkQ ⟨c, nq, fq, [.c (.v (.int .i64 z)), .agg [.v (.bool y), .v (.int .u32 q), .v (.int .u32 u), .v (.int .i64 t)], .agg [.v (.bool b), .v (.int .i64 dt), .v (.int .u8 k), .v (.int .u8 st), .v (.int .u32 dq), .v (.int .u32 du), .v (.int .i64 pr), .v (.int .i64 cm), .v (.int .i64 rd)]]⟩ = (stPre c nq && true) := rfl
theorem ctkQ_eq (c : Cfg) (z : Int) (y : Bool) (q u t : Int) (b : Bool) (dt k st dq du pr cm rd : Int) : ctkQ ⟨c, [.c (.v (.int .i64 z)), .agg [.v (.bool y), .v (.int .u32 q), .v (.int .u32 u), .v (.int .i64 t)], .agg [.v (.bool b), .v (.int .i64 dt), .v (.int .u8 k), .v (.int .u8 st), .v (.int .u32 dq), .v (.int .u32 du), .v (.int .i64 pr), .v (.int .i64 cm), .v (.int .i64 rd)]]⟩ = true := rfl
theorem nouQ_eq (c : Cfg) (nq : Nat) (fq : Nat → Int) (z : Int) (y : Bool) (q u t v : Int) : nouQ ⟨c, nq, fq, [.c (.v (.int .i64 z)), .agg [.v (.bool y), .v (.int .u32 q), .v (.int .u32 u), .v (.int .i64 t)], .c (.v (.int .i64 v))]⟩ = (stPre c nq && (holdsOk c && (i64B t && i64B v))) := rfl
theorem couQ_eq (c : Cfg) (z : Int) (y : Bool) (q u t v : Int) : couQ ⟨c, [.c (.v (.int .i64 z)), .agg [.v (.bool y), .v (.int .u32 q), .v (.int .u32 u), .v (.int .i64 t)], .c (.v (.int .i64 v))]⟩ = (holdsOk c && (i64B t && i64B v)) := rfl
theorem i64B_t {z : Int} (h0 : -9223372036854775808 ≤ z) (h1 : z ≤ 9223372036854775807) : i64B z = true := by simp [i64B]; omega
set_option maxRecDepth 1000000 in
theorem aa_run1 (c : Cfg) (z : Int) (y : Bool) (q u t : Int) (b : Bool) (dt k st dq du pr cm rd v : Int) (h0 : cfgErr c ≠ 0) (hb : c.nb ≤ 9223372036854775807) : ∃ p r, lwR (ENl1 Tryd.prog cfgErr ctsAa) 6 mS c [trA z y q u t b dt k st dq du pr cm rd v] p [] = some r ∧ GoodF (bo true) r := by
  refine aaE cfgErr c z y q u t b dt k st dq du pr cm rd v _ ?_
  simp only [↓eqF_same]
  (repeat' (first | refine ⟨fun h => ?_, fun h => ?_⟩ | fail))
  all_goals (first | (exfalso; simp at *; done) | skip)
  all_goals (refine ⟨rfl, (by first | (unfold lim; omega) | (dsimp only; unfold lim; omega)), ?_, by simp⟩)
  all_goals (simp only [allT, List.forall_mem_cons, ↓eqF_same])
  all_goals (first | (simp_all [cfgK_t, netK_t, intsOk_ints, stsOk_sts, intsOk_s, stsOk_s, h0, hb]; done) | (simp_all [cfgK_t, netK_t, intsOk_ints, stsOk_sts, intsOk_s, stsOk_s, h0, hb]; omega))
set_option maxRecDepth 1000000 in
theorem aa_run0 (c : Cfg) (z : Int) (y : Bool) (q u t : Int) (b : Bool) (dt k st dq du pr cm rd v : Int) (h0 : cfgErr c = 0) (hb : c.nb ≤ 9223372036854775807) (t0 : -9223372036854775808 ≤ t) (t1 : t ≤ 9223372036854775807) (v0 : -9223372036854775808 ≤ v) (v1 : v ≤ 9223372036854775807) : ∃ p r, lwR (ENl0 Tryd.prog cfgErr ctsAa) 6 mS c [trA z y q u t b dt k st dq du pr cm rd v] p [] = some r ∧ GoodF (bo true) r := by
  refine aaA cfgErr c z y q u t b dt k st dq du pr cm rd v _ ?_
  have g := cfg_good h0
  have hst := good_st g
  have hho := good_holds h0
  have ht := i64B_t t0 t1
  have hv := i64B_t v0 v1
  simp only [↓eqF_same]
  (repeat' (first | refine ⟨fun h => ?_, fun h => ?_⟩ | fail))
  all_goals (first | (exfalso; simp at *; done) | skip)
  all_goals (refine ⟨rfl, (by first | (unfold lim; omega) | (dsimp only; unfold lim; omega)), ?_, by simp⟩)
  all_goals (simp only [allT, List.forall_mem_cons, ↓eqF_same, ntkQ_eq, ctkQ_eq, nouQ_eq, couQ_eq, hst, hho, ht, hv])
  all_goals (simp_all [cfgK_t, netK_t, intsOk_ints, stsOk_sts, intsOk_s, stsOk_s, h0, hb])
end Go.Proofs.YtgfmjbfjodidpaaDoor
end
