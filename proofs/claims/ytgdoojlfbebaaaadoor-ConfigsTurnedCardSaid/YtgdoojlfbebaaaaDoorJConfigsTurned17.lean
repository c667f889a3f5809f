/- Parts, one behind the other. Laws of a config that came in: from their runs to their calls. -/
import Derived.Test.YtgdoojlfbebaaaaDoorJConfigsTurned16
import Derived.Test.YtgdoojlfbebaaaaDoorJConfigsTurned14
import Derived.Test.YtgdoojlfbebaaaaDoorJConfigsTurned9
import Derived.Test.YtgdoojlfbebaaaaDoorJConfigsTurned10
set_option linter.unusedSimpArgs false
set_option linter.unusedVariables false
/- Laws of a config that came in: from their runs to their calls. -/
section
namespace Go.Proofs.YtgdoojlfbebaaaaDoor
open Go.RowKit
def lwR (E : Env) (f : FuncId) (G : AMem) (c : Cfg) (r : List AV) (path : List Dec) (lp : List (Option LSum)) : Option VF := viewF [] (fCallF E (fC E 300) f (.agg (cfgC c) :: r) 10 10000000000000000000000000000000000000000 (stA (G ++ cfgL c) path lp))
theorem cfg_law {E : Env} (hE : EnvOk E) {f : FuncId} {G : AMem} {w : World} (hG : ∀ p ∈ G, GlobAt w p) {c : Cfg} {cs : List Value} (hc : CfgIn w c cs) {r : List AV} {us : List Value} (hr : ∀ β, γt β r = some us)
 (run : ∃ p lp q, lwR E f G c r p lp = some q ∧ GoodF (bo true) q) : Calls E.P f (.agg cs.toArray :: us).toArray w fun e w' => e = .returned (.bool true) ∧ Below w.heap.size w w' := by
 obtain ⟨p, lp, ⟨v, b', n, ob, po⟩, hrun, hv, hn, hob, hpo⟩ := run
 obtain ⟨s', r1, r2, r3, r4⟩ := viewF_out hrun
 obtain ⟨β, q1, q2, _, q4⟩ := rel_cfgIn hG hc
 have hn : n ≤ lim := hn
 refine (calls_f hE r1 ⟨by rw [r3]; exact hob, by rw [r4]; exact hpo⟩ (C := loneC w) (β := β) (w := w) (vs := .agg cs.toArray :: us) ?_ q1 (fun id h1 h2 => q4 id (by omega) (by omega))).mono ?_
 · simp only [γt, γ1, q2, hr β]
 · rintro e w' ⟨β', u, rfl, _, _, hu, hr'⟩
   simp only at hv
   subst hv
   cases hu
   exact ⟨rfl, below_lone hr'⟩
theorem cfgErr_zero {c : Cfg} (h : cfgErr c = 0) : rule1 c = 0 ∧ rule2 c = 0 ∧ rule3 c = 0 ∧ rule4 c = 0 ∧ rule5 c = 0 ∧ rule6 c = 0 ∧ rule7 c = 0 ∧ rule8 c = 0 ∧ rule9 c = 0 ∧ rule10 c = 0 := by
 unfold cfgErr at h
 generalize rule1 c = x1 at *
 generalize rule2 c = x2 at *
 generalize rule3 c = x3 at *
 generalize rule4 c = x4 at *
 generalize rule5 c = x5 at *
 generalize rule6 c = x6 at *
 generalize rule7 c = x7 at *
 generalize rule8 c = x8 at *
 generalize rule9 c = x9 at *
 generalize rule10 c = x10 at *
 by_cases h1 : x1 = 0 <;> by_cases h2 : x2 = 0 <;> by_cases h3 : x3 = 0 <;> by_cases h4 : x4 = 0 <;> by_cases h5 : x5 = 0 <;> by_cases h6 : x6 = 0 <;> by_cases h7 : x7 = 0 <;> by_cases h8 : x8 = 0 <;> by_cases h9 : x9 = 0 <;> simp_all
end Go.Proofs.YtgdoojlfbebaaaaDoor
end
/- Laws on a net of a config that came in: their contracts. -/
section
namespace Go.Proofs.YtgdoojlfbebaaaaDoor
open Go.RowKit
def ctRef4 (err : Cfg → Int) : CtF := ctCfg (fun c => i64 (err c)) fun _ => true
def ENl0 (P : Program) (err : Cfg → Int) (l : List (FuncId × CtF)) : Env := ⟨P, (11, ctNew0 err) :: (12, ctRef4 err) :: l⟩
def ENl1 (P : Program) (err : Cfg → Int) (l : List (FuncId × CtF)) : Env := ⟨P, (11, ctNew1 err) :: (12, ctRef4 err) :: l⟩
theorem hENl0 {l : List (FuncId × CtF)} (hl : ∀ f g, (f, g) ∈ l → CtOk Tryd.prog f g) : EnvOk (ENl0 Tryd.prog cfgErr l) := by
 refine envOk (fun f g h => ?_) (by kernel_rfl) (by kernel_rfl)
 rcases List.mem_cons.1 h with h | h
 · cases h; exact ct_new0
 rcases List.mem_cons.1 h with h | h
 · cases h; exact ct_ref4
 · exact hl f g h
theorem hENl1 {l : List (FuncId × CtF)} (hl : ∀ f g, (f, g) ∈ l → CtOk Tryd.prog f g) : EnvOk (ENl1 Tryd.prog cfgErr l) := by
 refine envOk (fun f g h => ?_) (by kernel_rfl) (by kernel_rfl)
 rcases List.mem_cons.1 h with h | h
 · cases h; exact ct_new1
 rcases List.mem_cons.1 h with h | h
 · cases h; exact ct_ref4
 · exact hl f g h
end Go.Proofs.YtgdoojlfbebaaaaDoor
end
/- sennitlaw04.wrong: as the evaluator runs it. -/
section
namespace Go.Proofs.YtgdoojlfbebaaaaDoor
open Go.RowKit
def wrR (E : Env) (c : Cfg) (path : List Dec) : Option VF := viewF [] (fCallF E (fC E 300) 9 [.agg (cfgC c)] 1000 10000000000000000000000000000000000000000 (stA (cfgM c) path []))
theorem wrY (err : Cfg → Int) (c : Cfg) (Q : VF → Prop) (H : Q (.c (.v (.int .i64 (Int.ofNat 0))), [], 1016, [cfgK c, decide (c.nb ≤ 9223372036854775807), decide (err c = Int.ofNat 0), true, true, true, true, true, true], [])) :
 ∃ p r, wrR (ENl0 Tryd.prog err []) c p = some r ∧ Q r :=
 ⟨pD 0 0, _, by kernel_rfl, H⟩
theorem wrN (err : Cfg → Int) (c : Cfg) (Q : VF → Prop) (H : Q (.c (.v (.int .i64 (err c))), [], 1010, [cfgK c, decide (c.nb ≤ 9223372036854775807), decide (err c ≠ Int.ofNat 0), true, true, true, true, true, true], [])) :
 ∃ p r, wrR (ENl1 Tryd.prog err []) c p = some r ∧ Q r :=
 ⟨pD 0 0, _, by kernel_rfl, H⟩
def ctWr (err : Cfg → Int) : CtF := ctCfg (fun c => i64 (err c)) fun c => decide (c.nb ≤ 9223372036854775807)
end Go.Proofs.YtgdoojlfbebaaaaDoor
end
/- sennitlaw04.wrong: its contract. -/
section
namespace Go.Proofs.YtgdoojlfbebaaaaDoor
open Go.RowKit
theorem ct_wr : CtOk Tryd.prog 9 (ctWr cfgErr) := by
 refine ctCfg_ofE ⟨_, _, Tryd.func9, rfl⟩ (fun c => plain_i64 _) fun c hp => ?_
 have hp := of_decide_eq_true hp
 by_cases h : cfgErr c = 0
 · refine ⟨ENl0 Tryd.prog cfgErr [], 300, 10000000000000000000000000000000000000000, rfl, hENl0 (fun _ _ h => by cases h), ?_⟩
   refine (?_ : (∃ p q, wrR (ENl0 Tryd.prog cfgErr []) c p = some q ∧ GoodF (i64 (cfgErr c)) q) → _) (wrY cfgErr c _ ?_)
   · rintro ⟨p, q, h1, h2⟩
     exact ⟨p, [], q, h1, h2⟩
   · refine ⟨by rw [h]; rfl, (by first | (unfold lim; omega) | (dsimp only; unfold lim; omega)), ?_, by simp⟩
     simp [allT, cfgK_t, netK_t, intsOk_ints, stsOk_sts, intsOk_s, stsOk_s, h, hp]
 · refine ⟨ENl1 Tryd.prog cfgErr [], 300, 10000000000000000000000000000000000000000, rfl, hENl1 (fun _ _ h => by cases h), ?_⟩
   refine (?_ : (∃ p q, wrR (ENl1 Tryd.prog cfgErr []) c p = some q ∧ GoodF (i64 (cfgErr c)) q) → _) (wrN cfgErr c _ ?_)
   · rintro ⟨p, q, h1, h2⟩
     exact ⟨p, [], q, h1, h2⟩
   · refine ⟨rfl, (by first | (unfold lim; omega) | (dsimp only; unfold lim; omega)), ?_, by simp⟩
     simp [allT, cfgK_t, netK_t, intsOk_ints, stsOk_sts, intsOk_s, stsOk_s, h, hp]
end Go.Proofs.YtgdoojlfbebaaaaDoor
end
/- ConfigsTurned: what it calls. -/
section
namespace Go.Proofs.YtgdoojlfbebaaaaDoor
open Go.RowKit
def ENct (P : Program) (err : Cfg → Int) : Env := ⟨P, [(9, ctWr err), (8, ctTG mS)]⟩
theorem hENct : EnvOk (ENct Tryd.prog cfgErr) := by
 refine envOk (fun f g h => ?_) (by kernel_rfl) (by kernel_rfl)
 simp only [ENct, List.mem_cons, Prod.mk.injEq, List.not_mem_nil, or_false] at h
 rcases h with ⟨rfl, rfl⟩ | ⟨rfl, rfl⟩
 · exact ct_wr
 · exact ctTG_of (E := E1 Tryd.prog) hE1 ⟨_, _, Tryd.func8, rfl⟩ (by kernel_rfl) (by unfold lim; omega) lv04_run
def ctuR (P : Program) (err : Cfg → Int) (c : Cfg) (b : Int) (path : List Dec) (lp : List (Option LSum)) : Option VF := lwR (ENct P err) 3 mS c [.c (.v (.int .u8 b))] path lp
end Go.Proofs.YtgdoojlfbebaaaaDoor
end
/- ConfigsTurned: its loops' rounds as the evaluator runs them. -/
section
namespace Go.Proofs.YtgdoojlfbebaaaaDoor
open Go.RowKit
abbrev tvI : List Nat := [gid 0, 0, 1, 2, 3, 10]
abbrev tvK (c : Cfg) : List ABlk := [signB, ints 3 c.np c.fp, ints 3 c.ns c.fs, ints 3 c.nb c.fb, sts c.nt c.ft, cfgB c]
abbrev tvN (m : Nat) (f : Nat → Int) : ABlk := wBlk 3 1 m fun i => [.int .i64 (f i)]
/-! such pairs as the law asks -/
abbrev tvAV (b : Int) (k : Nat) : List AV := [.c (.v (.int .u8 b)), .c (.ptr 10 0 0), i64 (Int.ofNat k)]
def tvAR (P : Program) (err : Cfg → Int) (c : Cfg) (b : Int) (k : Nat) (path : List Dec) : Option VC :=
 view ([1, 2, 5] ++ [4]) tvI (fC (ENct P err) 100 (loopAt P 3 0) 1000000000000000000000000000000000000000000 10000000000000000000000000000000000000000 (stH 193 [1, 2, 5] tvI (tvAV b k) (tvK c) path []))
/-! those that come round -/
abbrev tvGL : Nat := 100000000000000000000000000000000000000000000000020
abbrev tvGO : Nat := 100000000000000000000000000000000000000000000000021
abbrev tvBH : List Nat := [2, 6, 7, 8, 9, 10]
abbrev tvBV (s : Int) (m k : Nat) : List AV := [.c (.ptr 10 0 0), i64 s, .c (.sl tvGL 0 0 m none), .c (.v (.slice none 0 0)), .c (.sl tvGO 0 0 m none), i64 (Int.ofNat k)]
def tvBR (P : Program) (c : Cfg) (s : Int) (m : Nat) (f g : Nat → Int) (k : Nat) (path : List Dec) : Option VC :=
 view tvBH ([tvGL, tvGO, 1000000000220000000000000000000000000000000000000005, 1000000000220000000000000000000000000000000000000010] ++ tvI) (fC (E1 P) 100 (loopAt P 3 1) 1000000000000000000000000000000000000000000000000000 10000000000000000000000000000000000000000 (stH 193 tvBH ([tvGL, tvGO] ++ tvI) (tvBV s m k) ([tvN m f, tvN m g] ++ tvK c) path []))
/-! those that do not -/
abbrev tvGH : Nat := 10000000000000000000000000000000000000000000000000020
abbrev tvGP : Nat := 10000000000000000000000000000000000000000000000000021
abbrev tvCH : List Nat := [2, 6, 7, 8, 9, 11]
abbrev tvCV (s : Int) (l m q k : Nat) : List AV := [.c (.ptr 10 0 0), i64 s, .c (.sl tvGL 0 0 l none), .c (.sl tvGH 0 0 m none), .c (.sl tvGP 0 0 q none), i64 (Int.ofNat k)]
def tvCR (P : Program) (c : Cfg) (s : Int) (l m q : Nat) (f g h : Nat → Int) (k : Nat) (path : List Dec) : Option VC :=
 view tvCH ([tvGH, tvGP, 100000000000100000000000000000000000000000000000000014, 100000000000100000000000000000000000000000000000000019, tvGL] ++ tvI) (fC (E1 P) 100 (loopAt P 3 2) 100000000000000000000000000000000000000000000000000000 10000000000000000000000000000000000000000 (stH 193 tvCH ([tvGH, tvGP, tvGL] ++ tvI) (tvCV s l m q k) ([tvN m g, tvN q h, tvN l f] ++ tvK c) path []))
/-! a slot's new place -/
abbrev tvT : Nat := 1000000000000000000000000000000000000000000000000000001
abbrev tvA : Nat := 1000000000000000000000000000000000000000000000000000005
abbrev tvGD : Nat := 1000000000000000000000000000000000000000000000000000020
abbrev tvTL (c : Cfg) (o l m : Nat) : List AC := [.v (.int .i64 c.nodes), .sl tvA 0 0 l none, .sl o 0 0 m none, .v (.int .i64 c.long), .sl 2 0 0 c.nb none, .sl 3 0 0 c.nt none, .v (.int .i64 c.miss), .v (.int .i64 c.good), .v (.int .i64 c.fresh)]
abbrev tvTB (c : Cfg) (l m : Nat) : ABlk := ⟨true, false, 25, 0, .lit (tvTL c tvGD l m)⟩
abbrev tvDJ : List Nat := tvI ++ [tvGP, tvA]
abbrev tvDI : List Nat := tvT :: tvDJ
abbrev tvDL (c : Cfg) (l : Nat) (f h : Nat → Int) : List ABlk := tvK c ++ [tvN l h, tvN l f]
abbrev tvDK (c : Cfg) (l m : Nat) (f h : Nat → Int) : List ABlk := tvTB c l m :: tvDL c l f h
abbrev tvEH : List Nat := [2, 9, 12, 13, 14, 15]
abbrev tvEV (l i k : Nat) (z : Int) : List AV := [.c (.ptr 10 0 0), .c (.sl tvGP 0 0 l none), .c (.ptr tvT 0 0), i64 (Int.ofNat i), i64 z, i64 (Int.ofNat k)]
def tvER (P : Program) (c : Cfg) (l m : Nat) (f h g : Nat → Int) (i k : Nat) (z : Int) (path : List Dec) : Option VC :=
 view tvEH (tvGD :: tvDI) (fC (E1 P) 100 (loopAt P 3 4) 100000000000000000000000000000000000000000000000000000000 10000000000000000000000000000000000000000 (stH 193 tvEH (tvGD :: tvDI) (tvEV l i k z) (tvN m g :: tvDK c l m f h) path []))
abbrev tvDH : List Nat := [2, 9, 12, 13]
abbrev tvDV (l i : Nat) : List AV := [.c (.ptr 10 0 0), .c (.sl tvGP 0 0 l none), .c (.ptr tvT 0 0), i64 (Int.ofNat i)]
abbrev tvEO (l i : Nat) (z : Int) : List (Nat × AV) := [(2, .c (.ptr 10 0 0)), (9, .c (.sl tvGP 0 0 l none)), (12, .c (.ptr tvT 0 0)), (13, i64 (Int.ofNat i)), (14, i64 z)]
abbrev tvES (c : Cfg) (l m : Nat) (f h g : Nat → Int) (i : Nat) (z : Int) : LSum := ⟨tvEH, tvGD :: tvDI, mkFr 193 (tvEO l i z), (tvGD :: tvDI).zip (tvN m g :: tvDK c l m f h), 1000000000000000000000000000000000000000000000000000000000, .exit 8⟩
def tvDR (P : Program) (c : Cfg) (l m : Nat) (f h g : Nat → Int) (i : Nat) (path : List Dec) (lp : List (Option LSum)) : Option VC :=
 view tvDH ([tvGD, 1000000000000000000000000000000000000000000000000000000004] ++ tvDI) (fC (E1 P) 100 (loopAt P 3 3) 10000000000000000000000000000000000000000000000000000000 10000000000000000000000000000000000000000 (stH 193 tvDH (tvGD :: tvDI) (tvDV l i) (tvN m g :: tvDK c l m f h) path lp))
/-! the law -/
abbrev tvZ (c : Cfg) (b : Int) : Int := Int.tmod (IntKind.wrap .i64 b) c.nodes
abbrev tvAS (c : Cfg) (b : Int) : LSum := ⟨[1, 2, 5], tvI, mkFr 193 [(1, .c (.v (.int .u8 b))), (2, .c (.ptr 10 0 0))], tvI.zip (tvK c), 100000000000000000000000000000000000000000000000000, .exit 0⟩
abbrev tvAX : LSum := ⟨[1, 2, 5], tvI, mkFr 193 [(4, bo true)], [], 100000000000000000000000000000000000000000000000000, .ret⟩
abbrev tvBO (s : Int) (l : Nat) : List (Nat × AV) := [(2, .c (.ptr 10 0 0)), (6, i64 s), (7, .c (.sl tvGL 0 0 l none)), (8, .c (.v (.slice none 0 0))), (9, .c (.sl tvGO 0 0 l none))]
abbrev tvBM (c : Cfg) (l : Nat) (f g : Nat → Int) : AMem := [tvGL, tvGO].zip [tvN l f, tvN l g] ++ tvI.zip (tvK c)
abbrev tvBS (c : Cfg) (s : Int) (l : Nat) (f g : Nat → Int) : LSum := ⟨tvBH, tvI, mkFr 193 (tvBO s l), tvBM c l f g, 10000000000000000000000000000000000000000000000000000, .exit 2⟩
abbrev tvCO (l m q : Nat) : List (Nat × AV) := [(2, .c (.ptr 10 0 0)), (7, .c (.sl tvGL 0 0 l none)), (8, .c (.sl tvGH 0 0 m none)), (9, .c (.sl tvGP 0 0 q none))]
abbrev tvCM (c : Cfg) (l m q : Nat) (f g h : Nat → Int) : AMem := [tvGH, tvGP].zip [tvN m g, tvN q h] ++ (tvGL :: tvI).zip (tvN l f :: tvK c)
abbrev tvCS (c : Cfg) (l m q : Nat) (f g h : Nat → Int) : LSum := ⟨tvCH, tvGO :: tvGL :: tvI, mkFr 193 (tvCO l m q), tvCM c l m q f g h, 1000000000000000000000000000000000000000000000000000000, .exit 4⟩
abbrev tvDO : List (Nat × AV) := [(2, .c (.ptr 10 0 0)), (12, .c (.ptr tvT 0 0))]
abbrev tvDM (c : Cfg) (l : Nat) (f h g : Nat → Int) : AMem := [tvGD, tvT].zip [tvN c.ns g, tvTB c l c.ns] ++ tvDJ.zip (tvDL c l f h)
abbrev tvDS (c : Cfg) (l : Nat) (f h g : Nat → Int) : LSum := ⟨tvDH, tvDI, mkFr 193 tvDO, tvDM c l f h g, 10000000000000000000000000000000000000000000000000000000000, .exit 6⟩
end Go.Proofs.YtgdoojlfbebaaaaDoor
end
/- ConfigsTurned as the evaluator runs it. -/
section
namespace Go.Proofs.YtgdoojlfbebaaaaDoor
open Go.RowKit
theorem twA (err : Cfg → Int) (c : Cfg) (b : Int) (k : Nat) (Q : VC → Prop) (H : let zz1 := (ABlk.mk false false 3 1 (Cs.arr (Cfg.np c) fun k => List.map AC.v ((fun i => [Value.int IntKind.i64 (Cfg.fp c i)]) k))); let zz0 := [some (ABlk.mk false false 139 0 (Cs.lit [AC.v (Value.int IntKind.i64 (Int.ofNat 1)), AC.v (Value.int IntKind.i64 (Int.negSucc 0))])), some zz1, some (ABlk.mk false false 3 1 (Cs.arr (Cfg.ns c) fun k => List.map AC.v ((fun i => [Value.int IntKind.i64 (Cfg.fs c i)]) k))), some (ABlk.mk false false 3 1 (Cs.arr (Cfg.nb c) fun k => List.map AC.v ((fun i => [Value.int IntKind.i64 (Cfg.fb c i)]) k))), some (ABlk.mk false false 91 3 (Cs.arr (Cfg.nt c) fun k => List.map AC.v ((fun i => [Value.int IntKind.i64 (Station.node (Cfg.ft c i)), Value.int IntKind.u32 (Station.safe (Cfg.ft c i)), Value.int IntKind.i64 (Station.hold (Cfg.ft c i))]) k))), some (ABlk.mk true false 25 0 (Cs.lit [AC.v (Value.int IntKind.i64 (Cfg.nodes c)), AC.sl 0 0 0 (Cfg.np c) none, AC.sl 1 0 0 (Cfg.ns c) none, AC.v (Value.int IntKind.i64 (Cfg.long c)), AC.sl 2 0 0 (Cfg.nb c) none, AC.sl 3 0 0 (Cfg.nt c) none, AC.v (Value.int IntKind.i64 (Cfg.miss c)), AC.v (Value.int IntKind.i64 (Cfg.good c)), AC.v (Value.int IntKind.i64 (Cfg.fresh c))]))]; let zz2 := (Cfg.fp c (0 + Int.toNat (Int.ofNat k)) ≤ Cfg.fp c (0 + Int.toNat (IntKind.wrap IntKind.i64 (Int.ofNat k - Int.ofNat 1)))); let zz3 := [some (lkA (List.zip [1, 2, 5] (tvAV b k)) 1), some (lkA (List.zip [1, 2, 5] (tvAV b k)) 2), some (lkA (List.zip [1, 2, 5] (tvAV b k)) 5), some (AV.c (AC.v (Value.bool true)))]; let zz4 := (Cfg.fp c (0 + Int.toNat (Int.ofNat k)) < Int.ofNat 0); let zz5 := (Cfg.fp c (0 + Int.toNat (Int.ofNat k)) ≥ Cfg.nodes c); let zz6 := [some (lkA (List.zip [1, 2, 5] (tvAV b k)) 1), some (lkA (List.zip [1, 2, 5] (tvAV b k)) 2), some (AV.c (AC.v (Value.int IntKind.i64 (IntKind.wrap IntKind.i64 (Int.ofNat k + Int.ofNat 1))))), some (lkA (List.zip [1, 2, 5] (tvAV b k)) 4)]; let zq0 : List Bool := [true]; let zq1 : List Bool := (ABlk.inb zz1 (0 + Int.toNat (Int.ofNat k)) 1) :: true :: (decide (Int.ofNat 0 ≤ Int.ofNat k ∧ Int.ofNat k < ↑(c.np))) :: true :: (decide (Int.ofNat k < ↑(c.np)) == true) :: zq0; let zq2 : List Bool := true :: true :: (ABlk.inb zz1 (0 + Int.toNat (Int.ofNat k)) 1) :: true :: (decide (Int.ofNat 0 ≤ Int.ofNat k ∧ Int.ofNat k < ↑(c.np))) :: true :: (decide zz4 == false) :: zq1; let zq3 : List Bool := (decide zz5 == false) :: zq2; let zq4 : List Bool := (ABlk.inb zz1 (0 + Int.toNat (IntKind.wrap .i64 (Int.ofNat k - Int.ofNat 1))) 1) :: true :: (decide (Int.ofNat 0 ≤ IntKind.wrap .i64 (Int.ofNat k - Int.ofNat 1) ∧ IntKind.wrap .i64 (Int.ofNat k - Int.ofNat 1) < ↑(c.np))) :: true :: (ABlk.inb zz1 (0 + Int.toNat (Int.ofNat k)) 1) :: true :: (decide (Int.ofNat 0 ≤ Int.ofNat k ∧ Int.ofNat k < ↑(c.np))) :: true :: (decide (Int.ofNat k > Int.ofNat 0) == true) :: zq3; (((decide (Int.ofNat k < ↑(c.np))) = true → (((decide zz4) = true → Q (Exit.ret, zz3, zz0, 193, 1340000000000000000000000000000000000000006, ((decide zz4 == true) :: zq1), [])) ∧ ((decide zz4) = false → (((decide zz5) = true → Q (Exit.ret, zz3, zz0, 193, 1340000000000000000000000000000000000000006, ((decide zz5 == true) :: zq2), [])) ∧ ((decide zz5) = false → (((decide (Int.ofNat k > Int.ofNat 0)) = true → (((decide zz2) = true → Q (Exit.ret, zz3, zz0, 193, 1340000000000000000000000000000000000000006, ((decide zz2 == true) :: zq4), [])) ∧ ((decide zz2) = false → Q (Exit.normal, zz6, zz0, 193, 1340000000000000000000000000000000000000008, ((decide zz2 == false) :: zq4), [])))) ∧ ((decide (Int.ofNat k > Int.ofNat 0)) = false → Q (Exit.normal, zz6, zz0, 193, 1340000000000000000000000000000000000000008, ((decide (Int.ofNat k > Int.ofNat 0) == false) :: zq3), [])))))))) ∧ ((decide (Int.ofNat k < ↑(c.np))) = false → Q (Exit.exit 0, [some (lkA (List.zip [1, 2, 5] (tvAV b k)) 1), some (lkA (List.zip [1, 2, 5] (tvAV b k)) 2), some (lkA (List.zip [1, 2, 5] (tvAV b k)) 5), some (lkA (List.zip [1, 2, 5] (tvAV b k)) 4)], zz0, 193, 1000000000000000000000000000000000000000005, ((decide (Int.ofNat k < ↑(c.np)) == false) :: zq0), [])))) :
 ∃ p r, tvAR Tryd.prog err c b k p = some r ∧ Q r :=
 two H
 (fun g1 => two g1
  (fun g2 => ⟨pD 14 4, _, by kernel_rfl, g2⟩)
  (fun g2 => two g2
   (fun g3 => ⟨pD 14 19690, _, by kernel_rfl, g3⟩)
   (fun g3 => two g3
    (fun g4 => two g4
     (fun g5 => ⟨pD 26 847289180257, _, by kernel_rfl, g5⟩)
     (fun g5 => ⟨pD 26 1694577789700, _, by kernel_rfl, g5⟩))
    (fun g4 => ⟨pD 26 1102255, _, by kernel_rfl, g4⟩))))
 (fun g1 => ⟨pD 1 2, _, by kernel_rfl, g1⟩)
theorem twB (c : Cfg) (s : Int) (m : Nat) (f g : Nat → Int) (k : Nat) (Q : VC → Prop) (H : let zz1 := (ABlk.mk false false 3 1 (Cs.arr (Cfg.np c) fun k => List.map AC.v ((fun i => [Value.int IntKind.i64 (Cfg.fp c i)]) k))); let zz4 := (ABlk.mk false false 91 3 (Cs.arr (Cfg.nt c) fun k => List.map AC.v ((fun i => [Value.int IntKind.i64 (Station.node (Cfg.ft c i)), Value.int IntKind.u32 (Station.safe (Cfg.ft c i)), Value.int IntKind.i64 (Station.hold (Cfg.ft c i))]) k))); let zz2 := (ABlk.mk true false 25 0 (Cs.lit [AC.v (Value.int IntKind.i64 (Cfg.nodes c)), AC.sl 0 0 0 (Cfg.np c) none, AC.sl 1 0 0 (Cfg.ns c) none, AC.v (Value.int IntKind.i64 (Cfg.long c)), AC.sl 2 0 0 (Cfg.nb c) none, AC.sl 3 0 0 (Cfg.nt c) none, AC.v (Value.int IntKind.i64 (Cfg.miss c)), AC.v (Value.int IntKind.i64 (Cfg.good c)), AC.v (Value.int IntKind.i64 (Cfg.fresh c))])); let zz0 := [some (ABlk.mk true true 3 1 (Cs.arr m fun k => List.map AC.v ((fun i => [Value.int IntKind.i64 (f i)]) k))), some (ABlk.mk true true 3 1 (Cs.arr m fun k => List.map AC.v ((fun i => [Value.int IntKind.i64 (g i)]) k))), none, none, some (ABlk.mk false false 139 0 (Cs.lit [AC.v (Value.int IntKind.i64 (Int.ofNat 1)), AC.v (Value.int IntKind.i64 (Int.negSucc 0))])), some zz1, some (ABlk.mk false false 3 1 (Cs.arr (Cfg.ns c) fun k => List.map AC.v ((fun i => [Value.int IntKind.i64 (Cfg.fs c i)]) k))), some (ABlk.mk false false 3 1 (Cs.arr (Cfg.nb c) fun k => List.map AC.v ((fun i => [Value.int IntKind.i64 (Cfg.fb c i)]) k))), some zz4, some zz2]; let zz3 := (IntKind.wrap IntKind.i64 (Cfg.fp c (0 + Int.toNat (Int.ofNat k)) + s) ≥ Cfg.nodes c); (((decide (Int.ofNat k < ↑(c.np))) = true → (((decide zz3) = true → Q (Exit.normal, [some (lkA (List.zip tvBH (tvBV s m k)) 2), some (lkA (List.zip tvBH (tvBV s m k)) 6), some (.c (.sl 1000000000220000000000000000000000000000000000000005 0 0 (m + 1) none)), some (lkA (List.zip tvBH (tvBV s m k)) 8), some (.c (.sl 1000000000220000000000000000000000000000000000000010 0 0 (m + 1) none)), some (.c (.v (.int .i64 (IntKind.wrap .i64 (Int.ofNat k + Int.ofNat 1)))))], [none, none, some (ABlk.mk true true 3 1 (Cs.arr (m + 1) fun i => if i < m then List.map AC.v ((fun i => [Value.int .i64 (f i)]) i) else elt (ABlk.mk true false 3 0 (Cs.lit [.v (.int .i64 (IntKind.wrap .i64 (IntKind.wrap .i64 (c.fp (0 + Int.toNat (Int.ofNat k)) + s) - c.nodes)))])) 0 0 1 (i - m))), some (ABlk.mk true true 3 1 (Cs.arr (m + 1) fun i => if i < m then List.map AC.v ((fun i => [Value.int .i64 (g i)]) i) else elt (ABlk.mk true false 3 0 (Cs.lit [.v (.int .i64 (Int.ofNat k))])) 0 0 1 (i - m))), some (ABlk.mk false false 139 0 (Cs.lit [.v (.int .i64 (Int.ofNat 1)), .v (.int .i64 (Int.negSucc 0))])), some zz1, some (ABlk.mk false false 3 1 (Cs.arr (c.ns) fun k => List.map AC.v ((fun i => [Value.int .i64 (c.fs i)]) k))), some (ABlk.mk false false 3 1 (Cs.arr (c.nb) fun k => List.map AC.v ((fun i => [Value.int .i64 (c.fb i)]) k))), some zz4, some zz2], 193, 1000000000220000000000000000000000000000000000000015, [true, true, decide (m ≤ m), decide ((m + 1) * 8 ≤ 140737488355328), true, true, decide (m ≤ m), decide ((m + 1) * 8 ≤ 140737488355328), true, true, ABlk.inb zz1 (0 + Int.toNat (Int.ofNat k)) 1, true, decide (Int.ofNat 0 ≤ Int.ofNat k ∧ Int.ofNat k < ↑(c.np)), true, decide zz3 == true, true, true, ABlk.inb zz1 (0 + Int.toNat (Int.ofNat k)) 1, true, decide (Int.ofNat 0 ≤ Int.ofNat k ∧ Int.ofNat k < ↑(c.np)), true, decide (Int.ofNat k < ↑(c.np)) == true, true], [])) ∧ ((decide zz3) = false → Q (Exit.normal, [some (lkA (List.zip tvBH (tvBV s m k)) 2), some (lkA (List.zip tvBH (tvBV s m k)) 6), some (lkA (List.zip tvBH (tvBV s m k)) 7), some (lkA (List.zip tvBH (tvBV s m k)) 8), some (lkA (List.zip tvBH (tvBV s m k)) 9), some (.c (.v (.int .i64 (IntKind.wrap .i64 (Int.ofNat k + Int.ofNat 1)))))], zz0, 193, 1000000000100000000000000000000000000000000000000008, [decide zz3 == false, true, true, ABlk.inb zz1 (0 + Int.toNat (Int.ofNat k)) 1, true, decide (Int.ofNat 0 ≤ Int.ofNat k ∧ Int.ofNat k < ↑(c.np)), true, decide (Int.ofNat k < ↑(c.np)) == true, true], [])))) ∧ ((decide (Int.ofNat k < ↑(c.np))) = false → Q (Exit.exit 2, [some (lkA (List.zip tvBH (tvBV s m k)) 2), some (lkA (List.zip tvBH (tvBV s m k)) 6), some (lkA (List.zip tvBH (tvBV s m k)) 7), some (lkA (List.zip tvBH (tvBV s m k)) 8), some (lkA (List.zip tvBH (tvBV s m k)) 9), some (lkA (List.zip tvBH (tvBV s m k)) 10)], zz0, 193, 1000000000000000000000000000000000000000000000000005, [decide (Int.ofNat k < ↑(c.np)) == false, true], [])))) :
 ∃ p r, tvBR Tryd.prog c s m f g k p = some r ∧ Q r :=
 two H
 (fun g1 => two g1
  (fun g2 => ⟨pD 2 4, _, by kernel_rfl, g2⟩)
  (fun g2 => ⟨pD 2 7, _, by kernel_rfl, g2⟩))
 (fun g1 => ⟨pD 1 2, _, by kernel_rfl, g1⟩)
theorem twC (c : Cfg) (s : Int) (l m q : Nat) (f g h : Nat → Int) (k : Nat) (Q : VC → Prop) (H : let zz1 := (ABlk.mk false false 3 1 (Cs.arr (Cfg.np c) fun k => List.map AC.v ((fun i => [Value.int IntKind.i64 (Cfg.fp c i)]) k))); let zz4 := (ABlk.mk false false 91 3 (Cs.arr (Cfg.nt c) fun k => List.map AC.v ((fun i => [Value.int IntKind.i64 (Station.node (Cfg.ft c i)), Value.int IntKind.u32 (Station.safe (Cfg.ft c i)), Value.int IntKind.i64 (Station.hold (Cfg.ft c i))]) k))); let zz2 := (ABlk.mk true false 25 0 (Cs.lit [AC.v (Value.int IntKind.i64 (Cfg.nodes c)), AC.sl 0 0 0 (Cfg.np c) none, AC.sl 1 0 0 (Cfg.ns c) none, AC.v (Value.int IntKind.i64 (Cfg.long c)), AC.sl 2 0 0 (Cfg.nb c) none, AC.sl 3 0 0 (Cfg.nt c) none, AC.v (Value.int IntKind.i64 (Cfg.miss c)), AC.v (Value.int IntKind.i64 (Cfg.good c)), AC.v (Value.int IntKind.i64 (Cfg.fresh c))])); let zz0 := [some (ABlk.mk true true 3 1 (Cs.arr m fun k => List.map AC.v ((fun i => [Value.int IntKind.i64 (g i)]) k))), some (ABlk.mk true true 3 1 (Cs.arr q fun k => List.map AC.v ((fun i => [Value.int IntKind.i64 (h i)]) k))), none, none, some (ABlk.mk true true 3 1 (Cs.arr l fun k => List.map AC.v ((fun i => [Value.int IntKind.i64 (f i)]) k))), some (ABlk.mk false false 139 0 (Cs.lit [AC.v (Value.int IntKind.i64 (Int.ofNat 1)), AC.v (Value.int IntKind.i64 (Int.negSucc 0))])), some zz1, some (ABlk.mk false false 3 1 (Cs.arr (Cfg.ns c) fun k => List.map AC.v ((fun i => [Value.int IntKind.i64 (Cfg.fs c i)]) k))), some (ABlk.mk false false 3 1 (Cs.arr (Cfg.nb c) fun k => List.map AC.v ((fun i => [Value.int IntKind.i64 (Cfg.fb c i)]) k))), some zz4, some zz2]; let zz3 := (IntKind.wrap IntKind.i64 (Cfg.fp c (0 + Int.toNat (Int.ofNat k)) + s) < Cfg.nodes c); (((decide (Int.ofNat k < ↑(c.np))) = true → (((decide zz3) = true → Q (Exit.normal, [some (lkA (List.zip tvCH (tvCV s l m q k)) 2), some (lkA (List.zip tvCH (tvCV s l m q k)) 6), some (lkA (List.zip tvCH (tvCV s l m q k)) 7), some (.c (.sl 100000000000100000000000000000000000000000000000000014 0 0 (m + 1) none)), some (.c (.sl 100000000000100000000000000000000000000000000000000019 0 0 (q + 1) none)), some (.c (.v (.int .i64 (IntKind.wrap .i64 (Int.ofNat k + Int.ofNat 1)))))], [none, none, some (ABlk.mk true true 3 1 (Cs.arr (m + 1) fun i => if i < m then List.map AC.v ((fun i => [Value.int .i64 (g i)]) i) else elt (ABlk.mk true false 3 0 (Cs.lit [.v (.int .i64 (IntKind.wrap .i64 (c.fp (0 + Int.toNat (Int.ofNat k)) + s)))])) 0 0 1 (i - m))), some (ABlk.mk true true 3 1 (Cs.arr (q + 1) fun i => if i < q then List.map AC.v ((fun i => [Value.int .i64 (h i)]) i) else elt (ABlk.mk true false 3 0 (Cs.lit [.v (.int .i64 (Int.ofNat k))])) 0 0 1 (i - q))), some (ABlk.mk true true 3 1 (Cs.arr l fun k => List.map AC.v ((fun i => [Value.int .i64 (f i)]) k))), some (ABlk.mk false false 139 0 (Cs.lit [.v (.int .i64 (Int.ofNat 1)), .v (.int .i64 (Int.negSucc 0))])), some zz1, some (ABlk.mk false false 3 1 (Cs.arr (c.ns) fun k => List.map AC.v ((fun i => [Value.int .i64 (c.fs i)]) k))), some (ABlk.mk false false 3 1 (Cs.arr (c.nb) fun k => List.map AC.v ((fun i => [Value.int .i64 (c.fb i)]) k))), some zz4, some zz2], 193, 100000000000100000000000000000000000000000000000000024, [true, true, decide (q ≤ q), decide ((q + 1) * 8 ≤ 140737488355328), true, true, decide (m ≤ m), decide ((m + 1) * 8 ≤ 140737488355328), ABlk.inb zz1 (0 + Int.toNat (Int.ofNat k)) 1, true, decide (Int.ofNat 0 ≤ Int.ofNat k ∧ Int.ofNat k < ↑(c.np)), true, decide zz3 == true, true, true, ABlk.inb zz1 (0 + Int.toNat (Int.ofNat k)) 1, true, decide (Int.ofNat 0 ≤ Int.ofNat k ∧ Int.ofNat k < ↑(c.np)), true, decide (Int.ofNat k < ↑(c.np)) == true, true], [])) ∧ ((decide zz3) = false → Q (Exit.normal, [some (lkA (List.zip tvCH (tvCV s l m q k)) 2), some (lkA (List.zip tvCH (tvCV s l m q k)) 6), some (lkA (List.zip tvCH (tvCV s l m q k)) 7), some (lkA (List.zip tvCH (tvCV s l m q k)) 8), some (lkA (List.zip tvCH (tvCV s l m q k)) 9), some (.c (.v (.int .i64 (IntKind.wrap .i64 (Int.ofNat k + Int.ofNat 1)))))], zz0, 193, 100000000000100000000000000000000000000000000000000008, [decide zz3 == false, true, true, ABlk.inb zz1 (0 + Int.toNat (Int.ofNat k)) 1, true, decide (Int.ofNat 0 ≤ Int.ofNat k ∧ Int.ofNat k < ↑(c.np)), true, decide (Int.ofNat k < ↑(c.np)) == true, true], [])))) ∧ ((decide (Int.ofNat k < ↑(c.np))) = false → Q (Exit.exit 4, [some (lkA (List.zip tvCH (tvCV s l m q k)) 2), some (lkA (List.zip tvCH (tvCV s l m q k)) 6), some (lkA (List.zip tvCH (tvCV s l m q k)) 7), some (lkA (List.zip tvCH (tvCV s l m q k)) 8), some (lkA (List.zip tvCH (tvCV s l m q k)) 9), some (lkA (List.zip tvCH (tvCV s l m q k)) 11)], zz0, 193, 100000000000000000000000000000000000000000000000000005, [decide (Int.ofNat k < ↑(c.np)) == false, true], [])))) :
 ∃ p r, tvCR Tryd.prog c s l m q f g h k p = some r ∧ Q r :=
 two H
 (fun g1 => two g1
  (fun g2 => ⟨pD 2 4, _, by kernel_rfl, g2⟩)
  (fun g2 => ⟨pD 2 7, _, by kernel_rfl, g2⟩))
 (fun g1 => ⟨pD 1 2, _, by kernel_rfl, g1⟩)
theorem twE (c : Cfg) (l m : Nat) (f h g : Nat → Int) (i k : Nat) (z : Int) (Q : VC → Prop) (H : let zz1 := (ABlk.mk false false 3 1 (Cs.arr (Cfg.ns c) fun k => List.map AC.v ((fun i => [Value.int IntKind.i64 (Cfg.fs c i)]) k))); let zz3 := (ABlk.mk true true 3 1 (Cs.arr l fun k => List.map AC.v ((fun i => [Value.int IntKind.i64 (h i)]) k))); let zz0 := [some (ABlk.mk true true 3 1 (Cs.arr m fun k => List.map AC.v ((fun i => [Value.int IntKind.i64 (g i)]) k))), some (ABlk.mk true false 25 0 (Cs.lit [AC.v (Value.int IntKind.i64 (Cfg.nodes c)), AC.sl 1000000000000000000000000000000000000000000000000000005 0 0 l none, AC.sl 1000000000000000000000000000000000000000000000000000020 0 0 m none, AC.v (Value.int IntKind.i64 (Cfg.long c)), AC.sl 2 0 0 (Cfg.nb c) none, AC.sl 3 0 0 (Cfg.nt c) none, AC.v (Value.int IntKind.i64 (Cfg.miss c)), AC.v (Value.int IntKind.i64 (Cfg.good c)), AC.v (Value.int IntKind.i64 (Cfg.fresh c))])), some (ABlk.mk false false 139 0 (Cs.lit [AC.v (Value.int IntKind.i64 (Int.ofNat 1)), AC.v (Value.int IntKind.i64 (Int.negSucc 0))])), some (ABlk.mk false false 3 1 (Cs.arr (Cfg.np c) fun k => List.map AC.v ((fun i => [Value.int IntKind.i64 (Cfg.fp c i)]) k))), some zz1, some (ABlk.mk false false 3 1 (Cs.arr (Cfg.nb c) fun k => List.map AC.v ((fun i => [Value.int IntKind.i64 (Cfg.fb c i)]) k))), some (ABlk.mk false false 91 3 (Cs.arr (Cfg.nt c) fun k => List.map AC.v ((fun i => [Value.int IntKind.i64 (Station.node (Cfg.ft c i)), Value.int IntKind.u32 (Station.safe (Cfg.ft c i)), Value.int IntKind.i64 (Station.hold (Cfg.ft c i))]) k))), some (ABlk.mk true false 25 0 (Cs.lit [AC.v (Value.int IntKind.i64 (Cfg.nodes c)), AC.sl 0 0 0 (Cfg.np c) none, AC.sl 1 0 0 (Cfg.ns c) none, AC.v (Value.int IntKind.i64 (Cfg.long c)), AC.sl 2 0 0 (Cfg.nb c) none, AC.sl 3 0 0 (Cfg.nt c) none, AC.v (Value.int IntKind.i64 (Cfg.miss c)), AC.v (Value.int IntKind.i64 (Cfg.good c)), AC.v (Value.int IntKind.i64 (Cfg.fresh c))])), some zz3, some (ABlk.mk true true 3 1 (Cs.arr l fun k => List.map AC.v ((fun i => [Value.int IntKind.i64 (f i)]) k)))]; let zz2 := (h (0 + Int.toNat (Int.ofNat k)) == Cfg.fs c (0 + Int.toNat (Int.ofNat i))); let zq0 : List Bool := [ABlk.inb zz1 (0 + Int.toNat (Int.ofNat i)) 1, true, decide (Int.ofNat 0 ≤ Int.ofNat i ∧ Int.ofNat i < ↑(c.ns)), true, ABlk.inb zz3 (0 + Int.toNat (Int.ofNat k)) 1, true, decide (Int.ofNat 0 ≤ Int.ofNat k ∧ Int.ofNat k < ↑l), decide (Int.ofNat k < ↑l) == true]; (((decide (Int.ofNat k < ↑l)) = true → ((zz2 = true → Q (Exit.normal, [some (lkA (List.zip tvEH (tvEV l i k z)) 2), some (lkA (List.zip tvEH (tvEV l i k z)) 9), some (lkA (List.zip tvEH (tvEV l i k z)) 12), some (lkA (List.zip tvEH (tvEV l i k z)) 13), some (.c (.v (.int .i64 (Int.ofNat k)))), some (.c (.v (.int .i64 (IntKind.wrap .i64 (Int.ofNat k + Int.ofNat 1)))))], zz0, 193, 100000000000000100000000000000000000000000000000000000009, ((zz2 == true) :: zq0), [])) ∧ (zz2 = false → Q (Exit.normal, [some (lkA (List.zip tvEH (tvEV l i k z)) 2), some (lkA (List.zip tvEH (tvEV l i k z)) 9), some (lkA (List.zip tvEH (tvEV l i k z)) 12), some (lkA (List.zip tvEH (tvEV l i k z)) 13), some (lkA (List.zip tvEH (tvEV l i k z)) 14), some (.c (.v (.int .i64 (IntKind.wrap .i64 (Int.ofNat k + Int.ofNat 1)))))], zz0, 193, 100000000000000100000000000000000000000000000000000000007, ((zz2 == false) :: zq0), [])))) ∧ ((decide (Int.ofNat k < ↑l)) = false → Q (Exit.exit 8, [some (lkA (List.zip tvEH (tvEV l i k z)) 2), some (lkA (List.zip tvEH (tvEV l i k z)) 9), some (lkA (List.zip tvEH (tvEV l i k z)) 12), some (lkA (List.zip tvEH (tvEV l i k z)) 13), some (lkA (List.zip tvEH (tvEV l i k z)) 14), some (lkA (List.zip tvEH (tvEV l i k z)) 15)], zz0, 193, 100000000000000000000000000000000000000000000000000000004, [decide (Int.ofNat k < ↑l) == false], [])))) :
 ∃ p r, tvER Tryd.prog c l m f h g i k z p = some r ∧ Q r :=
 two H
 (fun g1 => two g1
  (fun g2 => ⟨pD 2 4, _, by kernel_rfl, g2⟩)
  (fun g2 => ⟨pD 2 7, _, by kernel_rfl, g2⟩))
 (fun g1 => ⟨pD 1 2, _, by kernel_rfl, g1⟩)
theorem twD (c : Cfg) (l m : Nat) (f h g : Nat → Int) (i : Nat) (z : Int) (Q : VC → Prop) (H : let zz0 := (ABlk.mk true false 25 0 (Cs.lit [AC.v (Value.int IntKind.i64 (Cfg.nodes c)), AC.sl 0 0 0 (Cfg.np c) none, AC.sl 1 0 0 (Cfg.ns c) none, AC.v (Value.int IntKind.i64 (Cfg.long c)), AC.sl 2 0 0 (Cfg.nb c) none, AC.sl 3 0 0 (Cfg.nt c) none, AC.v (Value.int IntKind.i64 (Cfg.miss c)), AC.v (Value.int IntKind.i64 (Cfg.good c)), AC.v (Value.int IntKind.i64 (Cfg.fresh c))])); let zz1 := (ABlk.mk false false 91 3 (Cs.arr (Cfg.nt c) fun k => List.map AC.v ((fun i => [Value.int IntKind.i64 (Station.node (Cfg.ft c i)), Value.int IntKind.u32 (Station.safe (Cfg.ft c i)), Value.int IntKind.i64 (Station.hold (Cfg.ft c i))]) k))); let zz2 := (ABlk.mk true false 25 0 (Cs.lit [AC.v (Value.int IntKind.i64 (Cfg.nodes c)), AC.sl 1000000000000000000000000000000000000000000000000000005 0 0 l none, AC.sl 1000000000000000000000000000000000000000000000000000020 0 0 m none, AC.v (Value.int IntKind.i64 (Cfg.long c)), AC.sl 2 0 0 (Cfg.nb c) none, AC.sl 3 0 0 (Cfg.nt c) none, AC.v (Value.int IntKind.i64 (Cfg.miss c)), AC.v (Value.int IntKind.i64 (Cfg.good c)), AC.v (Value.int IntKind.i64 (Cfg.fresh c))])); let zz3 := (ABlk.mk false false 139 0 (Cs.lit [AC.v (Value.int IntKind.i64 (Int.ofNat 1)), AC.v (Value.int IntKind.i64 (Int.negSucc 0))])); let zz4 := (ABlk.mk false false 3 1 (Cs.arr (Cfg.np c) fun k => List.map AC.v ((fun i => [Value.int IntKind.i64 (Cfg.fp c i)]) k))); let zz5 := (ABlk.mk false false 3 1 (Cs.arr (Cfg.ns c) fun k => List.map AC.v ((fun i => [Value.int IntKind.i64 (Cfg.fs c i)]) k))); let zz6 := (ABlk.mk false false 3 1 (Cs.arr (Cfg.nb c) fun k => List.map AC.v ((fun i => [Value.int IntKind.i64 (Cfg.fb c i)]) k))); let zz7 := (ABlk.mk true true 3 1 (Cs.arr l fun k => List.map AC.v ((fun i => [Value.int IntKind.i64 (h i)]) k))); let zz8 := (ABlk.mk true true 3 1 (Cs.arr l fun k => List.map AC.v ((fun i => [Value.int IntKind.i64 (f i)]) k))); (((decide (Int.ofNat i < ↑(c.ns))) = true → Q (Exit.normal, [some (lkA (tvEO l i z) 2), some (lkA (tvEO l i z) 9), some (lkA (tvEO l i z) 12), some (.c (.v (.int .i64 (IntKind.wrap .i64 (Int.ofNat i + Int.ofNat 1)))))], [none, some (ABlk.mk true true 3 1 (Cs.arr (m + 1) fun i => if i < m then List.map AC.v ((fun i => [Value.int .i64 (g i)]) i) else elt (ABlk.mk true false 3 0 (Cs.lit [.v (.int .i64 z)])) 0 0 1 (i - m))), some (ABlk.mk true false 25 0 (Cs.lit [.v (.int .i64 (c.nodes)), AC.sl 1000000000000000000000000000000000000000000000000000005 0 0 l none, AC.sl 1000000000000000000000000000000000000000000000000000000004 0 0 (m + 1) none, .v (.int .i64 (c.long)), AC.sl 2 0 0 (c.nb) none, AC.sl 3 0 0 (c.nt) none, .v (.int .i64 (c.miss)), .v (.int .i64 (c.good)), .v (.int .i64 (c.fresh))])), some zz3, some zz4, some zz5, some zz6, some zz1, some zz0, some zz7, some zz8], 193, 1000000000000000000000000000000000000000000000000000000010, [true, true, true, decide (m ≤ m), decide ((m + 1) * 8 ≤ 140737488355328), true, decide (Int.ofNat i < ↑(c.ns)) == true, true], [LoopV Tryd.prog (loopAt Tryd.prog 3 4) tvEH (tvGD :: tvDI) [some (.c (.ptr 10 0 0)), some (.c (.sl 10000000000000000000000000000000000000000000000000021 0 0 l none)), some (.c (.ptr 1000000000000000000000000000000000000000000000000000001 0 0)), some (.c (.v (.int .i64 (Int.ofNat i)))), some (.c (.v (.int .i64 (Int.negSucc 0)))), some (.c (.v (.int .i64 (Int.ofNat 0))))] [some (ABlk.mk true true 3 1 (Cs.arr m fun k => List.map AC.v ((fun i => [Value.int .i64 (g i)]) k))), some zz2, some zz3, some zz4, some zz5, some zz6, some zz1, some zz0, some zz7, some zz8] 193 10000000000000000000000000000000000000000000000000000007 (mkFr 193 (tvEO l i z)) (List.zip (tvGD :: tvDI) (tvN m g :: tvDK c l m f h)) 1000000000000000000000000000000000000000000000000000000000 (Exit.exit 8) none])) ∧ ((decide (Int.ofNat i < ↑(c.ns))) = false → Q (Exit.exit 6, [some (lkA (List.zip tvDH (tvDV l i)) 2), some (lkA (List.zip tvDH (tvDV l i)) 9), some (lkA (List.zip tvDH (tvDV l i)) 12), some (lkA (List.zip tvDH (tvDV l i)) 13)], [some (ABlk.mk true true 3 1 (Cs.arr m fun k => List.map AC.v ((fun i => [Value.int .i64 (g i)]) k))), none, some zz2, some zz3, some zz4, some zz5, some zz6, some zz1, some zz0, some zz7, some zz8], 193, 10000000000000000000000000000000000000000000000000000005, [decide (Int.ofNat i < ↑(c.ns)) == false, true], [])))) :
 ∃ p r, tvDR Tryd.prog c l m f h g i p [some (tvES c l m f h g i z)] = some r ∧ Q r :=
 two H
 (fun g1 => ⟨pD 1 1, _, by kernel_rfl, g1⟩)
 (fun g1 => ⟨pD 1 2, _, by kernel_rfl, g1⟩)
theorem twX (err : Cfg → Int) (c : Cfg) (b : Int) (Q : VF → Prop) (H : let zq0 : List Bool := [true, true, true, true, true, true, true]; let zq1 : List Bool := true :: (decide (↑(c.np) > Int.ofNat 60) == false) :: zq0; let zq2 : List Bool := true :: (decide (↑(c.ns) > Int.ofNat 60) == false) :: zq1; let zq3 : List Bool := true :: (decide (↑(c.nb) > Int.ofNat 60) == false) :: zq2; let zq4 : List Bool := true :: true :: (decide (↑(c.nt) > Int.ofNat 60) == false) :: zq3; let zq5 : List Bool := true :: true :: (decide (c.nodes < Int.ofNat 4) == false) :: zq4; let zq6 : List Bool := true :: (decide (c.nodes > Int.ofNat 16) == false) :: zq5; (((decide (↑(c.np) > Int.ofNat 60)) = true → Q (.c (.v (.bool true)), [], 33, ((decide (↑(c.np) > Int.ofNat 60) == true) :: zq0), [])) ∧ ((decide (↑(c.np) > Int.ofNat 60)) = false → (((decide (↑(c.ns) > Int.ofNat 60)) = true → Q (.c (.v (.bool true)), [], 37, ((decide (↑(c.ns) > Int.ofNat 60) == true) :: zq1), [])) ∧ ((decide (↑(c.ns) > Int.ofNat 60)) = false → (((decide (↑(c.nb) > Int.ofNat 60)) = true → Q (.c (.v (.bool true)), [], 41, ((decide (↑(c.nb) > Int.ofNat 60) == true) :: zq2), [])) ∧ ((decide (↑(c.nb) > Int.ofNat 60)) = false → (((decide (↑(c.nt) > Int.ofNat 60)) = true → Q (.c (.v (.bool true)), [], 45, ((decide (↑(c.nt) > Int.ofNat 60) == true) :: zq3), [])) ∧ ((decide (↑(c.nt) > Int.ofNat 60)) = false → (((decide (c.nodes < Int.ofNat 4)) = true → Q (.c (.v (.bool true)), [], 48, ((decide (c.nodes < Int.ofNat 4) == true) :: zq4), [])) ∧ ((decide (c.nodes < Int.ofNat 4)) = false → (((decide (c.nodes > Int.ofNat 16)) = true → Q (.c (.v (.bool true)), [], 51, ((decide (c.nodes > Int.ofNat 16) == true) :: zq5), [])) ∧ ((decide (c.nodes > Int.ofNat 16)) = false → (((decide (↑(c.np) > Int.ofNat 8)) = true → Q (.c (.v (.bool true)), [], 55, ((decide (↑(c.np) > Int.ofNat 8) == true) :: zq6), [])) ∧ ((decide (↑(c.np) > Int.ofNat 8)) = false → Q (.c (.v (.bool true)), [], 100000000000000000000000000000000000000000000000000, ((decide (↑(c.np) > Int.ofNat 8) == false) :: zq6), [LoopV Tryd.prog (loopAt Tryd.prog 3 0) [1, 2, 5] tvI [some (.c (.v (.int .u8 b))), some (.c (.ptr 10 0 0)), some (.c (.v (.int .i64 (Int.ofNat 0))))] [some (ABlk.mk false false 139 0 (Cs.lit [.v (.int .i64 (Int.ofNat 1)), .v (.int .i64 (Int.negSucc 0))])), some (ABlk.mk false false 3 1 (Cs.arr (c.np) fun k => List.map AC.v ((fun i => [Value.int .i64 (c.fp i)]) k))), some (ABlk.mk false false 3 1 (Cs.arr (c.ns) fun k => List.map AC.v ((fun i => [Value.int .i64 (c.fs i)]) k))), some (ABlk.mk false false 3 1 (Cs.arr (c.nb) fun k => List.map AC.v ((fun i => [Value.int .i64 (c.fb i)]) k))), some (ABlk.mk false false 91 3 (Cs.arr (c.nt) fun k => List.map AC.v ((fun i => [Value.int .i64 (Station.node (c.ft i)), Value.int .u32 (Station.safe (c.ft i)), Value.int .i64 (Station.hold (c.ft i))]) k))), some (ABlk.mk true false 25 0 (Cs.lit [.v (.int .i64 (c.nodes)), AC.sl 0 0 0 (c.np) none, AC.sl 1 0 0 (c.ns) none, .v (.int .i64 (c.long)), AC.sl 2 0 0 (c.nb) none, AC.sl 3 0 0 (c.nt) none, .v (.int .i64 (c.miss)), .v (.int .i64 (c.good)), .v (.int .i64 (c.fresh))]))] 193 55 (mkFr 193 [(4, bo true)]) [] 100000000000000000000000000000000000000000000000000 Exit.ret none])))))))))))))))) :
 ∃ p r, ctuR Tryd.prog err c b p [some tvAX] = some r ∧ Q r :=
 two H
 (fun g1 => ⟨pD 23 1, _, by kernel_rfl, g1⟩)
 (fun g1 => two g1
  (fun g2 => ⟨pD 23 83, _, by kernel_rfl, g2⟩)
  (fun g2 => two g2
   (fun g3 => ⟨pD 23 6725, _, by kernel_rfl, g3⟩)
   (fun g3 => two g3
    (fun g4 => ⟨pD 23 544727, _, by kernel_rfl, g4⟩)
    (fun g4 => two g4
     (fun g5 => ⟨pD 23 15425075, _, by kernel_rfl, g5⟩)
     (fun g5 => two g5
      (fun g6 => ⟨pD 23 417194471, _, by kernel_rfl, g6⟩)
      (fun g6 => two g6
       (fun g7 => ⟨pD 23 32185674569, _, by kernel_rfl, g7⟩)
       (fun g7 => ⟨pD 23 63566734178, _, by kernel_rfl, g7⟩)))))))
theorem twM (err : Cfg → Int) (c : Cfg) (b : Int) (l m : Nat) (fl fh fo fp go gs : Nat → Int) (Q : VF → Prop) (H : let zz6 := (ABlk.mk false false 139 0 (Cs.lit [AC.v (Value.int IntKind.i64 (Int.ofNat 1)), AC.v (Value.int IntKind.i64 (Int.negSucc 0))])); let zz7 := (ABlk.mk false false 3 1 (Cs.arr (Cfg.np c) fun k => List.map AC.v ((fun i => [Value.int IntKind.i64 (Cfg.fp c i)]) k))); let zz8 := (ABlk.mk false false 3 1 (Cs.arr (Cfg.ns c) fun k => List.map AC.v ((fun i => [Value.int IntKind.i64 (Cfg.fs c i)]) k))); let zz9 := (ABlk.mk false false 3 1 (Cs.arr (Cfg.nb c) fun k => List.map AC.v ((fun i => [Value.int IntKind.i64 (Cfg.fb c i)]) k))); let zz5 := (ABlk.mk false false 91 3 (Cs.arr (Cfg.nt c) fun k => List.map AC.v ((fun i => [Value.int IntKind.i64 (Station.node (Cfg.ft c i)), Value.int IntKind.u32 (Station.safe (Cfg.ft c i)), Value.int IntKind.i64 (Station.hold (Cfg.ft c i))]) k))); let zz2 := (ABlk.mk true false 25 0 (Cs.lit [AC.v (Value.int IntKind.i64 (Cfg.nodes c)), AC.sl 0 0 0 (Cfg.np c) none, AC.sl 1 0 0 (Cfg.ns c) none, AC.v (Value.int IntKind.i64 (Cfg.long c)), AC.sl 2 0 0 (Cfg.nb c) none, AC.sl 3 0 0 (Cfg.nt c) none, AC.v (Value.int IntKind.i64 (Cfg.miss c)), AC.v (Value.int IntKind.i64 (Cfg.good c)), AC.v (Value.int IntKind.i64 (Cfg.fresh c))])); let zz1 := [some zz6, some zz7, some zz8, some zz9, some zz5, some zz2]; let zz0 := [LoopV Tryd.prog (loopAt Tryd.prog 3 3) tvDH tvDI [some (AV.c (AC.ptr 10 0 0)), some (AV.c (AC.sl 10000000000000000000000000000000000000000000000000021 0 0 (l + m) none)), some (AV.c (AC.ptr 1000000000000000000000000000000000000000000000000000001 0 0)), some (AV.c (AC.v (Value.int IntKind.i64 (Int.ofNat 0))))] [some (ABlk.mk true false 25 0 (Cs.lit [AC.v (Value.int IntKind.i64 (Cfg.nodes c)), AC.sl 1000000000000000000000000000000000000000000000000000005 0 0 (l + m) none, AC.v (Value.slice none 0 0), AC.v (Value.int IntKind.i64 (Cfg.long c)), AC.sl 2 0 0 (Cfg.nb c) none, AC.sl 3 0 0 (Cfg.nt c) none, AC.v (Value.int IntKind.i64 (Cfg.miss c)), AC.v (Value.int IntKind.i64 (Cfg.good c)), AC.v (Value.int IntKind.i64 (Cfg.fresh c))])), some zz6, some zz7, some zz8, some zz9, some zz5, some zz2, some (ABlk.mk true true 3 1 (Cs.arr (l + m) fun k => List.map AC.v ((fun i => [Value.int IntKind.i64 (fo i)]) k))), some (ABlk.mk true true 3 1 (Cs.arr (l + m) fun i => if i < l then List.map AC.v ((fun i => [Value.int IntKind.i64 (fl i)]) i) else elt (ABlk.mk true true 3 1 (Cs.arr m fun k => List.map AC.v ((fun i => [Value.int IntKind.i64 (fh i)]) k))) 0 0 1 (i - l)))] 193 1000000000000000000000000000000000000000000000000000011 (mkFr 193 tvDO) (tvDM c (l + m) fp fo gs) 10000000000000000000000000000000000000000000000000000000000 (Exit.exit 6) none, LoopV Tryd.prog (loopAt Tryd.prog 3 2) tvCH (tvGO :: tvGL :: tvI) [some (AV.c (AC.ptr 10 0 0)), some (AV.c (AC.v (Value.int IntKind.i64 (tvZ c b)))), some (AV.c (AC.sl 100000000000000000000000000000000000000000000000020 0 0 l none)), some (AV.c (AC.v (Value.slice none 0 0))), some (AV.c (AC.sl 100000000000000000000000000000000000000000000000021 0 0 l none)), some (AV.c (AC.v (Value.int IntKind.i64 (Int.ofNat 0))))] [some (ABlk.mk true true 3 1 (Cs.arr l fun k => List.map AC.v ((fun i => [Value.int IntKind.i64 (go i)]) k))), some (ABlk.mk true true 3 1 (Cs.arr l fun k => List.map AC.v ((fun i => [Value.int IntKind.i64 (fl i)]) k))), some zz6, some zz7, some zz8, some zz9, some zz5, some zz2] 193 10000000000000000000000000000000000000000000000000001 (mkFr 193 (tvCO l m (l + m))) (tvCM c l m (l + m) fl fh fo) 1000000000000000000000000000000000000000000000000000000 (Exit.exit 4) none, LoopV Tryd.prog (loopAt Tryd.prog 3 1) tvBH tvI [some (AV.c (AC.ptr 10 0 0)), some (AV.c (AC.v (Value.int IntKind.i64 (Int.tmod (IntKind.wrap IntKind.i64 b) (Cfg.nodes c))))), some (AV.c (AC.v (Value.slice none 0 0))), some (AV.c (AC.v (Value.slice none 0 0))), some (AV.c (AC.v (Value.slice none 0 0))), some (AV.c (AC.v (Value.int IntKind.i64 (Int.ofNat 0))))] zz1 193 100000000000000000000000000000000000000000000000010 (mkFr 193 (tvBO (tvZ c b) l)) (tvBM c l fl go) 10000000000000000000000000000000000000000000000000000 (Exit.exit 2) none, LoopV Tryd.prog (loopAt Tryd.prog 3 0) [1, 2, 5] tvI [some (AV.c (AC.v (Value.int IntKind.u8 b))), some (AV.c (AC.ptr 10 0 0)), some (AV.c (AC.v (Value.int IntKind.i64 (Int.ofNat 0))))] zz1 193 55 (mkFr 193 [(1, AV.c (AC.v (Value.int IntKind.u8 b))), (2, AV.c (AC.ptr 10 0 0))]) (List.zip tvI (tvK c)) 100000000000000000000000000000000000000000000000000 (Exit.exit 0) none]; let zz3 := (Cfg.mk (Cfg.nodes c) (l + m) fp (Cfg.ns c) gs (Cfg.long c) (Cfg.nb c) (Cfg.fb c) (Cfg.nt c) c.10 (Cfg.miss c) (Cfg.good c) (Cfg.fresh c)); let zz4 := ((intsOk (l + m) fun k => List.map AC.v ((fun i => [Value.int IntKind.i64 (fp i)]) k)) && ((intsOk (Cfg.ns c) fun k => List.map AC.v ((fun i => [Value.int IntKind.i64 (gs i)]) k)) && ((intsOk (Cfg.nb c) fun k => List.map AC.v ((fun i => [Value.int IntKind.i64 (Cfg.fb c i)]) k)) && stsOk (Cfg.nt c) fun k => List.map AC.v ((fun i => [Value.int IntKind.i64 (Station.node (Cfg.ft c i)), Value.int IntKind.u32 (Station.safe (Cfg.ft c i)), Value.int IntKind.i64 (Station.hold (Cfg.ft c i))]) k)))); let zt : List Bool → List Bool := fun l => true :: true :: true :: true :: true :: true :: true :: true :: l; let zq0 : List Bool := [true, true, true, true, true, true, true]; let zq1 : List Bool := true :: (decide (↑(c.np) > Int.ofNat 60) == false) :: zq0; let zq2 : List Bool := true :: (decide (↑(c.ns) > Int.ofNat 60) == false) :: zq1; let zq3 : List Bool := true :: (decide (↑(c.nb) > Int.ofNat 60) == false) :: zq2; let zq4 : List Bool := true :: true :: (decide (↑(c.nt) > Int.ofNat 60) == false) :: zq3; let zq5 : List Bool := true :: true :: (decide (c.nodes < Int.ofNat 4) == false) :: zq4; let zq6 : List Bool := true :: (decide (c.nodes > Int.ofNat 16) == false) :: zq5; let zq7 : List Bool := (cfgK c) :: (decide (c.nb ≤ 9223372036854775807)) :: true :: true :: true :: true :: true :: true :: (decide (0 + (l + m) ≤ l + m) && (decide (0 + c.ns ≤ c.ns) && (decide (0 + c.nb ≤ c.nb) && (decide (0 + c.nt ≤ c.nt) && zz4)))) :: (decide (Cfg.nb zz3 ≤ 9223372036854775807)) :: (zt ((decide (0 + m ≤ m)) :: true :: (decide (l ≤ l)) :: (decide ((l + m) * 8 ≤ 140737488355328)) :: true :: true :: true :: true :: true :: true :: true :: (decide (c.nodes ≠ Int.ofNat 0)) :: true :: true :: (decide (↑(c.np) > Int.ofNat 8) == false) :: zq6)); (((decide (↑(c.np) > Int.ofNat 60)) = true → Q (.c (.v (.bool true)), [], 33, ((decide (↑(c.np) > Int.ofNat 60) == true) :: zq0), [])) ∧ ((decide (↑(c.np) > Int.ofNat 60)) = false → (((decide (↑(c.ns) > Int.ofNat 60)) = true → Q (.c (.v (.bool true)), [], 37, ((decide (↑(c.ns) > Int.ofNat 60) == true) :: zq1), [])) ∧ ((decide (↑(c.ns) > Int.ofNat 60)) = false → (((decide (↑(c.nb) > Int.ofNat 60)) = true → Q (.c (.v (.bool true)), [], 41, ((decide (↑(c.nb) > Int.ofNat 60) == true) :: zq2), [])) ∧ ((decide (↑(c.nb) > Int.ofNat 60)) = false → (((decide (↑(c.nt) > Int.ofNat 60)) = true → Q (.c (.v (.bool true)), [], 45, ((decide (↑(c.nt) > Int.ofNat 60) == true) :: zq3), [])) ∧ ((decide (↑(c.nt) > Int.ofNat 60)) = false → (((decide (c.nodes < Int.ofNat 4)) = true → Q (.c (.v (.bool true)), [], 48, ((decide (c.nodes < Int.ofNat 4) == true) :: zq4), [])) ∧ ((decide (c.nodes < Int.ofNat 4)) = false → (((decide (c.nodes > Int.ofNat 16)) = true → Q (.c (.v (.bool true)), [], 51, ((decide (c.nodes > Int.ofNat 16) == true) :: zq5), [])) ∧ ((decide (c.nodes > Int.ofNat 16)) = false → (((decide (↑(c.np) > Int.ofNat 8)) = true → Q (.c (.v (.bool true)), [], 55, ((decide (↑(c.np) > Int.ofNat 8) == true) :: zq6), [])) ∧ ((decide (↑(c.np) > Int.ofNat 8)) = false → ((((err zz3 == Int.ofNat 0) == (err c == Int.ofNat 0)) = true → Q (.c (.v (.bool true)), [], 10000000000000000110000000000000000000000000000000000000000, ((((err zz3 == Int.ofNat 0) == (err c == Int.ofNat 0)) == true) :: zq7), zz0)) ∧ (((err zz3 == Int.ofNat 0) == (err c == Int.ofNat 0)) = false → Q (.c (.v (.bool false)), [], 10000000000000000110000000000000000000000000000000000000000, ((((err zz3 == Int.ofNat 0) == (err c == Int.ofNat 0)) == false) :: zq7), zz0)))))))))))))))))) :
 ∃ p r, ctuR Tryd.prog err c b p [some (tvAS c b), some (tvBS c (tvZ c b) l fl go), some (tvCS c l m (l + m) fl fh fo), some (tvDS c (l + m) fp fo gs)] = some r ∧ Q r :=
 two H
 (fun g1 => ⟨pD 23 1, _, by kernel_rfl, g1⟩)
 (fun g1 => two g1
  (fun g2 => ⟨pD 23 83, _, by kernel_rfl, g2⟩)
  (fun g2 => two g2
   (fun g3 => ⟨pD 23 6725, _, by kernel_rfl, g3⟩)
   (fun g3 => two g3
    (fun g4 => ⟨pD 23 544727, _, by kernel_rfl, g4⟩)
    (fun g4 => two g4
     (fun g5 => ⟨pD 23 15425075, _, by kernel_rfl, g5⟩)
     (fun g5 => two g5
      (fun g6 => ⟨pD 23 417194471, _, by kernel_rfl, g6⟩)
      (fun g6 => two g6
       (fun g7 => ⟨pD 23 32185674569, _, by kernel_rfl, g7⟩)
       (fun g7 => two g7
        (fun g8 => ⟨pD 24 157709913005, _, by kernel_rfl, g8⟩)
        (fun g8 => ⟨pD 24 251853091832, _, by kernel_rfl, g8⟩))))))))
end Go.Proofs.YtgdoojlfbebaaaaDoor
end
/- ConfigsTurned: the plain law: a config that is turned round the ring may be if and only if it might be. No Go text is in sight. -/
section
namespace Go.Proofs.YtgdoojlfbebaaaaDoor
open Go.RowKit
theorem nodupF_iff {f : Nat → Int} {n : Nat} : nodupF f n = true ↔ ∀ i j, i < n → j < n → f i = f j → i = j := by
 unfold nodupF
 rw [decide_eq_true_eq]
 unfold List.Nodup
 rw [List.pairwise_map, List.pairwise_iff_getElem]
 constructor
 · intro h i j hi hj e
   rcases Nat.lt_trichotomy i j with l | l | l
   · exact absurd e (by have := h i j (by simpa using hi) (by simpa using hj) l; simpa using this)
   · exact l
   · exact absurd e.symm (by have := h j i (by simpa using hj) (by simpa using hi) l; simpa using this)
 · intro h i j hi hj hij e
   have hi' : i < n := by simpa using hi
   have hj' : j < n := by simpa using hj
   have := h i j hi' hj' (by simpa using e)
   omega
def rn (n x : Int) : Int := if x < n then x else x - n
theorem rn_mod {n x : Int} (h0 : 0 ≤ x) (h1 : x < 2 * n) : x % n = rn n x := by
 unfold rn
 split
 · exact Int.emod_eq_of_lt h0 (by assumption)
 · rw [← Int.sub_emod_right]
   exact Int.emod_eq_of_lt (by omega) (by omega)
structure TuOk (c : Cfg) (s : Int) (j0 : Nat) : Prop where
 n4 : 4 ≤ c.nodes
 n16 : c.nodes ≤ 16
 inn : ∀ i, i < c.np → 0 ≤ c.fp i ∧ c.fp i < c.nodes
 up : ∀ i, i + 1 < c.np → c.fp i < c.fp (i + 1)
 s0 : 0 ≤ s
 s1 : s < c.nodes
 j : j0 ≤ c.np
 lo : ∀ i, i < j0 → c.fp i + s < c.nodes
 hi : ∀ i, j0 ≤ i → i < c.np → c.nodes ≤ c.fp i + s
def tuI (np j0 k : Nat) : Nat := if k + j0 < np then k + j0 else k + j0 - np
def tuB (np j0 k : Nat) : Nat := if j0 ≤ k then k - j0 else k + (np - j0)
def tuP (c : Cfg) (s : Int) (j0 k : Nat) : Int := if k + j0 < c.np then c.fp (k + j0) + s - c.nodes else c.fp (k + j0 - c.np) + s
def tuS (np j0 : Nat) (z : Int) : Int := if 0 ≤ z ∧ z < np then (if (j0 : Int) ≤ z then z - j0 else z + ((np : Int) - j0)) else -1
def tuC (c : Cfg) (s : Int) (j0 : Nat) : Cfg := { c with fp := tuP c s j0, fs := fun i => tuS c.np j0 (c.fs i) }
theorem tuI_lt {np j0 k : Nat} (hk : k < np) (hj : j0 ≤ np) : tuI np j0 k < np := by unfold tuI; split <;> omega
theorem tuB_lt {np j0 k : Nat} (hk : k < np) (hj : j0 ≤ np) : tuB np j0 k < np := by unfold tuB; split <;> omega
theorem tuIB {np j0 k : Nat} (hk : k < np) (hj : j0 ≤ np) : tuI np j0 (tuB np j0 k) = k := by unfold tuI tuB; split <;> split <;> omega
theorem tuBI {np j0 k : Nat} (hk : k < np) (hj : j0 ≤ np) : tuB np j0 (tuI np j0 k) = k := by unfold tuI tuB; split <;> split <;> omega
section
variable {c : Cfg} {s : Int} {j0 : Nat} (h : TuOk c s j0)
include h
theorem tuP_rn {k : Nat} (hk : k < c.np) : tuP c s j0 k = rn c.nodes (c.fp (tuI c.np j0 k) + s) := by
 have hj := h.j
 unfold tuP tuI rn
 by_cases e : k + j0 < c.np
 · have := h.hi (k + j0) (by omega) e
   rw [if_pos e, if_pos e, if_neg (by omega)]
 · have := h.lo (k + j0 - c.np) (by omega)
   rw [if_neg e, if_neg e, if_pos this]
theorem tu_in {k : Nat} (hk : k < c.np) : 0 ≤ tuP c s j0 k ∧ tuP c s j0 k < c.nodes := by
 have h1 := h.inn _ (tuI_lt hk h.j)
 have := h.s0
 have := h.s1
 rw [tuP_rn h hk]
 unfold rn
 split <;> omega
theorem half_in {q : Nat} (hq : q < 2 * c.np) : 0 ≤ halfF c q ∧ halfF c q < c.nodes ∧ halfF c q = rn c.nodes (c.fp (q / 2) + if q % 2 = 0 then 0 else 1) := by
 have h1 := h.inn (q / 2) (by omega)
 have n4 := h.n4
 have n16 := h.n16
 unfold halfF
 split
 · refine ⟨h1.1, h1.2, ?_⟩
   unfold rn
   rw [Int.add_zero, if_pos h1.2]
 · unfold ringF
   rw [if_pos ⟨n4, n16, h1.1, h1.2⟩, rn_mod (by omega) (by omega)]
   refine ⟨?_, ?_, rfl⟩
   · unfold rn; split <;> omega
   · unfold rn; split <;> omega
theorem half_turn {q : Nat} (hq : q < 2 * c.np) : halfF (tuC c s j0) q = rn c.nodes (halfF c (2 * tuI c.np j0 (q / 2) + q % 2) + s) := by
 have hk : q / 2 < c.np := by omega
 have hI := tuI_lt hk h.j
 have h2 := tu_in h hk
 have h1 := h.inn _ hI
 have n4 := h.n4
 have n16 := h.n16
 have s0 := h.s0
 have s1 := h.s1
 have hq2 : 2 * tuI c.np j0 (q / 2) + q % 2 < 2 * c.np := by omega
 have e1 : (2 * tuI c.np j0 (q / 2) + q % 2) / 2 = tuI c.np j0 (q / 2) := by omega
 have e2 : (2 * tuI c.np j0 (q / 2) + q % 2) % 2 = q % 2 := by omega
 rw [(half_in h hq2).2.2, e1, e2]
 have e3 := tuP_rn h hk
 unfold halfF tuC
 dsimp only
 split
 · rw [e3, Int.add_zero]
   unfold rn
   rw [if_pos h1.2]
 · unfold ringF
   rw [if_pos ⟨n4, n16, h2.1, h2.2⟩, rn_mod (by omega) (by omega), e3]
   unfold rn
   repeat' split
   all_goals omega
theorem rn_inj {x y : Int} (x0 : 0 ≤ x) (x1 : x < c.nodes) (y0 : 0 ≤ y) (y1 : y < c.nodes) (e : rn c.nodes (x + s) = rn c.nodes (y + s)) : x = y := by
 have s0 := h.s0
 have s1 := h.s1
 unfold rn at e
 split at e <;> split at e <;> omega
theorem nodup_turn : nodupF (halfF (tuC c s j0)) (2 * c.np) = nodupF (halfF c) (2 * c.np) := by
 rw [Bool.eq_iff_iff, nodupF_iff, nodupF_iff]
 constructor
 · intro H i j hi hj e
   have bi := tuB_lt (j0 := j0) (show i / 2 < c.np by omega) h.j
   have bj := tuB_lt (j0 := j0) (show j / 2 < c.np by omega) h.j
   have ib := tuIB (j0 := j0) (show i / 2 < c.np by omega) h.j
   have jb := tuIB (j0 := j0) (show j / 2 < c.np by omega) h.j
   have ti := half_turn h (q := 2 * tuB c.np j0 (i / 2) + i % 2) (by omega)
   have tj := half_turn h (q := 2 * tuB c.np j0 (j / 2) + j % 2) (by omega)
   have e1 : (2 * tuB c.np j0 (i / 2) + i % 2) / 2 = tuB c.np j0 (i / 2) := by omega
   have e2 : (2 * tuB c.np j0 (i / 2) + i % 2) % 2 = i % 2 := by omega
   have e3 : (2 * tuB c.np j0 (j / 2) + j % 2) / 2 = tuB c.np j0 (j / 2) := by omega
   have e4 : (2 * tuB c.np j0 (j / 2) + j % 2) % 2 = j % 2 := by omega
   rw [e1, e2, ib, show 2 * (i / 2) + i % 2 = i by omega] at ti
   rw [e3, e4, jb, show 2 * (j / 2) + j % 2 = j by omega, ← e, ← ti] at tj
   have := H _ _ (by omega) (by omega) tj.symm
   have e5 : tuB c.np j0 (i / 2) = tuB c.np j0 (j / 2) := by omega
   have e6 : i / 2 = j / 2 := by rw [← ib, ← jb, e5]
   omega
 · intro H i j hi hj e
   rw [half_turn h hi, half_turn h hj] at e
   have bi := tuI_lt (j0 := j0) (show i / 2 < c.np by omega) h.j
   have bj := tuI_lt (j0 := j0) (show j / 2 < c.np by omega) h.j
   have hi2 := half_in h (q := 2 * tuI c.np j0 (i / 2) + i % 2) (by omega)
   have hj2 := half_in h (q := 2 * tuI c.np j0 (j / 2) + j % 2) (by omega)
   have := H _ _ (by omega) (by omega) (rn_inj h hi2.1 hi2.2.1 hj2.1 hj2.2.1 e)
   have e5 : tuI c.np j0 (i / 2) = tuI c.np j0 (j / 2) := by omega
   have e6 : i / 2 = j / 2 := by rw [← tuBI (j0 := j0) (show i / 2 < c.np by omega) h.j, ← tuBI (j0 := j0) (show j / 2 < c.np by omega) h.j, e5]
   omega
end
end Go.Proofs.YtgdoojlfbebaaaaDoor
end
/- ConfigsTurned: the plain law, its end: the rules of a turned config. No Go text is in sight. -/
section
namespace Go.Proofs.YtgdoojlfbebaaaaDoor
open Go.RowKit
theorem cfgErr_iff {c : Cfg} : cfgErr c = 0 ↔ rule1 c = 0 ∧ rule2 c = 0 ∧ rule3 c = 0 ∧ rule4 c = 0 ∧ rule5 c = 0 ∧ rule6 c = 0 ∧ rule7 c = 0 ∧ rule8 c = 0 ∧ rule9 c = 0 ∧ rule10 c = 0 := by
 refine ⟨cfgErr_zero, ?_⟩
 rintro ⟨h1, h2, h3, h4, h5, h6, h7, h8, h9, h10⟩
 unfold cfgErr
 simp [h1, h2, h3, h4, h5, h6, h7, h8, h9, h10]
theorem inside_iff {f : Nat → Int} {n : Nat} {z : Int} : insideF f n z = true ↔ ∀ i, i < n → 0 ≤ f i ∧ f i < z := by
 unfold insideF
 rw [List.all_eq_true]
 constructor
 · intro h i hi
   simpa using h i (by simpa using hi)
 · intro h i hi
   simpa using h i (by simpa using hi)
theorem sorted_iff {f : Nat → Int} {n : Nat} : sortedF f n = true ↔ ∀ i, i + 1 < n → f i ≤ f (i + 1) := by
 unfold sortedF
 rw [List.all_eq_true]
 constructor
 · intro h i hi
   simpa using h i (by simp; omega)
 · intro h i hi
   have : i < n - 1 := by simpa using hi
   simpa using h i (by omega)
theorem has_iff {f : Nat → Int} {n : Nat} {v : Int} : hasF f n v = true ↔ ∃ i, i < n ∧ f i = v := by
 unfold hasF
 rw [List.any_eq_true]
 constructor
 · rintro ⟨i, h1, h2⟩
   exact ⟨i, by simpa using h1, by simpa using h2⟩
 · rintro ⟨i, h1, h2⟩
   exact ⟨i, by simpa using h1, by simpa using h2⟩
theorem all5_iff {c : Cfg} : all5 c c.np = true ↔ (∀ i, i < c.ns → 0 ≤ c.fs i ∧ c.fs i < c.np) ∧ ∀ p, p < c.np → ∃ i, i < c.ns ∧ c.fs i = (p : Int) := by
 unfold all5
 rw [Bool.and_eq_true, inside_iff, List.all_eq_true]
 refine and_congr Iff.rfl ⟨fun h p hp => ?_, fun h p hp => ?_⟩
 · exact has_iff.1 (h p (by simpa using hp))
 · exact has_iff.2 (h p (by simpa using hp))
section
variable {c : Cfg} {s : Int} {j0 : Nat} (h : TuOk c s j0)
include h
theorem rule3_turn : rule3 (tuC c s j0) = rule3 c := by
 have a1 : insideF c.fp c.np c.nodes = true := inside_iff.2 h.inn
 have a2 : insideF (tuC c s j0).fp (tuC c s j0).np (tuC c s j0).nodes = true := inside_iff.2 fun i hi => tu_in h hi
 have a3 : sortedF c.fp c.np = true := sorted_iff.2 fun i hi => by have := h.up i hi; omega
 have a4 : sortedF (tuC c s j0).fp (tuC c s j0).np = true := sorted_iff.2 fun k hk => by
  have hk : k + 1 < c.np := hk
  have hj := h.j
  show tuP c s j0 k ≤ tuP c s j0 (k + 1)
  have i0 := h.inn (tuI c.np j0 k) (tuI_lt (by omega) hj)
  have i1 := h.inn (tuI c.np j0 (k + 1)) (tuI_lt hk hj)
  unfold tuI at i0 i1
  unfold tuP
  by_cases e : k + 1 + j0 < c.np
  · have := h.up (k + j0) (by omega)
    rw [show k + j0 + 1 = k + 1 + j0 by omega] at this
    rw [if_pos (by omega), if_pos e]
    omega
  · by_cases e2 : k + j0 < c.np
    · rw [if_pos e2] at i0
      rw [if_neg e] at i1
      rw [if_pos e2, if_neg e]
      omega
    · have := h.up (k + j0 - c.np) (by omega)
      rw [show k + j0 - c.np + 1 = k + 1 + j0 - c.np by omega] at this
      rw [if_neg e2, if_neg e]
      omega
 have a5 : nodupF (halfF (tuC c s j0)) (2 * (tuC c s j0).np) = nodupF (halfF c) (2 * c.np) := nodup_turn h
 unfold rule3
 rw [a1, a2, a3, a4, a5]
theorem rule5_turn : rule5 (tuC c s j0) = rule5 c := by
 have hj := h.j
 have e : all5 (tuC c s j0) (tuC c s j0).np = all5 c c.np := by
  rw [Bool.eq_iff_iff, all5_iff, all5_iff]
  show (∀ i, i < c.ns → 0 ≤ tuS c.np j0 (c.fs i) ∧ tuS c.np j0 (c.fs i) < c.np) ∧ (∀ p, p < c.np → ∃ i, i < c.ns ∧ tuS c.np j0 (c.fs i) = (p : Int)) ↔ _
  have hin : ∀ z : Int, (0 ≤ tuS c.np j0 z ∧ tuS c.np j0 z < c.np) ↔ (0 ≤ z ∧ z < c.np) := fun z => by
   unfold tuS
   by_cases e : 0 ≤ z ∧ z < c.np
   · rw [if_pos e]
     split <;> exact ⟨fun _ => e, fun _ => by omega⟩
   · rw [if_neg e]
     exact ⟨fun q => by omega, fun q => absurd q e⟩
  have hat : ∀ k : Nat, k < c.np → tuS c.np j0 (k : Int) = (tuB c.np j0 k : Nat) := fun k hk => by
   unfold tuS tuB
   rw [if_pos ⟨by omega, by omega⟩]
   by_cases e : j0 ≤ k
   · rw [if_pos (by omega), if_pos e]; omega
   · rw [if_neg (by omega), if_neg e]; omega
  constructor
  · rintro ⟨h1, h2⟩
    have h3 : ∀ i, i < c.ns → 0 ≤ c.fs i ∧ c.fs i < c.np := fun i hi => (hin _).1 (h1 i hi)
    refine ⟨h3, fun p hp => ?_⟩
    obtain ⟨i, hi, e⟩ := h2 (tuB c.np j0 p) (tuB_lt hp hj)
    refine ⟨i, hi, ?_⟩
    obtain ⟨q, hq⟩ : ∃ q : Nat, c.fs i = (q : Int) := ⟨(c.fs i).toNat, by have := h3 i hi; omega⟩
    have hqn : q < c.np := by have := h3 i hi; omega
    rw [hq, hat q hqn] at e
    have e' : tuB c.np j0 q = tuB c.np j0 p := by exact_mod_cast e
    have : q = p := by rw [← tuIB (j0 := j0) hqn hj, ← tuIB (j0 := j0) hp hj, e']
    rw [hq, this]
  · rintro ⟨h1, h2⟩
    refine ⟨fun i hi => (hin _).2 (h1 i hi), fun p hp => ?_⟩
    obtain ⟨i, hi, e⟩ := h2 (tuI c.np j0 p) (tuI_lt hp hj)
    exact ⟨i, hi, by rw [e, hat _ (tuI_lt hp hj), tuBI hp hj]⟩
 unfold rule5
 rw [e]
theorem cfgErr_turn : cfgErr (tuC c s j0) = 0 ↔ cfgErr c = 0 := by
 rw [cfgErr_iff, cfgErr_iff, rule3_turn h, rule5_turn h]
 exact Iff.rfl
end
end Go.Proofs.YtgdoojlfbebaaaaDoor
end
/- ConfigsTurned: the sums of its loops. -/
section
namespace Go.Proofs.YtgdoojlfbebaaaaDoor
open Go.RowKit
theorem tvK_low {N : Nat} (hN : 10 ≤ N) {c : Cfg} : ∀ b ∈ tvK c, lowB N b := by
 intro b hb
 simp only [List.mem_cons, List.not_mem_nil, or_false] at hb
 rcases hb with rfl | rfl | rfl | rfl | rfl | rfl
 · exact low_lit rfl
 · exact rBlk_low
 · exact rBlk_low
 · exact rBlk_low
 · exact rBlk_low
 · exact cfgB_low (by omega)
def badP (c : Cfg) (k : Nat) : Bool := decide (c.fp k < 0) || (decide (c.fp k ≥ c.nodes) || (decide (0 < k) && decide (c.fp k ≤ c.fp (k - 1))))
theorem tv_e0 (k : Nat) : 0 + Int.toNat (Int.ofNat k) = k := by simp
theorem tv_w1 {k : Nat} (h : k < 9223372036854775807) : IntKind.wrap IntKind.i64 (Int.ofNat k + Int.ofNat 1) = Int.ofNat (k + 1) := by rw [wrap_nat _ (by simp; omega) (by simp; omega)]; rfl
theorem tv_w0 {k : Nat} (h0 : 0 < k) (h : k < 9223372036854775807) : IntKind.wrap IntKind.i64 (Int.ofNat k - Int.ofNat 1) = Int.ofNat (k - 1) := by rw [wrap_nat _ (by simp; omega) (by simp; omega)]; simp; omega
set_option maxRecDepth 100000 in
theorem tv_a (c : Cfg) (b : Int) (h8 : c.np ≤ 8) (hg : ∀ k, k < c.np → badP c k = false) :
 LoopV Tryd.prog (loopAt Tryd.prog 3 0) [1, 2, 5] tvI ((tvAV b 0).map some) ((tvK c).map some) 193 55 (mkFr 193 [(1, .c (.v (.int .u8 b))), (2, .c (.ptr 10 0 0))]) (tvI.zip (tvK c)) 100000000000000000000000000000000000000000000000000 (.exit 0) none := by
 refine scan_ob hENct (fuel := 100) (str := 10000000000000000000000000000000000000000) (nh := 1000000000000000000000000000000000000000000) (n' := 100000000000000000000000000000000000000000000000000) [1, 2, 5] [4] tvI (fun k => tvAV b k) (tvK c) c.np (by decide) (by decide) (by unfold lim; omega) (by simp) (fun _ => ⟨rfl, rfl⟩) (by kernel_rfl) (fun _ _ => rfl) (tvK_low (by omega)) ?_ ?_
 · intro k hk
   have hb := hg k hk
   unfold badP at hb
   refine twA cfgErr c b k _ ?_
   simp only [Bool.or_eq_false_iff, Bool.and_eq_false_iff, decide_eq_false_iff_not] at hb
   obtain ⟨b1, b2, b3⟩ := hb
   have d1 : decide (c.fp k < Int.ofNat 0) = false := decide_eq_false (by simpa using b1)
   have d2 : decide (c.fp k ≥ c.nodes) = false := decide_eq_false b2
   have d3 : decide (Int.ofNat k < (c.np : Int)) = true := decide_eq_true (by simpa using hk)
   have nx : NextV 100000000000000000000000000000000000000000000000000 193 3 (tvAV b (k + 1)) (tvK c) (.normal, [some (lkA (List.zip [1, 2, 5] (tvAV b k)) 1), some (lkA (List.zip [1, 2, 5] (tvAV b k)) 2), some (.c (.v (.int .i64 (Int.ofNat (k + 1))))), some (lkA (List.zip [1, 2, 5] (tvAV b k)) 4)], (tvK c).map some, 193, 1340000000000000000000000000000000000000008, [], []) := ⟨⟨by simp [allT], rfl, by dsimp only; omega, rfl⟩, rfl, rfl, BL.refl (tvK c)⟩
   obtain ⟨⟨_, _, n3, n4⟩, n5, n6, n7⟩ := nx
   simp only [tv_e0, tv_w1 (show k < 9223372036854775807 by omega), d1, d2, d3]
   by_cases hz : 0 < k
   · have d4 : decide (Int.ofNat k > Int.ofNat 0) = true := decide_eq_true (by simpa using hz)
     have d5 : decide (c.fp k ≤ c.fp (k - 1)) = false := decide_eq_false fun h => (b3.resolve_left fun x => x hz) h
     simp only [tv_w0 hz (show k < 9223372036854775807 by omega), tv_e0, d4, d5]
     refine ⟨fun _ => ⟨fun x => (by cases x), fun _ => ⟨fun x => (by cases x), fun _ => ⟨fun _ => ⟨fun x => (by cases x), fun _ => ⟨⟨?_, rfl, n3, n4⟩, n5, n6, n7⟩⟩, fun x => (by cases x)⟩⟩⟩, fun x => (by cases x)⟩
     simp [allT, inb_arr]; omega
   · have d4 : decide (Int.ofNat k > Int.ofNat 0) = false := decide_eq_false (by simpa using hz)
     simp only [d4]
     refine ⟨fun _ => ⟨fun x => (by cases x), fun _ => ⟨fun x => (by cases x), fun _ => ⟨fun x => (by cases x), fun _ => ⟨⟨?_, rfl, n3, n4⟩, n5, n6, n7⟩⟩⟩⟩, fun x => (by cases x)⟩
     simp [allT, inb_arr]; omega
 · refine twA cfgErr c b c.np _ ⟨fun c1 => ?_, fun c1 => ?_⟩
   · simp at c1
   · refine ⟨⟨by simp only [allT, List.forall_mem_cons, c1]; simp, rfl, by dsimp only; omega, rfl⟩, rfl, fun p hp => ?_, mf_all (by kernel_rfl) (tvK_low (by omega)) rfl⟩
     simp only [List.mem_cons, List.not_mem_nil, or_false] at hp
     rcases hp with rfl | rfl
     · exact ⟨rfl, .head _⟩
     · exact ⟨rfl, .tail _ (.head _)⟩
set_option maxRecDepth 100000 in
theorem tv_x (c : Cfg) (b : Int) (h8 : c.np ≤ 8) {j : Nat} (hj : j < c.np) (hg : ∀ k, k < j → badP c k = false) (hx : badP c j = true) :
 LoopV Tryd.prog (loopAt Tryd.prog 3 0) [1, 2, 5] tvI ((tvAV b 0).map some) ((tvK c).map some) 193 55 (mkFr 193 [(4, bo true)]) [] 100000000000000000000000000000000000000000000000000 .ret none := by
 refine scan_ob hENct (fuel := 100) (str := 10000000000000000000000000000000000000000) (nh := 1000000000000000000000000000000000000000000) (n' := 100000000000000000000000000000000000000000000000000) [1, 2, 5] [4] tvI (fun k => tvAV b k) (tvK c) j (by decide) (by decide) (by unfold lim; omega) (by simp) (fun _ => ⟨rfl, rfl⟩) (by kernel_rfl) (fun _ _ => rfl) (tvK_low (by omega)) ?_ ?_
 · intro k hk
   have hk' : k < c.np := by omega
   have hb := hg k hk
   unfold badP at hb
   refine twA cfgErr c b k _ ?_
   simp only [Bool.or_eq_false_iff, Bool.and_eq_false_iff, decide_eq_false_iff_not] at hb
   obtain ⟨b1, b2, b3⟩ := hb
   have d1 : decide (c.fp k < Int.ofNat 0) = false := decide_eq_false (by simpa using b1)
   have d2 : decide (c.fp k ≥ c.nodes) = false := decide_eq_false b2
   have d3 : decide (Int.ofNat k < (c.np : Int)) = true := decide_eq_true (by simpa using hk')
   have nx : NextV 100000000000000000000000000000000000000000000000000 193 3 (tvAV b (k + 1)) (tvK c) (.normal, [some (lkA (List.zip [1, 2, 5] (tvAV b k)) 1), some (lkA (List.zip [1, 2, 5] (tvAV b k)) 2), some (.c (.v (.int .i64 (Int.ofNat (k + 1))))), some (lkA (List.zip [1, 2, 5] (tvAV b k)) 4)], (tvK c).map some, 193, 1340000000000000000000000000000000000000008, [], []) := ⟨⟨by simp [allT], rfl, by dsimp only; omega, rfl⟩, rfl, rfl, BL.refl (tvK c)⟩
   obtain ⟨⟨_, _, n3, n4⟩, n5, n6, n7⟩ := nx
   simp only [tv_e0, tv_w1 (show k < 9223372036854775807 by omega), d1, d2, d3]
   by_cases hz : 0 < k
   · have d4 : decide (Int.ofNat k > Int.ofNat 0) = true := decide_eq_true (by simpa using hz)
     have d5 : decide (c.fp k ≤ c.fp (k - 1)) = false := decide_eq_false fun h => (b3.resolve_left fun x => x hz) h
     simp only [tv_w0 hz (show k < 9223372036854775807 by omega), tv_e0, d4, d5]
     refine ⟨fun _ => ⟨fun x => (by cases x), fun _ => ⟨fun x => (by cases x), fun _ => ⟨fun _ => ⟨fun x => (by cases x), fun _ => ⟨⟨?_, rfl, n3, n4⟩, n5, n6, n7⟩⟩, fun x => (by cases x)⟩⟩⟩, fun x => (by cases x)⟩
     simp [allT, inb_arr]; omega
   · have d4 : decide (Int.ofNat k > Int.ofNat 0) = false := decide_eq_false (by simpa using hz)
     simp only [d4]
     refine ⟨fun _ => ⟨fun x => (by cases x), fun _ => ⟨fun x => (by cases x), fun _ => ⟨fun x => (by cases x), fun _ => ⟨⟨?_, rfl, n3, n4⟩, n5, n6, n7⟩⟩⟩⟩, fun x => (by cases x)⟩
     simp [allT, inb_arr]; omega
 · refine twA cfgErr c b j _ ?_
   have d3 : decide (Int.ofNat j < (c.np : Int)) = true := decide_eq_true (by simpa using hj)
   have en : ∀ {ob : List Bool}, allT ob → EndV 55 100000000000000000000000000000000000000000000000000 193 ([1, 2, 5] ++ [4]) tvI .ret [(4, bo true)] [] (.ret, [some (lkA (List.zip [1, 2, 5] (tvAV b j)) 1), some (lkA (List.zip [1, 2, 5] (tvAV b j)) 2), some (lkA (List.zip [1, 2, 5] (tvAV b j)) 5), some (.c (.v (.bool true)))], (tvK c).map some, 193, 1340000000000000000000000000000000000000006, ob, []) := fun h => EndV_one ⟨h, rfl, by dsimp only; omega, rfl⟩ rfl rfl (.tail _ (.tail _ (.tail _ (.head _))))
   simp only [tv_e0, d3]
   refine ⟨fun _ => ⟨fun c1 => en ?_, fun c1 => ⟨fun c2 => en ?_, fun c2 => ⟨fun c3 => ⟨fun c4 => en ?_, fun c4 => ?_⟩, fun c3 => ?_⟩⟩⟩, fun x => (by cases x)⟩
   · simp [allT, inb_arr, c1]; simp at c1; omega
   · simp [allT, inb_arr, c1, c2]; simp at c1 c2; omega
   · have hz : 0 < j := by simpa using c3
     simp only [tv_w0 hz (show j < 9223372036854775807 by omega), tv_e0] at c4 ⊢
     simp [allT, inb_arr, c1, c2, c3, c4]; simp at c1 c2 c4; omega
   · exfalso
     have hz : 0 < j := by simpa using c3
     simp only [tv_w0 hz (show j < 9223372036854775807 by omega), tv_e0] at c4
     unfold badP at hx
     simp at hx c1 c2 c4
     omega
   · exfalso
     have hz : ¬ 0 < j := by simpa using c3
     unfold badP at hx
     simp at hx c1 c2
     omega
end Go.Proofs.YtgdoojlfbebaaaaDoor
end
/- ConfigsTurned: the sums of its loops that grow lists. -/
section
namespace Go.Proofs.YtgdoojlfbebaaaaDoor
open Go.RowKit
theorem tvN_snoc {m : Nat} {f g : Nat → Int} {z : Int} {y : ABlk} (hy : y = ABlk.mk true true 3 1 (Cs.arr (m + 1) fun i => if i < m then List.map AC.v ((fun i => [Value.int IntKind.i64 (f i)]) i) else elt (ABlk.mk true false 3 0 (Cs.lit [AC.v (Value.int IntKind.i64 z)])) 0 0 1 (i - m))) (h1 : ∀ i, i < m → f i = g i) (h2 : z = g m) : BEq y (tvN (m + 1) g) := by
 subst hy
 refine ⟨rfl, rfl, rfl, rfl, .inr (.inl ⟨_, _, _, rfl, rfl, fun i hi => ?_⟩)⟩
 dsimp only
 by_cases h : i < m
 · rw [if_pos h, h1 i h]
 · obtain rfl : i = m := by omega
   rw [if_neg h, h2]; simp [elt]
theorem tvN_eq {m : Nat} {f g : Nat → Int} (h : ∀ i, i < m → f i = g i) : BEq (tvN m f) (tvN m g) :=
 ⟨rfl, rfl, rfl, rfl, .inr (.inl ⟨_, _, _, rfl, rfl, fun i hi => by dsimp only; rw [h i hi]⟩)⟩
abbrev tvNB : Nat := 100000000000000000000000000000000000000000000000010
abbrev tvX1 : Nat := 1000000000220000000000000000000000000000000000000005
abbrev tvX2 : Nat := 1000000000220000000000000000000000000000000000000010
def tvFL (c : Cfg) (s : Int) (j0 i : Nat) : Int := c.fp (j0 + i) + s - c.nodes
def tvGF (j0 i : Nat) : Int := Int.ofNat (j0 + i)
def rId (g : Nat) : Nat ⊕ Nat := .inl g
section
variable {c : Cfg} {s : Int} {j0 : Nat} (h : TuOk c s j0)
include h
theorem tv_sum {k : Nat} (hk : k < c.np) : IntKind.wrap .i64 (c.fp k + s) = c.fp k + s ∧ IntKind.wrap .i64 (c.fp k + s - c.nodes) = c.fp k + s - c.nodes := by
 have h1 := h.inn k hk
 have := h.s0
 have := h.s1
 have := h.n16
 exact ⟨wrap_nat _ (by omega) (by omega), wrap_nat _ (by omega) (by omega)⟩
set_option maxRecDepth 100000 in
theorem tv_b (h8 : c.np ≤ 8) :
 LoopV Tryd.prog (loopAt Tryd.prog 3 1) tvBH tvI [some (.c (.ptr 10 0 0)), some (i64 s), some (.c (.v (.slice none 0 0))), some (.c (.v (.slice none 0 0))), some (.c (.v (.slice none 0 0))), some (i64 (Int.ofNat 0))] ((tvK c).map some) 193 tvNB (mkFr 193 (tvBO s (c.np - j0))) (tvBM c (c.np - j0) (tvFL c s j0) (tvGF j0)) 10000000000000000000000000000000000000000000000000000 (.exit 2) none := by
 refine loop_growM hE1 (fuel := 100) (str := 10000000000000000000000000000000000000000) (nh := 1000000000000000000000000000000000000000000000000000) (S := Nat × Nat) (fun x => x.1 ≤ c.np ∧ x.2 = x.1 - j0) (fun x => c.np - x.1) tvBH ([tvGL, tvGO, tvX1, tvX2] ++ tvI) [tvGL, tvGO] tvI tvI (fun x => tvBV s x.2 x.1) (fun x => [tvN x.2 (tvFL c s j0), tvN x.2 (tvGF j0)]) (fun _ => tvK c) (by decide) (by decide) (by unfold lim; omega) (s0 := (0, 0)) ⟨Nat.zero_le _, by simp⟩ ⟨fun _ => .inr 1, ?_⟩ ?_
 · refine mt_gen (A := []) (kb := (tvK c).map some) rfl (by kernel_rfl) ?_ ?_ (by kernel_rfl) (tvK_low (show 10 ≤ tvNB by decide)) (BL.refl (tvK c))
   · exact fr_cons (.head _) (fun h => (by cases h)) (GW_low rfl) (fr_cons (.tail _ (.head _)) (fun h => (by cases h)) (GW_low rfl) (fr_cons (.tail _ (.tail _ (.head _))) (fun h => (by cases h)) (GW_nil (by decide) (by decide) (by decide) rfl) (fr_cons (.tail _ (.tail _ (.tail _ (.head _)))) (fun h => (by cases h)) (GW_low rfl) (fr_cons (.tail _ (.tail _ (.tail _ (.tail _ (.head _))))) (fun h => (by cases h)) (GW_nil (by decide) (by decide) (by decide) rfl) (fr_cons (.tail _ (.tail _ (.tail _ (.tail _ (.tail _ (.head _)))))) (fun h => (by cases h)) (GW_low rfl) fr_nil)))))
   · exact me_cons (mv_nil rfl rfl rfl rfl ⟨_, rfl⟩) (me_cons (mv_nil rfl rfl rfl rfl ⟨_, rfl⟩) me_nil)
 · rintro ⟨k, m⟩ ⟨hk, hm⟩
   dsimp only at hk hm
   refine (?_ : (∃ p r, tvBR Tryd.prog c s m (tvFL c s j0) (tvGF j0) k p = some r ∧ _) → _) (twB c s m (tvFL c s j0) (tvGF j0) k (StepM tvNB 1000000000000000000000000000000000000000000000000000 10000000000000000000000000000000000000000000000000000 193 tvBH ([tvGL, tvGO, tvX1, tvX2] ++ tvI) [tvGL, tvGO] tvI (fun x : Nat × Nat => x.1 ≤ c.np ∧ x.2 = x.1 - j0) (fun x => c.np - x.1) (fun x => tvBV s x.2 x.1) (fun x => [tvN x.2 (tvFL c s j0), tvN x.2 (tvGF j0)]) (fun _ => tvK c) (.exit 2) (tvBO s (c.np - j0)) (tvBM c (c.np - j0) (tvFL c s j0) (tvGF j0)) (k, m)) ?_)
   · rintro ⟨p, r, h1, h2⟩
     exact ⟨p, [], r, h1, h2⟩
   · have hj := h.j
     refine ⟨fun c1 => ?_, fun c1 => ?_⟩
     · have hlt : k < c.np := by simpa using c1
       obtain ⟨w1, w2⟩ := tv_sum h hlt
       have w3 := tv_w1 (show k < 9223372036854775807 by omega)
       have hi := h.hi k
       have lo := h.lo k
       simp only [tv_e0, w1, w2, w3]
       refine ⟨fun c2 => ?_, fun c2 => ?_⟩
       · have hge : j0 ≤ k := by
          have : c.nodes ≤ c.fp k + s := of_decide_eq_true c2
          rcases Nat.lt_or_ge k j0 with q | q
          · have := lo q; omega
          · exact q
         refine ⟨?_, (fun q hq => by cases hq), by dsimp only; omega, rfl, .inl ⟨rfl, (k + 1, m + 1), ⟨hlt, by show m + 1 = k + 1 - j0; omega⟩, by show c.np - (k + 1) < c.np - k; omega, fun g => cond (Nat.beq g tvGL) (.inl tvX1) (.inl tvX2), ?_⟩⟩
         · simp [allT, inb_arr] at c2 ⊢; omega
         · refine mt_gen (A := [(tvGL, none), (tvGO, none), (tvX1, _), (tvX2, _)]) (kb := (tvK c).map some) rfl (by kernel_rfl) ?_ ?_ (by kernel_rfl) (tvK_low (show 10 ≤ tvNB by decide)) (BL.refl (tvK c))
           · exact fr_cons (.head _) (fun h => (by cases h)) (GW_low rfl) (fr_cons (.tail _ (.head _)) (fun h => (by cases h)) (GW_low rfl) (fr_cons (.tail _ (.tail _ (.head _))) (fun h => (by cases h)) (GW_sl (by decide) (by decide) (by decide) rfl) (fr_cons (.tail _ (.tail _ (.tail _ (.head _)))) (fun h => (by cases h)) (GW_low rfl) (fr_cons (.tail _ (.tail _ (.tail _ (.tail _ (.head _))))) (fun h => (by cases h)) (GW_sl (by decide) (by decide) (by decide) rfl) (fr_cons (.tail _ (.tail _ (.tail _ (.tail _ (.tail _ (.head _)))))) (fun h => (by cases h)) (GW_low rfl) fr_nil)))))
           · exact me_cons (mv_new rfl rfl rfl (.tail _ (.tail _ (.head _))) (tvN_snoc rfl (fun _ _ => rfl) (by unfold tvFL; rw [show j0 + m = k by omega])) wBlk_low) (me_cons (mv_new rfl rfl rfl (.tail _ (.tail _ (.tail _ (.head _)))) (tvN_snoc rfl (fun _ _ => rfl) (by unfold tvGF; rw [show j0 + m = k by omega])) wBlk_low) me_nil)
       · have hlo : k < j0 := by
          have : ¬ c.nodes ≤ c.fp k + s := of_decide_eq_false c2
          rcases Nat.lt_or_ge k j0 with q | q
          · exact q
          · have := hi q hlt; omega
         refine ⟨?_, (fun q hq => by cases hq), by dsimp only; omega, rfl, .inl ⟨rfl, (k + 1, m), ⟨hlt, by show m = k + 1 - j0; omega⟩, by show c.np - (k + 1) < c.np - k; omega, rId, ?_⟩⟩
         · simp [allT, inb_arr] at c2 ⊢; omega
         · refine mt_gen (A := [(tvGL, _), (tvGO, _), (tvX1, none), (tvX2, none)]) (kb := (tvK c).map some) rfl (by kernel_rfl) ?_ ?_ (by kernel_rfl) (tvK_low (show 10 ≤ tvNB by decide)) (BL.refl (tvK c))
           · exact fr_cons (.head _) (fun h => (by cases h)) (GW_low rfl) (fr_cons (.tail _ (.head _)) (fun h => (by cases h)) (GW_low rfl) (fr_cons (.tail _ (.tail _ (.head _))) (fun h => (by cases h)) (GW_sl (by decide) (by decide) (by decide) rfl) (fr_cons (.tail _ (.tail _ (.tail _ (.head _)))) (fun h => (by cases h)) (GW_low rfl) (fr_cons (.tail _ (.tail _ (.tail _ (.tail _ (.head _))))) (fun h => (by cases h)) (GW_sl (by decide) (by decide) (by decide) rfl) (fr_cons (.tail _ (.tail _ (.tail _ (.tail _ (.tail _ (.head _)))))) (fun h => (by cases h)) (GW_low rfl) fr_nil)))))
           · exact me_cons (mv_new rfl rfl rfl (.head _) (BEq.refl _) wBlk_low) (me_cons (mv_new rfl rfl rfl (.tail _ (.head _)) (BEq.refl _) wBlk_low) me_nil)
     · obtain rfl : k = c.np := by have : ¬ k < c.np := by simpa using c1
                                   omega
       subst hm
       refine ⟨by simp only [allT, List.forall_mem_cons, c1]; simp, (fun q hq => by cases hq), by dsimp only; omega, rfl, .inr ⟨by simp, rfl, rId, ?_⟩⟩
       refine mt_gen (hs := [2, 6, 7, 8, 9]) (vals := [.c (.ptr 10 0 0), i64 s, .c (.sl tvGL 0 0 (c.np - j0) none), .c (.v (.slice none 0 0)), .c (.sl tvGO 0 0 (c.np - j0) none)]) (A := [(tvGL, _), (tvGO, _), (tvX1, none), (tvX2, none)]) (kb := (tvK c).map some) rfl (by kernel_rfl) ?_ ?_ (by kernel_rfl) (tvK_low (show 10 ≤ tvNB by decide)) (BL.refl (tvK c))
       · exact fr_cons (.head _) (fun h => (by cases h)) (GW_low rfl) (fr_cons (.tail _ (.head _)) (fun h => (by cases h)) (GW_low rfl) (fr_cons (.tail _ (.tail _ (.head _))) (fun h => (by cases h)) (GW_sl (by decide) (by decide) (by decide) rfl) (fr_cons (.tail _ (.tail _ (.tail _ (.head _)))) (fun h => (by cases h)) (GW_low rfl) (fr_cons (.tail _ (.tail _ (.tail _ (.tail _ (.head _))))) (fun h => (by cases h)) (GW_sl (by decide) (by decide) (by decide) rfl) fr_nil))))
       · exact me_cons (mv_new rfl rfl rfl (.head _) (BEq.refl _) wBlk_low) (me_cons (mv_new rfl rfl rfl (.tail _ (.head _)) (BEq.refl _) wBlk_low) me_nil)
end
end Go.Proofs.YtgdoojlfbebaaaaDoor
end
/- ConfigsTurned: the sum of its third loop. -/
section
namespace Go.Proofs.YtgdoojlfbebaaaaDoor
open Go.RowKit
abbrev tvNC : Nat := 10000000000000000000000000000000000000000000000000001
abbrev tvX3 : Nat := 100000000000100000000000000000000000000000000000000014
abbrev tvX4 : Nat := 100000000000100000000000000000000000000000000000000019
def tvFH (c : Cfg) (s : Int) (i : Nat) : Int := c.fp i + s
def tvFO (l j0 i : Nat) : Int := if i < l then Int.ofNat (j0 + i) else Int.ofNat (i - l)
theorem tvCK_low {N : Nat} (hN : 10 ≤ N) {c : Cfg} {l : Nat} {f : Nat → Int} : ∀ b ∈ tvN l f :: tvK c, lowB N b := by
 intro b hb
 rcases List.mem_cons.1 hb with rfl | hb
 · exact wBlk_low
 · exact tvK_low hN b hb
theorem BL_cons {x : ABlk} {l : List ABlk} : BL (x :: l) ((x :: l).map some) := BL.refl _
section
variable {c : Cfg} {s : Int} {j0 : Nat} (h : TuOk c s j0)
include h
set_option maxRecDepth 100000 in
theorem tv_c (h8 : c.np ≤ 8) {l : Nat} (hl : l = c.np - j0) (fl : Nat → Int) :
 LoopV Tryd.prog (loopAt Tryd.prog 3 2) tvCH (tvGO :: tvGL :: tvI) [some (.c (.ptr 10 0 0)), some (i64 s), some (.c (.sl tvGL 0 0 l none)), some (.c (.v (.slice none 0 0))), some (.c (.sl tvGO 0 0 l none)), some (i64 (Int.ofNat 0))] (some (tvN l (tvGF j0)) :: some (tvN l fl) :: (tvK c).map some) 193 tvNC (mkFr 193 (tvCO l j0 (l + j0))) (tvCM c l j0 (l + j0) fl (tvFH c s) (tvFO l j0)) 1000000000000000000000000000000000000000000000000000000 (.exit 4) none := by
 refine loop_growM hE1 (fuel := 100) (str := 10000000000000000000000000000000000000000) (nh := 100000000000000000000000000000000000000000000000000000) (S := Nat × Nat) (fun x => x.1 ≤ c.np ∧ x.2 = min x.1 j0) (fun x => c.np - x.1) tvCH ([tvGH, tvGP, tvX3, tvX4] ++ (tvGL :: tvI)) [tvGH, tvGP] (tvGL :: tvI) (tvGO :: tvGL :: tvI) (fun x => tvCV s l x.2 (l + x.2) x.1) (fun x => [tvN x.2 (tvFH c s), tvN (l + x.2) (tvFO l j0)]) (fun _ => tvN l fl :: tvK c) (by decide) (by decide) (by unfold lim; omega) (s0 := (0, 0)) ⟨Nat.zero_le _, by simp⟩ ⟨fun g => cond (Nat.beq g tvGH) (.inr 1) (.inl tvGO), ?_⟩ ?_
 · refine mt_gen (A := [(tvGO, some (tvN l (tvGF j0)))]) (kb := (tvN l fl :: tvK c).map some) rfl (by kernel_rfl) ?_ ?_ (by kernel_rfl) (tvCK_low (show 10 ≤ tvNC by decide)) BL_cons
   · exact fr_cons (.head _) (fun h => (by cases h)) (GW_low rfl) (fr_cons (.tail _ (.head _)) (fun h => (by cases h)) (GW_low rfl) (fr_cons (.tail _ (.tail _ (.head _))) (fun h => (by cases h)) (GW_low rfl) (fr_cons (.tail _ (.tail _ (.tail _ (.head _)))) (fun h => (by cases h)) (GW_nil (by decide) (by decide) (by decide) rfl) (fr_cons (.tail _ (.tail _ (.tail _ (.tail _ (.head _))))) (fun h => (by cases h)) (GW_sl (by decide) (by decide) (by decide) rfl) (fr_cons (.tail _ (.tail _ (.tail _ (.tail _ (.tail _ (.head _)))))) (fun h => (by cases h)) (GW_low rfl) (fr_nil))))))
   · exact me_cons (mv_nil rfl rfl rfl rfl ⟨_, rfl⟩) (me_cons (mv_new rfl rfl rfl (.head _) (tvN_eq fun i hi => by unfold tvGF tvFO; rw [if_pos (show i < l by omega)]) wBlk_low) me_nil)
 · rintro ⟨k, m⟩ ⟨hk, hm⟩
   dsimp only at hk hm
   refine (?_ : (∃ p r, tvCR Tryd.prog c s l m (l + m) fl (tvFH c s) (tvFO l j0) k p = some r ∧ _) → _) (twC c s l m (l + m) fl (tvFH c s) (tvFO l j0) k (StepM tvNC 100000000000000000000000000000000000000000000000000000 1000000000000000000000000000000000000000000000000000000 193 tvCH ([tvGH, tvGP, tvX3, tvX4] ++ (tvGL :: tvI)) [tvGH, tvGP] (tvGL :: tvI) (fun x : Nat × Nat => x.1 ≤ c.np ∧ x.2 = min x.1 j0) (fun x => c.np - x.1) (fun x => tvCV s l x.2 (l + x.2) x.1) (fun x => [tvN x.2 (tvFH c s), tvN (l + x.2) (tvFO l j0)]) (fun _ => tvN l fl :: tvK c) (.exit 4) (tvCO l j0 (l + j0)) (tvCM c l j0 (l + j0) fl (tvFH c s) (tvFO l j0)) (k, m)) ?_)
   · rintro ⟨p, r, h1, h2⟩
     exact ⟨p, [], r, h1, h2⟩
   · have hj := h.j
     refine ⟨fun c1 => ?_, fun c1 => ?_⟩
     · have hlt : k < c.np := by simpa using c1
       obtain ⟨w1, w2⟩ := tv_sum h hlt
       have w3 := tv_w1 (show k < 9223372036854775807 by omega)
       have hi := h.hi k
       have lo := h.lo k
       simp only [tv_e0, w1, w2, w3]
       refine ⟨fun c2 => ?_, fun c2 => ?_⟩
       · have hlo : k < j0 := by
          have : c.fp k + s < c.nodes := of_decide_eq_true c2
          rcases Nat.lt_or_ge k j0 with q | q
          · exact q
          · have := hi q hlt; omega
         refine ⟨?_, (fun q hq => by cases hq), by dsimp only; omega, rfl, .inl ⟨rfl, (k + 1, m + 1), ⟨hlt, by show m + 1 = min (k + 1) j0; omega⟩, by show c.np - (k + 1) < c.np - k; omega, fun g => cond (Nat.beq g tvGH) (.inl tvX3) (.inl tvX4), ?_⟩⟩
         · simp [allT, inb_arr] at c2 ⊢; omega
         · refine mt_gen (A := [(tvGH, none), (tvGP, none), (tvX3, _), (tvX4, _)]) (kb := (tvN l fl :: tvK c).map some) rfl (by kernel_rfl) ?_ ?_ (by kernel_rfl) (tvCK_low (show 10 ≤ tvNC by decide)) BL_cons
           · exact fr_cons (.head _) (fun h => (by cases h)) (GW_low rfl) (fr_cons (.tail _ (.head _)) (fun h => (by cases h)) (GW_low rfl) (fr_cons (.tail _ (.tail _ (.head _))) (fun h => (by cases h)) (GW_low rfl) (fr_cons (.tail _ (.tail _ (.tail _ (.head _)))) (fun h => (by cases h)) (GW_sl (by decide) (by decide) (by decide) rfl) (fr_cons (.tail _ (.tail _ (.tail _ (.tail _ (.head _))))) (fun h => (by cases h)) (GW_sl (by decide) (by decide) (by decide) rfl) (fr_cons (.tail _ (.tail _ (.tail _ (.tail _ (.tail _ (.head _)))))) (fun h => (by cases h)) (GW_low rfl) (fr_nil))))))
           · exact me_cons (mv_new rfl rfl rfl (.tail _ (.tail _ (.head _))) (tvN_snoc rfl (fun _ _ => rfl) (by unfold tvFH; rw [show m = k by omega])) wBlk_low) (me_cons (mv_new rfl rfl rfl (.tail _ (.tail _ (.tail _ (.head _)))) (tvN_snoc rfl (fun _ _ => rfl) (by show Int.ofNat k = tvFO l j0 (l + m); unfold tvFO; rw [if_neg (show ¬ l + m < l by omega), show l + m - l = k by omega])) wBlk_low) me_nil)
       · have hge : j0 ≤ k := by
          have : ¬ c.fp k + s < c.nodes := of_decide_eq_false c2
          rcases Nat.lt_or_ge k j0 with q | q
          · have := lo q; omega
          · exact q
         refine ⟨?_, (fun q hq => by cases hq), by dsimp only; omega, rfl, .inl ⟨rfl, (k + 1, m), ⟨hlt, by show m = min (k + 1) j0; omega⟩, by show c.np - (k + 1) < c.np - k; omega, rId, ?_⟩⟩
         · simp [allT, inb_arr] at c2 ⊢; omega
         · refine mt_gen (A := [(tvGH, _), (tvGP, _), (tvX3, none), (tvX4, none)]) (kb := (tvN l fl :: tvK c).map some) rfl (by kernel_rfl) ?_ ?_ (by kernel_rfl) (tvCK_low (show 10 ≤ tvNC by decide)) BL_cons
           · exact fr_cons (.head _) (fun h => (by cases h)) (GW_low rfl) (fr_cons (.tail _ (.head _)) (fun h => (by cases h)) (GW_low rfl) (fr_cons (.tail _ (.tail _ (.head _))) (fun h => (by cases h)) (GW_low rfl) (fr_cons (.tail _ (.tail _ (.tail _ (.head _)))) (fun h => (by cases h)) (GW_sl (by decide) (by decide) (by decide) rfl) (fr_cons (.tail _ (.tail _ (.tail _ (.tail _ (.head _))))) (fun h => (by cases h)) (GW_sl (by decide) (by decide) (by decide) rfl) (fr_cons (.tail _ (.tail _ (.tail _ (.tail _ (.tail _ (.head _)))))) (fun h => (by cases h)) (GW_low rfl) (fr_nil))))))
           · exact me_cons (mv_new rfl rfl rfl (.head _) (BEq.refl _) wBlk_low) (me_cons (mv_new rfl rfl rfl (.tail _ (.head _)) (BEq.refl _) wBlk_low) me_nil)
     · have hke : k = c.np := by have : ¬ k < c.np := by simpa using c1
                                 omega
       obtain rfl : m = j0 := by omega
       refine ⟨by simp only [allT, List.forall_mem_cons, c1]; simp, (fun q hq => by cases hq), by dsimp only; omega, rfl, .inr ⟨by simp, rfl, rId, ?_⟩⟩
       refine mt_gen (hs := [2, 7, 8, 9]) (vals := [.c (.ptr 10 0 0), .c (.sl tvGL 0 0 l none), .c (.sl tvGH 0 0 m none), .c (.sl tvGP 0 0 (l + m) none)]) (A := [(tvGH, _), (tvGP, _), (tvX3, none), (tvX4, none)]) (kb := (tvN l fl :: tvK c).map some) rfl (by kernel_rfl) ?_ ?_ (by kernel_rfl) (tvCK_low (show 10 ≤ tvNC by decide)) BL_cons
       · exact fr_cons (.head _) (fun h => (by cases h)) (GW_low rfl) (fr_cons (.tail _ (.tail _ (.head _))) (fun h => (by cases h)) (GW_low rfl) (fr_cons (.tail _ (.tail _ (.tail _ (.head _)))) (fun h => (by cases h)) (GW_sl (by decide) (by decide) (by decide) rfl) (fr_cons (.tail _ (.tail _ (.tail _ (.tail _ (.head _))))) (fun h => (by cases h)) (GW_sl (by decide) (by decide) (by decide) rfl) fr_nil)))
       · exact me_cons (mv_new rfl rfl rfl (.head _) (BEq.refl _) wBlk_low) (me_cons (mv_new rfl rfl rfl (.tail _ (.head _)) (BEq.refl _) wBlk_low) me_nil)
end
end Go.Proofs.YtgdoojlfbebaaaaDoor
end
/- ConfigsTurned: the sums of its last loops: a slot's new place, all slots'. -/
section
namespace Go.Proofs.YtgdoojlfbebaaaaDoor
open Go.RowKit
abbrev tvNE : Nat := 10000000000000000000000000000000000000000000000000000007
abbrev tvND : Nat := 1000000000000000000000000000000000000000000000000000011
abbrev tvX5 : Nat := 1000000000000000000000000000000000000000000000000000000004
def nowF (h : Nat → Int) (z : Int) : Nat → Int
 | 0 => Int.negSucc 0
 | k + 1 => if h k = z then Int.ofNat k else nowF h z k
theorem tvDL_low {N : Nat} (hN : 10 ≤ N) {c : Cfg} {l : Nat} {f h : Nat → Int} : ∀ b ∈ tvDL c l f h, lowB N b := by
 intro b hb
 rcases List.mem_append.1 hb with hb | hb
 · exact tvK_low hN b hb
 · simp only [List.mem_cons, List.not_mem_nil, or_false] at hb
   rcases hb with rfl | rfl <;> exact wBlk_low
theorem tvEB_low {c : Cfg} {l m : Nat} {f h g : Nat → Int} : ∀ b ∈ tvN m g :: tvDK c l m f h, lowB tvNE b := by
 intro b hb
 rcases List.mem_cons.1 hb with rfl | hb
 · exact wBlk_low
 rcases List.mem_cons.1 hb with rfl | hb
 · exact low_lit rfl
 · exact tvDL_low (show 10 ≤ tvNE by decide) b hb
set_option maxRecDepth 100000 in
theorem tv_e (c : Cfg) (l m : Nat) (f h g : Nat → Int) (i : Nat) (hl : l ≤ 16) (hi : i < c.ns) :
 LoopV Tryd.prog (loopAt Tryd.prog 3 4) tvEH (tvGD :: tvDI) ((tvEV l i 0 (Int.negSucc 0)).map some) ((tvN m g :: tvDK c l m f h).map some) 193 tvNE (mkFr 193 (tvEO l i (nowF h (c.fs i) l))) ((tvGD :: tvDI).zip (tvN m g :: tvDK c l m f h)) 1000000000000000000000000000000000000000000000000000000000 (.exit 8) none := by
 refine scan_ob hE1 (fuel := 100) (str := 10000000000000000000000000000000000000000) (nh := 100000000000000000000000000000000000000000000000000000000) (n' := 1000000000000000000000000000000000000000000000000000000000) tvEH [] (tvGD :: tvDI) (fun k => tvEV l i k (nowF h (c.fs i) k)) (tvN m g :: tvDK c l m f h) l (by decide) (by decide) (by unfold lim; omega) (by simp) (fun _ => ⟨rfl, rfl⟩) (by kernel_rfl) (fun _ _ => rfl) tvEB_low ?_ ?_
 · intro k hk
   have w := tv_w1 (show k < 9223372036854775807 by omega)
   refine twE c l m f h g i k (nowF h (c.fs i) k) _ ⟨fun c1 => ⟨fun c2 => ?_, fun c2 => ?_⟩, fun c1 => ?_⟩
   · simp only [tv_e0, beq_iff_eq] at c2
     have e : nowF h (c.fs i) (k + 1) = Int.ofNat k := if_pos c2
     refine ⟨⟨?_, rfl, by dsimp only; omega, rfl⟩, rfl, ?_, BL.refl (tvN m g :: tvDK c l m f h)⟩
     · simp only [tv_e0, c2]; simp [allT, inb_arr]; omega
     · dsimp only; rw [w, e]; rfl
   · have c3 : ¬ h k = c.fs i := by simpa using c2
     have e : nowF h (c.fs i) (k + 1) = nowF h (c.fs i) k := if_neg c3
     refine ⟨⟨?_, rfl, by dsimp only; omega, rfl⟩, rfl, ?_, BL.refl (tvN m g :: tvDK c l m f h)⟩
     · simp only [tv_e0] at c2 ⊢; simp [allT, inb_arr, c3]; omega
     · dsimp only; rw [w, e]; rfl
   · simp at c1; omega
 · refine twE c l m f h g i l (nowF h (c.fs i) l) _ ⟨fun c1 => ?_, fun c1 => ?_⟩
   · simp at c1
   · refine ⟨⟨by simp only [allT, List.forall_mem_cons, c1]; simp, rfl, by dsimp only; omega, rfl⟩, rfl, fun p hp => ?_, mf_all (by kernel_rfl) tvEB_low rfl⟩
     simp only [List.mem_cons, List.not_mem_nil, or_false] at hp
     rcases hp with rfl | rfl | rfl | rfl | rfl
     · exact ⟨rfl, .head _⟩
     · exact ⟨rfl, .tail _ (.head _)⟩
     · exact ⟨rfl, .tail _ (.tail _ (.head _))⟩
     · exact ⟨rfl, .tail _ (.tail _ (.tail _ (.head _)))⟩
     · exact ⟨rfl, .tail _ (.tail _ (.tail _ (.tail _ (.head _))))⟩
theorem mv_T {nh n' : Nat} {ρ : Rn} {mv : List (Nat × Option ABlk)} {c : Cfg} {o l m : Nat} (hm : (tvT, some (ABlk.mk true false 25 0 (.lit (tvTL c o l m)))) ∈ mv) (h2 : Nat.blt tvGD nh = true) (h3 : Nat.blt tvGD n' = true) (hr : ρ tvGD = .inl o) : MemV tvND nh n' ρ mv tvT (tvTB c l m) := by
 rw [Nat.blt_eq] at h2 h3
 refine .inr (.inr (.inr ⟨.inl (show tvT < tvND by decide), _, hm, rfl, rfl, rfl, rfl, tvTL c o l m, tvTL c tvGD l m, rfl, rfl, rfl, fun j => ?_⟩))
 match j with
 | 2 => exact CW_of (GW_sl (show tvND ≤ tvGD by decide) h2 h3 hr)
 | 0 | 1 | 3 | 4 | 5 | 6 | 7 | 8 => exact CW_low rfl
 | j + 9 => exact CW_low rfl
abbrev tvT0 (c : Cfg) (l : Nat) : List AC := [.v (.int .i64 c.nodes), .sl tvA 0 0 l none, .v (.slice none 0 0), .v (.int .i64 c.long), .sl 2 0 0 c.nb none, .sl 3 0 0 c.nt none, .v (.int .i64 c.miss), .v (.int .i64 c.good), .v (.int .i64 c.fresh)]
theorem mv_T0 {nh n' : Nat} {ρ : Rn} {mv : List (Nat × Option ABlk)} {c : Cfg} {l : Nat} (hm : (tvT, some (ABlk.mk true false 25 0 (.lit (tvT0 c l)))) ∈ mv) (h2 : Nat.blt tvGD nh = true) (h3 : Nat.blt tvGD n' = true) (hr : ρ tvGD = .inr 1) : MemV tvND nh n' ρ mv tvT (tvTB c l 0) := by
 rw [Nat.blt_eq] at h2 h3
 refine .inr (.inr (.inr ⟨.inl (show tvT < tvND by decide), _, hm, rfl, rfl, rfl, rfl, tvT0 c l, tvTL c tvGD l 0, rfl, rfl, rfl, fun j => ?_⟩))
 match j with
 | 2 => exact CW_of (GW_nil (show tvND ≤ tvGD by decide) h2 h3 hr)
 | 0 | 1 | 3 | 4 | 5 | 6 | 7 | 8 => exact CW_low rfl
 | j + 9 => exact CW_low rfl
set_option maxRecDepth 100000 in
theorem tv_d (c : Cfg) (l : Nat) (f h g : Nat → Int) (hl : l ≤ 16) (hn : c.ns ≤ 60) (hg : ∀ i, i < c.ns → nowF h (c.fs i) l = g i) {y : ABlk} (hy : BEq y (tvN l f)) :
 LoopV Tryd.prog (loopAt Tryd.prog 3 3) tvDH tvDI ((tvDV l 0).map some) (some (ABlk.mk true false 25 0 (.lit (tvT0 c l))) :: ((tvK c).map some ++ [some (tvN l h), some y])) 193 tvND (mkFr 193 tvDO) (tvDM c l f h g) 10000000000000000000000000000000000000000000000000000000000 (.exit 6) none := by
 have hbl : BL (tvDL c l f h) ((tvK c).map some ++ [some (tvN l h), some y]) := ⟨BEq.refl _, BEq.refl _, BEq.refl _, BEq.refl _, BEq.refl _, BEq.refl _, BEq.refl _, hy, trivial⟩
 refine loop_growM hE1 (fuel := 100) (str := 10000000000000000000000000000000000000000) (nh := 10000000000000000000000000000000000000000000000000000000) (S := Nat) (fun i => i ≤ c.ns) (fun i => c.ns - i) tvDH ([tvGD, tvX5, tvT] ++ tvDJ) [tvGD, tvT] tvDJ tvDI (fun i => tvDV l i) (fun i => [tvN i g, tvTB c l i]) (fun _ => tvDL c l f h) (by decide) (by decide) (by unfold lim; omega) (s0 := 0) (Nat.zero_le _) ⟨fun _ => .inr 1, ?_⟩ ?_
 · refine mt_gen (A := [(tvT, some (ABlk.mk true false 25 0 (.lit (tvT0 c l))))]) rfl (by kernel_rfl) ?_ ?_ (by kernel_rfl) (tvDL_low (show 10 ≤ tvND by decide)) hbl
   · exact fr_cons (.head _) (fun h => (by cases h)) (GW_low rfl) (fr_cons (.tail _ (.head _)) (fun h => (by cases h)) (GW_low rfl) (fr_cons (.tail _ (.tail _ (.head _))) (fun h => (by cases h)) (GW_low rfl) (fr_cons (.tail _ (.tail _ (.tail _ (.head _)))) (fun h => (by cases h)) (GW_low rfl) (fr_nil))))
   · exact me_cons (mv_nil rfl rfl rfl rfl ⟨_, rfl⟩) (me_cons (mv_T0 (.head _) rfl rfl rfl) me_nil)
 · intro k hk
   refine (?_ : (∃ p r, tvDR Tryd.prog c l k f h g k p [some (tvES c l k f h g k (nowF h (c.fs k) l))] = some r ∧ _) → _) (twD c l k f h g k (nowF h (c.fs k) l) (StepM tvND 10000000000000000000000000000000000000000000000000000000 10000000000000000000000000000000000000000000000000000000000 193 tvDH ([tvGD, tvX5, tvT] ++ tvDJ) [tvGD, tvT] tvDJ (fun i : Nat => i ≤ c.ns) (fun i => c.ns - i) (fun i => tvDV l i) (fun i => [tvN i g, tvTB c l i]) (fun _ => tvDL c l f h) (.exit 6) tvDO (tvDM c l f h g) k) ?_)
   · rintro ⟨p, r, h1, h2⟩
     exact ⟨p, _, r, h1, h2⟩
   · refine ⟨fun c1 => ?_, fun c1 => ?_⟩
     · have hlt : k < c.ns := by simpa using c1
       have w := tv_w1 (show k < 9223372036854775807 by omega)
       have he := tv_e c l k f h g k hl hlt
       simp only [w]
       refine ⟨?_, fun q hq => ?_, by dsimp only; omega, rfl, .inl ⟨rfl, k + 1, hlt, by show c.ns - (k + 1) < c.ns - k; omega, fun _ => .inl tvX5, ?_⟩⟩
       · simp [allT]; omega
       · rw [List.mem_singleton.1 hq]; exact he
       · refine mt_gen (A := [(tvGD, none), (tvX5, _), (tvT, _)]) (kb := (tvDL c l f h).map some) rfl (by kernel_rfl) ?_ ?_ (by kernel_rfl) (tvDL_low (show 10 ≤ tvND by decide)) (BL.refl (tvDL c l f h))
         · exact fr_cons (.head _) (fun h => (by cases h)) (GW_low rfl) (fr_cons (.tail _ (.head _)) (fun h => (by cases h)) (GW_low rfl) (fr_cons (.tail _ (.tail _ (.head _))) (fun h => (by cases h)) (GW_low rfl) (fr_cons (.tail _ (.tail _ (.tail _ (.head _)))) (fun h => (by cases h)) (GW_low rfl) (fr_nil))))
         · exact me_cons (mv_new rfl rfl rfl (.tail _ (.head _)) (tvN_snoc rfl (fun _ _ => rfl) (hg k hlt)) wBlk_low) (me_cons (mv_T (.tail _ (.tail _ (.head _))) rfl rfl rfl) me_nil)
     · obtain rfl : k = c.ns := by have : ¬ k < c.ns := by simpa using c1
                                   omega
       refine ⟨by simp only [allT, List.forall_mem_cons, c1]; simp, (fun q hq => by cases hq), by dsimp only; omega, rfl, .inr ⟨by simp, rfl, rId, ?_⟩⟩
       refine mt_gen (hs := [2, 12]) (vals := [.c (.ptr 10 0 0), .c (.ptr tvT 0 0)]) (A := [(tvGD, _), (tvX5, none), (tvT, _)]) (kb := (tvDL c l f h).map some) rfl (by kernel_rfl) ?_ ?_ (by kernel_rfl) (tvDL_low (show 10 ≤ tvND by decide)) (BL.refl (tvDL c l f h))
       · exact fr_cons (.head _) (fun h => (by cases h)) (GW_low rfl) (fr_cons (.tail _ (.tail _ (.head _))) (fun h => (by cases h)) (GW_low rfl) fr_nil)
       · exact me_cons (mv_new rfl rfl rfl (.head _) (BEq.refl _) wBlk_low) (me_cons (mv_T (.tail _ (.tail _ (.head _))) rfl rfl rfl) me_nil)
end Go.Proofs.YtgdoojlfbebaaaaDoor
end
/- ConfigsTurned: what its runs answer. -/
section
namespace Go.Proofs.YtgdoojlfbebaaaaDoor
open Go.RowKit
theorem nowF_none {h : Nat → Int} {z : Int} : ∀ {n : Nat}, (∀ k, k < n → h k ≠ z) → nowF h z n = -1
 | 0, _ => rfl
 | n + 1, H => by
  show (if h n = z then Int.ofNat n else nowF h z n) = -1
  rw [if_neg (H n (by omega)), nowF_none fun k hk => H k (by omega)]
theorem nowF_at {h : Nat → Int} {z : Int} {k : Nat} (hk : h k = z) : ∀ {n : Nat}, k < n → (∀ i, k < i → i < n → h i ≠ z) → nowF h z n = k
 | 0, hl, _ => by omega
 | n + 1, hl, H => by
  show (if h n = z then Int.ofNat n else nowF h z n) = k
  by_cases e : k = n
  · subst e; rw [if_pos hk]; rfl
  · rw [if_neg (H n (by omega) (by omega)), nowF_at hk (by omega) fun i a b => H i a (by omega)]
theorem now_tu {np j0 : Nat} (hj : j0 ≤ np) (z : Int) : nowF (tvFO (np - j0) j0) z (np - j0 + j0) = tuS np j0 z := by
 have ev : ∀ k, tvFO (np - j0) j0 k = if k < np - j0 then Int.ofNat (j0 + k) else Int.ofNat (k - (np - j0)) := fun _ => rfl
 unfold tuS
 by_cases h : 0 ≤ z ∧ z < np
 · rw [if_pos h]
   obtain ⟨q, rfl⟩ := Int.eq_ofNat_of_zero_le h.1
   by_cases h2 : (j0 : Int) ≤ (q : Int)
   · rw [if_pos h2, nowF_at (k := q - j0) (by rw [ev, if_pos (show q - j0 < np - j0 by omega)]; simp; omega) (by omega) fun i a b => by rw [ev]; split <;> simp <;> omega]
     omega
   · rw [if_neg h2, nowF_at (k := q + (np - j0)) (by rw [ev, if_neg (show ¬ q + (np - j0) < np - j0 by omega)]; simp) (by omega) fun i a b => by rw [ev]; split <;> simp <;> omega]
     omega
 · rw [if_neg h]
   exact nowF_none fun k hk => by rw [ev]; split <;> simp <;> omega
def SmOk (c : Cfg) : Prop := c.np ≤ 8 ∧ c.ns ≤ 60 ∧ c.nb ≤ 60 ∧ c.nt ≤ 60 ∧ 4 ≤ c.nodes ∧ c.nodes ≤ 16
theorem tu_ok {c : Cfg} {s : Int} (h : SmOk c) (hb : ∀ k, k < c.np → badP c k = false) (s0 : 0 ≤ s) (s1 : s < c.nodes) : ∃ j0, TuOk c s j0 := by
 obtain ⟨h1, _, _, _, h4, h16⟩ := h
 have hb' : ∀ k, k < c.np → (0 ≤ c.fp k ∧ c.fp k < c.nodes) ∧ (0 < k → c.fp (k - 1) < c.fp k) := fun k hk => by
  have := hb k hk
  unfold badP at this
  simp only [Bool.or_eq_false_iff, Bool.and_eq_false_iff, decide_eq_false_iff_not] at this
  omega
 have hup : ∀ i, i + 1 < c.np → c.fp i < c.fp (i + 1) := fun i hi => by
  have := (hb' (i + 1) hi).2 (by omega)
  simpa using this
 have hmono : ∀ d i, i + d < c.np → c.fp i ≤ c.fp (i + d) := by
  intro d
  induction d with
  | zero => intro i _; exact Int.le_refl _
  | succ d ih =>
   intro i hi
   have := ih i (by omega)
   have := hup (i + d) (by omega)
   have e : i + (d + 1) = i + d + 1 := by omega
   rw [e]
   omega
 obtain ⟨j, j1, j2, j3⟩ := first_stop c.np (fun i => decide (c.nodes ≤ c.fp i + s))
 refine ⟨j, h4, h16, fun i hi => (hb' i hi).1, hup, s0, s1, j1, fun i hi => ?_, fun i hi hi2 => ?_⟩
 · have := of_decide_eq_false (j2 i hi)
   omega
 · have a := of_decide_eq_true (j3 (by omega))
   have b := hmono (i - j) j (by omega)
   rw [show j + (i - j) = i by omega] at b
   omega
set_option maxRecDepth 1000000 in
theorem ct_runX (c : Cfg) (b : Int) (h : ¬ (SmOk c ∧ ∀ k, k < c.np → badP c k = false)) : ∃ p r, ctuR Tryd.prog cfgErr c b p [some tvAX] = some r ∧ GoodF (bo true) r := by
 have hA : SmOk c → LoopV Tryd.prog (loopAt Tryd.prog 3 0) [1, 2, 5] tvI ((tvAV b 0).map some) ((tvK c).map some) 193 55 (mkFr 193 [(4, bo true)]) [] 100000000000000000000000000000000000000000000000000 .ret none := fun hs => by
  obtain ⟨j, j1, j2, j3⟩ := first_stop c.np (badP c)
  by_cases hj : j < c.np
  · exact tv_x c b hs.1 hj j2 (j3 hj)
  · exact absurd ⟨hs, fun k hk => j2 k (by omega)⟩ h
 have hN : ¬ SmOk c → c.np ≤ 60 → c.ns ≤ 60 → c.nb ≤ 60 → c.nt ≤ 60 → 4 ≤ c.nodes → c.nodes ≤ 16 → c.np ≤ 8 → False := fun h _ a b d e f g => h ⟨g, a, b, d, e, f⟩
 refine twX cfgErr c b _ ⟨fun c1 => ?_, fun c1 => ⟨fun c2 => ?_, fun c2 => ⟨fun c3 => ?_, fun c3 => ⟨fun c4 => ?_, fun c4 => ⟨fun c5 => ?_, fun c5 => ⟨fun c6 => ?_, fun c6 => ⟨fun c7 => ?_, fun c7 => ?_⟩⟩⟩⟩⟩⟩⟩
 · exact ⟨rfl, (by first | (unfold lim; omega) | (dsimp only; unfold lim; omega)), by simp only [allT, List.forall_mem_cons, c1]; simp, by simp⟩
 · exact ⟨rfl, (by first | (unfold lim; omega) | (dsimp only; unfold lim; omega)), by simp only [allT, List.forall_mem_cons, c1, c2]; simp, by simp⟩
 · exact ⟨rfl, (by first | (unfold lim; omega) | (dsimp only; unfold lim; omega)), by simp only [allT, List.forall_mem_cons, c1, c2, c3]; simp, by simp⟩
 · exact ⟨rfl, (by first | (unfold lim; omega) | (dsimp only; unfold lim; omega)), by simp only [allT, List.forall_mem_cons, c1, c2, c3, c4]; simp, by simp⟩
 · exact ⟨rfl, (by first | (unfold lim; omega) | (dsimp only; unfold lim; omega)), by simp only [allT, List.forall_mem_cons, c1, c2, c3, c4, c5]; simp, by simp⟩
 · exact ⟨rfl, (by first | (unfold lim; omega) | (dsimp only; unfold lim; omega)), by simp only [allT, List.forall_mem_cons, c1, c2, c3, c4, c5, c6]; simp, by simp⟩
 · exact ⟨rfl, (by first | (unfold lim; omega) | (dsimp only; unfold lim; omega)), by simp only [allT, List.forall_mem_cons, c1, c2, c3, c4, c5, c6, c7]; simp, by simp⟩
 · by_cases hs : SmOk c
   · refine ⟨rfl, (by first | (unfold lim; omega) | (dsimp only; unfold lim; omega)), by simp only [allT, List.forall_mem_cons, c1, c2, c3, c4, c5, c6, c7]; simp, fun q hq => ?_⟩
     rw [List.mem_singleton.1 hq]
     exact hA hs
   · simp at c1 c2 c3 c4 c5 c6 c7
     exact (hN hs (by omega) (by omega) (by omega) (by omega) (by omega) (by omega) (by omega)).elim
theorem tvZ_in {c : Cfg} {b : Int} (h4 : 4 ≤ c.nodes) (b0 : 0 ≤ b) (b1 : b ≤ 255) : 0 ≤ tvZ c b ∧ tvZ c b < c.nodes := by
 unfold tvZ
 rw [wrap_nat b (by omega) (by omega)]
 exact ⟨Int.tmod_nonneg _ b0, Int.tmod_lt_of_pos _ (by omega)⟩
set_option maxRecDepth 1000000 in
theorem ct_run0 (c : Cfg) (b : Int) (b0 : 0 ≤ b) (b1 : b ≤ 255) (hs : SmOk c) (hb : ∀ k, k < c.np → badP c k = false) : ∃ p lp r, ctuR Tryd.prog cfgErr c b p lp = some r ∧ GoodF (bo true) r := by
 have hs' := hs
 obtain ⟨h8, hns, hnb, hnt, h4, h16⟩ := hs
 obtain ⟨s0, s1⟩ := tvZ_in h4 b0 b1
 obtain ⟨j0, h⟩ := tu_ok hs' hb s0 s1
 have hj := h.j
 have A := tv_a c b h8 hb
 have B := tv_b h h8
 have C := tv_c h h8 rfl (tvFL c (tvZ c b) j0)
 have hsum : c.np - j0 + j0 = c.np := Nat.sub_add_cancel hj
 have D := fun (y : ABlk) (hy : BEq y (tvN (c.np - j0 + j0) (tuP c (tvZ c b) j0))) => tv_d c (c.np - j0 + j0) (tuP c (tvZ c b) j0) (tvFO (c.np - j0) j0) (fun i => tuS c.np j0 (c.fs i)) (by omega) hns (fun i _ => now_tu hj (c.fs i)) hy
 have e1 : (Cfg.mk c.nodes (c.np - j0 + j0) (tuP c (tvZ c b) j0) c.ns (fun i => tuS c.np j0 (c.fs i)) c.long c.nb c.fb c.nt c.ft c.miss c.good c.fresh) = tuC c (tvZ c b) j0 := by rw [hsum]; rfl
 have e2 : ((cfgErr (tuC c (tvZ c b) j0) == Int.ofNat 0) == (cfgErr c == Int.ofNat 0)) = true := by
  have := cfgErr_turn h
  by_cases q : cfgErr c = 0
  · rw [this.2 q, q]; rfl
  · have q2 : cfgErr (tuC c (tvZ c b) j0) ≠ 0 := fun x => q (this.1 x)
    have q3 : (cfgErr (tuC c (tvZ c b) j0) == Int.ofNat 0) = false := by simpa using q2
    have q4 : (cfgErr c == Int.ofNat 0) = false := by simpa using q
    rw [q3, q4]; rfl
 refine (?_ : (∃ p r, ctuR Tryd.prog cfgErr c b p _ = some r ∧ _) → _) (twM cfgErr c b (c.np - j0) j0 (tvFL c (tvZ c b) j0) (tvFH c (tvZ c b)) (tvFO (c.np - j0) j0) (tuP c (tvZ c b) j0) (tvGF j0) (fun i => tuS c.np j0 (c.fs i)) (GoodF (bo true)) ?_)
 · rintro ⟨p, r, r1, r2⟩
   exact ⟨p, _, r, r1, r2⟩
 · refine ⟨fun c1 => ?_, fun c1 => ⟨fun c2 => ?_, fun c2 => ⟨fun c3 => ?_, fun c3 => ⟨fun c4 => ?_, fun c4 => ⟨fun c5 => ?_, fun c5 => ⟨fun c6 => ?_, fun c6 => ⟨fun c7 => ?_, fun c7 => ⟨fun c8 => ?_, fun c8 => ?_⟩⟩⟩⟩⟩⟩⟩⟩
   · exfalso; simp at c1; omega
   · exfalso; simp at c2; omega
   · exfalso; simp at c3; omega
   · exfalso; simp at c4; omega
   · exfalso; simp at c5; omega
   · exfalso; simp at c6; omega
   · exfalso; simp at c7; omega
   · refine ⟨rfl, (by first | (unfold lim; omega) | (dsimp only; unfold lim; omega)), ?_, fun q hq => ?_⟩
     · simp only [allT, List.forall_mem_cons, c1, c2, c3, c4, c5, c6, c7, c8, cfgK_t, netK_t, intsOk_ints, stsOk_sts, intsOk_s, stsOk_s]
       simp
       omega
     · simp only [List.mem_cons, List.not_mem_nil, or_false] at hq
       rcases hq with rfl | rfl | rfl | rfl
       · refine D _ ⟨rfl, rfl, rfl, rfl, .inr (.inl ⟨_, _, _, rfl, rfl, fun i hi => ?_⟩)⟩
         dsimp only
         by_cases hi2 : i < c.np - j0
         · rw [if_pos hi2]
           unfold tuP tvFL
           rw [if_pos (show i + j0 < c.np by omega), show j0 + i = i + j0 by omega]
         · rw [if_neg hi2]
           unfold tuP
           rw [if_neg (show ¬ i + j0 < c.np by omega), show i + j0 - c.np = i - (c.np - j0) by omega]
           simp [elt, tvFH]
       · exact C
       · exact B
       · exact A
   · exfalso
     rw [e1, e2] at c8
     cases c8
end Go.Proofs.YtgdoojlfbebaaaaDoor
end
