/- Parts, one behind the other. The variables that are laid, as the evaluator has them. -/
import Derived.Test.YtoelekmbmghicaaGreatDoorJSendersBoth10
import Derived.Test.YtoelekmbmghicaaGreatDoorChecked
import Derived.KernelRfl
import Derived.Test.YtoelekmbmghicaaGreatDoorJSendersBoth3
import Derived.IntWalk
import Derived.Test.YtoelekmbmghicaaGreatDoorJSendersBoth1
set_option linter.unusedSimpArgs false
set_option linter.unusedVariables false
/- The variables that are laid, as the evaluator has them. -/
section
namespace Go.Proofs.YtoelekmbmghicaaGreatDoor
open Go.RowKit
def signB : ABlk := ⟨false, false, 126, 0, .lit [.v (.int .i64 1), .v (.int .i64 (-1))]⟩
def mS : AMem := [(gid 1, signB)]
end Go.Proofs.YtoelekmbmghicaaGreatDoor
end
/- Configs as the evaluator reads them: plain data, their lists in memory; contracts of functions of a config. -/
section
namespace Go.Proofs.YtoelekmbmghicaaGreatDoor
open Go.RowKit
structure Cfg where
 nodes : Int
 np : Nat
 fp : Nat → Int
 ns : Nat
 fs : Nat → Int
 long : Int
 nb : Nat
 fb : Nat → Int
 nt : Nat
 ft : Nat → Station
 miss : Int
 good : Int
 fresh : Int
def stOf (F : Nat → List AC) (i : Nat) : Station := ⟨asI ((F i).getD 0 nov), asI ((F i).getD 1 nov), asI ((F i).getD 2 nov)⟩
def isSt : List AC → Bool
 | [.v (.int .i64 _), .v (.int .u32 _), .v (.int .i64 _)] => true
 | _ => false
theorem isSt_eq {l : List AC} (h : isSt l = true) : l = (⟨asI (l.getD 0 nov), asI (l.getD 1 nov), asI (l.getD 2 nov)⟩ : Station).cells.map .v := by
 unfold isSt at h
 split at h
 · rfl
 · cases h
def stsOk (n : Nat) (F : Nat → List AC) : Bool := (List.range n).all fun k => isSt (F k)
theorem stsOk_eq {n : Nat} {F : Nat → List AC} (h : stsOk n F = true) : ∀ i, i < n → F i = ((fun i => (stOf F i).cells) i).map .v := fun i hi => isSt_eq (List.all_eq_true.1 h i (by simpa using hi))
abbrev sts (n : Nat) (f : Nat → Station) : ABlk := rBlk 102 3 n fun i => [.int .i64 (f i).node, .int .u32 (f i).safe, .int .i64 (f i).hold]
def cfgC (c : Cfg) : List AC := [.v (.int .i64 c.nodes), .sl 0 0 0 c.np none, .sl 1 0 0 c.ns none, .v (.int .i64 c.long), .sl 2 0 0 c.nb none, .sl 3 0 0 c.nt none, .v (.int .i64 c.miss), .v (.int .i64 c.good), .v (.int .i64 c.fresh)]
abbrev cfgL (c : Cfg) : AMem := [(0, ints 3 c.np c.fp), (1, ints 3 c.ns c.fs), (2, ints 3 c.nb c.fb), (3, sts c.nt c.ft)]
abbrev cfgM (c : Cfg) : AMem := [(gid 1, signB), (0, ints 3 c.np c.fp), (1, ints 3 c.ns c.fs), (2, ints 3 c.nb c.fb), (3, sts c.nt c.ft)]
def cfgOf (l : List AC) (m : AMem) : Option (Cfg × Bool) :=
 match l with
 | [.v (.int .i64 nodes), p, s, .v (.int .i64 long), b, t, .v (.int .i64 miss), .v (.int .i64 good), .v (.int .i64 fresh)] =>
  match slOf 1 m p, slOf 1 m s, slOf 1 m b, slOf 3 m t with
  | some (np, P, b1), some (ns, S, b2), some (nb, B, b3), some (nt, T, b4) => some (⟨nodes, np, fA P, ns, fA S, long, nb, fA B, nt, stOf T, miss, good, fresh⟩, b1 && (b2 && (b3 && (b4 && (intsOk np P && (intsOk ns S && (intsOk nb B && stsOk nt T)))))))
  | _, _, _, _ => none
 | _ => none
theorem rel_cfg4 {C : Ctx} {β : Nm} {m m2 : AMem} {w : World} (hs : Sub m m2) (hr : Rel C β m2 w) {l : List AC} {c : Cfg} (h : cfgOf l m = some (c, true)) (hg : subB mS m = true) {cs : List Value} (hv : γs β l = some cs) :
 ∃ β', Rel (loneC w) β' (cfgM c) w ∧ γs β' (cfgC c) = some cs ∧ (∀ id, 4 ≤ id → id < lim → β' id = none) ∧ ∀ i x, look (cfgM c) i = some x → x.own = false ∧ isO x = false := by
 unfold cfgOf at h
 split at h
 · rename_i nodes p s long b t miss good fresh
   split at h
   · rename_i np P b1 ns S b2 nb B b3 nt T b4 hp hsl hb ht
     simp only [Option.some.injEq, Prod.mk.injEq, Bool.and_eq_true] at h
     obtain ⟨rfl, rfl, rfl, rfl, rfl, i1, i2, i3, i4⟩ := h
     obtain ⟨hlen, hget⟩ := γs_iff.1 hv
     obtain ⟨v1, e1, g1⟩ := hget 1 p rfl
     obtain ⟨v2, e2, g2⟩ := hget 2 s rfl
     obtain ⟨v4, e4, g4⟩ := hget 4 b rfl
     obtain ⟨v5, e5, g5⟩ := hget 5 t rfl
     have r0 := rel_glob hr hs hg (by kernel_rfl)
     have n0 : ∀ id x, look mS id = some x → x.own = false ∧ isO x = false := by
      intro id x hx
      have := look_mem hx
      rw [mS, List.mem_singleton] at this
      cases this
      exact ⟨rfl, rfl⟩
     have hlo : ∀ id, id < lim → nmG β id = none := fun id h => by unfold nmG; rw [if_neg (by omega)]
     have hgi : ∀ (id : Nat), id < lim → ∀ g, id ≠ gid g := fun id h => not_gid h
     obtain ⟨L0, k0, z0⟩ := blk_slice hr Nat.one_pos (slOf_sub hs hp) g1 3 (intsOk_eq i1) (fun _ => rfl) (loneC w) (nmG β) rfl
     obtain ⟨r1, n1⟩ := rel_add_ro r0 n0 (id := 0) (hlo 0 (by unfold lim; omega)) (hgi 0 (by unfold lim; omega)) rfl rfl k0
     obtain ⟨L1, k1, z1⟩ := blk_slice hr Nat.one_pos (slOf_sub hs hsl) g2 3 (intsOk_eq i2) (fun _ => rfl) (loneC w) (ext1 (nmG β) 0 L0) rfl
     obtain ⟨r2, n2⟩ := rel_add_ro r1 n1 (id := 1) (by simp [ext1, hlo 1 (by unfold lim; omega)]) (hgi 1 (by unfold lim; omega)) rfl rfl k1
     obtain ⟨L2, k2, z2⟩ := blk_slice hr Nat.one_pos (slOf_sub hs hb) g4 3 (intsOk_eq i3) (fun _ => rfl) (loneC w) (ext1 (ext1 (nmG β) 0 L0) 1 L1) rfl
     obtain ⟨r3, n3⟩ := rel_add_ro r2 n2 (id := 2) (by simp [ext1, hlo 2 (by unfold lim; omega)]) (hgi 2 (by unfold lim; omega)) rfl rfl k2
     obtain ⟨L3, k3, z3⟩ := blk_slice hr (by omega : 0 < 3) (slOf_sub hs ht) g5 102 (stsOk_eq i4) (fun _ => rfl) (loneC w) (ext1 (ext1 (ext1 (nmG β) 0 L0) 1 L1) 2 L2) rfl
     obtain ⟨r4, n4⟩ := rel_add_ro r3 n3 (id := 3) (by simp [ext1, hlo 3 (by unfold lim; omega)]) (hgi 3 (by unfold lim; omega)) rfl rfl k3
     refine ⟨_, r4, ?_, fun id h1 h2 => ?_, n4⟩
     · rw [γs_iff]
       refine ⟨by rw [hlen]; rfl, fun i x hx => ?_⟩
       have hget' := hget i
       match i, hx with
       | 0, hx => obtain ⟨u, q1, q2⟩ := hget 0 _ rfl; cases hx; exact ⟨u, q1, q2⟩
       | 1, hx => cases hx; exact ⟨v1, e1, z0 _ 0 (by simp [ext1])⟩
       | 2, hx => cases hx; exact ⟨v2, e2, z1 _ 1 (by simp [ext1])⟩
       | 3, hx => obtain ⟨u, q1, q2⟩ := hget 3 _ rfl; cases hx; exact ⟨u, q1, q2⟩
       | 4, hx => cases hx; exact ⟨v4, e4, z2 _ 2 (by simp [ext1])⟩
       | 5, hx => cases hx; exact ⟨v5, e5, z3 _ 3 (by simp [ext1])⟩
       | 6, hx => obtain ⟨u, q1, q2⟩ := hget 6 _ rfl; cases hx; exact ⟨u, q1, q2⟩
       | 7, hx => obtain ⟨u, q1, q2⟩ := hget 7 _ rfl; cases hx; exact ⟨u, q1, q2⟩
       | 8, hx => obtain ⟨u, q1, q2⟩ := hget 8 _ rfl; cases hx; exact ⟨u, q1, q2⟩
     · simp [ext1, hlo id h2, show id ≠ 0 by omega, show id ≠ 1 by omega, show id ≠ 2 by omega, show id ≠ 3 by omega]
   · cases h
 · cases h
theorem rel_cfg {C : Ctx} {β : Nm} {m m2 : AMem} {w : World} (hs : Sub m m2) (hr : Rel C β m2 w) {l : List AC} {c : Cfg} (h : cfgOf l m = some (c, true)) (hg : subB mS m = true) {cs : List Value} (hv : γs β l = some cs) :
 ∃ β', Rel (loneC w) β' (cfgM c) w ∧ γs β' (cfgC c) = some cs ∧ ∀ id, 1000 ≤ id → id < lim → β' id = none := by
 obtain ⟨β', h1, h2, h3, _⟩ := rel_cfg4 hs hr h hg hv
 exact ⟨β', h1, h2, fun id a b => h3 id (by omega) b⟩
def cfgK (c : Cfg) : Bool := decide (0 + Cfg.np c ≤ Cfg.np c) && (decide (0 + Cfg.ns c ≤ Cfg.ns c) && (decide (0 + Cfg.nb c ≤ Cfg.nb c) && (decide (0 + Cfg.nt c ≤ Cfg.nt c) && ((intsOk (Cfg.np c) fun k => List.map AC.v ((fun i => [Value.int IntKind.i64 (Cfg.fp c i)]) k)) && ((intsOk (Cfg.ns c) fun k => List.map AC.v ((fun i => [Value.int IntKind.i64 (Cfg.fs c i)]) k)) && ((intsOk (Cfg.nb c) fun k => List.map AC.v ((fun i => [Value.int IntKind.i64 (Cfg.fb c i)]) k)) && stsOk (Cfg.nt c) fun k => List.map AC.v ((fun i => [Value.int IntKind.i64 (Station.node (Cfg.ft c i)), Value.int IntKind.u32 (Station.safe (Cfg.ft c i)), Value.int IntKind.i64 (Station.hold (Cfg.ft c i))]) k)))))))
theorem cfgK_t (c : Cfg) : cfgK c = true := by simp [cfgK, intsOk, isI64, stsOk, isSt]
def ctCfg (R : Cfg → AV) (pre : Cfg → Bool) : CtF
 | [.agg l], m, _ =>
  match cfgOf l m, subB mS m with
  | some (c, b), true => some (R c, [], 0, [b, pre c])
  | _, _ => none
 | _, _, _ => none
theorem ctCfg_of {E : Env} (hE : EnvOk E) {f : FuncId} {R : Cfg → AV} {pre : Cfg → Bool} (hf : ∃ (fn : Func) (c : Code), E.P.funcs[f]? = some fn ∧ fn.body = some c) (hres : ∀ c (β1 β2 : Nm) u, γ β1 (R c) = some u → γ β2 (R c) = some u) {fuel str : Nat}
 (run : ∀ c, pre c = true → ∃ p lp r, viewF [] (fCallF E (fC E fuel) f [.agg (cfgC c)] 1000 str (stA (cfgM c) p lp)) = some r ∧ r.1 = R c ∧ r.2.2.1 ≤ lim ∧ allT r.2.2.2.1 ∧ ∀ q ∈ r.2.2.2.2, q) : CtOk E.P f (ctCfg R pre) := by
 refine ⟨hf, fun C β m m2 w args ib r news k' ob vs hct ho hs hr hfree hlim hv => ?_⟩
 unfold ctCfg at hct
 split at hct
 · rename_i l
   split at hct
   · rename_i c b hc hg
     simp only [Option.some.injEq, Prod.mk.injEq] at hct
     obtain ⟨rfl, rfl, rfl, rfl⟩ := hct
     simp only [allT, List.forall_mem_cons] at ho
     obtain ⟨rfl, o2, _⟩ := ho
     obtain ⟨p, lp, ⟨v, b', n', ob, po⟩, hrun, hvr, hn, hob, hpo⟩ := run c o2
     obtain ⟨s', r1, r2, r3, r4⟩ := viewF_out hrun
     have hn : n' ≤ lim := hn
     simp only [γt, γ1] at hv
     split at hv
     · rename_i v0 us hv0 hus
       split at hv0
       · rename_i cs hcs
         cases hv0
         cases hus
         cases hv
         obtain ⟨β1, q1, q2, q3⟩ := rel_cfg hs hr hc hg hcs
         refine (calls_f hE r1 ⟨by rw [r3]; exact hob, by rw [r4]; exact hpo⟩ (C := loneC w) (β := β1) (w := w) (vs := [.agg cs.toArray]) ?_ q1 (fun id h1 h2 => q3 id h1 (by omega))).mono ?_
         · simp only [γt, γ1, q2]
         · rintro e w' ⟨β', u, rfl, _, _, hu, hr'⟩
           simp only at hvr
           subst hvr
           exact ⟨β, u, rfl, Ext.refl _, fun _ _ => rfl, hres _ _ _ _ hu, by rw [List.append_nil]; exact hr.below (below_lone hr')⟩
       · cases hv0
     · cases hv
   · cases hct
 · cases hct
end Go.Proofs.YtoelekmbmghicaaGreatDoor
end
/- What configs.New leans on: rounds of loops as the evaluator runs them. -/
section
namespace Go.Proofs.YtoelekmbmghicaaGreatDoor
open Go.RowKit
/-! inside: slices.IndexFunc with inside$1 -/
abbrev insV (n k : Nat) : List AV := [.c (.sl 0 0 0 n none), .c (.fn 112 [(1000, 0, 0)]), i64 (Int.ofNat n), i64 (Int.ofNat k)]
abbrev insB (f : Nat → Int) (n : Nat) (many : Int) : List ABlk := [ints 3 n f, oBlk 3 [.int .i64 many]]
def insR (P : Program) (f : Nat → Int) (n : Nat) (many : Int) (k : Nat) (path : List Dec) : Option VC :=
 view ([0, 1, 7, 8] ++ [4]) [0, 1000] (fC (E1 P) 100 (loopAt P 127 0) 1000000000000000000000000000000000000000000 10000000000000000000000000000000000000000 (stH 19 [0, 1, 7, 8] [0, 1000] (insV n k) (insB f n many) path []))
theorem ins (f : Nat → Int) (n : Nat) (many : Int) (k : Nat) (Q : VC → Prop) (H : let zz0 := (ABlk.mk false false 3 1 (Cs.arr n fun k => List.map AC.v ((fun i => [Value.int IntKind.i64 (f i)]) k))); let zz1 := [some (lkA (List.zip [0, 1, 7, 8] (insV n k)) 0), some (lkA (List.zip [0, 1, 7, 8] (insV n k)) 1), some (lkA (List.zip [0, 1, 7, 8] (insV n k)) 7), some (lkA (List.zip [0, 1, 7, 8] (insV n k)) 8), some (AV.c (AC.v (Value.int IntKind.i64 (Int.ofNat k))))]; let zz2 := [some zz0, some (ABlk.mk true false 3 0 (Cs.lit [AC.v (Value.int IntKind.i64 many)]))]; let zq0 : List Bool := [ABlk.inb zz0 (0 + Int.toNat (Int.ofNat k)) 1, true, decide (Int.ofNat 0 ≤ Int.ofNat k ∧ Int.ofNat k < ↑n), decide (Int.ofNat k < Int.ofNat n) == true]; let zq1 : List Bool := true :: true :: (decide (f (0 + Int.toNat (Int.ofNat k)) < Int.ofNat 0) == false) :: zq0; (((decide (Int.ofNat k < Int.ofNat n)) = true → (((decide (f (0 + Int.toNat (Int.ofNat k)) < Int.ofNat 0)) = true → Q (Exit.ret, zz1, zz2, 19, 1000000000000000000000000000000000000000016, ((decide (f (0 + Int.toNat (Int.ofNat k)) < Int.ofNat 0) == true) :: zq0), [])) ∧ ((decide (f (0 + Int.toNat (Int.ofNat k)) < Int.ofNat 0)) = false → (((decide (f (0 + Int.toNat (Int.ofNat k)) ≥ many)) = true → Q (Exit.ret, zz1, zz2, 19, 1000000000000000000000000000000000000000019, ((decide (f (0 + Int.toNat (Int.ofNat k)) ≥ many) == true) :: zq1), [])) ∧ ((decide (f (0 + Int.toNat (Int.ofNat k)) ≥ many)) = false → Q (Exit.normal, [some (lkA (List.zip [0, 1, 7, 8] (insV n k)) 0), some (lkA (List.zip [0, 1, 7, 8] (insV n k)) 1), some (lkA (List.zip [0, 1, 7, 8] (insV n k)) 7), some (.c (.v (.int .i64 (IntKind.wrap .i64 (Int.ofNat k + Int.ofNat 1))))), some (lkA (List.zip [0, 1, 7, 8] (insV n k)) 4)], zz2, 19, 1000000000000000000000000000000000000000019, ((decide (f (0 + Int.toNat (Int.ofNat k)) ≥ many) == false) :: zq1), [])))))) ∧ ((decide (Int.ofNat k < Int.ofNat n)) = false → Q (Exit.exit 0, [some (lkA (List.zip [0, 1, 7, 8] (insV n k)) 0), some (lkA (List.zip [0, 1, 7, 8] (insV n k)) 1), some (lkA (List.zip [0, 1, 7, 8] (insV n k)) 7), some (lkA (List.zip [0, 1, 7, 8] (insV n k)) 8), some (lkA (List.zip [0, 1, 7, 8] (insV n k)) 4)], zz2, 19, 1000000000000000000000000000000000000000001, [decide (Int.ofNat k < Int.ofNat n) == false], [])))) :
 ∃ p r, insR Tryz.prog f n many k p = some r ∧ Q r :=
 two H
 (fun g1 => two g1
  (fun g2 => ⟨pD 5 4, _, by kernel_rfl, g2⟩)
  (fun g2 => two g2
   (fun g3 => ⟨pD 5 88, _, by kernel_rfl, g3⟩)
   (fun g3 => ⟨pD 5 169, _, by kernel_rfl, g3⟩)))
 (fun g1 => ⟨pD 1 2, _, by kernel_rfl, g1⟩)
/-! each -/
abbrev eachV (lo hi : Int) (n k : Nat) : List AV := [i64 lo, i64 hi, .c (.sl 0 0 0 n none), i64 (Int.ofNat n), i64 (Int.ofNat k)]
def eachR (P : Program) (f : Nat → Int) (n : Nat) (lo hi : Int) (k : Nat) (path : List Dec) : Option VC :=
 view ([1, 2, 10, 11, 12] ++ [6]) [0] (fC (E1 P) 100 (loopAt P 84 0) 1000000000000000000000000000000000000000000 10000000000000000000000000000000000000000 (stH 24 [1, 2, 10, 11, 12] [0] (eachV lo hi n k) [ints 3 n f] path []))
theorem each (f : Nat → Int) (n : Nat) (lo hi : Int) (k : Nat) (Q : VC → Prop) (H : let zz0 := (List.zip [1, 2, 10, 11, 12] (eachV lo hi n k)); let zz1 := (ABlk.mk false false 3 1 (Cs.arr n fun k => List.map AC.v ((fun i => [Value.int IntKind.i64 (f i)]) k))); let zq0 : List Bool := [ABlk.inb zz1 (0 + Int.toNat (Int.ofNat k)) 1, true, decide (Int.ofNat 0 ≤ Int.ofNat k ∧ Int.ofNat k < ↑n), decide (Int.ofNat k < Int.ofNat n) == true]; let zq1 : List Bool := (decide (f (0 + Int.toNat (Int.ofNat k)) > hi) == false) :: zq0; (((decide (Int.ofNat k < Int.ofNat n)) = true → (((decide (f (0 + Int.toNat (Int.ofNat k)) > hi)) = true → Q (Exit.ret, [some (lkA zz0 1), some (lkA zz0 2), some (lkA zz0 10), some (lkA zz0 11), some (lkA zz0 12), some (.c (.v (.int .i64 (Int.ofNat 3))))], [some zz1], 24, 1000000000000000000000000000000000000000018, ((decide (f (0 + Int.toNat (Int.ofNat k)) > hi) == true) :: zq0), [])) ∧ ((decide (f (0 + Int.toNat (Int.ofNat k)) > hi)) = false → (((decide (f (0 + Int.toNat (Int.ofNat k)) < lo)) = true → Q (Exit.ret, [some (lkA zz0 1), some (lkA zz0 2), some (lkA zz0 10), some (lkA zz0 11), some (lkA zz0 12), some (.c (.v (.int .i64 (Int.ofNat 1))))], [some zz1], 24, 1000000000000000000000000000000000000000022, ((decide (f (0 + Int.toNat (Int.ofNat k)) < lo) == true) :: zq1), [])) ∧ ((decide (f (0 + Int.toNat (Int.ofNat k)) < lo)) = false → Q (Exit.normal, [some (lkA zz0 1), some (lkA zz0 2), some (lkA zz0 10), some (lkA zz0 11), some (.c (.v (.int .i64 (IntKind.wrap .i64 (Int.ofNat k + Int.ofNat 1))))), some (lkA zz0 6)], [some zz1], 24, 1000000000000000000000000000000000000000022, ((decide (f (0 + Int.toNat (Int.ofNat k)) < lo) == false) :: zq1), [])))))) ∧ ((decide (Int.ofNat k < Int.ofNat n)) = false → Q (Exit.exit 0, [some (lkA zz0 1), some (lkA zz0 2), some (lkA zz0 10), some (lkA zz0 11), some (lkA zz0 12), some (lkA zz0 6)], [some zz1], 24, 1000000000000000000000000000000000000000001, [decide (Int.ofNat k < Int.ofNat n) == false], [])))) :
 ∃ p r, eachR Tryz.prog f n lo hi k p = some r ∧ Q r :=
 two H
 (fun g1 => two g1
  (fun g2 => ⟨pD 3 4, _, by kernel_rfl, g2⟩)
  (fun g2 => two g2
   (fun g3 => ⟨pD 4 16, _, by kernel_rfl, g3⟩)
   (fun g3 => ⟨pD 4 25, _, by kernel_rfl, g3⟩)))
 (fun g1 => ⟨pD 1 2, _, by kernel_rfl, g1⟩)
/-! slices.IsSorted, backward: the head's number is n - 1 - k -/
abbrev srtV (n k : Nat) : List AV := [.c (.sl 0 0 0 n none), i64 (Int.ofNat (n - 1 - k))]
def srtR (P : Program) (f : Nat → Int) (n : Nat) (k : Nat) (path : List Dec) : Option VC :=
 view ([0, 3] ++ [2]) [0] (fC (E1 P) 100 (loopAt P 76 0) 1000000000000000000000000000000000000000000 10000000000000000000000000000000000000000 (stH 21 [0, 3] [0] (srtV n k) [ints 3 n f] path []))
theorem srt (f : Nat → Int) (n : Nat) (k : Nat) (Q : VC → Prop) (H : let zz0 := (0 + Int.toNat (IntKind.wrap IntKind.i64 (Int.ofNat (n - 1 - k) - Int.ofNat 1))); let zz1 := (ABlk.mk false false 3 1 (Cs.arr n fun k => List.map AC.v ((fun i => [Value.int IntKind.i64 (f i)]) k))); let zz2 := (f (0 + Int.toNat (Int.ofNat (n - 1 - k))) != f (0 + Int.toNat (Int.ofNat (n - 1 - k)))); let zz3 := (f (0 + Int.toNat (Int.ofNat (n - 1 - k))) < f zz0); let zz4 := [some (lkA (List.zip [0, 3] (srtV n k)) 0), some (lkA (List.zip [0, 3] (srtV n k)) 3), some (AV.c (AC.v (Value.bool false)))]; let zz5 := [some (lkA (List.zip [0, 3] (srtV n k)) 0), some (AV.c (AC.v (Value.int IntKind.i64 (IntKind.wrap IntKind.i64 (Int.ofNat (n - 1 - k) - Int.ofNat 1))))), some (lkA (List.zip [0, 3] (srtV n k)) 2)]; let zq0 : List Bool := [ABlk.inb zz1 zz0 1, true, decide (Int.ofNat 0 ≤ IntKind.wrap .i64 (Int.ofNat (n - 1 - k) - Int.ofNat 1) ∧ IntKind.wrap .i64 (Int.ofNat (n - 1 - k) - Int.ofNat 1) < ↑n), ABlk.inb zz1 (0 + Int.toNat (Int.ofNat (n - 1 - k))) 1, true, decide (Int.ofNat 0 ≤ Int.ofNat (n - 1 - k) ∧ Int.ofNat (n - 1 - k) < ↑n), decide (Int.ofNat (n - 1 - k) > Int.ofNat 0) == true]; let zq1 : List Bool := (zz2 == true) :: zq0; let zq2 : List Bool := ((!f zz0 != f zz0) == false) :: zq1; let zq3 : List Bool := (zz2 == false) :: zq0; (((decide (Int.ofNat (n - 1 - k) > Int.ofNat 0)) = true → ((zz2 = true → (((!f zz0 != f zz0) = true → Q (Exit.ret, zz4, [some zz1], 21, 1100000000000000000000000000000000000000003, (((!f zz0 != f zz0) == true) :: zq1), [])) ∧ ((!f zz0 != f zz0) = false → (((decide zz3) = true → Q (Exit.ret, zz4, [some zz1], 21, 1100000000000000000000000000000000000000003, ((decide zz3 == true) :: zq2), [])) ∧ ((decide zz3) = false → Q (Exit.normal, zz5, [some zz1], 21, 1100000000000000000000000000000000000000005, ((decide zz3 == false) :: zq2), [])))))) ∧ (zz2 = false → (((decide zz3) = true → Q (Exit.ret, zz4, [some zz1], 21, 1100000000000000000000000000000000000000003, ((decide zz3 == true) :: zq3), [])) ∧ ((decide zz3) = false → Q (Exit.normal, zz5, [some zz1], 21, 1100000000000000000000000000000000000000005, ((decide zz3 == false) :: zq3), [])))))) ∧ ((decide (Int.ofNat (n - 1 - k) > Int.ofNat 0)) = false → Q (Exit.exit 0, [some (lkA (List.zip [0, 3] (srtV n k)) 0), some (lkA (List.zip [0, 3] (srtV n k)) 3), some (lkA (List.zip [0, 3] (srtV n k)) 2)], [some zz1], 21, 1000000000000000000000000000000000000000002, [decide (Int.ofNat (n - 1 - k) > Int.ofNat 0) == false], [])))) :
 ∃ p r, srtR Tryz.prog f n k p = some r ∧ Q r :=
 two H
 (fun g1 => two g1
  (fun g2 => two g2
   (fun g3 => ⟨pD 8 85, _, by kernel_rfl, g3⟩)
   (fun g3 => two g3
    (fun g4 => ⟨pD 8 2353, _, by kernel_rfl, g4⟩)
    (fun g4 => ⟨pD 8 4540, _, by kernel_rfl, g4⟩)))
  (fun g2 => two g2
   (fun g3 => ⟨pD 8 2194, _, by kernel_rfl, g3⟩)
   (fun g3 => ⟨pD 8 4381, _, by kernel_rfl, g3⟩)))
 (fun g1 => ⟨pD 1 2, _, by kernel_rfl, g1⟩)
end Go.Proofs.YtoelekmbmghicaaGreatDoor
end
/- What configs.New leans on: the sums of loops. -/
section
namespace Go.Proofs.YtoelekmbmghicaaGreatDoor
open Go.RowKit
theorem hE1 : EnvOk (E1 Tryz.prog) := envOk (fun _ _ h => by cases h) (by kernel_rfl) (by kernel_rfl)
theorem wrap_nat (x : Int) (h0 : -9223372036854775808 ≤ x) (h1 : x ≤ 9223372036854775807) : IntKind.wrap .i64 x = x := IntWalk.i64_in _ (by first | exact ⟨h0, h1⟩ | omega)
theorem ints_low {N ty n : Nat} {f : Nat → Int} : lowB N (ints ty n f) := rBlk_low
theorem ins_ob (f : Nat → Int) (n : Nat) (many : Int) (N : Nat) (hN : 1001 ≤ N) (hN2 : N ≤ 1000000000000000000000000000000000000000000) (hn : n ≤ 1000000) (j : Nat) (hj : j ≤ n) (hmin : ∀ i, i < j → 0 ≤ f i ∧ f i < many) (hyes : j < n → f j < 0 ∨ many ≤ f j) {e : Exit} {out : List (Nat × AV)}
 (hF : (j < n → e = .ret ∧ out = [(4, i64 (Int.ofNat j))]) ∧ (j = n → e = .exit 0 ∧ out = [])) :
 LoopV Tryz.prog (loopAt Tryz.prog 127 0) [0, 1, 7, 8] [0, 1000] ((insV n 0).map some) ((insB f n many).map some) 19 N (mkFr 19 out) [] 100000000000000000000000000000000000000000000000000 e none := by
 have e0 : ∀ k : Nat, 0 + Int.toNat (Int.ofNat k) = k := fun k => by simp
 have hw : ∀ k, k < n → IntKind.wrap IntKind.i64 (Int.ofNat k + Int.ofNat 1) = Int.ofNat (k + 1) := fun k hk => by rw [wrap_nat _ (by simp; omega) (by simp; omega)]; rfl
 refine scan_ob hE1 (fuel := 100) (str := 10000000000000000000000000000000000000000) (nh := 1000000000000000000000000000000000000000000) [0, 1, 7, 8] [4] [0, 1000] (insV n) (insB f n many) j hN2 (by decide) (by unfold lim; omega) ?_ (fun _ => ⟨rfl, rfl⟩) ?_ ?_ ?_ ?_ ?_
 · rcases Nat.lt_or_ge j n with h | h
   · rw [(hF.1 h).1]; simp
   · rw [(hF.2 (by omega)).1]; simp
 · simp [keptB]; omega
 · intro k _
   simp [okV, lowV, lowC, notAny, i64]; omega
 · intro b hb
   simp only [List.mem_cons, List.not_mem_nil, or_false] at hb
   rcases hb with rfl | rfl
   · exact ints_low
   · exact oBlk_low
 · intro k hk
   refine ins f n many k _ ⟨fun c1 => ⟨fun c2 => ?_, fun c2 => ⟨fun c3 => ?_, fun c3 => ?_⟩⟩, fun c1 => ?_⟩ <;> simp only [e0] at *
   · simp at c2; have := hmin k hk; omega
   · simp at c3; have := hmin k hk; omega
   · have hlt : k < n := by omega
     have := hmin k hk
     refine ⟨⟨?_, rfl, by dsimp only; omega, rfl⟩, rfl, ?_, BL.refl _⟩
     · simp only [allT, List.forall_mem_cons, e0]
       simp [inb_arr, hlt]
       omega
     · dsimp only; rw [hw k hlt]; rfl
   · simp at c1; omega
 · refine ins f n many j _ ⟨fun c1 => ⟨fun c2 => ?_, fun c2 => ⟨fun c3 => ?_, fun c3 => ?_⟩⟩, fun c1 => ?_⟩ <;> simp only [e0] at *
   · have hlt : j < n := by simpa using c1
     obtain ⟨rfl, rfl⟩ := hF.1 hlt
     refine EndV_one ⟨?_, rfl, by dsimp only; omega, rfl⟩ rfl rfl ?_
     · simp only [allT, List.forall_mem_cons, e0]
       simp at c2
       simp [inb_arr, hlt, c2]
     · simp [i64]
   · have hlt : j < n := by simpa using c1
     obtain ⟨rfl, rfl⟩ := hF.1 hlt
     refine EndV_one ⟨?_, rfl, by dsimp only; omega, rfl⟩ rfl rfl ?_
     · simp only [allT, List.forall_mem_cons, e0]
       simp at c2 c3
       simp [inb_arr, hlt, c2, c3]
     · simp [i64]
   · have hlt : j < n := by simpa using c1
     simp at c2 c3
     have := hyes hlt
     omega
   · have hlt : ¬ j < n := by simpa using c1
     obtain ⟨rfl, rfl⟩ := hF.2 (by omega)
     refine EndV_nil ⟨?_, rfl, by dsimp only; omega, rfl⟩ rfl
     simp [allT]; omega
def withinF (x lo hi : Int) : Int := if x > hi then 3 else if x < lo then 1 else 0
theorem each_ob (f : Nat → Int) (n : Nat) (lo hi : Int) (N : Nat) (hN : 1 ≤ N) (hN2 : N ≤ 1000000000000000000000000000000000000000000) (hn : n ≤ 9223372036854775807) (j : Nat) (hj : j ≤ n) (hmin : ∀ i, i < j → withinF (f i) lo hi = 0) (hyes : j < n → withinF (f j) lo hi ≠ 0) {e : Exit} {out : List (Nat × AV)}
 (hF : (j < n → e = .ret ∧ out = [(6, i64 (withinF (f j) lo hi))]) ∧ (j = n → e = .exit 0 ∧ out = [])) :
 LoopV Tryz.prog (loopAt Tryz.prog 84 0) [1, 2, 10, 11, 12] [0] ((eachV lo hi n 0).map some) ([ints 3 n f].map some) 24 N (mkFr 24 out) [] 100000000000000000000000000000000000000000000000000 e none := by
 have e0 : ∀ k : Nat, 0 + Int.toNat (Int.ofNat k) = k := fun k => by simp
 have hw : ∀ k, k < n → IntKind.wrap IntKind.i64 (Int.ofNat k + Int.ofNat 1) = Int.ofNat (k + 1) := fun k hk => by rw [wrap_nat _ (by simp; omega) (by simp; omega)]; rfl
 refine scan_ob hE1 (fuel := 100) (str := 10000000000000000000000000000000000000000) (nh := 1000000000000000000000000000000000000000000) [1, 2, 10, 11, 12] [6] [0] (eachV lo hi n) [ints 3 n f] j hN2 (by decide) (by unfold lim; omega) ?_ (fun _ => ⟨rfl, rfl⟩) ?_ ?_ ?_ ?_ ?_
 · rcases Nat.lt_or_ge j n with h | h
   · rw [(hF.1 h).1]; simp
   · rw [(hF.2 (by omega)).1]; simp
 · simp [keptB]; omega
 · intro k _
   simp [okV, lowV, lowC, notAny, i64]; omega
 · intro b hb
   rw [List.mem_singleton.1 hb]
   exact ints_low
 · intro k hk
   have hm := hmin k hk
   unfold withinF at hm
   refine each f n lo hi k _ ⟨fun c1 => ⟨fun c2 => ?_, fun c2 => ⟨fun c3 => ?_, fun c3 => ?_⟩⟩, fun c1 => ?_⟩ <;> simp only [e0] at *
   · simp at c2; rw [if_pos c2] at hm; omega
   · simp at c2 c3; rw [if_neg (by omega), if_pos c3] at hm; omega
   · have hlt : k < n := by omega
     simp at c2 c3
     refine ⟨⟨?_, rfl, by dsimp only; omega, rfl⟩, rfl, ?_, BL.refl _⟩
     · simp only [allT, List.forall_mem_cons, e0]
       simp [inb_arr, hlt, c2, c3]
     · dsimp only; rw [hw k hlt]; rfl
   · simp at c1; omega
 · refine each f n lo hi j _ ⟨fun c1 => ⟨fun c2 => ?_, fun c2 => ⟨fun c3 => ?_, fun c3 => ?_⟩⟩, fun c1 => ?_⟩ <;> simp only [e0] at *
   · have hlt : j < n := by simpa using c1
     obtain ⟨rfl, rfl⟩ := hF.1 hlt
     simp at c2
     have hz : withinF (f j) lo hi = 3 := by unfold withinF; rw [if_pos c2]
     refine EndV_one ⟨?_, rfl, by dsimp only; omega, rfl⟩ rfl rfl ?_
     · simp only [allT, List.forall_mem_cons, e0]
       simp [inb_arr, hlt, c2]
     · rw [hz]; simp [i64]
   · have hlt : j < n := by simpa using c1
     obtain ⟨rfl, rfl⟩ := hF.1 hlt
     simp at c2 c3
     have hz : withinF (f j) lo hi = 1 := by unfold withinF; rw [if_neg (by omega), if_pos c3]
     refine EndV_one ⟨?_, rfl, by dsimp only; omega, rfl⟩ rfl rfl ?_
     · simp only [allT, List.forall_mem_cons, e0]
       simp [inb_arr, hlt, c2, c3]
     · rw [hz]; simp [i64]
   · have hlt : j < n := by simpa using c1
     simp at c2 c3
     have := hyes hlt
     unfold withinF at this
     rw [if_neg (by omega), if_neg (by omega)] at this
     omega
   · have hlt : ¬ j < n := by simpa using c1
     obtain ⟨rfl, rfl⟩ := hF.2 (by omega)
     refine EndV_nil ⟨?_, rfl, by dsimp only; omega, rfl⟩ rfl
     simp [allT]; omega
theorem srt_ob (f : Nat → Int) (n : Nat) (N : Nat) (hN : 1 ≤ N) (hN2 : N ≤ 1000000000000000000000000000000000000000000) (hn1 : 1 ≤ n) (hn : n ≤ 1000000) (j : Nat) (hj : j ≤ n - 1) (hmin : ∀ i, i < j → f (n - 1 - i - 1) ≤ f (n - 1 - i)) (hyes : j < n - 1 → f (n - 1 - j) < f (n - 1 - j - 1)) {e : Exit} {out : List (Nat × AV)}
 (hF : (j < n - 1 → e = .ret ∧ out = [(2, bo false)]) ∧ (j = n - 1 → e = .exit 0 ∧ out = [])) {z : Int} (hz : z = Int.ofNat (n - 1 - 0)) :
 LoopV Tryz.prog (loopAt Tryz.prog 76 0) [0, 3] [0] [some (.c (.sl 0 0 0 n none)), some (i64 z)] ([ints 3 n f].map some) 21 N (mkFr 21 out) [] 100000000000000000000000000000000000000000000000000 e none := by
 subst hz
 have e0 : ∀ k : Nat, 0 + Int.toNat (Int.ofNat k) = k := fun k => by simp
 have hw : ∀ m : Nat, m < n → 0 < m → IntKind.wrap IntKind.i64 (Int.ofNat m - Int.ofNat 1) = Int.ofNat (m - 1) := fun m hm h0 => by
  rw [wrap_nat _ (by simp; omega) (by simp; omega)]; simp; omega
 refine scan_ob hE1 (fuel := 100) (str := 10000000000000000000000000000000000000000) (nh := 1000000000000000000000000000000000000000000) [0, 3] [2] [0] (srtV n) [ints 3 n f] j hN2 (by decide) (by unfold lim; omega) ?_ (fun _ => ⟨rfl, rfl⟩) ?_ ?_ ?_ ?_ ?_
 · rcases Nat.lt_or_ge j (n - 1) with h | h
   · rw [(hF.1 h).1]; simp
   · rw [(hF.2 (by omega)).1]; simp
 · simp [keptB]; omega
 · intro k _
   simp [okV, lowV, lowC, notAny, i64]; omega
 · intro b hb
   rw [List.mem_singleton.1 hb]
   exact ints_low
 · intro k hk
   have hm := hmin k hk
   have hpos : 0 < n - 1 - k := by omega
   have hw1 := hw (n - 1 - k) (by omega) hpos
   have hk2 : n - 1 - (k + 1) = n - 1 - k - 1 := by omega
   refine srt f n k _ ⟨fun c1 => ⟨fun c2 => ⟨fun c3 => ?_, fun c3 => ⟨fun c4 => ?_, fun c4 => ?_⟩⟩, fun c2 => ⟨fun c4 => ?_, fun c4 => ?_⟩⟩, fun c1 => ?_⟩ <;> simp only [hw1, e0] at *
   · simp at c2
   · simp at c2
   · simp at c2
   · simp at c4; omega
   · refine ⟨⟨?_, rfl, by dsimp only; omega, rfl⟩, rfl, ?_, BL.refl _⟩
     · simp only [allT, List.forall_mem_cons, hw1, e0]
       simp at c4
       simp [inb_arr, c4]
       omega
     · show _ = [some _, some (i64 (Int.ofNat (n - 1 - (k + 1))))]
       rw [hk2]; rfl
   · simp at c1; omega
 · refine srt f n j _ ⟨fun c1 => ⟨fun c2 => ⟨fun c3 => ?_, fun c3 => ⟨fun c4 => ?_, fun c4 => ?_⟩⟩, fun c2 => ⟨fun c4 => ?_, fun c4 => ?_⟩⟩, fun c1 => ?_⟩
   · simp at c2
   · simp at c2
   · simp at c2
   · have hpos : 0 < n - 1 - j := by simp at c1; omega
     have hw1 := hw (n - 1 - j) (by omega) hpos
     obtain ⟨rfl, rfl⟩ := hF.1 (by omega)
     simp only [hw1, e0] at *
     refine EndV_one ⟨?_, rfl, by dsimp only; omega, rfl⟩ rfl rfl ?_
     · simp only [allT, List.forall_mem_cons, hw1, e0]
       simp at c4
       simp [inb_arr, c4]
       omega
     · simp [bo]
   · have hpos : 0 < n - 1 - j := by simp at c1; omega
     have hw1 := hw (n - 1 - j) (by omega) hpos
     simp only [hw1, e0] at *
     have := hyes (by omega)
     simp at c4
     omega
   · have hlt : ¬ 0 < n - 1 - j := by simp at c1; omega
     obtain ⟨rfl, rfl⟩ := hF.2 (by omega)
     refine EndV_nil ⟨?_, rfl, by dsimp only; omega, rfl⟩ rfl
     simp [allT]; omega
end Go.Proofs.YtoelekmbmghicaaGreatDoor
end
/- What configs.New leans on: functions with their loops' sums as the evaluator runs them. -/
section
namespace Go.Proofs.YtoelekmbmghicaaGreatDoor
open Go.RowKit
def insS (e : Exit) (l : List (Nat × AV)) : LSum := ⟨[0, 1, 7, 8], [0, 1000], mkFr 19 l, [], 100000000000000000000000000000000000000000000000000, e⟩
def inside1 (P : Program) (f : Nat → Int) (n : Nat) (many : Int) (e : Exit) (l : List (Nat × AV)) : Option VF :=
 viewF [] (fCallF (E1 P) (fC (E1 P) 300) 75 [.c (.sl 0 0 0 n none), i64 many] 1000 10000000000000000000000000000000000000000 (stA [(0, ints 3 n f)] [] [some (insS e l)]))
theorem ins_yes (f : Nat → Int) (n : Nat) (many : Int) (j : Nat) : inside1 Tryz.prog f n many .ret [(4, i64 (Int.ofNat j))] =
 some (.c (.v (.bool false)), [], 100000000000000000000000000000000000000000000000004, [], [LoopV Tryz.prog (loopAt Tryz.prog 127 0) [0, 1, 7, 8] [0, 1000] [some (.c (.sl 0 0 0 n none)), some (.c (AC.fn 112 [(1000, 0, 0)])), some (.c (.v (.int .i64 ↑n))), some (.c (.v (.int .i64 (Int.ofNat 0))))] [some (ABlk.mk false false 3 1 (Cs.arr n fun k => List.map AC.v ((fun i => [Value.int .i64 (f i)]) k))), some (ABlk.mk true false 3 0 (Cs.lit [.v (.int .i64 many)]))] 19 1011 (mkFr 19 [(4, i64 (Int.ofNat j))]) [] 100000000000000000000000000000000000000000000000000 Exit.ret none]) := by kernel_rfl
theorem ins_no (f : Nat → Int) (n : Nat) (many : Int) : inside1 Tryz.prog f n many (.exit 0) [] =
 some (.c (.v (.bool true)), [], 100000000000000000000000000000000000000000000000005, [], [LoopV Tryz.prog (loopAt Tryz.prog 127 0) [0, 1, 7, 8] [0, 1000] [some (.c (.sl 0 0 0 n none)), some (.c (AC.fn 112 [(1000, 0, 0)])), some (.c (.v (.int .i64 ↑n))), some (.c (.v (.int .i64 (Int.ofNat 0))))] [some (ABlk.mk false false 3 1 (Cs.arr n fun k => List.map AC.v ((fun i => [Value.int .i64 (f i)]) k))), some (ABlk.mk true false 3 0 (Cs.lit [.v (.int .i64 many)]))] 19 1011 (mkFr 19 []) [] 100000000000000000000000000000000000000000000000000 (Exit.exit 0) none]) := by kernel_rfl
def eachS (e : Exit) (l : List (Nat × AV)) : LSum := ⟨[1, 2, 10, 11, 12], [0], mkFr 24 l, [], 100000000000000000000000000000000000000000000000000, e⟩
def each1 (P : Program) (f : Nat → Int) (n : Nat) (lo hi : Int) (e : Exit) (l : List (Nat × AV)) : Option VF :=
 viewF [] (fCallF (E1 P) (fC (E1 P) 300) 84 [.c (.sl 0 0 0 n none), i64 lo, i64 hi] 1000 10000000000000000000000000000000000000000 (stA [(0, ints 3 n f)] [] [some (eachS e l)]))
theorem each_yes (f : Nat → Int) (n : Nat) (lo hi z : Int) : each1 Tryz.prog f n lo hi .ret [(6, i64 z)] =
 some (.c (.v (.int .i64 z)), [], 100000000000000000000000000000000000000000000000000, [], [LoopV Tryz.prog (loopAt Tryz.prog 84 0) [1, 2, 10, 11, 12] [0] [some (.c (.v (.int .i64 lo))), some (.c (.v (.int .i64 hi))), some (.c (.sl 0 0 0 n none)), some (.c (.v (.int .i64 ↑n))), some (.c (.v (.int .i64 (Int.ofNat 0))))] [some (ABlk.mk false false 3 1 (Cs.arr n fun k => List.map AC.v ((fun i => [Value.int .i64 (f i)]) k)))] 24 1004 (mkFr 24 [(6, i64 z)]) [] 100000000000000000000000000000000000000000000000000 Exit.ret none]) := by kernel_rfl
theorem each_no (f : Nat → Int) (n : Nat) (lo hi : Int) : each1 Tryz.prog f n lo hi (.exit 0) [] =
 some (.c (.v (.int .i64 (Int.ofNat 0))), [], 100000000000000000000000000000000000000000000000001, [], [LoopV Tryz.prog (loopAt Tryz.prog 84 0) [1, 2, 10, 11, 12] [0] [some (.c (.v (.int .i64 lo))), some (.c (.v (.int .i64 hi))), some (.c (.sl 0 0 0 n none)), some (.c (.v (.int .i64 ↑n))), some (.c (.v (.int .i64 (Int.ofNat 0))))] [some (ABlk.mk false false 3 1 (Cs.arr n fun k => List.map AC.v ((fun i => [Value.int .i64 (f i)]) k)))] 24 1004 (mkFr 24 []) [] 100000000000000000000000000000000000000000000000000 (Exit.exit 0) none]) := by kernel_rfl
def srtS (e : Exit) (l : List (Nat × AV)) : LSum := ⟨[0, 3], [0], mkFr 21 l, [], 100000000000000000000000000000000000000000000000000, e⟩
def srt1 (P : Program) (f : Nat → Int) (n : Nat) (e : Exit) (l : List (Nat × AV)) : Option VF :=
 viewF [] (fCallF (E1 P) (fC (E1 P) 300) 76 [.c (.sl 0 0 0 n none)] 1000 10000000000000000000000000000000000000000 (stA [(0, ints 3 n f)] [] [some (srtS e l)]))
theorem srt_yes (f : Nat → Int) (n : Nat) : srt1 Tryz.prog f n .ret [(2, bo false)] =
 some (.c (.v (.bool false)), [], 100000000000000000000000000000000000000000000000000, [], [LoopV Tryz.prog (loopAt Tryz.prog 76 0) [0, 3] [0] [some (.c (.sl 0 0 0 n none)), some (.c (.v (.int .i64 (IntKind.wrap .i64 (↑n - Int.ofNat 1)))))] [some (ABlk.mk false false 3 1 (Cs.arr n fun k => List.map AC.v ((fun i => [Value.int .i64 (f i)]) k)))] 21 1005 (mkFr 21 [(2, bo false)]) [] 100000000000000000000000000000000000000000000000000 Exit.ret none]) := by kernel_rfl
theorem srt_no (f : Nat → Int) (n : Nat) : srt1 Tryz.prog f n (.exit 0) [] =
 some (.c (.v (.bool true)), [], 100000000000000000000000000000000000000000000000001, [], [LoopV Tryz.prog (loopAt Tryz.prog 76 0) [0, 3] [0] [some (.c (.sl 0 0 0 n none)), some (.c (.v (.int .i64 (IntKind.wrap .i64 (↑n - Int.ofNat 1)))))] [some (ABlk.mk false false 3 1 (Cs.arr n fun k => List.map AC.v ((fun i => [Value.int .i64 (f i)]) k)))] 21 1005 (mkFr 21 []) [] 100000000000000000000000000000000000000000000000000 (Exit.exit 0) none]) := by kernel_rfl
end Go.Proofs.YtoelekmbmghicaaGreatDoor
end
/- What configs.New leans on: contracts of inside, each, slices.IsSorted. -/
section
namespace Go.Proofs.YtoelekmbmghicaaGreatDoor
open Go.RowKit
theorem γt_vals {β : Nm} : ∀ (l : List Value), γt β (l.map fun v => .c (.v v)) = some l
 | [] => rfl
 | x :: r => by simp only [List.map_cons, γt, γ1, γc]; rw [γt_vals r]
theorem γt_valsI (l : List Value) {restA : List AV} (h : restA = l.map fun v => .c (.v v)) : ∀ (β1 β2 : Nm) us, γt β1 restA = some us → γt β2 restA = some us := by
 subst h; intro β1 β2 us hu; rw [γt_vals] at hu ⊢; exact hu
def insideF (f : Nat → Int) (n : Nat) (many : Int) : Bool := (List.range n).all fun i => decide (0 ≤ f i ∧ f i < many)
def ctInside : CtF
 | [.c a, .c (.v (.int .i64 many))], m, _ => match slOf 1 m a with | some (n, F, b) => some (bo (insideF (fA F) n many), [], 0, [b, decide (n ≤ 1000000), intsOk n F]) | none => none
 | _, _, _ => none
theorem inside_run (f : Nat → Int) (n : Nat) (many : Int) (hn : n ≤ 1000000) : ∃ p lp r, viewF [] (fCallF (E1 Tryz.prog) (fC (E1 Tryz.prog) 300) 75 (.c (.sl 0 0 0 n none) :: [i64 many]) 1000 10000000000000000000000000000000000000000 (stA [(0, ints 3 n f)] p lp)) = some r ∧
 r.1 = bo (insideF f n many) ∧ r.2.2.1 ≤ lim ∧ allT r.2.2.2.1 ∧ ∀ q ∈ r.2.2.2.2, q := by
 obtain ⟨j, hj, hmin, hyes⟩ := first_stop n fun i => !decide (0 ≤ f i ∧ f i < many)
 have hmin : ∀ i, i < j → 0 ≤ f i ∧ f i < many := fun i hi => by simpa using hmin i hi
 rcases Nat.lt_or_ge j n with h | h
 · have hy : f j < 0 ∨ many ≤ f j := by have := hyes h; simp at this; omega
   refine ⟨_, _, _, ins_yes f n many j, ?_, by dsimp only; unfold lim; omega, by simp [allT], fun q hq => ?_⟩
   · have : insideF f n many = false := by
      unfold insideF
      rw [List.all_eq_false]
      exact ⟨j, by simpa using h, by simp; omega⟩
     simp [bo, this]
   · rw [List.mem_singleton.1 hq]
     exact ins_ob f n many _ (by omega) (by omega) hn j hj hmin (fun _ => hy) ⟨fun _ => ⟨rfl, rfl⟩, fun h => by omega⟩
 · obtain rfl : j = n := by omega
   refine ⟨_, _, _, ins_no f j many, ?_, by dsimp only; unfold lim; omega, by simp [allT], fun q hq => ?_⟩
   · have : insideF f j many = true := by
      unfold insideF
      exact List.all_eq_true.2 fun i hi => by have := hmin i (by simpa using hi); simp [this]
     simp [bo, this]
   · rw [List.mem_singleton.1 hq]
     exact ins_ob f j many _ (by omega) (by omega) hn j hj hmin (fun h => by omega) ⟨fun h => by omega, fun _ => ⟨rfl, rfl⟩⟩
theorem ct_inside : CtOk Tryz.prog 75 ctInside := by
 refine ⟨⟨_, _, Tryz.func75, rfl⟩, fun C β m m2 w args ib r news k' ob vs hct ho hs hr hfree hlim hv => ?_⟩
 unfold ctInside at hct
 split at hct
 · rename_i a many
   split at hct
   · rename_i n F b hsl
     simp only [Option.some.injEq, Prod.mk.injEq] at hct
     obtain ⟨rfl, rfl, rfl, rfl⟩ := hct
     simp only [allT, List.forall_mem_cons, decide_eq_true_eq] at ho
     obtain ⟨rfl, o2, o3, _⟩ := ho
     exact pure1 hE1 hs hr hsl o3 hv (γt_valsI [.int .i64 many] rfl) (fun _ _ _ h => h) 3 (inside_run (fA F) n many o2)
   · cases hct
 · cases hct
def eachF (f : Nat → Int) (n : Nat) (lo hi : Int) : Int := match (List.range n).find? (fun i => !(withinF (f i) lo hi == 0)) with | some j => withinF (f j) lo hi | none => 0
def ctEach : CtF
 | [.c a, .c (.v (.int .i64 lo)), .c (.v (.int .i64 hi))], m, _ => match slOf 1 m a with | some (n, F, b) => some (i64 (eachF (fA F) n lo hi), [], 0, [b, decide (n ≤ 9223372036854775807), intsOk n F]) | none => none
 | _, _, _ => none
theorem find_first {n j : Nat} {q : Nat → Bool} (h1 : ∀ i, i < j → q i = false) (hj : j ≤ n) (h2 : j < n → q j = true) : (List.range n).find? q = if j < n then some j else none := by
 split
 · rename_i h
   rw [List.find?_range_eq_some]
   exact ⟨h2 h, by simpa using h, fun i hi => by simpa using h1 i hi⟩
 · rename_i h
   rw [List.find?_eq_none]
   intro i hi
   have : i < j := by simp at hi; omega
   simp [h1 i this]
theorem each_run (f : Nat → Int) (n : Nat) (lo hi : Int) (hn : n ≤ 9223372036854775807) : ∃ p lp r, viewF [] (fCallF (E1 Tryz.prog) (fC (E1 Tryz.prog) 300) 84 (.c (.sl 0 0 0 n none) :: [i64 lo, i64 hi]) 1000 10000000000000000000000000000000000000000 (stA [(0, ints 3 n f)] p lp)) = some r ∧
 r.1 = i64 (eachF f n lo hi) ∧ r.2.2.1 ≤ lim ∧ allT r.2.2.2.1 ∧ ∀ q ∈ r.2.2.2.2, q := by
 obtain ⟨j, hj, hmin, hyes⟩ := first_stop n fun i => !(withinF (f i) lo hi == 0)
 have hfd := find_first hmin hj hyes
 have hmin' : ∀ i, i < j → withinF (f i) lo hi = 0 := fun i hi => by simpa using hmin i hi
 rcases Nat.lt_or_ge j n with h | h
 · have hy : withinF (f j) lo hi ≠ 0 := by simpa using hyes h
   rw [if_pos h] at hfd
   have hE : eachF f n lo hi = withinF (f j) lo hi := by unfold eachF; rw [hfd]
   refine ⟨_, _, _, each_yes f n lo hi (withinF (f j) lo hi), by rw [hE]; rfl, by dsimp only; unfold lim; omega, by simp [allT], fun q hq => ?_⟩
   rw [List.mem_singleton.1 hq]
   exact each_ob f n lo hi _ (by omega) (by omega) hn j hj hmin' (fun _ => hy) ⟨fun _ => ⟨rfl, rfl⟩, fun h => by omega⟩
 · obtain rfl : j = n := by omega
   rw [if_neg (by omega)] at hfd
   have hE : eachF f j lo hi = 0 := by unfold eachF; rw [hfd]
   refine ⟨_, _, _, each_no f j lo hi, by rw [hE]; rfl, by dsimp only; unfold lim; omega, by simp [allT], fun q hq => ?_⟩
   rw [List.mem_singleton.1 hq]
   exact each_ob f j lo hi _ (by omega) (by omega) hn j hj hmin' (fun h => by omega) ⟨fun h => by omega, fun _ => ⟨rfl, rfl⟩⟩
theorem ct_each : CtOk Tryz.prog 84 ctEach := by
 refine ⟨⟨_, _, Tryz.func84, rfl⟩, fun C β m m2 w args ib r news k' ob vs hct ho hs hr hfree hlim hv => ?_⟩
 unfold ctEach at hct
 split at hct
 · rename_i a lo hi
   split at hct
   · rename_i n F b hsl
     simp only [Option.some.injEq, Prod.mk.injEq] at hct
     obtain ⟨rfl, rfl, rfl, rfl⟩ := hct
     simp only [allT, List.forall_mem_cons, decide_eq_true_eq] at ho
     obtain ⟨rfl, o2, o3, _⟩ := ho
     exact pure1 hE1 hs hr hsl o3 hv (γt_valsI [.int .i64 lo, .int .i64 hi] rfl) (fun _ _ _ h => h) 3 (each_run (fA F) n lo hi o2)
   · cases hct
 · cases hct
def sortedF (f : Nat → Int) (n : Nat) : Bool := (List.range (n - 1)).all fun i => decide (f i ≤ f (i + 1))
def ctSorted : CtF
 | [.c a], m, _ => match slOf 1 m a with | some (n, F, b) => some (bo (sortedF (fA F) n), [], 0, [b, decide (1 ≤ n), decide (n ≤ 1000000), intsOk n F]) | none => none
 | _, _, _ => none
theorem sorted_run (f : Nat → Int) (n : Nat) (hn1 : 1 ≤ n) (hn : n ≤ 1000000) : ∃ p lp r, viewF [] (fCallF (E1 Tryz.prog) (fC (E1 Tryz.prog) 300) 76 (.c (.sl 0 0 0 n none) :: []) 1000 10000000000000000000000000000000000000000 (stA [(0, ints 3 n f)] p lp)) = some r ∧
 r.1 = bo (sortedF f n) ∧ r.2.2.1 ≤ lim ∧ allT r.2.2.2.1 ∧ ∀ q ∈ r.2.2.2.2, q := by
 obtain ⟨j, hj, hmin, hyes⟩ := first_stop (n - 1) fun i => decide (f (n - 1 - i) < f (n - 1 - i - 1))
 have hmin' : ∀ i, i < j → f (n - 1 - i - 1) ≤ f (n - 1 - i) := fun i hi => by have := hmin i hi; simp at this; omega
 have hz : IntKind.wrap IntKind.i64 (((n : Nat) : Int) - Int.ofNat 1) = Int.ofNat (n - 1 - 0) := by rw [wrap_nat _ (by simp; omega) (by simp; omega)]; simp; omega
 rcases Nat.lt_or_ge j (n - 1) with h | h
 · have hy : f (n - 1 - j) < f (n - 1 - j - 1) := by simpa using hyes h
   refine ⟨_, _, _, srt_yes f n, ?_, by dsimp only; unfold lim; omega, by simp [allT], fun q hq => ?_⟩
   · have : sortedF f n = false := by
      unfold sortedF
      rw [List.all_eq_false]
      refine ⟨n - 1 - j - 1, by simp; omega, ?_⟩
      have e : n - 1 - j - 1 + 1 = n - 1 - j := by omega
      rw [e]; simp; omega
     simp [bo, this]
   · rw [List.mem_singleton.1 hq]
     exact srt_ob f n _ (by omega) (by omega) hn1 hn j hj hmin' (fun _ => hy) ⟨fun _ => ⟨rfl, rfl⟩, fun h => by omega⟩ hz
 · obtain rfl : j = n - 1 := by omega
   refine ⟨_, _, _, srt_no f n, ?_, by dsimp only; unfold lim; omega, by simp [allT], fun q hq => ?_⟩
   · have : sortedF f n = true := by
      unfold sortedF
      refine List.all_eq_true.2 fun i hi => ?_
      have hi : i < n - 1 := by simpa using hi
      have := hmin' (n - 1 - i - 1) (by omega)
      have e1 : n - 1 - (n - 1 - i - 1) = i + 1 := by omega
      have e2 : n - 1 - (n - 1 - i - 1) - 1 = i := by omega
      rw [e2, e1] at this
      simpa using this
     simp [bo, this]
   · rw [List.mem_singleton.1 hq]
     exact srt_ob f n _ (by omega) (by omega) hn1 hn (n - 1) hj hmin' (fun h => by omega) ⟨fun h => by omega, fun _ => ⟨rfl, rfl⟩⟩ hz
theorem ct_sorted : CtOk Tryz.prog 76 ctSorted := by
 refine ⟨⟨_, _, Tryz.func76, rfl⟩, fun C β m m2 w args ib r news k' ob vs hct ho hs hr hfree hlim hv => ?_⟩
 unfold ctSorted at hct
 split at hct
 · rename_i a
   split at hct
   · rename_i n F b hsl
     simp only [Option.some.injEq, Prod.mk.injEq] at hct
     obtain ⟨rfl, rfl, rfl, rfl⟩ := hct
     simp only [allT, List.forall_mem_cons, decide_eq_true_eq] at ho
     obtain ⟨rfl, o1, o2, o3, _⟩ := ho
     exact pure1 hE1 hs hr hsl o3 hv (γt_valsI [] rfl) (fun _ _ _ h => h) 3 (sorted_run (fA F) n o1 o2)
   · cases hct
 · cases hct
end Go.Proofs.YtoelekmbmghicaaGreatDoor
end
/- The rules of configs that look at numbers alone, as the evaluator runs them; rings.Step; slices.Index's round. -/
section
namespace Go.Proofs.YtoelekmbmghicaaGreatDoor
open Go.RowKit
def ENw (P : Program) : Env := ⟨P, [(75, ctInside), (84, ctEach), (76, ctSorted)]⟩
def cfgR (P : Program) (f : FuncId) (c : Cfg) (path : List Dec) : Option VF := viewF [] (fCallF (ENw P) (fC (ENw P) 300) f [.agg (cfgC c)] 1000 10000000000000000000000000000000000000000 (stA (cfgM c) path []))
theorem ru1 (c : Cfg) (Q : VF → Prop) (H : (((decide (c.nodes > Int.ofNat 16)) = true → Q (.c (.v (.int .i64 (Int.ofNat 3))), [], 1011, [decide (c.nodes > Int.ofNat 16) == true, true, true], [])) ∧ ((decide (c.nodes > Int.ofNat 16)) = false → (((decide (c.nodes < Int.ofNat 4)) = true → Q (.c (.v (.int .i64 (Int.ofNat 1))), [], 1015, [decide (c.nodes < Int.ofNat 4) == true, decide (c.nodes > Int.ofNat 16) == false, true, true], [])) ∧ ((decide (c.nodes < Int.ofNat 4)) = false → Q (.c (.v (.int .i64 (Int.ofNat 0))), [], 1015, [decide (c.nodes < Int.ofNat 4) == false, decide (c.nodes > Int.ofNat 16) == false, true, true], [])))))) :
 ∃ p r, cfgR Tryz.prog 70 c p = some r ∧ Q r :=
 two H
 (fun g1 => ⟨pD 1 1, _, by kernel_rfl, g1⟩)
 (fun g1 => two g1
  (fun g2 => ⟨pD 2 5, _, by kernel_rfl, g2⟩)
  (fun g2 => ⟨pD 2 8, _, by kernel_rfl, g2⟩))
theorem ru2 (c : Cfg) (Q : VF → Prop) (H : (((decide (↑(c.np) > Int.ofNat 8)) = true → Q (.c (.v (.int .i64 (Int.ofNat 3))), [], 1012, [decide (↑(c.np) > Int.ofNat 8) == true, true], [])) ∧ ((decide (↑(c.np) > Int.ofNat 8)) = false → (((decide (↑(c.np) < Int.ofNat 2)) = true → Q (.c (.v (.int .i64 (Int.ofNat 1))), [], 1016, [decide (↑(c.np) < Int.ofNat 2) == true, decide (↑(c.np) > Int.ofNat 8) == false, true], [])) ∧ ((decide (↑(c.np) < Int.ofNat 2)) = false → Q (.c (.v (.int .i64 (Int.ofNat 0))), [], 1016, [decide (↑(c.np) < Int.ofNat 2) == false, decide (↑(c.np) > Int.ofNat 8) == false, true], [])))))) :
 ∃ p r, cfgR Tryz.prog 72 c p = some r ∧ Q r :=
 two H
 (fun g1 => ⟨pD 1 1, _, by kernel_rfl, g1⟩)
 (fun g1 => two g1
  (fun g2 => ⟨pD 2 5, _, by kernel_rfl, g2⟩)
  (fun g2 => ⟨pD 2 8, _, by kernel_rfl, g2⟩))
theorem ru4 (c : Cfg) (Q : VF → Prop) (H : (((decide (↑(c.ns) > Int.ofNat 16)) = true → Q (.c (.v (.int .i64 (Int.ofNat 3))), [], 1012, [decide (↑(c.ns) > Int.ofNat 16) == true, true], [])) ∧ ((decide (↑(c.ns) > Int.ofNat 16)) = false → (((decide (↑(c.ns) < Int.ofNat 1)) = true → Q (.c (.v (.int .i64 (Int.ofNat 1))), [], 1016, [decide (↑(c.ns) < Int.ofNat 1) == true, decide (↑(c.ns) > Int.ofNat 16) == false, true], [])) ∧ ((decide (↑(c.ns) < Int.ofNat 1)) = false → Q (.c (.v (.int .i64 (Int.ofNat 0))), [], 1016, [decide (↑(c.ns) < Int.ofNat 1) == false, decide (↑(c.ns) > Int.ofNat 16) == false, true], [])))))) :
 ∃ p r, cfgR Tryz.prog 78 c p = some r ∧ Q r :=
 two H
 (fun g1 => ⟨pD 1 1, _, by kernel_rfl, g1⟩)
 (fun g1 => two g1
  (fun g2 => ⟨pD 2 5, _, by kernel_rfl, g2⟩)
  (fun g2 => ⟨pD 2 8, _, by kernel_rfl, g2⟩))
theorem ru6 (c : Cfg) (Q : VF → Prop) (H : let zz0 := (Cfg.long c < if IntKind.wrap IntKind.i64 (IntKind.wrap IntKind.i64 (Cfg.nodes c + Int.ofNat 114) + Int.ofNat 2) > IntKind.wrap IntKind.i64 (IntKind.wrap IntKind.i64 (Int.ofNat 3 * Cfg.nodes c) + Int.ofNat 1) then IntKind.wrap IntKind.i64 (IntKind.wrap IntKind.i64 (Cfg.nodes c + Int.ofNat 114) + Int.ofNat 2) else IntKind.wrap IntKind.i64 (IntKind.wrap IntKind.i64 (Int.ofNat 3 * Cfg.nodes c) + Int.ofNat 1)); (((decide (c.long > Int.ofNat 4096)) = true → Q (.c (.v (.int .i64 (Int.ofNat 3))), [], 1020, [decide (c.long > Int.ofNat 4096) == true, true, true, true, true, true, true], [])) ∧ ((decide (c.long > Int.ofNat 4096)) = false → (((decide zz0) = true → Q (.c (.v (.int .i64 (Int.ofNat 1))), [], 1024, [decide zz0 == true, decide (c.long > Int.ofNat 4096) == false, true, true, true, true, true, true], [])) ∧ ((decide zz0) = false → Q (.c (.v (.int .i64 (Int.ofNat 0))), [], 1024, [decide zz0 == false, decide (c.long > Int.ofNat 4096) == false, true, true, true, true, true, true], [])))))) :
 ∃ p r, cfgR Tryz.prog 81 c p = some r ∧ Q r :=
 two H
 (fun g1 => ⟨pD 1 1, _, by kernel_rfl, g1⟩)
 (fun g1 => two g1
  (fun g2 => ⟨pD 2 5, _, by kernel_rfl, g2⟩)
  (fun g2 => ⟨pD 2 8, _, by kernel_rfl, g2⟩))
theorem ru7 (c : Cfg) (Q : VF → Prop) (H : let zz0 := (eachF (Cfg.fb c) (Cfg.nb c) (Int.ofNat 0) (Int.ofNat 4096) != Int.ofNat 0); (((!↑(c.nb) == c.nodes) = true → Q (.c (.v (.int .i64 (Int.ofNat 1))), [], 130000000000000000000000000000000000001002, [true, true, true, true, true, true, decide (0 + c.nb ≤ c.nb), decide (c.nb ≤ 9223372036854775807), intsOk (c.nb) fun k => List.map AC.v ((fun i => [Value.int .i64 (c.fb i)]) k), true, (!↑(c.nb) == c.nodes) == true, true, true, true], [])) ∧ ((!↑(c.nb) == c.nodes) = false → ((zz0 = true → Q (.c (.v (.int .i64 (eachF (c.fb) (c.nb) (Int.ofNat 0) (Int.ofNat 4096)))), [], 130000000000000000000000000000000000001002, [true, true, true, zz0 == true, true, true, true, true, true, true, decide (0 + c.nb ≤ c.nb), decide (c.nb ≤ 9223372036854775807), intsOk (c.nb) fun k => List.map AC.v ((fun i => [Value.int .i64 (c.fb i)]) k), true, (!↑(c.nb) == c.nodes) == false, true, true, true], [])) ∧ (zz0 = false → Q (.c (.v (.int .i64 (Int.ofNat 0))), [], 130000000000000000000000000000000000001002, [zz0 == false, true, true, true, true, true, true, decide (0 + c.nb ≤ c.nb), decide (c.nb ≤ 9223372036854775807), intsOk (c.nb) fun k => List.map AC.v ((fun i => [Value.int .i64 (c.fb i)]) k), true, (!↑(c.nb) == c.nodes) == false, true, true, true], [])))))) :
 ∃ p r, cfgR Tryz.prog 82 c p = some r ∧ Q r :=
 two H
 (fun g1 => ⟨pD 4 1, _, by kernel_rfl, g1⟩)
 (fun g1 => two g1
  (fun g2 => ⟨pD 6 83, _, by kernel_rfl, g2⟩)
  (fun g2 => ⟨pD 7 164, _, by kernel_rfl, g2⟩))
theorem ru8 (c : Cfg) (Q : VF → Prop) (H : (((decide (↑(c.nt) > Int.ofNat 8)) = true → Q (.c (.v (.int .i64 (Int.ofNat 3))), [], 1012, [decide (↑(c.nt) > Int.ofNat 8) == true, true], [])) ∧ ((decide (↑(c.nt) > Int.ofNat 8)) = false → Q (.c (.v (.int .i64 (Int.ofNat 0))), [], 1016, [decide (↑(c.nt) > Int.ofNat 8) == false, true], [])))) :
 ∃ p r, cfgR Tryz.prog 85 c p = some r ∧ Q r :=
 two H
 (fun g1 => ⟨pD 1 1, _, by kernel_rfl, g1⟩)
 (fun g1 => ⟨pD 2 2, _, by kernel_rfl, g1⟩)
theorem ru10 (c : Cfg) (Q : VF → Prop) (H : Q (.c (.v (.int .i64 (eachF (fA (eltZ (ABlk.mk true false 3 0 (Cs.lit [.v (.int .i64 (c.miss)), .v (.int .i64 (c.good)), .v (.int .i64 (c.fresh))])) 0 0 1)) 3 (Int.ofNat 1) (Int.ofNat 100)))), [], 1010, [true, true, true, true, true, true, true, true, true], [])) :
 ∃ p r, cfgR Tryz.prog 87 c p = some r ∧ Q r :=
 ⟨pD 0 0, _, by kernel_rfl, H⟩
def stepR (P : Program) (n d a k : Int) (path : List Dec) : Option VF := viewF [] (fCallF (E1 P) (fC (E1 P) 300) 34 [i64 n, .c (.v (.int .u8 d)), i64 a, i64 k] 1000 10000000000000000000000000000000000000000 (stA mS path []))
theorem stp (n a k : Int) (Q : VF → Prop) (H : (((decide (n ≥ Int.ofNat 4)) = true → (((decide (n ≤ Int.ofNat 16)) = true → (((decide (a ≥ Int.ofNat 0)) = true → (((!decide (a < n)) = true → Q (.c (.v (.int .i64 (Int.negSucc 0))), [], 1031, [(!decide (a < n)) == true, decide (a ≥ Int.ofNat 0) == true, decide (n ≤ Int.ofNat 16) == true, decide (n ≥ Int.ofNat 4) == true], [])) ∧ ((!decide (a < n)) = false → Q (.c (.v (.int .i64 (Int.tmod (IntKind.wrap .i64 (Int.tmod (IntKind.wrap .i64 (a + IntKind.wrap .i64 (Int.ofNat 1 * Int.tmod k n))) n + n)) n))), [], 120000000000000000000000000000000000001030, [decide (n ≠ Int.ofNat 0), decide (n ≠ Int.ofNat 0), decide (n ≠ Int.ofNat 0), true, true, true, (!decide (a < n)) == false, decide (a ≥ Int.ofNat 0) == true, decide (n ≤ Int.ofNat 16) == true, decide (n ≥ Int.ofNat 4) == true], [])))) ∧ ((decide (a ≥ Int.ofNat 0)) = false → Q (.c (.v (.int .i64 (Int.negSucc 0))), [], 1028, [decide (a ≥ Int.ofNat 0) == false, decide (n ≤ Int.ofNat 16) == true, decide (n ≥ Int.ofNat 4) == true], [])))) ∧ ((decide (n ≤ Int.ofNat 16)) = false → Q (.c (.v (.int .i64 (Int.negSucc 0))), [], 1017, [decide (n ≤ Int.ofNat 16) == false, decide (n ≥ Int.ofNat 4) == true], [])))) ∧ ((decide (n ≥ Int.ofNat 4)) = false → Q (.c (.v (.int .i64 (Int.negSucc 0))), [], 1015, [decide (n ≥ Int.ofNat 4) == false], [])))) :
 ∃ p r, stepR Tryz.prog n 0 a k p = some r ∧ Q r :=
 two H
 (fun g1 => two g1
  (fun g2 => two g2
   (fun g3 => two g3
    (fun g4 => ⟨pD 12 179344, _, by kernel_rfl, g4⟩)
    (fun g4 => ⟨pD 12 356491, _, by kernel_rfl, g4⟩))
   (fun g3 => ⟨pD 12 4384, _, by kernel_rfl, g3⟩))
  (fun g2 => ⟨pD 9 19, _, by kernel_rfl, g2⟩))
 (fun g1 => ⟨pD 9 2, _, by kernel_rfl, g1⟩)
abbrev ixV (v : Int) (n k : Nat) : List AV := [.c (.sl 0 0 0 n none), i64 v, i64 (Int.ofNat n), i64 (Int.ofNat k)]
def ixR (P : Program) (f : Nat → Int) (n : Nat) (v : Int) (k : Nat) (path : List Dec) : Option VC :=
 view ([0, 1, 7, 8] ++ [4]) [0] (fC (E1 P) 100 (loopAt P 117 0) 1000000000000000000000000000000000000000000 10000000000000000000000000000000000000000 (stH 19 [0, 1, 7, 8] [0] (ixV v n k) [ints 3 n f] path []))
theorem ix (f : Nat → Int) (n : Nat) (v : Int) (k : Nat) (Q : VC → Prop) (H : let zz0 := (ABlk.mk false false 3 1 (Cs.arr n fun k => List.map AC.v ((fun i => [Value.int IntKind.i64 (f i)]) k))); let zq0 : List Bool := [ABlk.inb zz0 (0 + Int.toNat (Int.ofNat k)) 1, true, decide (Int.ofNat 0 ≤ Int.ofNat k ∧ Int.ofNat k < ↑n), decide (Int.ofNat k < Int.ofNat n) == true]; (((decide (Int.ofNat k < Int.ofNat n)) = true → (((v == f (0 + Int.toNat (Int.ofNat k))) = true → Q (Exit.ret, [some (lkA (List.zip [0, 1, 7, 8] (ixV v n k)) 0), some (lkA (List.zip [0, 1, 7, 8] (ixV v n k)) 1), some (lkA (List.zip [0, 1, 7, 8] (ixV v n k)) 7), some (lkA (List.zip [0, 1, 7, 8] (ixV v n k)) 8), some (.c (.v (.int .i64 (Int.ofNat k))))], [some zz0], 19, 1000000000000000000000000000000000000000011, (((v == f (0 + Int.toNat (Int.ofNat k))) == true) :: zq0), [])) ∧ ((v == f (0 + Int.toNat (Int.ofNat k))) = false → Q (Exit.normal, [some (lkA (List.zip [0, 1, 7, 8] (ixV v n k)) 0), some (lkA (List.zip [0, 1, 7, 8] (ixV v n k)) 1), some (lkA (List.zip [0, 1, 7, 8] (ixV v n k)) 7), some (.c (.v (.int .i64 (IntKind.wrap .i64 (Int.ofNat k + Int.ofNat 1))))), some (lkA (List.zip [0, 1, 7, 8] (ixV v n k)) 4)], [some zz0], 19, 1000000000000000000000000000000000000000011, (((v == f (0 + Int.toNat (Int.ofNat k))) == false) :: zq0), [])))) ∧ ((decide (Int.ofNat k < Int.ofNat n)) = false → Q (Exit.exit 0, [some (lkA (List.zip [0, 1, 7, 8] (ixV v n k)) 0), some (lkA (List.zip [0, 1, 7, 8] (ixV v n k)) 1), some (lkA (List.zip [0, 1, 7, 8] (ixV v n k)) 7), some (lkA (List.zip [0, 1, 7, 8] (ixV v n k)) 8), some (lkA (List.zip [0, 1, 7, 8] (ixV v n k)) 4)], [some zz0], 19, 1000000000000000000000000000000000000000001, [decide (Int.ofNat k < Int.ofNat n) == false], [])))) :
 ∃ p r, ixR Tryz.prog f n v k p = some r ∧ Q r :=
 two H
 (fun g1 => two g1
  (fun g2 => ⟨pD 2 4, _, by kernel_rfl, g2⟩)
  (fun g2 => ⟨pD 2 7, _, by kernel_rfl, g2⟩))
 (fun g1 => ⟨pD 1 2, _, by kernel_rfl, g1⟩)
def ixS (e : Exit) (l : List (Nat × AV)) : LSum := ⟨[0, 1, 7, 8], [0], mkFr 19 l, [], 100000000000000000000000000000000000000000000000000, e⟩
def contains1 (P : Program) (f : Nat → Int) (n : Nat) (v : Int) (e : Exit) (l : List (Nat × AV)) : Option VF :=
 viewF [] (fCallF (E1 P) (fC (E1 P) 300) 80 [.c (.sl 0 0 0 n none), i64 v] 1000 10000000000000000000000000000000000000000 (stA [(0, ints 3 n f)] [] [some (ixS e l)]))
theorem contains_yes (f : Nat → Int) (n : Nat) (v : Int) (j : Nat) : contains1 Tryz.prog f n v .ret [(4, i64 (Int.ofNat j))] =
 some (.c (.v (.bool true)), [], 100000000000000000000000000000000000000000000000002, [], [LoopV Tryz.prog (loopAt Tryz.prog 117 0) [0, 1, 7, 8] [0] [some (.c (.sl 0 0 0 n none)), some (.c (.v (.int .i64 v))), some (.c (.v (.int .i64 ↑n))), some (.c (.v (.int .i64 (Int.ofNat 0))))] [some (ABlk.mk false false 3 1 (Cs.arr n fun k => List.map AC.v ((fun i => [Value.int .i64 (f i)]) k)))] 19 1007 (mkFr 19 [(4, i64 (Int.ofNat j))]) [] 100000000000000000000000000000000000000000000000000 Exit.ret none]) := by kernel_rfl
theorem contains_no (f : Nat → Int) (n : Nat) (v : Int) : contains1 Tryz.prog f n v (.exit 0) [] =
 some (.c (.v (.bool false)), [], 100000000000000000000000000000000000000000000000003, [], [LoopV Tryz.prog (loopAt Tryz.prog 117 0) [0, 1, 7, 8] [0] [some (.c (.sl 0 0 0 n none)), some (.c (.v (.int .i64 v))), some (.c (.v (.int .i64 ↑n))), some (.c (.v (.int .i64 (Int.ofNat 0))))] [some (ABlk.mk false false 3 1 (Cs.arr n fun k => List.map AC.v ((fun i => [Value.int .i64 (f i)]) k)))] 19 1007 (mkFr 19 []) [] 100000000000000000000000000000000000000000000000000 (Exit.exit 0) none]) := by kernel_rfl
end Go.Proofs.YtoelekmbmghicaaGreatDoor
end
/- Contracts: the rules of configs that look at numbers alone; rings.Step clockwise; slices.Contains. -/
section
namespace Go.Proofs.YtoelekmbmghicaaGreatDoor
open Go.RowKit
theorem fA_ints {ty n : Nat} {f : Nat → Int} {o r : Bool} : fA (elt ⟨o, r, ty, 1, .arr n fun k => List.map AC.v ((fun i => [Value.int .i64 (f i)]) k)⟩ 0 0 1) = f := by
 funext i
 simp [fA, elt, asI]
theorem intsOk_ints {n : Nat} {f : Nat → Int} : intsOk n (fun k => List.map AC.v ((fun i => [Value.int .i64 (f i)]) k)) = true := by
 unfold intsOk
 exact List.all_eq_true.2 fun i _ => by simp [isI64]
theorem hENw : EnvOk (ENw Tryz.prog) := by
 refine envOk (fun f g h => ?_) (by kernel_rfl) (by kernel_rfl)
 simp only [ENw, List.mem_cons, Prod.mk.injEq, List.not_mem_nil, or_false] at h
 rcases h with ⟨rfl, rfl⟩ | ⟨rfl, rfl⟩ | ⟨rfl, rfl⟩
 · exact ct_inside
 · exact ct_each
 · exact ct_sorted
theorem plain_i64 (z : Int) (β1 β2 : Nm) (u : Value) (h : γ β1 (i64 z) = some u) : γ β2 (i64 z) = some u := h
theorem ctCfg_tree {f : FuncId} {R : Cfg → AV} {pre : Cfg → Bool} (hf : ∃ (fn : Func) (c : Code), Tryz.prog.funcs[f]? = some fn ∧ fn.body = some c) (hres : ∀ c (β1 β2 : Nm) u, γ β1 (R c) = some u → γ β2 (R c) = some u)
 (h : ∀ c, pre c = true → ∃ p r, cfgR Tryz.prog f c p = some r ∧ (r.1 = R c ∧ r.2.2.1 ≤ lim ∧ allT r.2.2.2.1 ∧ ∀ q ∈ r.2.2.2.2, q)) : CtOk Tryz.prog f (ctCfg R pre) :=
 ctCfg_of (E := ENw Tryz.prog) (fuel := 300) (str := 10000000000000000000000000000000000000000) hENw hf hres fun c hp => by
  obtain ⟨p, r, h1, h2⟩ := h c hp
  exact ⟨p, [], r, h1, h2⟩
def rule1 (c : Cfg) : Int := withinF c.nodes 4 16
def rule2 (c : Cfg) : Int := withinF c.np 2 8
def rule4 (c : Cfg) : Int := withinF c.ns 1 16
def rule6 (c : Cfg) : Int := withinF c.long (max (3 * c.nodes + 1) (c.nodes + 116)) 4096
def rule7 (c : Cfg) : Int := if (c.nb : Int) = c.nodes then eachF c.fb c.nb 0 4096 else 1
def rule8 (c : Cfg) : Int := withinF c.nt 0 8
def rule10 (c : Cfg) : Int := if withinF c.miss 1 100 ≠ 0 then withinF c.miss 1 100 else if withinF c.good 1 100 ≠ 0 then withinF c.good 1 100 else withinF c.fresh 1 100
def okNodes (c : Cfg) : Bool := decide (4 ≤ c.nodes ∧ c.nodes ≤ 16)
theorem ct_ru1 : CtOk Tryz.prog 70 (ctCfg (fun c => i64 (rule1 c)) fun _ => true) := by
 refine ctCfg_tree ⟨_, _, Tryz.func70, rfl⟩ (fun c => plain_i64 _) fun c hp => ru1 c _ ?_
 repeat' (first | refine ⟨fun h => ?_, fun h => ?_⟩ | fail)
 all_goals (refine ⟨?_, (by first | (unfold lim; omega) | (dsimp only; unfold lim; omega)), ?_, by simp⟩)
 all_goals (simp_all [allT, rule1, withinF, i64])
 all_goals (rw [if_neg (by omega), if_neg (by omega)])
theorem ct_ru2 : CtOk Tryz.prog 72 (ctCfg (fun c => i64 (rule2 c)) fun _ => true) := by
 refine ctCfg_tree ⟨_, _, Tryz.func72, rfl⟩ (fun c => plain_i64 _) fun c hp => ru2 c _ ?_
 repeat' (first | refine ⟨fun h => ?_, fun h => ?_⟩ | fail)
 all_goals (refine ⟨?_, (by first | (unfold lim; omega) | (dsimp only; unfold lim; omega)), ?_, by simp⟩)
 all_goals (simp_all [allT, rule2, withinF, i64])
 all_goals (try omega)
theorem ct_ru4 : CtOk Tryz.prog 78 (ctCfg (fun c => i64 (rule4 c)) fun _ => true) := by
 refine ctCfg_tree ⟨_, _, Tryz.func78, rfl⟩ (fun c => plain_i64 _) fun c hp => ru4 c _ ?_
 repeat' (first | refine ⟨fun h => ?_, fun h => ?_⟩ | fail)
 all_goals (refine ⟨?_, (by first | (unfold lim; omega) | (dsimp only; unfold lim; omega)), ?_, by simp⟩)
 all_goals (simp_all [allT, rule4, withinF, i64])
 all_goals (try omega)
theorem ct_ru6 : CtOk Tryz.prog 81 (ctCfg (fun c => i64 (rule6 c)) okNodes) := by
 refine ctCfg_tree ⟨_, _, Tryz.func81, rfl⟩ (fun c => plain_i64 _) fun c hp => ru6 c _ ?_
 simp only [okNodes, decide_eq_true_eq] at hp
 have w1 : IntKind.wrap IntKind.i64 (IntKind.wrap IntKind.i64 (Cfg.nodes c + Int.ofNat 114) + Int.ofNat 2) = c.nodes + 116 := by
  rw [wrap_nat (Cfg.nodes c + Int.ofNat 114) (by simp; omega) (by simp; omega), wrap_nat _ (by simp; omega) (by simp; omega)]; simp; omega
 have w2 : IntKind.wrap IntKind.i64 (IntKind.wrap IntKind.i64 (Int.ofNat 3 * Cfg.nodes c) + Int.ofNat 1) = 3 * c.nodes + 1 := by
  rw [wrap_nat (Int.ofNat 3 * Cfg.nodes c) (by simp; omega) (by simp; omega), wrap_nat _ (by simp; omega) (by simp; omega)]; simp
 simp only [w1, w2]
 have hm : (if c.nodes + 116 > 3 * c.nodes + 1 then c.nodes + 116 else 3 * c.nodes + 1) = max (3 * c.nodes + 1) (c.nodes + 116) := by split <;> omega
 simp only [hm]
 have hr : rule6 c = withinF c.long (max (3 * c.nodes + 1) (c.nodes + 116)) 4096 := rfl
 generalize max (3 * c.nodes + 1) (c.nodes + 116) = q at *
 repeat' (first | refine ⟨fun h => ?_, fun h => ?_⟩ | fail)
 all_goals (refine ⟨?_, (by first | (unfold lim; omega) | (dsimp only; unfold lim; omega)), ?_, by simp⟩)
 all_goals (simp_all [allT, withinF, i64])
 all_goals (try omega)
theorem ct_ru7 : CtOk Tryz.prog 82 (ctCfg (fun c => i64 (rule7 c)) fun c => decide (c.nb ≤ 9223372036854775807)) := by
 refine ctCfg_tree ⟨_, _, Tryz.func82, rfl⟩ (fun c => plain_i64 _) fun c hp => ru7 c _ ?_
 simp only [decide_eq_true_eq] at hp
 simp only [fA_ints, intsOk_ints]
 repeat' (first | refine ⟨fun h => ?_, fun h => ?_⟩ | fail)
 all_goals (refine ⟨?_, (by first | (unfold lim; omega) | (dsimp only; unfold lim; omega)), ?_, by simp⟩)
 all_goals (simp_all [allT, rule7, i64])
theorem ct_ru8 : CtOk Tryz.prog 85 (ctCfg (fun c => i64 (rule8 c)) fun _ => true) := by
 refine ctCfg_tree ⟨_, _, Tryz.func85, rfl⟩ (fun c => plain_i64 _) fun c hp => ru8 c _ ?_
 repeat' (first | refine ⟨fun h => ?_, fun h => ?_⟩ | fail)
 all_goals (refine ⟨?_, (by first | (unfold lim; omega) | (dsimp only; unfold lim; omega)), ?_, by simp⟩)
 all_goals (simp_all [allT, rule8, withinF, i64])
 all_goals (try omega)
theorem each3 (f : Nat → Int) (lo hi : Int) : eachF f 3 lo hi = if withinF (f 0) lo hi ≠ 0 then withinF (f 0) lo hi else if withinF (f 1) lo hi ≠ 0 then withinF (f 1) lo hi else withinF (f 2) lo hi := by
 unfold eachF
 rw [show List.range 3 = [0, 1, 2] from rfl]
 by_cases h0 : withinF (f 0) lo hi = 0
 · by_cases h1 : withinF (f 1) lo hi = 0
   · by_cases h2 : withinF (f 2) lo hi = 0
     · simp [h0, h1, h2]
     · simp [h0, h1, h2]
   · simp [h0, h1]
 · simp [h0]
theorem ct_ru10 : CtOk Tryz.prog 87 (ctCfg (fun c => i64 (rule10 c)) fun _ => true) := by
 refine ctCfg_tree ⟨_, _, Tryz.func87, rfl⟩ (fun c => plain_i64 _) fun c hp => ru10 c _ ?_
 refine ⟨?_, (by first | (unfold lim; omega) | (dsimp only; unfold lim; omega)), by simp [allT], by simp⟩
 show i64 _ = i64 _
 rw [each3]
 rfl
end Go.Proofs.YtoelekmbmghicaaGreatDoor
end
/- Contract of slices.Contains; the rules of configs with loops: their rounds as the evaluator runs them. -/
section
namespace Go.Proofs.YtoelekmbmghicaaGreatDoor
open Go.RowKit
theorem ix_ob (f : Nat → Int) (n : Nat) (v : Int) (N : Nat) (hN : 1 ≤ N) (hN2 : N ≤ 1000000000000000000000000000000000000000000) (hn : n ≤ 1000000) (j : Nat) (hj : j ≤ n) (hmin : ∀ i, i < j → f i ≠ v) (hyes : j < n → f j = v) {e : Exit} {out : List (Nat × AV)}
 (hF : (j < n → e = .ret ∧ out = [(4, i64 (Int.ofNat j))]) ∧ (j = n → e = .exit 0 ∧ out = [])) :
 LoopV Tryz.prog (loopAt Tryz.prog 117 0) [0, 1, 7, 8] [0] ((ixV v n 0).map some) ([ints 3 n f].map some) 19 N (mkFr 19 out) [] 100000000000000000000000000000000000000000000000000 e none := by
 have e0 : ∀ k : Nat, 0 + Int.toNat (Int.ofNat k) = k := fun k => by simp
 have hw : ∀ k, k < n → IntKind.wrap IntKind.i64 (Int.ofNat k + Int.ofNat 1) = Int.ofNat (k + 1) := fun k hk => by rw [wrap_nat _ (by simp; omega) (by simp; omega)]; rfl
 refine scan_ob hE1 (fuel := 100) (str := 10000000000000000000000000000000000000000) (nh := 1000000000000000000000000000000000000000000) [0, 1, 7, 8] [4] [0] (ixV v n) [ints 3 n f] j hN2 (by decide) (by unfold lim; omega) ?_ (fun _ => ⟨rfl, rfl⟩) ?_ ?_ ?_ ?_ ?_
 · rcases Nat.lt_or_ge j n with h | h
   · rw [(hF.1 h).1]; simp
   · rw [(hF.2 (by omega)).1]; simp
 · simp [keptB]; omega
 · intro k _
   simp [okV, lowV, lowC, notAny, i64]; omega
 · intro b hb
   rw [List.mem_singleton.1 hb]
   exact ints_low
 · intro k hk
   have hm := hmin k hk
   refine ix f n v k _ ⟨fun c1 => ⟨fun c2 => ?_, fun c2 => ?_⟩, fun c1 => ?_⟩ <;> simp only [e0] at *
   · simp at c2; exact absurd c2.symm hm
   · have hlt : k < n := by omega
     simp at c2
     refine ⟨⟨?_, rfl, by dsimp only; omega, rfl⟩, rfl, ?_, BL.refl _⟩
     · simp only [allT, List.forall_mem_cons, e0]
       simp [inb_arr, hlt, c2]
     · dsimp only; rw [hw k hlt]; rfl
   · simp at c1; omega
 · refine ix f n v j _ ⟨fun c1 => ⟨fun c2 => ?_, fun c2 => ?_⟩, fun c1 => ?_⟩ <;> simp only [e0] at *
   · have hlt : j < n := by simpa using c1
     obtain ⟨rfl, rfl⟩ := hF.1 hlt
     refine EndV_one ⟨?_, rfl, by dsimp only; omega, rfl⟩ rfl rfl ?_
     · simp only [allT, List.forall_mem_cons, e0]
       simp at c2
       simp [inb_arr, hlt, c2]
     · simp [i64]
   · have hlt : j < n := by simpa using c1
     simp at c2
     exact absurd (hyes hlt).symm c2
   · have hlt : ¬ j < n := by simpa using c1
     obtain ⟨rfl, rfl⟩ := hF.2 (by omega)
     refine EndV_nil ⟨?_, rfl, by dsimp only; omega, rfl⟩ rfl
     simp [allT]; omega
def hasF (f : Nat → Int) (n : Nat) (v : Int) : Bool := (List.range n).any fun i => f i == v
theorem contains_run (f : Nat → Int) (n : Nat) (v : Int) (hn : n ≤ 1000000) : ∃ p lp r, viewF [] (fCallF (E1 Tryz.prog) (fC (E1 Tryz.prog) 300) 80 (.c (.sl 0 0 0 n none) :: [i64 v]) 1000 10000000000000000000000000000000000000000 (stA [(0, ints 3 n f)] p lp)) = some r ∧
 r.1 = bo (hasF f n v) ∧ r.2.2.1 ≤ lim ∧ allT r.2.2.2.1 ∧ ∀ q ∈ r.2.2.2.2, q := by
 obtain ⟨j, hj, hmin, hyes⟩ := first_stop n fun i => f i == v
 have hmin' : ∀ i, i < j → f i ≠ v := fun i hi => by simpa using hmin i hi
 rcases Nat.lt_or_ge j n with h | h
 · have hy : f j = v := by simpa using hyes h
   refine ⟨_, _, _, contains_yes f n v j, ?_, by dsimp only; unfold lim; omega, by simp [allT], fun q hq => ?_⟩
   · have : hasF f n v = true := List.any_eq_true.2 ⟨j, by simpa using h, by simp [hy]⟩
     simp [bo, this]
   · rw [List.mem_singleton.1 hq]
     exact ix_ob f n v _ (by omega) (by omega) hn j hj hmin' (fun _ => hy) ⟨fun _ => ⟨rfl, rfl⟩, fun h => by omega⟩
 · obtain rfl : j = n := by omega
   refine ⟨_, _, _, contains_no f j v, ?_, by dsimp only; unfold lim; omega, by simp [allT], fun q hq => ?_⟩
   · have : hasF f j v = false := List.any_eq_false.2 fun i hi => by have := hmin' i (by simpa using hi); simpa using this
     simp [bo, this]
   · rw [List.mem_singleton.1 hq]
     exact ix_ob f j v _ (by omega) (by omega) hn j hj hmin' (fun h => by omega) ⟨fun h => by omega, fun _ => ⟨rfl, rfl⟩⟩
def ctContains : CtF
 | [.c a, .c (.v (.int .i64 v))], m, _ => match slOf 1 m a with | some (n, F, b) => some (bo (hasF (fA F) n v), [], 0, [b, decide (n ≤ 1000000), intsOk n F]) | none => none
 | _, _, _ => none
theorem ct_contains : CtOk Tryz.prog 80 ctContains := by
 refine ⟨⟨_, _, Tryz.func80, rfl⟩, fun C β m m2 w args ib r news k' ob vs hct ho hs hr hfree hlim hv => ?_⟩
 unfold ctContains at hct
 split at hct
 · rename_i a v
   split at hct
   · rename_i n F b hsl
     simp only [Option.some.injEq, Prod.mk.injEq] at hct
     obtain ⟨rfl, rfl, rfl, rfl⟩ := hct
     simp only [allT, List.forall_mem_cons, decide_eq_true_eq] at ho
     obtain ⟨rfl, o2, o3, _⟩ := ho
     exact pure1 hE1 hs hr hsl o3 hv (γt_valsI [.int .i64 v] rfl) (fun _ _ _ h => h) 3 (contains_run (fA F) n v o2)
   · cases hct
 · cases hct
def ENx (P : Program) : Env := ⟨P, [(75, ctInside), (84, ctEach), (76, ctSorted), (80, ctContains)]⟩
theorem hENx : EnvOk (ENx Tryz.prog) := by
 refine envOk (fun f g h => ?_) (by kernel_rfl) (by kernel_rfl)
 simp only [ENx, List.mem_cons, Prod.mk.injEq, List.not_mem_nil, or_false] at h
 rcases h with ⟨rfl, rfl⟩ | ⟨rfl, rfl⟩ | ⟨rfl, rfl⟩ | ⟨rfl, rfl⟩
 · exact ct_inside
 · exact ct_each
 · exact ct_sorted
 · exact ct_contains
abbrev cfgB (c : Cfg) : ABlk := ⟨true, false, 25, 0, .lit (cfgC c)⟩
abbrev r5V (c : Cfg) (al : Bool) (k : Nat) : List AV := [.c (.ptr 1000 0 0), bo al, i64 (Int.ofNat c.np), i64 (Int.ofNat k)]
def r5R (P : Program) (c : Cfg) (al : Bool) (k : Nat) (path : List Dec) : Option VC :=
 view ([1, 3, 13, 14] ++ []) [1, 1000] (fC (ENx P) 100 (loopAt P 79 0) 1000000000000000000000000000000000000000000 10000000000000000000000000000000000000000 (stH 27 [1, 3, 13, 14] [1, 1000] (r5V c al k) [ints 3 c.ns c.fs, cfgB c] path []))
theorem r5 (c : Cfg) (al : Bool) (k : Nat) (Q : VC → Prop) (H : let zz0 := [some (ABlk.mk false false 3 1 (Cs.arr (Cfg.ns c) fun k => List.map AC.v ((fun i => [Value.int IntKind.i64 (Cfg.fs c i)]) k))), some (ABlk.mk true false 25 0 (Cs.lit [AC.v (Value.int IntKind.i64 (Cfg.nodes c)), AC.sl 0 0 0 (Cfg.np c) none, AC.sl 1 0 0 (Cfg.ns c) none, AC.v (Value.int IntKind.i64 (Cfg.long c)), AC.sl 2 0 0 (Cfg.nb c) none, AC.sl 3 0 0 (Cfg.nt c) none, AC.v (Value.int IntKind.i64 (Cfg.miss c)), AC.v (Value.int IntKind.i64 (Cfg.good c)), AC.v (Value.int IntKind.i64 (Cfg.fresh c))]))]; (((decide (Int.ofNat k < Int.ofNat (c.np))) = true → (((al) = true → Q (Exit.normal, [some (lkA (List.zip [1, 3, 13, 14] (r5V c al k)) 1), some (.c (.v (.bool (hasF (c.fs) (c.ns) (Int.ofNat k))))), some (lkA (List.zip [1, 3, 13, 14] (r5V c al k)) 13), some (.c (.v (.int .i64 (IntKind.wrap .i64 (Int.ofNat k + Int.ofNat 1)))))], zz0, 27, 1000000000000000000000000000000000000000012, [decide (0 + c.ns ≤ c.ns), decide (c.ns ≤ 1000000), intsOk (c.ns) fun k => List.map AC.v ((fun i => [Value.int .i64 (c.fs i)]) k), true, al == true, decide (Int.ofNat k < Int.ofNat (c.np)) == true], [])) ∧ ((al) = false → Q (Exit.normal, [some (lkA (List.zip [1, 3, 13, 14] (r5V c al k)) 1), some (.c (.v (.bool false))), some (lkA (List.zip [1, 3, 13, 14] (r5V c al k)) 13), some (.c (.v (.int .i64 (IntKind.wrap .i64 (Int.ofNat k + Int.ofNat 1)))))], zz0, 27, 1000000000000000000000000000000000000000009, [al == false, decide (Int.ofNat k < Int.ofNat (c.np)) == true], [])))) ∧ ((decide (Int.ofNat k < Int.ofNat (c.np))) = false → Q (Exit.exit 0, [some (lkA (List.zip [1, 3, 13, 14] (r5V c al k)) 1), some (lkA (List.zip [1, 3, 13, 14] (r5V c al k)) 3), some (lkA (List.zip [1, 3, 13, 14] (r5V c al k)) 13), some (lkA (List.zip [1, 3, 13, 14] (r5V c al k)) 14)], zz0, 27, 1000000000000000000000000000000000000000001, [decide (Int.ofNat k < Int.ofNat (c.np)) == false], [])))) :
 ∃ p r, r5R Tryz.prog c al k p = some r ∧ Q r :=
 two H
 (fun g1 => two g1
  (fun g2 => ⟨pD 5 4, _, by kernel_rfl, g2⟩)
  (fun g2 => ⟨pD 5 7, _, by kernel_rfl, g2⟩))
 (fun g1 => ⟨pD 1 2, _, by kernel_rfl, g1⟩)
abbrev r9V (c : Cfg) (k : Nat) : List AV := [.c (.ptr 1000 0 0), .c (.sl 3 0 0 c.nt none), i64 (Int.ofNat c.nt), i64 (Int.ofNat k)]
def r9R (P : Program) (c : Cfg) (k : Nat) (path : List Dec) : Option VC :=
 view ([1, 7, 8, 9] ++ [2]) [3, 1000] (fC (ENx P) 100 (loopAt P 86 0) 1000000000000000000000000000000000000000000 10000000000000000000000000000000000000000 (stH 33 [1, 7, 8, 9] [3, 1000] (r9V c k) [sts c.nt c.ft, cfgB c] path []))
theorem r9 (c : Cfg) (k : Nat) (Q : VC → Prop) (H : let zz1 := (ABlk.mk false false 102 3 (Cs.arr (Cfg.nt c) fun k => List.map AC.v ((fun i => [Value.int IntKind.i64 (Station.node (Cfg.ft c i)), Value.int IntKind.u32 (Station.safe (Cfg.ft c i)), Value.int IntKind.i64 (Station.hold (Cfg.ft c i))]) k))); let zz0 := [some zz1, some (ABlk.mk true false 25 0 (Cs.lit [AC.v (Value.int IntKind.i64 (Cfg.nodes c)), AC.sl 0 0 0 (Cfg.np c) none, AC.sl 1 0 0 (Cfg.ns c) none, AC.v (Value.int IntKind.i64 (Cfg.long c)), AC.sl 2 0 0 (Cfg.nb c) none, AC.sl 3 0 0 (Cfg.nt c) none, AC.v (Value.int IntKind.i64 (Cfg.miss c)), AC.v (Value.int IntKind.i64 (Cfg.good c)), AC.v (Value.int IntKind.i64 (Cfg.fresh c))]))]; let zz2 := [some (lkA (List.zip [1, 7, 8, 9] (r9V c k)) 1), some (lkA (List.zip [1, 7, 8, 9] (r9V c k)) 7), some (lkA (List.zip [1, 7, 8, 9] (r9V c k)) 8), some (lkA (List.zip [1, 7, 8, 9] (r9V c k)) 9), some (AV.c (AC.v (Value.int IntKind.i64 (Int.ofNat 1))))]; let zz3 := (Station.hold (c.10 (0 + Int.toNat (Int.ofNat k))) > Int.ofNat 100); let zz4 := (Station.hold (c.10 (0 + Int.toNat (Int.ofNat k))) < Int.ofNat 1); let zz5 := (Station.node (c.10 (0 + Int.toNat (Int.ofNat k))) ≥ Int.ofNat 0); let zz6 := (Station.node (c.10 (0 + Int.toNat (Int.ofNat k))) < Cfg.nodes c); let zt : List Bool → List Bool := fun l => true :: true :: true :: true :: true :: true :: true :: true :: l; let zq0 : List Bool := [true, true, true, ABlk.inb zz1 (0 + Int.toNat (Int.ofNat k)) 3, true, true, true, decide (Int.ofNat 0 ≤ Int.ofNat k ∧ Int.ofNat k < ↑(c.nt)), decide (Int.ofNat k < Int.ofNat (c.nt)) == true]; let zq1 : List Bool := true :: true :: true :: true :: (decide zz5 == true) :: zq0; let zq2 : List Bool := true :: true :: ((!decide zz6) == true) :: zq1; let zq3 : List Bool := (decide zz3 == false) :: zq2; let zq4 : List Bool := true :: true :: ((!decide zz6) == false) :: zq1; let zq5 : List Bool := (decide zz3 == false) :: zq4; let zq6 : List Bool := true :: true :: (decide zz5 == false) :: zq0; let zq7 : List Bool := (decide zz3 == false) :: zq6; (((decide (Int.ofNat k < Int.ofNat (c.nt))) = true → (((decide zz5) = true → (((!decide zz6) = true → (((decide zz3) = true → Q (Exit.ret, zz2, zz0, 33, 1170000000000000000000000000000000000000009, (true :: true :: true :: true :: true :: true :: (decide zz3 == true) :: zq2), [])) ∧ ((decide zz3) = false → (((decide zz4) = true → Q (Exit.ret, zz2, zz0, 33, 1170000000000000000000000000000000000000009, (true :: true :: true :: true :: true :: true :: (decide zz4 == true) :: zq3), [])) ∧ ((decide zz4) = false → Q (Exit.ret, zz2, zz0, 33, 1170000000000000000000000000000000000000009, (true :: true :: true :: true :: true :: true :: (decide zz4 == false) :: zq3), [])))))) ∧ ((!decide zz6) = false → (((decide zz3) = true → Q (Exit.ret, [some (lkA (List.zip [1, 7, 8, 9] (r9V c k)) 1), some (lkA (List.zip [1, 7, 8, 9] (r9V c k)) 7), some (lkA (List.zip [1, 7, 8, 9] (r9V c k)) 8), some (lkA (List.zip [1, 7, 8, 9] (r9V c k)) 9), some (.c (.v (.int .i64 (Int.ofNat 3))))], zz0, 33, 1170000000000000000000000000000000000000009, (zt (true :: ((decide zz3 == true) :: zq4))), [])) ∧ ((decide zz3) = false → (((decide zz4) = true → Q (Exit.ret, zz2, zz0, 33, 1170000000000000000000000000000000000000009, (zt (true :: ((decide zz4 == true) :: zq5))), [])) ∧ ((decide zz4) = false → Q (Exit.normal, [some (lkA (List.zip [1, 7, 8, 9] (r9V c k)) 1), some (lkA (List.zip [1, 7, 8, 9] (r9V c k)) 7), some (lkA (List.zip [1, 7, 8, 9] (r9V c k)) 8), some (.c (.v (.int .i64 (IntKind.wrap .i64 (Int.ofNat k + Int.ofNat 1))))), some (lkA (List.zip [1, 7, 8, 9] (r9V c k)) 2)], zz0, 33, 1170000000000000000000000000000000000000009, (true :: true :: true :: true :: true :: true :: (decide zz4 == false) :: zq5), [])))))))) ∧ ((decide zz5) = false → (((decide zz3) = true → Q (Exit.ret, zz2, zz0, 33, 1170000000000000000000000000000000000000009, (true :: true :: true :: true :: true :: true :: (decide zz3 == true) :: zq6), [])) ∧ ((decide zz3) = false → (((decide zz4) = true → Q (Exit.ret, zz2, zz0, 33, 1170000000000000000000000000000000000000009, (true :: true :: true :: true :: true :: true :: (decide zz4 == true) :: zq7), [])) ∧ ((decide zz4) = false → Q (Exit.ret, zz2, zz0, 33, 1170000000000000000000000000000000000000009, (true :: true :: true :: true :: true :: true :: (decide zz4 == false) :: zq7), [])))))))) ∧ ((decide (Int.ofNat k < Int.ofNat (c.nt))) = false → Q (Exit.exit 0, [some (lkA (List.zip [1, 7, 8, 9] (r9V c k)) 1), some (lkA (List.zip [1, 7, 8, 9] (r9V c k)) 7), some (lkA (List.zip [1, 7, 8, 9] (r9V c k)) 8), some (lkA (List.zip [1, 7, 8, 9] (r9V c k)) 9), some (lkA (List.zip [1, 7, 8, 9] (r9V c k)) 2)], zz0, 33, 1000000000000000000000000000000000000000001, [decide (Int.ofNat k < Int.ofNat (c.nt)) == false], [])))) :
 ∃ p r, r9R Tryz.prog c k p = some r ∧ Q r :=
 two H
 (fun g1 => two g1
  (fun g2 => two g2
   (fun g3 => two g3
    (fun g4 => ⟨pD 12 2920, _, by kernel_rfl, g4⟩)
    (fun g4 => two g4
     (fun g5 => ⟨pD 13 11668, _, by kernel_rfl, g5⟩)
     (fun g5 => ⟨pD 13 18229, _, by kernel_rfl, g5⟩)))
   (fun g3 => two g3
    (fun g4 => ⟨pD 14 3649, _, by kernel_rfl, g4⟩)
    (fun g4 => two g4
     (fun g5 => ⟨pD 15 12397, _, by kernel_rfl, g5⟩)
     (fun g5 => ⟨pD 16 18958, _, by kernel_rfl, g5⟩))))
  (fun g2 => two g2
   (fun g3 => ⟨pD 12 2194, _, by kernel_rfl, g3⟩)
   (fun g3 => two g3
    (fun g4 => ⟨pD 13 10942, _, by kernel_rfl, g4⟩)
    (fun g4 => ⟨pD 13 17503, _, by kernel_rfl, g4⟩))))
 (fun g1 => ⟨pD 1 2, _, by kernel_rfl, g1⟩)
def r5S (c : Cfg) (al : Bool) : LSum := ⟨[1, 3, 13, 14], [1, 1000], mkFr 27 [(3, bo al)], [], 100000000000000000000000000000000000000000000000000, .exit 0⟩
def ru5R (P : Program) (c : Cfg) (al : Bool) (path : List Dec) : Option VF := viewF [] (fCallF (ENx P) (fC (ENx P) 300) 79 [.agg (cfgC c)] 1000 10000000000000000000000000000000000000000 (stA (cfgM c) path [some (r5S c al)]))
theorem ru5 (c : Cfg) (al : Bool) (Q : VF → Prop) (H : let zz0 := [LoopV Tryz.prog (loopAt Tryz.prog 79 0) [1, 3, 13, 14] [1, 1000] [some (AV.c (AC.ptr 1000 0 0)), some (AV.c (AC.v (Value.bool (insideF (Cfg.fs c) (Cfg.ns c) ↑(Cfg.np c))))), some (AV.c (AC.v (Value.int IntKind.i64 ↑(Cfg.np c)))), some (AV.c (AC.v (Value.int IntKind.i64 (Int.ofNat 0))))] [some (ABlk.mk false false 3 1 (Cs.arr (Cfg.ns c) fun k => List.map AC.v ((fun i => [Value.int IntKind.i64 (Cfg.fs c i)]) k))), some (ABlk.mk true false 25 0 (Cs.lit [AC.v (Value.int IntKind.i64 (Cfg.nodes c)), AC.sl 0 0 0 (Cfg.np c) none, AC.sl 1 0 0 (Cfg.ns c) none, AC.v (Value.int IntKind.i64 (Cfg.long c)), AC.sl 2 0 0 (Cfg.nb c) none, AC.sl 3 0 0 (Cfg.nt c) none, AC.v (Value.int IntKind.i64 (Cfg.miss c)), AC.v (Value.int IntKind.i64 (Cfg.good c)), AC.v (Value.int IntKind.i64 (Cfg.fresh c))]))] 27 1012 (mkFr 27 [(3, bo al)]) [] 100000000000000000000000000000000000000000000000000 (Exit.exit 0) none]; let zq0 : List Bool := [true, decide (0 + c.ns ≤ c.ns), decide (c.ns ≤ 1000000), intsOk (c.ns) fun k => List.map AC.v ((fun i => [Value.int .i64 (c.fs i)]) k), true, true]; (((!al) = true → Q (.c (.v (.int .i64 (Int.ofNat 1))), [], 100000000000000000000000000000000000000000000000006, (((!al) == true) :: zq0), zz0)) ∧ ((!al) = false → Q (.c (.v (.int .i64 (Int.ofNat 0))), [], 100000000000000000000000000000000000000000000000006, (((!al) == false) :: zq0), zz0)))) :
 ∃ p r, ru5R Tryz.prog c al p = some r ∧ Q r :=
 two H
 (fun g1 => ⟨pD 1 1, _, by kernel_rfl, g1⟩)
 (fun g1 => ⟨pD 1 2, _, by kernel_rfl, g1⟩)
def r9S (e : Exit) (l : List (Nat × AV)) : LSum := ⟨[1, 7, 8, 9], [3, 1000], mkFr 33 l, [], 100000000000000000000000000000000000000000000000000, e⟩
def ru9R (P : Program) (c : Cfg) (e : Exit) (l : List (Nat × AV)) : Option VF := viewF [] (fCallF (ENx P) (fC (ENx P) 300) 86 [.agg (cfgC c)] 1000 10000000000000000000000000000000000000000 (stA (cfgM c) [] [some (r9S e l)]))
theorem ru9_yes (c : Cfg) (z : Int) : ru9R Tryz.prog c .ret [(2, i64 z)] =
 some (.c (.v (.int .i64 z)), [], 100000000000000000000000000000000000000000000000000, [true], [LoopV Tryz.prog (loopAt Tryz.prog 86 0) [1, 7, 8, 9] [3, 1000] [some (.c (.ptr 1000 0 0)), some (.c (.sl 3 0 0 (c.nt) none)), some (.c (.v (.int .i64 ↑(c.nt)))), some (.c (.v (.int .i64 (Int.ofNat 0))))] [some (ABlk.mk false false 102 3 (Cs.arr (c.nt) fun k => List.map AC.v ((fun i => [Value.int .i64 (Station.node (c.ft i)), Value.int .u32 (Station.safe (c.ft i)), Value.int .i64 (Station.hold (c.ft i))]) k))), some (ABlk.mk true false 25 0 (Cs.lit [.v (.int .i64 (c.nodes)), AC.sl 0 0 0 (c.np) none, AC.sl 1 0 0 (c.ns) none, .v (.int .i64 (c.long)), AC.sl 2 0 0 (c.nb) none, AC.sl 3 0 0 (c.nt) none, .v (.int .i64 (c.miss)), .v (.int .i64 (c.good)), .v (.int .i64 (c.fresh))]))] 33 1006 (mkFr 33 [(2, i64 z)]) [] 100000000000000000000000000000000000000000000000000 Exit.ret none]) := by kernel_rfl
theorem ru9_no (c : Cfg) : ru9R Tryz.prog c (.exit 0) [] =
 some (.c (.v (.int .i64 (Int.ofNat 0))), [], 100000000000000000000000000000000000000000000000001, [true], [LoopV Tryz.prog (loopAt Tryz.prog 86 0) [1, 7, 8, 9] [3, 1000] [some (.c (.ptr 1000 0 0)), some (.c (.sl 3 0 0 (c.nt) none)), some (.c (.v (.int .i64 ↑(c.nt)))), some (.c (.v (.int .i64 (Int.ofNat 0))))] [some (ABlk.mk false false 102 3 (Cs.arr (c.nt) fun k => List.map AC.v ((fun i => [Value.int .i64 (Station.node (c.ft i)), Value.int .u32 (Station.safe (c.ft i)), Value.int .i64 (Station.hold (c.ft i))]) k))), some (ABlk.mk true false 25 0 (Cs.lit [.v (.int .i64 (c.nodes)), AC.sl 0 0 0 (c.np) none, AC.sl 1 0 0 (c.ns) none, .v (.int .i64 (c.long)), AC.sl 2 0 0 (c.nb) none, AC.sl 3 0 0 (c.nt) none, .v (.int .i64 (c.miss)), .v (.int .i64 (c.good)), .v (.int .i64 (c.fresh))]))] 33 1006 (mkFr 33 []) [] 100000000000000000000000000000000000000000000000000 (Exit.exit 0) none]) := by kernel_rfl
end Go.Proofs.YtoelekmbmghicaaGreatDoor
end
/- The rules of configs with loops: contracts. -/
section
namespace Go.Proofs.YtoelekmbmghicaaGreatDoor
open Go.RowKit
def all5 (c : Cfg) (k : Nat) : Bool := insideF c.fs c.ns c.np && (List.range k).all fun p => hasF c.fs c.ns (Int.ofNat p)
theorem all5_succ (c : Cfg) (k : Nat) : all5 c (k + 1) = (all5 c k && hasF c.fs c.ns (Int.ofNat k)) := by
 unfold all5
 rw [List.range_succ, List.all_append, Bool.and_assoc]
 simp
theorem cfgB_low {N : Nat} {c : Cfg} (hN : 4 ≤ N) : lowB N (cfgB c) := low_lit (by simp [cfgC, lowC]; omega)
theorem r5_ob (c : Cfg) (N : Nat) (hN : 1001 ≤ N) (hN2 : N ≤ 1000000000000000000000000000000000000000000) (hp : c.np ≤ 1000000) (hs : c.ns ≤ 1000000) :
 LoopV Tryz.prog (loopAt Tryz.prog 79 0) [1, 3, 13, 14] [1, 1000] ((r5V c (all5 c 0) 0).map some) ([ints 3 c.ns c.fs, cfgB c].map some) 27 N (mkFr 27 [(3, bo (all5 c c.np))]) [] 100000000000000000000000000000000000000000000000000 (.exit 0) none := by
 have hw : ∀ k, k < c.np → IntKind.wrap IntKind.i64 (Int.ofNat k + Int.ofNat 1) = Int.ofNat (k + 1) := fun k hk => by rw [wrap_nat _ (by simp; omega) (by simp; omega)]; rfl
 refine scan_ob hENx (fuel := 100) (str := 10000000000000000000000000000000000000000) (nh := 1000000000000000000000000000000000000000000) [1, 3, 13, 14] [] [1, 1000] (fun k => r5V c (all5 c k) k) [ints 3 c.ns c.fs, cfgB c] c.np hN2 (by decide) (by unfold lim; omega) (by simp) (fun _ => ⟨rfl, rfl⟩) ?_ ?_ ?_ ?_ ?_
 · simp [keptB]; omega
 · intro k _
   simp [okV, lowV, lowC, notAny, i64, bo]; omega
 · intro b hb
   simp only [List.mem_cons, List.not_mem_nil, or_false] at hb
   rcases hb with rfl | rfl
   · exact ints_low
   · exact cfgB_low (by omega)
 · intro k hk
   refine r5 c (all5 c k) k _ ⟨fun c1 => ⟨fun c2 => ?_, fun c2 => ?_⟩, fun c1 => ?_⟩
   · refine ⟨⟨?_, rfl, by dsimp only; omega, rfl⟩, rfl, ?_, BL.refl _⟩
     · simp only [allT, List.forall_mem_cons, intsOk_ints, c2]
       simp [hs, hk]
     · dsimp only; rw [hw k hk]; (try rw [fA_ints]); rw [all5_succ, c2]; rfl
   · refine ⟨⟨?_, rfl, by dsimp only; omega, rfl⟩, rfl, ?_, BL.refl _⟩
     · simp only [allT, List.forall_mem_cons, c2]
       simp [hk]
     · dsimp only; rw [hw k hk, all5_succ, c2]; rfl
   · simp at c1; omega
 · refine r5 c (all5 c c.np) c.np _ ⟨fun c1 => ⟨fun c2 => ?_, fun c2 => ?_⟩, fun c1 => ?_⟩
   · simp at c1
   · simp at c1
   · refine EndV_one ⟨?_, rfl, by dsimp only; omega, rfl⟩ rfl rfl ?_
     · simp [allT]
     · show (3, some _) ∈ [(1, _), (3, some (bo (all5 c c.np))), (13, _), (14, _)]
       simp
def rule5 (c : Cfg) : Int := if all5 c c.np = true then 0 else 1
theorem ct_ru5 : CtOk Tryz.prog 79 (ctCfg (fun c => i64 (rule5 c)) fun c => decide (c.np ≤ 1000000) && decide (c.ns ≤ 1000000)) := by
 refine ctCfg_of (E := ENx Tryz.prog) (fuel := 300) (str := 10000000000000000000000000000000000000000) hENx ⟨_, _, Tryz.func79, rfl⟩ (fun c => plain_i64 _) fun c hp => ?_
 simp only [Bool.and_eq_true, decide_eq_true_eq] at hp
 refine (?_ : (∃ p r, ru5R Tryz.prog c (all5 c c.np) p = some r ∧ (r.1 = i64 (rule5 c) ∧ r.2.2.1 ≤ lim ∧ allT r.2.2.2.1 ∧ ∀ q ∈ r.2.2.2.2, q)) → _) (ru5 c (all5 c c.np) _ ?_)
 · rintro ⟨p, r, h1, h2⟩
   exact ⟨p, _, r, h1, h2⟩
 · simp only [fA_ints, intsOk_ints]
   have hl := r5_ob c 1012 (by omega) (by omega) hp.1 hp.2
   refine ⟨fun h => ?_, fun h => ?_⟩
   · refine ⟨?_, (by first | (unfold lim; omega) | (dsimp only; unfold lim; omega)), ?_, fun q hq => ?_⟩
     · have : all5 c c.np = false := by simpa using h
       simp [rule5, this, i64]
     · simp [allT, hp, h]
     · rw [List.mem_singleton.1 hq]
       have e : all5 c 0 = insideF c.fs c.ns c.np := by simp [all5]
       rw [e] at hl
       exact hl
   · refine ⟨?_, (by first | (unfold lim; omega) | (dsimp only; unfold lim; omega)), ?_, fun q hq => ?_⟩
     · have : all5 c c.np = true := by simpa using h
       simp [rule5, this, i64]
     · simp [allT, hp, h]
     · rw [List.mem_singleton.1 hq]
       have e : all5 c 0 = insideF c.fs c.ns c.np := by simp [all5]
       rw [e] at hl
       exact hl
def ruleSt (c : Cfg) (i : Nat) : Int := if 0 ≤ (c.ft i).node ∧ (c.ft i).node < c.nodes then withinF (c.ft i).hold 1 100 else 1
theorem r9_ob (c : Cfg) (N : Nat) (hN : 1001 ≤ N) (hN2 : N ≤ 1000000000000000000000000000000000000000000) (hn : c.nt ≤ 1000000) (j : Nat) (hj : j ≤ c.nt) (hmin : ∀ i, i < j → ruleSt c i = 0) (hyes : j < c.nt → ruleSt c j ≠ 0) {e : Exit} {out : List (Nat × AV)}
 (hF : (j < c.nt → e = .ret ∧ out = [(2, i64 (ruleSt c j))]) ∧ (j = c.nt → e = .exit 0 ∧ out = [])) :
 LoopV Tryz.prog (loopAt Tryz.prog 86 0) [1, 7, 8, 9] [3, 1000] ((r9V c 0).map some) ([sts c.nt c.ft, cfgB c].map some) 33 N (mkFr 33 out) [] 100000000000000000000000000000000000000000000000000 e none := by
 have e0 : ∀ k : Nat, 0 + Int.toNat (Int.ofNat k) = k := fun k => by simp
 have hw : ∀ k, k < c.nt → IntKind.wrap IntKind.i64 (Int.ofNat k + Int.ofNat 1) = Int.ofNat (k + 1) := fun k hk => by rw [wrap_nat _ (by simp; omega) (by simp; omega)]; rfl
 refine scan_ob hENx (fuel := 100) (str := 10000000000000000000000000000000000000000) (nh := 1000000000000000000000000000000000000000000) [1, 7, 8, 9] [2] [3, 1000] (r9V c) [sts c.nt c.ft, cfgB c] j hN2 (by decide) (by unfold lim; omega) ?_ (fun _ => ⟨rfl, rfl⟩) ?_ ?_ ?_ ?_ ?_
 · rcases Nat.lt_or_ge j c.nt with h | h
   · rw [(hF.1 h).1]; simp
   · rw [(hF.2 (by omega)).1]; simp
 · simp [keptB]; omega
 · intro k _
   simp [okV, lowV, lowC, notAny, i64]; omega
 · intro b hb
   simp only [List.mem_cons, List.not_mem_nil, or_false] at hb
   rcases hb with rfl | rfl
   · exact rBlk_low
   · exact cfgB_low (by omega)
 · intro k hk
   have hm := hmin k hk
   have hlt : k < c.nt := by omega
   refine r9 c k _ ?_
   simp only [e0]
   unfold ruleSt withinF at hm
   repeat' (first | refine ⟨fun h => ?_, fun h => ?_⟩ | fail)
   all_goals (first | (exfalso; simp at *; done) | (exfalso; simp at *; omega) | (exfalso; simp at *; split at hm <;> omega) | (exfalso; simp at *; split at hm <;> first | omega | (split at hm <;> first | omega | (split at hm <;> omega))) | skip)
   all_goals (refine ⟨⟨?_, rfl, by dsimp only; omega, rfl⟩, rfl, ?_, BL.refl _⟩)
   · simp at *
     simp [allT, inb_arr, inb_lit, e0, *]
   · dsimp only; rw [hw k hlt]; rfl
 · rcases Nat.lt_or_ge j c.nt with hlt | hge
   · obtain ⟨rfl, rfl⟩ := hF.1 hlt
     have hy := hyes hlt
     refine r9 c j _ ?_
     simp only [e0]
     repeat' (first | refine ⟨fun h => ?_, fun h => ?_⟩ | fail)
     all_goals (first
      | (exfalso; simp at *; omega)
      | (have hz : ruleSt c j = 0 := (by simp at *; unfold ruleSt withinF; rw [if_pos (by omega), if_neg (by omega), if_neg (by omega)]); exact absurd hz hy)
      | (have hz : ruleSt c j = 3 := (by simp at *; unfold ruleSt withinF; rw [if_pos (by omega), if_pos (by omega)]); rw [hz]; refine EndV_one ⟨?_, rfl, by dsimp only; omega, rfl⟩ rfl rfl (by simp [i64]); simp at *; simp [allT, inb_arr, inb_lit, *])
      | (have hz : ruleSt c j = 1 := (by simp at *; unfold ruleSt withinF; rw [if_pos (by omega), if_neg (by omega), if_pos (by omega)]); rw [hz]; refine EndV_one ⟨?_, rfl, by dsimp only; omega, rfl⟩ rfl rfl (by simp [i64]); simp at *; simp [allT, inb_arr, inb_lit, *])
      | (have hz : ruleSt c j = 1 := (by simp at *; unfold ruleSt withinF; rw [if_neg (by omega)]); rw [hz]; refine EndV_one ⟨?_, rfl, by dsimp only; omega, rfl⟩ rfl rfl (by simp [i64]); simp at *; simp [allT, inb_arr, inb_lit, *]))
   · obtain rfl : j = c.nt := by omega
     obtain ⟨rfl, rfl⟩ := hF.2 rfl
     refine r9 c c.nt _ ?_
     simp only [e0]
     repeat' (first | refine ⟨fun h => ?_, fun h => ?_⟩ | fail)
     all_goals (first | (exfalso; simp at *; done) | skip)
     refine EndV_nil ⟨?_, rfl, by dsimp only; omega, rfl⟩ rfl
     simp [allT]
def rule9 (c : Cfg) : Int := match (List.range c.nt).find? (fun i => !(ruleSt c i == 0)) with | some j => ruleSt c j | none => 0
theorem ct_ru9 : CtOk Tryz.prog 86 (ctCfg (fun c => i64 (rule9 c)) fun c => decide (c.nt ≤ 1000000)) := by
 refine ctCfg_of (E := ENx Tryz.prog) (fuel := 300) (str := 10000000000000000000000000000000000000000) hENx ⟨_, _, Tryz.func86, rfl⟩ (fun c => plain_i64 _) fun c hp => ?_
 simp only [decide_eq_true_eq] at hp
 obtain ⟨j, hj, hmin, hyes⟩ := first_stop c.nt fun i => !(ruleSt c i == 0)
 have hfd := find_first hmin hj hyes
 have hmin' : ∀ i, i < j → ruleSt c i = 0 := fun i hi => by simpa using hmin i hi
 rcases Nat.lt_or_ge j c.nt with h | h
 · have hy : ruleSt c j ≠ 0 := by simpa using hyes h
   rw [if_pos h] at hfd
   have hE : rule9 c = ruleSt c j := by unfold rule9; rw [hfd]
   refine ⟨_, _, _, ru9_yes c (ruleSt c j), by rw [hE]; rfl, by dsimp only; unfold lim; omega, by simp [allT], fun q hq => ?_⟩
   rw [List.mem_singleton.1 hq]
   exact r9_ob c _ (by omega) (by omega) hp j hj hmin' (fun _ => hy) ⟨fun _ => ⟨rfl, rfl⟩, fun h => by omega⟩
 · obtain rfl : j = c.nt := by omega
   rw [if_neg (by omega)] at hfd
   have hE : rule9 c = 0 := by unfold rule9; rw [hfd]
   refine ⟨_, _, _, ru9_no c, by rw [hE]; rfl, by dsimp only; unfold lim; omega, by simp [allT], fun q hq => ?_⟩
   rw [List.mem_singleton.1 hq]
   exact r9_ob c _ (by omega) (by omega) hp c.nt hj hmin' (fun h => by omega) ⟨fun h => by omega, fun _ => ⟨rfl, rfl⟩⟩
end Go.Proofs.YtoelekmbmghicaaGreatDoor
end
/- Contract of rings.Step clockwise. -/
section
namespace Go.Proofs.YtoelekmbmghicaaGreatDoor
open Go.RowKit
def ringF (n a k : Int) : Int := if 4 ≤ n ∧ n ≤ 16 ∧ 0 ≤ a ∧ a < n then (a + k) % n else -1
theorem step_val (n a k : Int) (h0 : 4 ≤ n) (h1 : n ≤ 16) (h2 : 0 ≤ a) (h3 : a < n) :
 (IntKind.wrap IntKind.i64 (Int.tmod (IntKind.wrap IntKind.i64 (a + IntKind.wrap IntKind.i64 (Int.ofNat 1 * Int.tmod k n))) n + n)).tmod n = (a + k) % n := by
 have hn : 0 < n := by omega
 have t1 : k.tmod n < n := Int.tmod_lt_of_pos _ hn
 have t2 : -n < k.tmod n := Int.lt_tmod_of_pos _ hn
 have t3 : k.tmod n = k - n * k.tdiv n := Int.tmod_def k n
 rw [show Int.ofNat 1 * Int.tmod k n = k.tmod n by simp, wrap_nat (k.tmod n) (by omega) (by omega), wrap_nat (a + k.tmod n) (by omega) (by omega)]
 generalize ht : k.tmod n = t at *
 have u1 : (a + t).tmod n < n := Int.tmod_lt_of_pos _ hn
 have u2 : -n < (a + t).tmod n := Int.lt_tmod_of_pos _ hn
 have u3 : (a + t).tmod n = (a + t) - n * (a + t).tdiv n := Int.tmod_def _ _
 generalize (a + t).tmod n = u at *
 rw [wrap_nat (u + n) (by omega) (by omega), Int.tmod_eq_emod_of_nonneg (by omega), Int.add_emod_right, u3, t3]
 rw [show a + (k - n * k.tdiv n) - n * (a + (k - n * k.tdiv n)).tdiv n = a + k - n * (k.tdiv n + (a + (k - n * k.tdiv n)).tdiv n) by rw [Int.mul_add]; omega]
 exact Int.sub_mul_emod_self_left _ _ _
theorem step_all (n a k : Int) : ∃ p r, stepR Tryz.prog n 0 a k p = some r ∧ (r.1 = i64 (ringF n a k) ∧ r.2.2.1 ≤ lim ∧ allT r.2.2.2.1 ∧ ∀ q ∈ r.2.2.2.2, q) := by
 refine stp n a k _ ?_
 repeat' (first | refine ⟨fun h => ?_, fun h => ?_⟩ | fail)
 all_goals (refine ⟨?_, by dsimp only; unfold lim; omega, ?_, by simp⟩)
 all_goals first
  | (have hm : 4 ≤ n ∧ n ≤ 16 ∧ 0 ≤ a ∧ a < n := (by simp at *; omega)
     show i64 _ = i64 _; rw [step_val n a k (by omega) (by omega) (by omega) (by omega)]; unfold ringF; rw [if_pos hm]; done)
  | (have hm : ¬ (4 ≤ n ∧ n ≤ 16 ∧ 0 ≤ a ∧ a < n) := (by simp at *; omega)
     show i64 _ = i64 _; unfold ringF; rw [if_neg hm]; rfl)
  | (simp at *; simp [allT, *]; done)
  | (simp at *; simp [allT, *]; omega)
  | (simp_all [allT]; done)
  | (simp_all [allT]; omega)
def ctStep : CtF
 | [.c (.v (.int .i64 n)), .c (.v (.int .u8 d)), .c (.v (.int .i64 a)), .c (.v (.int .i64 k))], m, _ => match decide (d = 0), subB mS m with | true, true => some (i64 (ringF n a k), [], 0, []) | _, _ => none
 | _, _, _ => none
theorem ct_step : CtOk Tryz.prog 34 ctStep := by
 refine ⟨⟨_, _, Tryz.func34, rfl⟩, fun C β m m2 w args ib r news k' ob vs hct ho hs hr hfree hlim hv => ?_⟩
 unfold ctStep at hct
 split at hct
 · rename_i n d a k
   split at hct
   · rename_i hd hg
     have hd := of_decide_eq_true hd
     subst hd
     simp only [Option.some.injEq, Prod.mk.injEq] at hct
     obtain ⟨rfl, rfl, rfl, rfl⟩ := hct
     cases hv
     obtain ⟨p, ⟨v, b', n', ob, po⟩, hrun, hvr, hn, hob, hpo⟩ := step_all n a k
     obtain ⟨s', r1, r2, r3, r4⟩ := viewF_out hrun
     have hn : n' ≤ lim := hn
     refine (calls_f hE1 r1 ⟨by rw [r3]; exact hob, by rw [r4]; exact hpo⟩ (C := loneC w) (β := nmG β) (w := w) (vs := [.int .i64 n, .int .u8 0, .int .i64 a, .int .i64 k]) rfl (rel_glob hr hs hg (by kernel_rfl)) (fun id h1 h2 => by unfold nmG; rw [if_neg (by omega)])).mono ?_
     rintro e w' ⟨β', u, rfl, _, _, hu, hr'⟩
     simp only at hvr
     subst hvr
     cases hu
     exact ⟨β, _, rfl, Ext.refl _, fun _ _ => rfl, rfl, by rw [List.append_nil]; exact hr.below (below_lone hr')⟩
   · cases hct
 · cases hct
def ENh (P : Program) : Env := ⟨P, [(34, ctStep)]⟩
theorem hENh : EnvOk (ENh Tryz.prog) := by
 refine envOk (fun f g h => ?_) (by kernel_rfl) (by kernel_rfl)
 simp only [ENh, List.mem_cons, Prod.mk.injEq, List.not_mem_nil, or_false] at h
 obtain ⟨rfl, rfl⟩ := h
 exact ct_step
def halfF (c : Cfg) (i : Nat) : Int := if i % 2 = 0 then c.fp (i / 2) else ringF c.nodes (c.fp (i / 2)) 1
abbrev hlvB (c : Cfg) (k : Nat) : ABlk := wBlk 3 1 (2 * k) fun i => [.int .i64 (halfF c i)]
abbrev hlvF (c : Cfg) (k : Nat) : List (Nat × AV) := [(1, .c (.ptr 1000 0 0)), (2, .c (.sl 2000 0 0 (2 * k) none)), (6, .c (.sl 0 0 0 c.np none)), (7, i64 (Int.ofNat c.np)), (8, i64 (Int.ofNat k))]
abbrev hlvM (c : Cfg) (k : Nat) : AMem := [(2000, hlvB c k), (0, ints 3 c.np c.fp), (1000, cfgB c), (gid 1, signB)]
def hlvR (P : Program) (c : Cfg) (k : Nat) (path : List Dec) : Option VC :=
 view [1, 2, 6, 7, 8] [2000, 1000000000000000000000000000000000000000010, 0, 1000, gid 1] (fC (ENh P) 100 (loopAt P 46 0) 1000000000000000000000000000000000000000000 10000000000000000000000000000000000000000 ⟨mkFr 22 (hlvF c k), hlvM c k, 0, 0, false, path, [], [], [], none, []⟩)
theorem hlv (c : Cfg) (k : Nat) (Q : VC → Prop) (H : (((decide (Int.ofNat k < Int.ofNat (c.np))) = true → Q (Exit.normal, [some (lkA (hlvF c k) (0 + 1)), some (.c (.sl 1000000000000000000000000000000000000000010 0 0 (2 * k + 2) none)), some (lkA (hlvF c k) (0 + 1 + 1 + 1 + 1 + 1 + 1)), some (lkA (hlvF c k) (0 + 1 + 1 + 1 + 1 + 1 + 1 + 1)), some (.c (.v (.int .i64 (IntKind.wrap .i64 (Int.ofNat k + Int.ofNat 1)))))], [none, some (ABlk.mk true true 3 1 (Cs.arr (2 * k + 2) fun i => if i < 2 * k then List.map AC.v ((fun i => [Value.int .i64 (halfF c i)]) i) else elt (ABlk.mk true false 3 0 (Cs.lit [.v (.int .i64 (c.fp (0 + Int.toNat (Int.ofNat k)))), .v (.int .i64 (ringF (c.nodes) (c.fp (0 + Int.toNat (Int.ofNat k))) (Int.ofNat 1)))])) 0 0 1 (i - 2 * k))), some (ABlk.mk false false 3 1 (Cs.arr (c.np) fun k => List.map AC.v ((fun i => [Value.int .i64 (c.fp i)]) k))), some (ABlk.mk true false 25 0 (Cs.lit [.v (.int .i64 (c.nodes)), AC.sl 0 0 0 (c.np) none, AC.sl 1 0 0 (c.ns) none, .v (.int .i64 (c.long)), AC.sl 2 0 0 (c.nb) none, AC.sl 3 0 0 (c.nt) none, .v (.int .i64 (c.miss)), .v (.int .i64 (c.good)), .v (.int .i64 (c.fresh))])), some (ABlk.mk false false 126 0 (Cs.lit [.v (.int .i64 (Int.ofNat 1)), .v (.int .i64 (Int.negSucc 0))]))], 22, 1000000000000000000000000000000000000000014, [true, true, decide (2 * k ≤ 2 * k), decide ((2 * k + 2) * 8 ≤ 140737488355328), true, true, ABlk.inb (ABlk.mk false false 3 1 (Cs.arr (c.np) fun k => List.map AC.v ((fun i => [Value.int .i64 (c.fp i)]) k))) (0 + Int.toNat (Int.ofNat k)) 1, true, decide (Int.ofNat 0 ≤ Int.ofNat k ∧ Int.ofNat k < ↑(c.np)), decide (Int.ofNat k < Int.ofNat (c.np)) == true], [])) ∧ ((decide (Int.ofNat k < Int.ofNat (c.np))) = false → Q (Exit.exit 0, [some (lkA (hlvF c k) (0 + 1)), some (lkA (hlvF c k) (0 + 1 + 1)), some (lkA (hlvF c k) (0 + 1 + 1 + 1 + 1 + 1 + 1)), some (lkA (hlvF c k) (0 + 1 + 1 + 1 + 1 + 1 + 1 + 1)), some (lkA (hlvF c k) (0 + 1 + 1 + 1 + 1 + 1 + 1 + 1 + 1))], [some (ABlk.mk true true 3 1 (Cs.arr (2 * k) fun k => List.map AC.v ((fun i => [Value.int .i64 (halfF c i)]) k))), none, some (ABlk.mk false false 3 1 (Cs.arr (c.np) fun k => List.map AC.v ((fun i => [Value.int .i64 (c.fp i)]) k))), some (ABlk.mk true false 25 0 (Cs.lit [.v (.int .i64 (c.nodes)), AC.sl 0 0 0 (c.np) none, AC.sl 1 0 0 (c.ns) none, .v (.int .i64 (c.long)), AC.sl 2 0 0 (c.nb) none, AC.sl 3 0 0 (c.nt) none, .v (.int .i64 (c.miss)), .v (.int .i64 (c.good)), .v (.int .i64 (c.fresh))])), some (ABlk.mk false false 126 0 (Cs.lit [.v (.int .i64 (Int.ofNat 1)), .v (.int .i64 (Int.negSucc 0))]))], 22, 1000000000000000000000000000000000000000001, [decide (Int.ofNat k < Int.ofNat (c.np)) == false], [])))) :
 ∃ p r, hlvR Tryz.prog c k p = some r ∧ Q r :=
 two H
 (fun g1 => ⟨pD 1 1, _, by kernel_rfl, g1⟩)
 (fun g1 => ⟨pD 1 2, _, by kernel_rfl, g1⟩)
end Go.Proofs.YtoelekmbmghicaaGreatDoor
end
/- configs.halves: its loop's sum; the function as the evaluator runs it. -/
section
namespace Go.Proofs.YtoelekmbmghicaaGreatDoor
open Go.RowKit
theorem hlv_sum (c : Cfg) (hp : c.np ≤ 1000) :
 LoopV Tryz.prog (loopAt Tryz.prog 46 0) [1, 2, 6, 7, 8] [0, 1000, gid 1] [some (.c (.ptr 1000 0 0)), some (.c (.v (.slice none 0 0))), some (.c (.sl 0 0 0 c.np none)), some (i64 (Int.ofNat c.np)), some (i64 0)] [some (ints 3 c.np c.fp), some (cfgB c), some signB] 22 1006
  (mkFr 22 [(2, .c (.sl 2000 0 0 (2 * c.np) none))]) [(2000, hlvB c c.np)] 100000000000000000000000000000000000000000000000000 (.exit 0) none := by
 refine loop_ob hENh (fuel := 100) (S := Nat) (inv := fun k => k ≤ c.np) (μ := fun k => c.np - k) (tmI := fun k => mkFr 22 (hlvF c k)) (mI := fun k => hlvM c k) (nh := 1000000000000000000000000000000000000000000) (str := 10000000000000000000000000000000000000000) (by omega) (by omega) (fun _ h => by cases h) (s0 := 0) (by omega) ?_ ?_
 · intro tm m g1 g2 g3
   simp only [List.map_cons, List.map_nil, List.cons.injEq, and_true] at g1 g2
   obtain ⟨s1, s2, s6, s7, s8⟩ := g1
   obtain ⟨b0, b1, b2⟩ := g2
   refine wk_mk (ρ := fun _ => .inr 1) (by omega) (by omega) (by unfold lim; omega) g3 ?_ ?_ ?_
   · kernel_rfl
   · exact ⟨.inr (.inr (.inl ⟨by omega, by omega, rfl, Nat.one_pos, _, rfl⟩)), .inl ⟨.inl (by omega), b0, ints_low⟩, .inl ⟨.inl (by omega), b1, cfgB_low (by omega)⟩, .inl ⟨.inr (by unfold gid; omega), b2, low_lit rfl⟩, trivial⟩
   · exact ⟨⟨_, s1, by simp, GW_low rfl⟩, ⟨_, s2, by simp, GW_nil (by omega) (by omega) (by omega) rfl⟩, ⟨_, s6, by simp, GW_low rfl⟩, ⟨_, s7, by simp [i64], GW_i64 rfl⟩, ⟨_, s8, by simp [i64], GW_i64 rfl⟩, trivial⟩
 · intro k hk
   have e0 : 0 + Int.toNat (Int.ofNat k) = k := by simp
   refine (?_ : (∃ p r, hlvR Tryz.prog c k p = some r ∧ _) → _) (hlv c k (fun r => allT r.2.2.2.2.2.1 ∧ r.2.2.2.2.2.2 = [] ∧ r.2.2.2.2.1 ≤ 100000000000000000000000000000000000000000000000000 ∧
    ∀ st' : St, [1, 2, 6, 7, 8].map (fun t => st'.tm[t]?) = r.2.1 → [2000, 1000000000000000000000000000000000000000010, 0, 1000, gid 1].map (look st'.m) = r.2.2.1 → st'.tm.length = r.2.2.2.1 →
     ((r.1 = .normal ∧ ∃ s', s' ≤ c.np ∧ c.np - s' < c.np - k ∧ Wk 1006 1000000000000000000000000000000000000000000 100000000000000000000000000000000000000000000000000 st'.tm st'.m (mkFr 22 (hlvF c s')) (hlvM c s')) ∨
      (r.1 ≠ .normal ∧ r.1 = .exit 0 ∧ Wk 1006 100000000000000000000000000000000000000000000000000 100000000000000000000000000000000000000000000000000 st'.tm st'.m (mkFr 22 [(2, .c (.sl 2000 0 0 (2 * c.np) none))]) [(2000, hlvB c c.np)]))) ⟨fun c1 => ?_, fun c1 => ?_⟩)
   · rintro ⟨p, ⟨e, l, b, len, n1, ob, po⟩, hv, hob, hpo, hn1, hw⟩
     obtain ⟨st, v1, v2, v3, v4, v6, v7, v8⟩ := view_out hv
     exact ⟨p, [], e, n1, st, v1, hn1, ⟨by rw [v6]; exact hob, by rw [v7]; have hpo : po = [] := hpo; rw [hpo]; simp⟩, v8, hw st v2 v3 v4⟩
   · have hlt : k < c.np := by simpa using c1
     refine ⟨?_, rfl, by dsimp only; omega, fun st' v2 v3 v4 => .inl ⟨rfl, k + 1, by omega, by omega, ?_⟩⟩
     · simp only [allT, List.forall_mem_cons, e0]
       simp [inb_arr, hlt]
       omega
     · simp only [List.map_cons, List.map_nil, List.cons.injEq, and_true] at v2 v3
       obtain ⟨s1, s2, s6, s7, s8⟩ := v2
       obtain ⟨_, b22, b0, b1, b2⟩ := v3
       refine wk_mk (ρ := fun _ => .inl 1000000000000000000000000000000000000000010) (by omega) (by omega) (by unfold lim; omega) v4 ?_ ?_ ?_
       · kernel_rfl
       · refine ⟨.inr (.inl ⟨by omega, by omega, _, _, rfl, b22, ?_, wBlk_low⟩), .inl ⟨.inl (by omega), b0, ints_low⟩, .inl ⟨.inl (by omega), b1, cfgB_low (by omega)⟩, .inl ⟨.inr (by unfold gid; omega), b2, low_lit rfl⟩, trivial⟩
         refine ⟨rfl, rfl, rfl, rfl, .inr (.inl ⟨2 * k + 2, _, _, rfl, rfl, fun i hi => ?_⟩)⟩
         by_cases h1 : i < 2 * k
         · simp [h1]
         · by_cases h2 : i = 2 * k
           · subst h2
             simp [elt, halfF, e0]
           · obtain rfl : i = 2 * k + 1 := by omega
             have hm : (2 * k + 1) % 2 = 1 := by omega
             have hd : (2 * k + 1) / 2 = k := by omega
             simp [elt, halfF, e0, hm, hd]
       · exact ⟨⟨_, s1, by simp [lkA], GW_low rfl⟩, ⟨_, s2, by simp, GW_sl (by omega) (by omega) (by omega) rfl⟩, ⟨_, s6, by simp [lkA], GW_low rfl⟩, ⟨_, s7, by simp [i64, lkA], GW_i64 rfl⟩,
          ⟨_, s8, by simp, GW_i64 (by rw [wrap_nat _ (by simp; omega) (by simp; omega)]; simp)⟩, trivial⟩
   · have hlt : ¬ k < c.np := by simpa using c1
     obtain rfl : k = c.np := by omega
     refine ⟨?_, rfl, by dsimp only; omega, fun st' v2 v3 v4 => .inr ⟨by simp, rfl, ?_⟩⟩
     · simp [allT]
     · simp only [List.map_cons, List.map_nil, List.cons.injEq, and_true] at v2 v3
       obtain ⟨s1, s2, s6, s7, s8⟩ := v2
       obtain ⟨b22, _⟩ := v3
       refine wk_mk (ρ := fun _ => .inl 2000) (by omega) (by omega) (by unfold lim; omega) v4 rfl ?_ ?_
       · exact ⟨.inr (.inl ⟨by omega, by omega, 2000, _, rfl, b22, BEq.refl _, wBlk_low⟩), trivial⟩
       · exact ⟨⟨_, s2, by simp [lkA], GW_sl (by omega) (by omega) (by omega) rfl⟩, trivial⟩
def hlvS (c : Cfg) : LSum := ⟨[1, 2, 6, 7, 8], [0, 1000, gid 1], mkFr 22 [(2, .c (.sl 2000 0 0 (2 * c.np) none))], [(2000, hlvB c c.np)], 100000000000000000000000000000000000000000000000000, .exit 0⟩
def hlv1 (P : Program) (c : Cfg) : Option VF := viewF [2000] (fCallF (ENh P) (fC (ENh P) 300) 46 [.agg (cfgC c)] 1000 10000000000000000000000000000000000000000 (stA (cfgM c) [] [some (hlvS c)]))
theorem hlv_run (c : Cfg) : hlv1 Tryz.prog c =
 some (.c (.sl 2000 0 0 (2 * c.np) none), [some (ABlk.mk true true 3 1 (Cs.arr (2 * c.np) fun k => List.map AC.v ((fun i => [Value.int .i64 (halfF c i)]) k)))], 100000000000000000000000000000000000000000000000002, [true], [LoopV Tryz.prog (loopAt Tryz.prog 46 0) [1, 2, 6, 7, 8] [0, 1000, gid 1] [some (.c (.ptr 1000 0 0)), some (.c (AC.v (Value.slice none 0 0))), some (.c (.sl 0 0 0 (c.np) none)), some (.c (.v (.int .i64 ↑(c.np)))), some (.c (.v (.int .i64 (Int.ofNat 0))))] [some (ABlk.mk false false 3 1 (Cs.arr (c.np) fun k => List.map AC.v ((fun i => [Value.int .i64 (c.fp i)]) k))), some (ABlk.mk true false 25 0 (Cs.lit [.v (.int .i64 (c.nodes)), AC.sl 0 0 0 (c.np) none, AC.sl 1 0 0 (c.ns) none, .v (.int .i64 (c.long)), AC.sl 2 0 0 (c.nb) none, AC.sl 3 0 0 (c.nt) none, .v (.int .i64 (c.miss)), .v (.int .i64 (c.good)), .v (.int .i64 (c.fresh))])), some (ABlk.mk false false 126 0 (Cs.lit [.v (.int .i64 (Int.ofNat 1)), .v (.int .i64 (Int.negSucc 0))]))] 22 1006 (mkFr 22 [(2, .c (.sl 2000 0 0 (2 * c.np) none))]) [(2000, hlvB c (c.np))] 100000000000000000000000000000000000000000000000000 (Exit.exit 0) none]) := by kernel_rfl
end Go.Proofs.YtoelekmbmghicaaGreatDoor
end
/- Contract of configs.halves. -/
section
namespace Go.Proofs.YtoelekmbmghicaaGreatDoor
open Go.RowKit
def ctHalves : CtF
 | [.agg l], m, ib =>
  match cfgOf l m, subB mS m with
  | some (c, b), true => some (.c (.sl ib 0 0 (2 * c.np) none), [(ib, hlvB c c.np)], 1, [b, decide (c.np ≤ 1000)])
  | _, _ => none
 | _, _, _ => none
theorem ct_halves : CtOk Tryz.prog 46 ctHalves := by
 refine ⟨⟨_, _, Tryz.func46, rfl⟩, fun C β m m2 w args ib r news k' ob vs hct ho hs hr hfree hlim hv => ?_⟩
 unfold ctHalves at hct
 split at hct
 · rename_i l
   split at hct
   · rename_i c b hc hg
     simp only [Option.some.injEq, Prod.mk.injEq] at hct
     obtain ⟨rfl, rfl, rfl, rfl⟩ := hct
     simp only [allT, List.forall_mem_cons, decide_eq_true_eq] at ho
     obtain ⟨rfl, o2, _⟩ := ho
     obtain ⟨s', r1, r2, r3, r4⟩ := viewF_out (hlv_run c)
     simp only [γt, γ1] at hv
     split at hv
     · rename_i v0 us hv0 hus
       split at hv0
       · rename_i cs hcs
         cases hv0
         cases hus
         cases hv
         obtain ⟨β1, q1, q2, q3⟩ := rel_cfg hs hr hc hg hcs
         refine (calls_f hENh r1 ⟨by rw [r3]; simp [allT], by rw [r4]; intro q hq; rw [List.mem_singleton.1 hq]; exact hlv_sum c o2⟩ (C := loneC w) (β := β1) (w := w) (vs := [.agg cs.toArray]) ?_ q1 (fun id h1 h2 => q3 id h1 (by unfold lim; omega))).mono ?_
         · simp only [γt, γ1, q2]
         · rintro e w' ⟨β', u, rfl, _, _, hu, hr'⟩
           simp only [List.map_cons, List.map_nil, List.cons.injEq, and_true] at r2
           obtain ⟨L, hL, hb⟩ := hr'.blk 2000 _ r2
           have hid : β ib = none := hfree ib (Nat.le_refl _) (by omega)
           refine ⟨ext1 β ib L, u, rfl, ext1_ext hid, fun id h => ?_, ?_, ?_⟩
           · unfold ext1
             rw [if_neg (by omega)]
           · simp only [γ, γ1, γc, hL] at hu
             simp only [γ, γ1, γc, ext1_same]
             exact hu
           · refine rel_fresh hr (below_lone hr') hid (not_gid (by omega)) hr' r2 rfl rfl (fun k j _ => ?_) hL
             match j with
             | 0 => exact ⟨_, rfl⟩
             | j + 1 => exact ⟨_, rfl⟩
       · cases hv0
     · cases hv
   · cases hct
 · cases hct
end Go.Proofs.YtoelekmbmghicaaGreatDoor
end
/- sennitref04: pairs, slots as the evaluator runs them. -/
section
namespace Go.Proofs.YtoelekmbmghicaaGreatDoor
open Go.RowKit
abbrev boolsW (n : Nat) (f : Nat → Bool) : ABlk := wBlk 4 1 n fun i => [.bool (f i)]
abbrev r4pV (k : Nat) : List AV := [.c (.ptr 1000 0 0), .c (.sl 1002 0 0 16 none), i64 (Int.ofNat k)]
def r4pR (P : Program) (c : Cfg) (u : Nat → Bool) (k : Nat) (path : List Dec) : Option VC :=
 view ([1, 3, 4] ++ [2]) [0, 1000, 1002] (fC (E1 P) 300 (loopAt P 41 0) 1000000000000000000000000000000000000000000 10000000000000000000000000000000000000000 (stH 63 [1, 3, 4] [0, 1000, 1002] (r4pV k) [ints 3 c.np c.fp, cfgB c, boolsW 16 u] path []))
theorem r4p (c : Cfg) (u : Nat → Bool) (k : Nat) (Q : VC → Prop) (H : let zz2 := (ABlk.mk false false 3 1 (Cs.arr (Cfg.np c) fun k => List.map AC.v ((fun i => [Value.int IntKind.i64 (Cfg.fp c i)]) k))); let zz10 := (ABlk.mk true false 25 0 (Cs.lit [AC.v (Value.int IntKind.i64 (Cfg.nodes c)), AC.sl 0 0 0 (Cfg.np c) none, AC.sl 1 0 0 (Cfg.ns c) none, AC.v (Value.int IntKind.i64 (Cfg.long c)), AC.sl 2 0 0 (Cfg.nb c) none, AC.sl 3 0 0 (Cfg.nt c) none, AC.v (Value.int IntKind.i64 (Cfg.miss c)), AC.v (Value.int IntKind.i64 (Cfg.good c)), AC.v (Value.int IntKind.i64 (Cfg.fresh c))])); let zz3 := (ABlk.mk true true 4 1 (Cs.arr 16 fun k => List.map AC.v ((fun i => [Value.bool (u i)]) k))); let zz0 := [some zz2, some zz10, some zz3]; let zz1 := (IntKind.wrap IntKind.i64 (Cfg.fp c (0 + Int.toNat (Int.ofNat k)) + Int.ofNat 1)); let zz4 := [some (lkA (List.zip [1, 3, 4] (r4pV k)) 1), some (lkA (List.zip [1, 3, 4] (r4pV k)) 3), some (lkA (List.zip [1, 3, 4] (r4pV k)) 4), some (AV.c (AC.v (Value.bool false)))]; let zz5 := [some zz2, some zz10, some (ABlk.mk true true 4 1 (Cs.arr 16 fun i => if i = 0 + Int.toNat (Int.tmod zz1 (Cfg.nodes c)) then setL ((fun i => if i = 0 + Int.toNat (Cfg.fp c (0 + Int.toNat (Int.ofNat k))) then setL ((fun k => List.map AC.v ((fun i => [Value.bool (u i)]) k)) i) 0 [AC.v (Value.bool true)] else List.map AC.v ((fun i => [Value.bool (u i)]) i)) i) 0 [AC.v (Value.bool true)] else if i = 0 + Int.toNat (Cfg.fp c (0 + Int.toNat (Int.ofNat k))) then setL ((fun k => List.map AC.v ((fun i => [Value.bool (u i)]) k)) i) 0 [AC.v (Value.bool true)] else List.map AC.v ((fun i => [Value.bool (u i)]) i)))]; let zz6 := (0 + Int.toNat (Cfg.fp c (0 + Int.toNat (Int.ofNat k)))); let zz11 := (0 + Int.toNat (IntKind.wrap IntKind.i64 (Int.ofNat k - Int.ofNat 1))); let zz7 := (Cfg.fp c (0 + Int.toNat (Int.ofNat k)) ≤ Cfg.fp c zz11); let zz8 := (Cfg.fp c (0 + Int.toNat (Int.ofNat k)) < Int.ofNat 0); let zz9 := (Cfg.fp c (0 + Int.toNat (Int.ofNat k)) ≥ Cfg.nodes c); let zz12 := (ABlk.mk true true 4 1 (Cs.arr 16 fun i => if i = 0 + Int.toNat (Cfg.fp c (0 + Int.toNat (Int.ofNat k))) then setL ((fun k => List.map AC.v ((fun i => [Value.bool (u i)]) k)) i) 0 [AC.v (Value.bool true)] else List.map AC.v ((fun i => [Value.bool (u i)]) i))); let zz13 := [some (lkA (List.zip [1, 3, 4] (r4pV k)) 1), some (lkA (List.zip [1, 3, 4] (r4pV k)) 3), some (AV.c (AC.v (Value.int IntKind.i64 (IntKind.wrap IntKind.i64 (Int.ofNat k + Int.ofNat 1))))), some (lkA (List.zip [1, 3, 4] (r4pV k)) 2)]; let zq0 : List Bool := [true]; let zq1 : List Bool := (ABlk.inb zz2 (0 + Int.toNat (Int.ofNat k)) 1) :: true :: (decide (Int.ofNat 0 ≤ Int.ofNat k ∧ Int.ofNat k < ↑(c.np))) :: true :: (decide (Int.ofNat k < ↑(c.np)) == true) :: zq0; let zq2 : List Bool := true :: true :: (decide zz8 == false) :: zq1; let zq3 : List Bool := (decide zz9 == false) :: zq2; let zq4 : List Bool := (ABlk.inb zz2 zz11 1) :: true :: (decide (Int.ofNat 0 ≤ IntKind.wrap .i64 (Int.ofNat k - Int.ofNat 1) ∧ IntKind.wrap .i64 (Int.ofNat k - Int.ofNat 1) < ↑(c.np))) :: true :: (decide (Int.ofNat k > Int.ofNat 0) == true) :: zq3; let zq5 : List Bool := (ABlk.inb zz3 zz6 1) :: true :: (decide (Int.ofNat 0 ≤ c.fp (0 + Int.toNat (Int.ofNat k)) ∧ c.fp (0 + Int.toNat (Int.ofNat k)) < Int.ofNat 16)) :: (decide (c.nodes ≠ Int.ofNat 0)) :: true :: true :: (decide zz7 == false) :: zq4; let zq6 : List Bool := (ABlk.inb zz3 (0 + Int.toNat (Int.tmod zz1 (c.nodes))) 1) :: true :: (decide (Int.ofNat 0 ≤ Int.tmod zz1 (c.nodes) ∧ Int.tmod zz1 (c.nodes) < Int.ofNat 16)) :: (u zz6 == false) :: zq5; let zq7 : List Bool := (ABlk.inb zz3 zz6 1) :: true :: (decide (Int.ofNat 0 ≤ c.fp (0 + Int.toNat (Int.ofNat k)) ∧ c.fp (0 + Int.toNat (Int.ofNat k)) < Int.ofNat 16)) :: (decide (c.nodes ≠ Int.ofNat 0)) :: true :: true :: (decide (Int.ofNat k > Int.ofNat 0) == false) :: zq3; let zq8 : List Bool := (ABlk.inb zz3 (0 + Int.toNat (Int.tmod zz1 (c.nodes))) 1) :: true :: (decide (Int.ofNat 0 ≤ Int.tmod zz1 (c.nodes) ∧ Int.tmod zz1 (c.nodes) < Int.ofNat 16)) :: (u zz6 == false) :: zq7; (((decide (Int.ofNat k < ↑(c.np))) = true → (((decide zz8) = true → Q (Exit.ret, zz4, zz0, 63, 1000000000000000000000000000000000000000018, ((decide zz8 == true) :: zq1), [])) ∧ ((decide zz8) = false → (((decide zz9) = true → Q (Exit.ret, zz4, zz0, 63, 1000000000000000000000000000000000000000022, ((decide zz9 == true) :: zq2), [])) ∧ ((decide zz9) = false → (((decide (Int.ofNat k > Int.ofNat 0)) = true → (((decide zz7) = true → Q (Exit.ret, zz4, zz0, 63, 1000000000000000000000000000000000000000034, ((decide zz7 == true) :: zq4), [])) ∧ ((decide zz7) = false → (((u zz6) = true → Q (Exit.ret, zz4, zz0, 63, 1000000000000000000000000000000000000000046, ((u zz6 == true) :: zq5), [])) ∧ ((u zz6) = false → (((u (0 + Int.toNat (Int.tmod zz1 (c.nodes)))) = true → Q (Exit.ret, zz4, zz0, 63, 1000000000000000000000000000000000000000050, ((u (0 + Int.toNat (Int.tmod zz1 (c.nodes))) == true) :: zq6), [])) ∧ ((u (0 + Int.toNat (Int.tmod zz1 (c.nodes)))) = false → Q (Exit.normal, zz13, zz5, 63, 1000000000000000000000000000000000000000060, ((ABlk.inb zz12 (0 + Int.toNat (Int.tmod zz1 (c.nodes))) 1) :: (decide (Int.ofNat 0 ≤ Int.tmod zz1 (c.nodes) ∧ Int.tmod zz1 (c.nodes) < Int.ofNat 16)) :: (ABlk.inb zz3 zz6 1) :: (decide (Int.ofNat 0 ≤ c.fp (0 + Int.toNat (Int.ofNat k)) ∧ c.fp (0 + Int.toNat (Int.ofNat k)) < Int.ofNat 16)) :: (u (0 + Int.toNat (Int.tmod zz1 (c.nodes))) == false) :: zq6), [])))))))) ∧ ((decide (Int.ofNat k > Int.ofNat 0)) = false → (((u zz6) = true → Q (Exit.ret, zz4, zz0, 63, 1000000000000000000000000000000000000000038, ((u zz6 == true) :: zq7), [])) ∧ ((u zz6) = false → (((u (0 + Int.toNat (Int.tmod zz1 (c.nodes)))) = true → Q (Exit.ret, zz4, zz0, 63, 1000000000000000000000000000000000000000042, ((u (0 + Int.toNat (Int.tmod zz1 (c.nodes))) == true) :: zq8), [])) ∧ ((u (0 + Int.toNat (Int.tmod zz1 (c.nodes)))) = false → Q (Exit.normal, zz13, zz5, 63, 1000000000000000000000000000000000000000052, ((ABlk.inb zz12 (0 + Int.toNat (Int.tmod zz1 (c.nodes))) 1) :: (decide (Int.ofNat 0 ≤ Int.tmod zz1 (c.nodes) ∧ Int.tmod zz1 (c.nodes) < Int.ofNat 16)) :: (ABlk.inb zz3 zz6 1) :: (decide (Int.ofNat 0 ≤ c.fp (0 + Int.toNat (Int.ofNat k)) ∧ c.fp (0 + Int.toNat (Int.ofNat k)) < Int.ofNat 16)) :: (u (0 + Int.toNat (Int.tmod zz1 (c.nodes))) == false) :: zq8), [])))))))))))) ∧ ((decide (Int.ofNat k < ↑(c.np))) = false → Q (Exit.exit 0, [some (lkA (List.zip [1, 3, 4] (r4pV k)) 1), some (lkA (List.zip [1, 3, 4] (r4pV k)) 3), some (lkA (List.zip [1, 3, 4] (r4pV k)) 4), some (lkA (List.zip [1, 3, 4] (r4pV k)) 2)], zz0, 63, 1000000000000000000000000000000000000000005, ((decide (Int.ofNat k < ↑(c.np)) == false) :: zq0), [])))) :
 ∃ p r, r4pR Tryz.prog c u k p = some r ∧ Q r :=
 two H
 (fun g1 => two g1
  (fun g2 => ⟨pD 10 4, _, by kernel_rfl, g2⟩)
  (fun g2 => two g2
   (fun g3 => ⟨pD 10 250, _, by kernel_rfl, g3⟩)
   (fun g3 => two g3
    (fun g4 => two g4
     (fun g5 => ⟨pD 18 129147217, _, by kernel_rfl, g5⟩)
     (fun g5 => two g5
      (fun g6 => ⟨pD 23 645707869, _, by kernel_rfl, g6⟩)
      (fun g6 => two g6
       (fun g7 => ⟨pD 23 32414187967, _, by kernel_rfl, g7⟩)
       (fun g7 => ⟨pD 23 63795247576, _, by kernel_rfl, g7⟩))))
    (fun g4 => two g4
     (fun g5 => ⟨pD 23 387434104, _, by kernel_rfl, g5⟩)
     (fun g5 => two g5
      (fun g6 => ⟨pD 23 32155914202, _, by kernel_rfl, g6⟩)
      (fun g6 => ⟨pD 23 63536973811, _, by kernel_rfl, g6⟩))))))
 (fun g1 => ⟨pD 1 2, _, by kernel_rfl, g1⟩)
def pcR (P : Program) (c : Cfg) (e : Exit) (l : List (Nat × AV)) : Option VF := viewF [] (fCallF (E1 P) (fC (E1 P) 300) 41 [.agg (cfgC c)] 1000 10000000000000000000000000000000000000000 (stA (cfgM c) [] [some ⟨[1, 3, 4], [0, 1000, 1002], mkFr 63 l, [], 100000000000000000000000000000000000000000000000000, e⟩]))
theorem pc_yes (c : Cfg) : pcR Tryz.prog c (.exit 0) [] =
 some (.c (.v (.bool true)), [], 100000000000000000000000000000000000000000000000001, [true], [LoopV Tryz.prog (loopAt Tryz.prog 41 0) [1, 3, 4] [0, 1000, 1002] [some (.c (.ptr 1000 0 0)), some (.c (.sl 1002 0 0 16 none)), some (.c (.v (.int .i64 (Int.ofNat 0))))] [some (ABlk.mk false false 3 1 (Cs.arr (c.np) fun k => List.map AC.v ((fun i => [Value.int .i64 (c.fp i)]) k))), some (ABlk.mk true false 25 0 (Cs.lit [.v (.int .i64 (c.nodes)), AC.sl 0 0 0 (c.np) none, AC.sl 1 0 0 (c.ns) none, .v (.int .i64 (c.long)), AC.sl 2 0 0 (c.nb) none, AC.sl 3 0 0 (c.nt) none, .v (.int .i64 (c.miss)), .v (.int .i64 (c.good)), .v (.int .i64 (c.fresh))])), some (ABlk.mk true true 4 1 (Cs.arr 16 fun x => List.map AC.v (Array.toList (Value.cells (Value.bool false)))))] 63 1005 (mkFr 63 []) [] 100000000000000000000000000000000000000000000000000 (Exit.exit 0) none]) := by kernel_rfl
theorem pc_no (c : Cfg) : pcR Tryz.prog c .ret [(2, bo false)] =
 some (.c (.v (.bool false)), [], 100000000000000000000000000000000000000000000000000, [true], [LoopV Tryz.prog (loopAt Tryz.prog 41 0) [1, 3, 4] [0, 1000, 1002] [some (.c (.ptr 1000 0 0)), some (.c (.sl 1002 0 0 16 none)), some (.c (.v (.int .i64 (Int.ofNat 0))))] [some (ABlk.mk false false 3 1 (Cs.arr (c.np) fun k => List.map AC.v ((fun i => [Value.int .i64 (c.fp i)]) k))), some (ABlk.mk true false 25 0 (Cs.lit [.v (.int .i64 (c.nodes)), AC.sl 0 0 0 (c.np) none, AC.sl 1 0 0 (c.ns) none, .v (.int .i64 (c.long)), AC.sl 2 0 0 (c.nb) none, AC.sl 3 0 0 (c.nt) none, .v (.int .i64 (c.miss)), .v (.int .i64 (c.good)), .v (.int .i64 (c.fresh))])), some (ABlk.mk true true 4 1 (Cs.arr 16 fun x => List.map AC.v (Array.toList (Value.cells (Value.bool false)))))] 63 1005 (mkFr 63 [(2, bo false)]) [] 100000000000000000000000000000000000000000000000000 Exit.ret none]) := by kernel_rfl
abbrev r4sV (c : Cfg) (k : Nat) : List AV := [.c (.ptr 1000 0 0), .c (.sl 1005 0 0 c.np none), i64 (Int.ofNat k)]
def r4sR (P : Program) (c : Cfg) (u : Nat → Bool) (k : Nat) (path : List Dec) : Option VC :=
 view ([1, 3, 4] ++ [2]) [1, 1000, 1005] (fC (E1 P) 300 (loopAt P 42 0) 1000000000000000000000000000000000000000000 10000000000000000000000000000000000000000 (stH 52 [1, 3, 4] [1, 1000, 1005] (r4sV c k) [ints 3 c.ns c.fs, cfgB c, boolsW c.np u] path []))
theorem r4s (c : Cfg) (u : Nat → Bool) (k : Nat) (Q : VC → Prop) (H : let zz1 := (ABlk.mk false false 3 1 (Cs.arr (Cfg.ns c) fun k => List.map AC.v ((fun i => [Value.int IntKind.i64 (Cfg.fs c i)]) k))); let zz2 := (ABlk.mk true false 25 0 (Cs.lit [AC.v (Value.int IntKind.i64 (Cfg.nodes c)), AC.sl 0 0 0 (Cfg.np c) none, AC.sl 1 0 0 (Cfg.ns c) none, AC.v (Value.int IntKind.i64 (Cfg.long c)), AC.sl 2 0 0 (Cfg.nb c) none, AC.sl 3 0 0 (Cfg.nt c) none, AC.v (Value.int IntKind.i64 (Cfg.miss c)), AC.v (Value.int IntKind.i64 (Cfg.good c)), AC.v (Value.int IntKind.i64 (Cfg.fresh c))])); let zz0 := [some zz1, some zz2, some (ABlk.mk true true 4 1 (Cs.arr (Cfg.np c) fun k => List.map AC.v ((fun i => [Value.bool (u i)]) k)))]; let zz3 := (Cfg.fs c (0 + Int.toNat (Int.ofNat k)) < Int.ofNat 0); let zz4 := [some (lkA (List.zip [1, 3, 4] (r4sV c k)) 1), some (lkA (List.zip [1, 3, 4] (r4sV c k)) 3), some (lkA (List.zip [1, 3, 4] (r4sV c k)) 4), some (AV.c (AC.v (Value.bool false)))]; let zq0 : List Bool := [true]; let zq1 : List Bool := (ABlk.inb zz1 (0 + Int.toNat (Int.ofNat k)) 1) :: true :: (decide (Int.ofNat 0 ≤ Int.ofNat k ∧ Int.ofNat k < ↑(c.ns))) :: true :: (decide (Int.ofNat k < ↑(c.ns)) == true) :: zq0; let zq2 : List Bool := true :: (ABlk.inb zz1 (0 + Int.toNat (Int.ofNat k)) 1) :: true :: (decide (Int.ofNat 0 ≤ Int.ofNat k ∧ Int.ofNat k < ↑(c.ns))) :: true :: (decide zz3 == false) :: zq1; (((decide (Int.ofNat k < ↑(c.ns))) = true → (((decide zz3) = true → Q (Exit.ret, zz4, zz0, 52, 1170000000000000000000000000000000000000006, ((decide zz3 == true) :: zq1), [])) ∧ ((decide zz3) = false → (((decide (c.fs (0 + Int.toNat (Int.ofNat k)) ≥ ↑(c.np))) = true → Q (Exit.ret, zz4, zz0, 52, 1170000000000000000000000000000000000000006, ((decide (c.fs (0 + Int.toNat (Int.ofNat k)) ≥ ↑(c.np)) == true) :: zq2), [])) ∧ ((decide (c.fs (0 + Int.toNat (Int.ofNat k)) ≥ ↑(c.np))) = false → Q (Exit.normal, [some (lkA (List.zip [1, 3, 4] (r4sV c k)) 1), some (lkA (List.zip [1, 3, 4] (r4sV c k)) 3), some (.c (.v (.int .i64 (IntKind.wrap .i64 (Int.ofNat k + Int.ofNat 1))))), some (lkA (List.zip [1, 3, 4] (r4sV c k)) 2)], [some zz1, some zz2, some (ABlk.mk true true 4 1 (Cs.arr (c.np) fun i => if i = 0 + Int.toNat (c.fs (0 + Int.toNat (Int.ofNat k))) then setL ((fun k => List.map AC.v ((fun i => [Value.bool (u i)]) k)) i) 0 [.v (.bool true)] else List.map AC.v ((fun i => [Value.bool (u i)]) i)))], 52, 1170000000000000000000000000000000000000016, ((ABlk.inb (ABlk.mk true true 4 1 (Cs.arr (c.np) fun k => List.map AC.v ((fun i => [Value.bool (u i)]) k))) (0 + Int.toNat (c.fs (0 + Int.toNat (Int.ofNat k)))) 1) :: (decide (Int.ofNat 0 ≤ c.fs (0 + Int.toNat (Int.ofNat k)) ∧ c.fs (0 + Int.toNat (Int.ofNat k)) < ↑(c.np))) :: (ABlk.inb zz1 (0 + Int.toNat (Int.ofNat k)) 1) :: true :: (decide (Int.ofNat 0 ≤ Int.ofNat k ∧ Int.ofNat k < ↑(c.ns))) :: true :: (decide (c.fs (0 + Int.toNat (Int.ofNat k)) ≥ ↑(c.np)) == false) :: zq2), [])))))) ∧ ((decide (Int.ofNat k < ↑(c.ns))) = false → Q (Exit.exit 0, [some (lkA (List.zip [1, 3, 4] (r4sV c k)) 1), some (lkA (List.zip [1, 3, 4] (r4sV c k)) 3), some (lkA (List.zip [1, 3, 4] (r4sV c k)) 4), some (lkA (List.zip [1, 3, 4] (r4sV c k)) 2)], zz0, 52, 1000000000000000000000000000000000000000005, ((decide (Int.ofNat k < ↑(c.ns)) == false) :: zq0), [])))) :
 ∃ p r, r4sR Tryz.prog c u k p = some r ∧ Q r :=
 two H
 (fun g1 => two g1
  (fun g2 => ⟨pD 11 4, _, by kernel_rfl, g2⟩)
  (fun g2 => two g2
   (fun g3 => ⟨pD 11 59056, _, by kernel_rfl, g3⟩)
   (fun g3 => ⟨pD 11 118105, _, by kernel_rfl, g3⟩)))
 (fun g1 => ⟨pD 1 2, _, by kernel_rfl, g1⟩)
abbrev r4tV (c : Cfg) (k : Nat) : List AV := [.c (.sl 1005 0 0 c.np none), i64 (Int.ofNat k)]
def r4tR (P : Program) (c : Cfg) (u : Nat → Bool) (k : Nat) (path : List Dec) : Option VC :=
 view ([3, 5] ++ [2]) [1005] (fC (E1 P) 300 (loopAt P 42 1) 1000000000000000000000000000000000000000000000000000 10000000000000000000000000000000000000000 (stH 52 [3, 5] [1005] (r4tV c k) [boolsW c.np u] path []))
theorem r4t (c : Cfg) (u : Nat → Bool) (k : Nat) (Q : VC → Prop) (H : let zz0 := (ABlk.mk true true 4 1 (Cs.arr (Cfg.np c) fun k => List.map AC.v ((fun i => [Value.bool (u i)]) k))); (((decide (Int.ofNat k < ↑(c.np))) = true → (((!u (0 + Int.toNat (Int.ofNat k))) = true → Q (Exit.ret, [some (lkA (List.zip [3, 5] (r4tV c k)) 3), some (lkA (List.zip [3, 5] (r4tV c k)) 5), some (.c (.v (.bool false)))], [some zz0], 52, 1000000000000000000000000000000000000000000000000010, [(!u (0 + Int.toNat (Int.ofNat k))) == true, ABlk.inb zz0 (0 + Int.toNat (Int.ofNat k)) 1, true, decide (Int.ofNat 0 ≤ Int.ofNat k ∧ Int.ofNat k < ↑(c.np)), decide (Int.ofNat k < ↑(c.np)) == true], [])) ∧ ((!u (0 + Int.toNat (Int.ofNat k))) = false → Q (Exit.normal, [some (lkA (List.zip [3, 5] (r4tV c k)) 3), some (.c (.v (.int .i64 (IntKind.wrap .i64 (Int.ofNat k + Int.ofNat 1))))), some (lkA (List.zip [3, 5] (r4tV c k)) 2)], [some zz0], 52, 1000000000000000000000000000000000000000000000000012, [(!u (0 + Int.toNat (Int.ofNat k))) == false, ABlk.inb zz0 (0 + Int.toNat (Int.ofNat k)) 1, true, decide (Int.ofNat 0 ≤ Int.ofNat k ∧ Int.ofNat k < ↑(c.np)), decide (Int.ofNat k < ↑(c.np)) == true], [])))) ∧ ((decide (Int.ofNat k < ↑(c.np))) = false → Q (Exit.exit 2, [some (lkA (List.zip [3, 5] (r4tV c k)) 3), some (lkA (List.zip [3, 5] (r4tV c k)) 5), some (lkA (List.zip [3, 5] (r4tV c k)) 2)], [some zz0], 52, 1000000000000000000000000000000000000000000000000004, [decide (Int.ofNat k < ↑(c.np)) == false], [])))) :
 ∃ p r, r4tR Tryz.prog c u k p = some r ∧ Q r :=
 two H
 (fun g1 => two g1
  (fun g2 => ⟨pD 2 4, _, by kernel_rfl, g2⟩)
  (fun g2 => ⟨pD 2 7, _, by kernel_rfl, g2⟩))
 (fun g1 => ⟨pD 1 2, _, by kernel_rfl, g1⟩)
def scR (P : Program) (c : Cfg) (l : List (Option LSum)) : Option VF := viewF [] (fCallF (E1 P) (fC (E1 P) 300) 42 [.agg (cfgC c)] 1000 10000000000000000000000000000000000000000 (stA (cfgM c) [] l))
abbrev s4A (c : Cfg) (u : Nat → Bool) : LSum := ⟨[1, 3, 4], [1, 1000, 1005], mkFr 52 [(3, .c (.sl 1005 0 0 c.np none))], [(1005, boolsW c.np u)], 100000000000000000000000000000000000000000000000000, .exit 0⟩
abbrev s4B (e : Exit) (l : List (Nat × AV)) : LSum := ⟨[3, 5], [1005], mkFr 52 l, [], 10000000000000000000000000000000000000000000000000000, e⟩
theorem sc_bad (c : Cfg) : scR Tryz.prog c [some ⟨[1, 3, 4], [1, 1000, 1005], mkFr 52 [(2, bo false)], [], 100000000000000000000000000000000000000000000000000, .ret⟩] =
 some (.c (.v (.bool false)), [], 100000000000000000000000000000000000000000000000000, [decide (Int.ofNat 0 ≤ ↑(c.np) ∧ Int.ofNat (c.np) = Int.ofNat (c.np) ∧ ↑(c.np) * Int.ofNat 1 ≤ Int.ofNat 140737488355328), true], [LoopV Tryz.prog (loopAt Tryz.prog 42 0) [1, 3, 4] [1, 1000, 1005] [some (.c (.ptr 1000 0 0)), some (.c (.sl 1005 0 0 (Int.toNat ↑(c.np)) none)), some (.c (.v (.int .i64 (Int.ofNat 0))))] [some (ABlk.mk false false 3 1 (Cs.arr (c.ns) fun k => List.map AC.v ((fun i => [Value.int .i64 (c.fs i)]) k))), some (ABlk.mk true false 25 0 (Cs.lit [.v (.int .i64 (c.nodes)), AC.sl 0 0 0 (c.np) none, AC.sl 1 0 0 (c.ns) none, .v (.int .i64 (c.long)), AC.sl 2 0 0 (c.nb) none, AC.sl 3 0 0 (c.nt) none, .v (.int .i64 (c.miss)), .v (.int .i64 (c.good)), .v (.int .i64 (c.fresh))])), some (ABlk.mk true true 4 1 (Cs.arr (Int.toNat ↑(c.np)) fun x => List.map AC.v (Array.toList (Value.cells (Value.bool false)))))] 52 1008 (mkFr 52 [(2, bo false)]) [] 100000000000000000000000000000000000000000000000000 Exit.ret none]) := by kernel_rfl
theorem sc_yes (c : Cfg) (u : Nat → Bool) : scR Tryz.prog c [some (s4A c u), some (s4B (.exit 2) [])] =
 some (.c (.v (.bool true)), [], 10000000000000000000000000000000000000000000000000001, [decide (Int.ofNat 0 ≤ ↑(c.np) ∧ Int.ofNat (c.np) = Int.ofNat (c.np) ∧ ↑(c.np) * Int.ofNat 1 ≤ Int.ofNat 140737488355328), true], [LoopV Tryz.prog (loopAt Tryz.prog 42 1) [3, 5] [1005] [some (.c (.sl 1005 0 0 (c.np) none)), some (.c (.v (.int .i64 (Int.ofNat 0))))] [some (ABlk.mk true true 4 1 (Cs.arr (c.np) fun k => List.map AC.v ((fun i => [Value.bool (u i)]) k)))] 52 100000000000000000000000000000000000000000000000001 (mkFr 52 []) [] 10000000000000000000000000000000000000000000000000000 (Exit.exit 2) none, LoopV Tryz.prog (loopAt Tryz.prog 42 0) [1, 3, 4] [1, 1000, 1005] [some (.c (.ptr 1000 0 0)), some (.c (.sl 1005 0 0 (Int.toNat ↑(c.np)) none)), some (.c (.v (.int .i64 (Int.ofNat 0))))] [some (ABlk.mk false false 3 1 (Cs.arr (c.ns) fun k => List.map AC.v ((fun i => [Value.int .i64 (c.fs i)]) k))), some (ABlk.mk true false 25 0 (Cs.lit [.v (.int .i64 (c.nodes)), AC.sl 0 0 0 (c.np) none, AC.sl 1 0 0 (c.ns) none, .v (.int .i64 (c.long)), AC.sl 2 0 0 (c.nb) none, AC.sl 3 0 0 (c.nt) none, .v (.int .i64 (c.miss)), .v (.int .i64 (c.good)), .v (.int .i64 (c.fresh))])), some (ABlk.mk true true 4 1 (Cs.arr (Int.toNat ↑(c.np)) fun x => List.map AC.v (Array.toList (Value.cells (Value.bool false)))))] 52 1008 (mkFr 52 [(3, .c (.sl 1005 0 0 (c.np) none))]) [(1005, boolsW (c.np) u)] 100000000000000000000000000000000000000000000000000 (Exit.exit 0) none]) := by kernel_rfl
theorem sc_no (c : Cfg) (u : Nat → Bool) : scR Tryz.prog c [some (s4A c u), some (s4B .ret [(2, bo false)])] =
 some (.c (.v (.bool false)), [], 10000000000000000000000000000000000000000000000000000, [decide (Int.ofNat 0 ≤ ↑(c.np) ∧ Int.ofNat (c.np) = Int.ofNat (c.np) ∧ ↑(c.np) * Int.ofNat 1 ≤ Int.ofNat 140737488355328), true], [LoopV Tryz.prog (loopAt Tryz.prog 42 1) [3, 5] [1005] [some (.c (.sl 1005 0 0 (c.np) none)), some (.c (.v (.int .i64 (Int.ofNat 0))))] [some (ABlk.mk true true 4 1 (Cs.arr (c.np) fun k => List.map AC.v ((fun i => [Value.bool (u i)]) k)))] 52 100000000000000000000000000000000000000000000000001 (mkFr 52 [(2, bo false)]) [] 10000000000000000000000000000000000000000000000000000 Exit.ret none, LoopV Tryz.prog (loopAt Tryz.prog 42 0) [1, 3, 4] [1, 1000, 1005] [some (.c (.ptr 1000 0 0)), some (.c (.sl 1005 0 0 (Int.toNat ↑(c.np)) none)), some (.c (.v (.int .i64 (Int.ofNat 0))))] [some (ABlk.mk false false 3 1 (Cs.arr (c.ns) fun k => List.map AC.v ((fun i => [Value.int .i64 (c.fs i)]) k))), some (ABlk.mk true false 25 0 (Cs.lit [.v (.int .i64 (c.nodes)), AC.sl 0 0 0 (c.np) none, AC.sl 1 0 0 (c.ns) none, .v (.int .i64 (c.long)), AC.sl 2 0 0 (c.nb) none, AC.sl 3 0 0 (c.nt) none, .v (.int .i64 (c.miss)), .v (.int .i64 (c.good)), .v (.int .i64 (c.fresh))])), some (ABlk.mk true true 4 1 (Cs.arr (Int.toNat ↑(c.np)) fun x => List.map AC.v (Array.toList (Value.cells (Value.bool false)))))] 52 1008 (mkFr 52 [(3, .c (.sl 1005 0 0 (c.np) none))]) [(1005, boolsW (c.np) u)] 100000000000000000000000000000000000000000000000000 (Exit.exit 0) none]) := by kernel_rfl
end Go.Proofs.YtoelekmbmghicaaGreatDoor
end
/- sennitref04.pairs: contract. -/
section
namespace Go.Proofs.YtoelekmbmghicaaGreatDoor
open Go.RowKit
def nxt4 (c : Cfg) (p : Nat) : Int := Int.tmod (c.fp p + 1) c.nodes
def usedF (c : Cfg) (k i : Nat) : Bool := (List.range k).any fun p => decide (i = (c.fp p).toNat) || decide (i = (nxt4 c p).toNat)
theorem usedF_succ (c : Cfg) (k i : Nat) : usedF c (k + 1) i = (usedF c k i || (decide (i = (c.fp k).toNat) || decide (i = (nxt4 c k).toNat))) := by
 unfold usedF
 rw [List.range_succ, List.any_append]
 simp
def BadP (c : Cfg) (k : Nat) : Prop := c.fp k < 0 ∨ c.nodes ≤ c.fp k ∨ (0 < k ∧ c.fp k ≤ c.fp (k - 1)) ∨ usedF c k (c.fp k).toNat = true ∨ usedF c k (nxt4 c k).toNat = true
theorem nxt4_in (c : Cfg) (k : Nat) (h4 : 4 ≤ c.nodes) (h0 : 0 ≤ c.fp k) : 0 ≤ nxt4 c k ∧ nxt4 c k < c.nodes := by
 unfold nxt4
 rw [Int.tmod_eq_emod_of_nonneg (by omega)]
 exact ⟨Int.emod_nonneg _ (by omega), Int.emod_lt_of_pos _ (by omega)⟩
theorem pr_sum (c : Cfg) (h4 : 4 ≤ c.nodes) (h16 : c.nodes ≤ 16) (hp : c.np ≤ 1000000) (j : Nat) (hj : j ≤ c.np) (hmin : ∀ i, i < j → ¬ BadP c i) (hyes : j < c.np → BadP c j) {e : Exit} {out : List (Nat × AV)}
 (hF : (j < c.np → e = .ret ∧ out = [(2, bo false)]) ∧ (j = c.np → e = .exit 0 ∧ out = [])) {eblks : List (Option ABlk)} (heb : BL [ints 3 c.np c.fp, cfgB c, boolsW 16 (usedF c 0)] eblks) :
 LoopV Tryz.prog (loopAt Tryz.prog 41 0) [1, 3, 4] [0, 1000, 1002] ((r4pV 0).map some) eblks 63 1005 (mkFr 63 out) [] 100000000000000000000000000000000000000000000000000 e none := by
 refine loop_viewE hE1 (fuel := 300) (str := 10000000000000000000000000000000000000000) (nh := 1000000000000000000000000000000000000000000) (S := Nat) (fun k => k ≤ j) (fun k => j - k) [1, 3, 4] [2] [0, 1000, 1002] r4pV (fun k => [ints 3 c.np c.fp, cfgB c, boolsW 16 (usedF c k)]) (by decide) (by decide) (by unfold lim; omega) (s0 := 0) (by omega) (fun _ => ⟨rfl, rfl⟩) (by kernel_rfl) heb (fun k _ => ⟨rfl, fun b hb => ?_⟩) ?_
 · simp only [List.mem_cons, List.not_mem_nil, or_false] at hb
   rcases hb with rfl | rfl | rfl
   · exact ints_low
   · exact cfgB_low (by omega)
   · exact wBlk_low
 intro k hk
 have ek : 0 + Int.toNat (Int.ofNat k) = k := by simp
 obtain ⟨z, hz, hz2⟩ : ∃ z, IntKind.wrap IntKind.i64 (Int.ofNat k - Int.ofNat 1) = z ∧ (0 < k → z = Int.ofNat (k - 1)) := ⟨_, rfl, fun h => by rw [wrap_nat _ (by simp; omega) (by simp; omega)]; simp; omega⟩
 obtain ⟨y, hy, hy2⟩ : ∃ y, Int.tmod (IntKind.wrap IntKind.i64 (Cfg.fp c k + Int.ofNat 1)) (Cfg.nodes c) = y ∧ (0 ≤ c.fp k → c.fp k < c.nodes → y = nxt4 c k) := ⟨_, rfl, fun h1 h2 => by rw [wrap_nat _ (by simp; omega) (by simp; omega)]; rfl⟩
 have hin := nxt4_in c k h4
 have hw : IntKind.wrap IntKind.i64 (Int.ofNat k + Int.ofNat 1) = Int.ofNat (k + 1) := by rw [wrap_nat _ (by simp; omega) (by simp; omega)]; rfl
 refine (?_ : (∃ p r, r4pR Tryz.prog c (usedF c k) k p = some r ∧ _) → _) (r4p c (usedF c k) k (StepV 1005 100000000000000000000000000000000000000000000000000 63 [1, 3, 4] [2] [0, 1000, 1002] (fun k => k ≤ j) (fun k => j - k) r4pV (fun k => [ints 3 c.np c.fp, cfgB c, boolsW 16 (usedF c k)]) e out [] k) ?_)
 · rintro ⟨p, r, h1, h2⟩
   exact ⟨p, [], r, h1, h2⟩
 · simp only [ek, hz, hy, decide_eq_true_eq, decide_eq_false_iff_not]
   rcases Nat.lt_or_ge k j with hlt | hge
   · have hm := hmin k hlt
     unfold BadP at hm
     simp only [not_or, not_and, Int.not_lt, Int.not_le, Bool.not_eq_true] at hm
     obtain ⟨b1, b2, b3, b4, b5⟩ := hm
     obtain rfl := hy2 b1 b2
     obtain ⟨i1, i2⟩ := hin b1
     simp only [Nat.zero_add, b4, b5]
     repeat' (first | refine ⟨fun h => ?_, fun h => ?_⟩ | fail)
     all_goals (first | (exfalso; cases h; done) | (exfalso; simp only [Int.ofNat_eq_natCast] at *; omega) | skip)
     · exfalso
       rename_i h0
       have h0' : 0 < k := by simp only [Int.ofNat_eq_natCast] at h0; omega
       have b3' := b3 h0'
       obtain rfl := hz2 h0'
       have h9 : c.fp k ≤ c.fp (k - 1) := h
       omega
     all_goals refine ⟨?_, rfl, by dsimp only; omega, rfl, .inl ⟨rfl, k + 1, by omega, by show j - (k + 1) < j - k; omega, ?_, BEq.refl _, BEq.refl _, ⟨rfl, rfl, rfl, rfl, .inr (.inl ⟨16, _, _, rfl, rfl, fun i hi => ?_⟩)⟩, trivial⟩⟩
     all_goals first
      | (dsimp only; rw [hw]; rfl)
      | (show _ = List.map AC.v [Value.bool (usedF c (k + 1) i)]
         rw [usedF_succ]
         by_cases g1 : i = (nxt4 c k).toNat
         · simp [g1]; split <;> rfl
         · by_cases g2 : i = (c.fp k).toNat <;> simp [g1, g2] <;> split <;> rfl)
      | (by_cases h0' : 0 < k
         · have b3' := b3 h0'
           obtain rfl := hz2 h0'
           simp only [allT, List.forall_mem_cons, inb_arr, inb_lit, b4, b5] at *
           simp at *
           omega
         · simp only [allT, List.forall_mem_cons, inb_arr, inb_lit, b4, b5] at *
           simp at *
           omega)
   · obtain rfl : k = j := by omega
     rcases Nat.lt_or_ge k c.np with hlt | hge
     · obtain ⟨rfl, rfl⟩ := hF.1 hlt
       have hm := hyes hlt
       unfold BadP at hm
       simp only [Nat.zero_add]
       repeat' (first | refine ⟨fun h => ?_, fun h => ?_⟩ | fail)
       all_goals (first | (exfalso; simp only [Int.ofNat_eq_natCast] at *; omega) | skip)
       all_goals (first | (have hy3 := hy2 (by simp only [Int.ofNat_eq_natCast] at *; omega) (by simp only [Int.ofNat_eq_natCast] at *; omega); subst hy3; obtain ⟨i1, i2⟩ := hin (by simp only [Int.ofNat_eq_natCast] at *; omega)) | skip)
       all_goals (first | (have hz3 := hz2 (by simp only [Int.ofNat_eq_natCast] at *; omega); subst hz3) | skip)
       all_goals (first
        | (exfalso
           simp only [Int.ofNat_eq_natCast, Int.toNat_natCast] at *
           rcases hm with hm | hm | ⟨hm0, hm⟩ | hm | hm <;> first | omega | (simp_all; done))
        | (refine ⟨?_, rfl, by dsimp only; omega, rfl, .inr ⟨by simp, rfl, fun q hq => ?_, fun p hpp => (by cases hpp)⟩⟩
           · simp only [allT, List.forall_mem_cons, inb_arr, inb_lit]
             simp only [Int.ofNat_eq_natCast, Int.toNat_natCast] at *
             simp
             first | omega | (and_intros <;> first | assumption | omega)
           · rw [List.mem_singleton.1 hq]
             exact ⟨rfl, by simp [bo]⟩))
     · obtain rfl : k = c.np := by omega
       obtain ⟨rfl, rfl⟩ := hF.2 rfl
       refine ⟨fun h => ?_, fun h => ?_⟩
       · exfalso; simp at h
       · refine ⟨by simp [allT], rfl, by dsimp only; omega, rfl, .inr ⟨by simp, rfl, fun q hq => (by cases hq), fun p hpp => (by cases hpp)⟩⟩
end Go.Proofs.YtoelekmbmghicaaGreatDoor
end
/- sennitref04: pairs, slots, Within: contracts. -/
section
namespace Go.Proofs.YtoelekmbmghicaaGreatDoor
open Go.RowKit
instance (c : Cfg) (k : Nat) : Decidable (BadP c k) := by unfold BadP; infer_instance
def pairs4 (c : Cfg) : Bool := (List.range c.np).all fun k => decide (¬ BadP c k)
def okPr (c : Cfg) : Bool := decide (4 ≤ c.nodes ∧ c.nodes ≤ 16 ∧ c.np ≤ 1000000)
theorem all_stop {n : Nat} {q : Nat → Prop} [∀ k, Decidable (q k)] {j : Nat} (hj : j < n) (h : q j) : ((List.range n).all fun k => decide (¬ q k)) = false := by
 cases e : (List.range n).all fun k => decide (¬ q k) with
 | false => rfl
 | true =>
  have := List.all_eq_true.1 e j (by simpa using hj)
  exact absurd h (of_decide_eq_true this)
theorem all_end {n : Nat} {q : Nat → Prop} [∀ k, Decidable (q k)] (h : ∀ i, i < n → ¬ q i) : ((List.range n).all fun k => decide (¬ q k)) = true :=
 List.all_eq_true.2 fun i hi => decide_eq_true (h i (by simpa using hi))
theorem first_stopP (n : Nat) (q : Nat → Prop) [∀ k, Decidable (q k)] : ∃ j, j ≤ n ∧ (∀ i, i < j → ¬ q i) ∧ (j < n → q j) := by
 obtain ⟨j, h1, h2, h3⟩ := first_stop n fun k => decide (q k)
 exact ⟨j, h1, fun i hi => of_decide_eq_false (h2 i hi), fun h => of_decide_eq_true (h3 h)⟩
theorem bo_keep (b : Bool) (β1 β2 : Nm) (u : Value) (h : γ β1 (bo b) = some u) : γ β2 (bo b) = some u := h
theorem ct_pairs4 : CtOk Tryz.prog 41 (ctCfg (fun c => bo (pairs4 c)) okPr) := by
 refine ctCfg_of (E := E1 Tryz.prog) (fuel := 300) (str := 10000000000000000000000000000000000000000) hE1 ⟨_, _, Tryz.func41, rfl⟩ (fun c => bo_keep _) fun c hp => ?_
 obtain ⟨h4, h16, hn⟩ := of_decide_eq_true hp
 obtain ⟨j, hj, hmin, hyes⟩ := first_stopP c.np (BadP c)
 rcases Nat.lt_or_ge j c.np with h | h
 · refine ⟨_, _, _, pc_no c, ?_, by dsimp only; unfold lim; omega, by simp [allT], fun q hq => ?_⟩
   · show bo false = bo (pairs4 c)
     unfold pairs4
     rw [all_stop h (hyes h)]
   · rw [List.mem_singleton.1 hq]
     exact pr_sum c h4 h16 hn j hj hmin hyes ⟨fun _ => ⟨rfl, rfl⟩, fun h => by omega⟩ ⟨BEq.refl _, BEq.refl _, ⟨rfl, rfl, rfl, rfl, .inr (.inl ⟨_, _, _, rfl, rfl, fun i hi => rfl⟩)⟩, trivial⟩
 · obtain rfl : j = c.np := by omega
   refine ⟨_, _, _, pc_yes c, ?_, by dsimp only; unfold lim; omega, by simp [allT], fun q hq => ?_⟩
   · show bo true = bo (pairs4 c)
     unfold pairs4
     rw [all_end hmin]
   · rw [List.mem_singleton.1 hq]
     exact pr_sum c h4 h16 hn c.np hj hmin hyes ⟨fun h => by omega, fun _ => ⟨rfl, rfl⟩⟩ ⟨BEq.refl _, BEq.refl _, ⟨rfl, rfl, rfl, rfl, .inr (.inl ⟨_, _, _, rfl, rfl, fun i hi => rfl⟩)⟩, trivial⟩
/-! ### slots -/
def hasQ (c : Cfg) (k i : Nat) : Bool := (List.range k).any fun p => decide (i = (c.fs p).toNat)
theorem hasQ_succ (c : Cfg) (k i : Nat) : hasQ c (k + 1) i = (hasQ c k i || decide (i = (c.fs k).toNat)) := by
 unfold hasQ
 rw [List.range_succ, List.any_append]
 simp
def BadS (c : Cfg) (k : Nat) : Prop := c.fs k < 0 ∨ (c.np : Int) ≤ c.fs k
instance (c : Cfg) (k : Nat) : Decidable (BadS c k) := by unfold BadS; infer_instance
theorem sl_sum (c : Cfg) (hn : c.ns ≤ 1000000) (j : Nat) (hj : j ≤ c.ns) (hmin : ∀ i, i < j → ¬ BadS c i) (hyes : j < c.ns → BadS c j) {e : Exit} {out : List (Nat × AV)} {mF : AMem}
 (hF : (j < c.ns → e = .ret ∧ out = [(2, bo false)] ∧ mF = []) ∧ (j = c.ns → e = .exit 0 ∧ out = [(3, .c (.sl 1005 0 0 c.np none))] ∧ mF = [(1005, boolsW c.np (hasQ c c.ns))])) {eblks : List (Option ABlk)} (heb : BL [ints 3 c.ns c.fs, cfgB c, boolsW c.np (hasQ c 0)] eblks) :
 LoopV Tryz.prog (loopAt Tryz.prog 42 0) [1, 3, 4] [1, 1000, 1005] ((r4sV c 0).map some) eblks 52 1008 (mkFr 52 out) mF 100000000000000000000000000000000000000000000000000 e none := by
 refine loop_viewE hE1 (fuel := 300) (str := 10000000000000000000000000000000000000000) (nh := 1000000000000000000000000000000000000000000) (S := Nat) (fun k => k ≤ j) (fun k => j - k) [1, 3, 4] [2] [1, 1000, 1005] (r4sV c) (fun k => [ints 3 c.ns c.fs, cfgB c, boolsW c.np (hasQ c k)]) (by decide) (by decide) (by unfold lim; omega) (s0 := 0) (by omega) (fun _ => ⟨rfl, rfl⟩) (by kernel_rfl) heb (fun k _ => ⟨rfl, fun b hb => ?_⟩) ?_
 · simp only [List.mem_cons, List.not_mem_nil, or_false] at hb
   rcases hb with rfl | rfl | rfl
   · exact ints_low
   · exact cfgB_low (by omega)
   · exact wBlk_low
 intro k hk
 have ek : 0 + Int.toNat (Int.ofNat k) = k := by simp
 have hw : IntKind.wrap IntKind.i64 (Int.ofNat k + Int.ofNat 1) = Int.ofNat (k + 1) := by rw [wrap_nat _ (by simp; omega) (by simp; omega)]; rfl
 refine (?_ : (∃ p r, r4sR Tryz.prog c (hasQ c k) k p = some r ∧ _) → _) (r4s c (hasQ c k) k (StepV 1008 100000000000000000000000000000000000000000000000000 52 [1, 3, 4] [2] [1, 1000, 1005] (fun k => k ≤ j) (fun k => j - k) (r4sV c) (fun k => [ints 3 c.ns c.fs, cfgB c, boolsW c.np (hasQ c k)]) e out mF k) ?_)
 · rintro ⟨p, r, h1, h2⟩
   exact ⟨p, [], r, h1, h2⟩
 · simp only [ek, Nat.zero_add, decide_eq_true_eq, decide_eq_false_iff_not]
   rcases Nat.lt_or_ge k j with hlt | hge
   · have hm := hmin k hlt
     unfold BadS at hm
     simp only [not_or, Int.not_lt, Int.not_le] at hm
     obtain ⟨b1, b2⟩ := hm
     repeat' (first | refine ⟨fun h => ?_, fun h => ?_⟩ | fail)
     all_goals (first | (exfalso; simp only [Int.ofNat_eq_natCast] at *; omega) | skip)
     refine ⟨?_, rfl, by dsimp only; omega, rfl, .inl ⟨rfl, k + 1, by omega, by show j - (k + 1) < j - k; omega, ?_, BEq.refl _, BEq.refl _, ⟨rfl, rfl, rfl, rfl, .inr (.inl ⟨c.np, _, _, rfl, rfl, fun i hi => ?_⟩)⟩, trivial⟩⟩
     · simp only [allT, List.forall_mem_cons, inb_arr, inb_lit]
       simp only [Int.ofNat_eq_natCast, Int.toNat_natCast] at *
       simp
       omega
     · dsimp only; rw [hw]; rfl
     · show _ = List.map AC.v [Value.bool (hasQ c (k + 1) i)]
       rw [hasQ_succ]
       by_cases g1 : i = (c.fs k).toNat
       · simp [g1]; rfl
       · simp [g1]
   · obtain rfl : k = j := by omega
     rcases Nat.lt_or_ge k c.ns with hlt | hge
     · obtain ⟨rfl, rfl, rfl⟩ := hF.1 hlt
       have hm := hyes hlt
       unfold BadS at hm
       repeat' (first | refine ⟨fun h => ?_, fun h => ?_⟩ | fail)
       all_goals (first
        | (exfalso; simp only [Int.ofNat_eq_natCast] at *; omega)
        | (refine ⟨?_, rfl, by dsimp only; omega, rfl, .inr ⟨by simp, rfl, fun q hq => ?_, fun p hpp => (by cases hpp)⟩⟩
           · simp only [allT, List.forall_mem_cons, inb_arr, inb_lit]
             simp only [Int.ofNat_eq_natCast, Int.toNat_natCast] at *
             simp
             omega
           · rw [List.mem_singleton.1 hq]
             exact ⟨rfl, by simp [bo]⟩))
     · obtain rfl : k = c.ns := by omega
       obtain ⟨rfl, rfl, rfl⟩ := hF.2 rfl
       refine ⟨fun h => ?_, fun h => ?_⟩
       · exfalso; simp at h
       · refine ⟨by simp [allT], rfl, by dsimp only; omega, rfl, .inr ⟨by simp, rfl, fun q hq => ?_, fun p hpp => ?_⟩⟩
         · rw [List.mem_singleton.1 hq]
           exact ⟨rfl, by simp [lkA]⟩
         · rw [List.mem_singleton.1 hpp]
           exact ⟨rfl, wBlk_low, _, (by simp; rfl), BEq.refl _⟩
theorem st_sum (c : Cfg) (u : Nat → Bool) (hn : c.np ≤ 1000000) (j : Nat) (hj : j ≤ c.np) (hmin : ∀ i, i < j → u i = true) (hyes : j < c.np → u j = false) {e : Exit} {out : List (Nat × AV)}
 (hF : (j < c.np → e = .ret ∧ out = [(2, bo false)]) ∧ (j = c.np → e = .exit 2 ∧ out = [])) :
 LoopV Tryz.prog (loopAt Tryz.prog 42 1) [3, 5] [1005] ((r4tV c 0).map some) ([boolsW c.np u].map some) 52 100000000000000000000000000000000000000000000000001 (mkFr 52 out) [] 10000000000000000000000000000000000000000000000000000 e none := by
 refine scan_ob hE1 (fuel := 300) (str := 10000000000000000000000000000000000000000) (nh := 1000000000000000000000000000000000000000000000000000) [3, 5] [2] [1005] (r4tV c) [boolsW c.np u] j (by decide) (by decide) (by unfold lim; omega) ?_ (fun _ => ⟨rfl, rfl⟩) (by kernel_rfl) (fun k _ => rfl) ?_ ?_ ?_
 · rcases Nat.lt_or_ge j c.np with h | h
   · rw [(hF.1 h).1]; simp
   · rw [(hF.2 (by omega)).1]; simp
 · intro b hb
   rw [List.mem_singleton.1 hb]
   exact wBlk_low
 · intro k hk
   have hm := hmin k hk
   have hw : IntKind.wrap IntKind.i64 (Int.ofNat k + Int.ofNat 1) = Int.ofNat (k + 1) := by rw [wrap_nat _ (by simp; omega) (by simp; omega)]; rfl
   have ek : 0 + Int.toNat (Int.ofNat k) = k := by simp
   refine r4t c u k _ ?_
   simp only [ek]
   refine ⟨fun c1 => ⟨fun c2 => ?_, fun c2 => ?_⟩, fun c1 => ?_⟩
   · simp [hm] at c2
   · refine ⟨⟨?_, rfl, by dsimp only; omega, rfl⟩, rfl, ?_, BL.refl _⟩
     · simp [allT, inb_arr, hm]; omega
     · dsimp only; rw [hw]; rfl
   · simp at c1; omega
 · have ek : 0 + Int.toNat (Int.ofNat j) = j := by simp
   refine r4t c u j _ ?_
   simp only [ek]
   refine ⟨fun c1 => ⟨fun c2 => ?_, fun c2 => ?_⟩, fun c1 => ?_⟩
   · have hlt : j < c.np := by simpa using c1
     obtain ⟨rfl, rfl⟩ := hF.1 hlt
     refine EndV_one ⟨?_, rfl, by dsimp only; omega, rfl⟩ rfl rfl (by simp [bo])
     simp [allT, inb_arr, hyes hlt, hlt]
   · have hlt : j < c.np := by simpa using c1
     simp [hyes hlt] at c2
   · have hlt : ¬ j < c.np := by simpa using c1
     obtain ⟨rfl, rfl⟩ := hF.2 (by omega)
     refine EndV_nil ⟨?_, rfl, by dsimp only; omega, rfl⟩ rfl
     simp [allT]; omega
def slots4 (c : Cfg) : Bool := ((List.range c.ns).all fun k => decide (¬ BadS c k)) && (List.range c.np).all fun i => decide (¬ (hasQ c c.ns i = false))
def okSl (c : Cfg) : Bool := decide (c.np ≤ 1000000 ∧ c.ns ≤ 1000000)
theorem ct_slots4 : CtOk Tryz.prog 42 (ctCfg (fun c => bo (slots4 c)) okSl) := by
 refine ctCfg_of (E := E1 Tryz.prog) (fuel := 300) (str := 10000000000000000000000000000000000000000) hE1 ⟨_, _, Tryz.func42, rfl⟩ (fun c => bo_keep _) fun c hp => ?_
 obtain ⟨hnp, hns⟩ := of_decide_eq_true hp
 have heb : BL [ints 3 c.ns c.fs, cfgB c, boolsW c.np (hasQ c 0)] [some (ints 3 c.ns c.fs), some (cfgB c), some (ABlk.mk true true 4 1 (Cs.arr (Int.toNat ↑(Cfg.np c)) fun x => List.map AC.v (Array.toList (Value.cells (Value.bool false)))))] := ⟨BEq.refl _, BEq.refl _, ⟨rfl, rfl, rfl, rfl, .inr (.inl ⟨_, _, _, rfl, rfl, fun i hi => rfl⟩)⟩, trivial⟩
 obtain ⟨j, hj, hmin, hyes⟩ := first_stopP c.ns (BadS c)
 rcases Nat.lt_or_ge j c.ns with h | h
 · refine ⟨_, _, _, sc_bad c, ?_, by dsimp only; unfold lim; omega, ?_, fun q hq => ?_⟩
   · show bo false = bo (slots4 c)
     unfold slots4
     rw [all_stop h (hyes h)]
     rfl
   · simp [allT]; omega
   · rw [List.mem_singleton.1 hq]
     exact sl_sum c hns j hj hmin hyes ⟨fun _ => ⟨rfl, rfl, rfl⟩, fun h => by omega⟩ heb
 · obtain rfl : j = c.ns := by omega
   have hs := sl_sum c hns c.ns hj hmin hyes ⟨fun h => by omega, fun _ => ⟨rfl, rfl, rfl⟩⟩ heb
   obtain ⟨i, hi, him, hiy⟩ := first_stopP c.np fun i => hasQ c c.ns i = false
   have him' : ∀ k, k < i → hasQ c c.ns k = true := fun k hk => by simpa using him k hk
   rcases Nat.lt_or_ge i c.np with h2 | h2
   · refine ⟨_, _, _, sc_no c (hasQ c c.ns), ?_, by dsimp only; unfold lim; omega, ?_, fun q hq => ?_⟩
     · show bo false = bo (slots4 c)
       unfold slots4
       rw [all_stop h2 (hiy h2), Bool.and_false]
     · simp [allT]; omega
     · simp only [List.mem_cons, List.not_mem_nil, or_false] at hq
       rcases hq with rfl | rfl
       · exact st_sum c (hasQ c c.ns) hnp i hi him' hiy ⟨fun _ => ⟨rfl, rfl⟩, fun h => by omega⟩
       · exact hs
   · obtain rfl : i = c.np := by omega
     refine ⟨_, _, _, sc_yes c (hasQ c c.ns), ?_, by dsimp only; unfold lim; omega, ?_, fun q hq => ?_⟩
     · show bo true = bo (slots4 c)
       unfold slots4
       rw [all_end hmin, all_end him]
       rfl
     · simp [allT]; omega
     · simp only [List.mem_cons, List.not_mem_nil, or_false] at hq
       rcases hq with rfl | rfl
       · exact st_sum c (hasQ c c.ns) hnp c.np hi him' hiy ⟨fun h => by omega, fun _ => ⟨rfl, rfl⟩⟩
       · exact hs
end Go.Proofs.YtoelekmbmghicaaGreatDoor
end
/- rings.Step, rings.Distance, any direction: as the evaluator runs them. -/
section
namespace Go.Proofs.YtoelekmbmghicaaGreatDoor
open Go.RowKit
abbrev u8A (d : Int) : AV := .c (.v (.int .u8 d))
def distR (P : Program) (n d a b : Int) (path : List Dec) : Option VF := viewF [] (fCallF (E1 P) (fC (E1 P) 300) 98 [i64 n, u8A d, i64 a, i64 b] 1000 10000000000000000000000000000000000000000 (stA mS path []))
theorem stpD (n d a k : Int) (Q : VF → Prop) (H : let zq0 : List Bool := [decide (n ≥ Int.ofNat 4) == true]; let zq1 : List Bool := (decide (n ≤ Int.ofNat 16) == true) :: zq0; let zq2 : List Bool := ((!decide (d ≤ Int.ofNat 1)) == false) :: zq1; let zq3 : List Bool := (decide (a ≥ Int.ofNat 0) == true) :: zq2; (((decide (n ≥ Int.ofNat 4)) = true → (((decide (n ≤ Int.ofNat 16)) = true → (((!decide (d ≤ Int.ofNat 1)) = true → Q (.c (.v (.int .i64 (Int.negSucc 0))), [], 1019, (((!decide (d ≤ Int.ofNat 1)) == true) :: zq1), [])) ∧ ((!decide (d ≤ Int.ofNat 1)) = false → (((decide (a ≥ Int.ofNat 0)) = true → (((!decide (a < n)) = true → Q (.c (.v (.int .i64 (Int.negSucc 0))), [], 1031, (((!decide (a < n)) == true) :: zq3), [])) ∧ ((!decide (a < n)) = false → Q (.c (.v (.int .i64 (Int.tmod (IntKind.wrap .i64 (Int.tmod (IntKind.wrap .i64 (a + IntKind.wrap .i64 (asI (List.getD [.v (.int .i64 (Int.ofNat 1)), .v (.int .i64 (Int.negSucc 0))] (0 + Int.toNat d * 1) nov) * Int.tmod k n))) n + n)) n))), [], 120000000000000000000000000000000000001030, ((decide (n ≠ Int.ofNat 0)) :: (decide (n ≠ Int.ofNat 0)) :: (decide (n ≠ Int.ofNat 0)) :: (ABlk.inb (ABlk.mk false false 126 0 (Cs.lit [.v (.int .i64 (Int.ofNat 1)), .v (.int .i64 (Int.negSucc 0))])) 0 (0 + Int.toNat d * 1 + 1)) :: (okl (Kd.i .i64) (List.getD [.v (.int .i64 (Int.ofNat 1)), .v (.int .i64 (Int.negSucc 0))] (0 + Int.toNat d * 1) nov)) :: (decide (Int.ofNat 0 ≤ d ∧ d < Int.ofNat 2)) :: ((!decide (a < n)) == false) :: zq3), [])))) ∧ ((decide (a ≥ Int.ofNat 0)) = false → Q (.c (.v (.int .i64 (Int.negSucc 0))), [], 1028, ((decide (a ≥ Int.ofNat 0) == false) :: zq2), [])))))) ∧ ((decide (n ≤ Int.ofNat 16)) = false → Q (.c (.v (.int .i64 (Int.negSucc 0))), [], 1017, ((decide (n ≤ Int.ofNat 16) == false) :: zq0), [])))) ∧ ((decide (n ≥ Int.ofNat 4)) = false → Q (.c (.v (.int .i64 (Int.negSucc 0))), [], 1015, [decide (n ≥ Int.ofNat 4) == false], [])))) :
 ∃ p r, stepR Tryz.prog n d a k p = some r ∧ Q r :=
 two H
 (fun g1 => two g1
  (fun g2 => two g2
   (fun g3 => ⟨pD 9 91, _, by kernel_rfl, g3⟩)
   (fun g3 => two g3
    (fun g4 => two g4
     (fun g5 => ⟨pD 12 179506, _, by kernel_rfl, g5⟩)
     (fun g5 => ⟨pD 12 356653, _, by kernel_rfl, g5⟩))
    (fun g4 => ⟨pD 12 4546, _, by kernel_rfl, g4⟩)))
  (fun g2 => ⟨pD 9 19, _, by kernel_rfl, g2⟩))
 (fun g1 => ⟨pD 9 2, _, by kernel_rfl, g1⟩)
theorem dstD (n d a b : Int) (Q : VF → Prop) (H : let zq0 : List Bool := [decide (n ≥ Int.ofNat 4) == true]; let zq1 : List Bool := (decide (n ≤ Int.ofNat 16) == true) :: zq0; let zq2 : List Bool := ((!decide (d ≤ Int.ofNat 1)) == false) :: zq1; let zq3 : List Bool := (decide (a ≥ Int.ofNat 0) == true) :: zq2; let zq4 : List Bool := ((!decide (a < n)) == false) :: zq3; let zq5 : List Bool := (decide (b ≥ Int.ofNat 0) == true) :: zq4; (((decide (n ≥ Int.ofNat 4)) = true → (((decide (n ≤ Int.ofNat 16)) = true → (((!decide (d ≤ Int.ofNat 1)) = true → Q (.c (.v (.int .i64 (Int.negSucc 0))), [], 1021, (((!decide (d ≤ Int.ofNat 1)) == true) :: zq1), [])) ∧ ((!decide (d ≤ Int.ofNat 1)) = false → (((decide (a ≥ Int.ofNat 0)) = true → (((!decide (a < n)) = true → Q (.c (.v (.int .i64 (Int.negSucc 0))), [], 1033, (((!decide (a < n)) == true) :: zq3), [])) ∧ ((!decide (a < n)) = false → (((decide (b ≥ Int.ofNat 0)) = true → (((!decide (b < n)) = true → Q (.c (.v (.int .i64 (Int.negSucc 0))), [], 1045, (((!decide (b < n)) == true) :: zq5), [])) ∧ ((!decide (b < n)) = false → Q (.c (.v (.int .i64 (Int.tmod (IntKind.wrap .i64 (Int.tmod (IntKind.wrap .i64 (asI (List.getD [.v (.int .i64 (Int.ofNat 1)), .v (.int .i64 (Int.negSucc 0))] (0 + Int.toNat d * 1) nov) * IntKind.wrap .i64 (b - a))) n + n)) n))), [], 1062, ((decide (n ≠ Int.ofNat 0)) :: (decide (n ≠ Int.ofNat 0)) :: (ABlk.inb (ABlk.mk false false 126 0 (Cs.lit [.v (.int .i64 (Int.ofNat 1)), .v (.int .i64 (Int.negSucc 0))])) 0 (0 + Int.toNat d * 1 + 1)) :: (okl (Kd.i .i64) (List.getD [.v (.int .i64 (Int.ofNat 1)), .v (.int .i64 (Int.negSucc 0))] (0 + Int.toNat d * 1) nov)) :: (decide (Int.ofNat 0 ≤ d ∧ d < Int.ofNat 2)) :: ((!decide (b < n)) == false) :: zq5), [])))) ∧ ((decide (b ≥ Int.ofNat 0)) = false → Q (.c (.v (.int .i64 (Int.negSucc 0))), [], 1042, ((decide (b ≥ Int.ofNat 0) == false) :: zq4), [])))))) ∧ ((decide (a ≥ Int.ofNat 0)) = false → Q (.c (.v (.int .i64 (Int.negSucc 0))), [], 1030, ((decide (a ≥ Int.ofNat 0) == false) :: zq2), [])))))) ∧ ((decide (n ≤ Int.ofNat 16)) = false → Q (.c (.v (.int .i64 (Int.negSucc 0))), [], 1019, ((decide (n ≤ Int.ofNat 16) == false) :: zq0), [])))) ∧ ((decide (n ≥ Int.ofNat 4)) = false → Q (.c (.v (.int .i64 (Int.negSucc 0))), [], 1017, [decide (n ≥ Int.ofNat 4) == false], [])))) :
 ∃ p r, distR Tryz.prog n d a b p = some r ∧ Q r :=
 two H
 (fun g1 => two g1
  (fun g2 => two g2
   (fun g3 => ⟨pD 13 91, _, by kernel_rfl, g3⟩)
   (fun g3 => two g3
    (fun g4 => two g4
     (fun g5 => ⟨pD 16 179506, _, by kernel_rfl, g5⟩)
     (fun g5 => two g5
      (fun g6 => two g6
       (fun g7 => ⟨pD 19 392560111, _, by kernel_rfl, g7⟩)
       (fun g7 => ⟨pD 19 779980600, _, by kernel_rfl, g7⟩))
      (fun g6 => ⟨pD 19 9922591, _, by kernel_rfl, g6⟩)))
    (fun g4 => ⟨pD 16 4546, _, by kernel_rfl, g4⟩)))
  (fun g2 => ⟨pD 13 19, _, by kernel_rfl, g2⟩))
 (fun g1 => ⟨pD 13 2, _, by kernel_rfl, g1⟩)
end Go.Proofs.YtoelekmbmghicaaGreatDoor
end
/- Contracts of rings.Step, rings.Distance, any direction. -/
section
namespace Go.Proofs.YtoelekmbmghicaaGreatDoor
open Go.RowKit
def ringB (n d : Int) : Bool := decide (4 ≤ n) && (decide (n ≤ 16) && decide (d ≤ 1))
def nodeB (n a : Int) : Bool := decide (0 ≤ a) && decide (a < n)
def turnF (n d a k : Int) : Int := if (ringB n d && nodeB n a) = true then (if d = 0 then (a + k) % n else (a - k) % n) else -1
def distF (n d a b : Int) : Int := if (ringB n d && (nodeB n a && nodeB n b)) = true then (if d = 0 then (b - a) % n else (a - b) % n) else -1
theorem rnd_val {n x : Int} (h0 : 4 ≤ n) (h1 : n ≤ 16) (h2 : -1000000 ≤ x) (h3 : x ≤ 1000000) :
 (IntKind.wrap IntKind.i64 (Int.tmod x n + n)).tmod n = x % n := by
 have hn : 0 < n := by omega
 have u1 : x.tmod n < n := Int.tmod_lt_of_pos _ hn
 have u2 : -n < x.tmod n := Int.lt_tmod_of_pos _ hn
 have u3 : x.tmod n = x - n * x.tdiv n := Int.tmod_def _ _
 generalize x.tmod n = u at *
 rw [wrap_nat (u + n) (by omega) (by omega), Int.tmod_eq_emod_of_nonneg (by omega), Int.add_emod_right, u3]
 exact Int.sub_mul_emod_self_left _ _ _
theorem step_valS {n a k s : Int} (hs : s = 1 ∨ s = -1) (h0 : 4 ≤ n) (h1 : n ≤ 16) (h2 : 0 ≤ a) (h3 : a < n) :
 (IntKind.wrap IntKind.i64 (Int.tmod (IntKind.wrap IntKind.i64 (a + IntKind.wrap IntKind.i64 (s * Int.tmod k n))) n + n)).tmod n = (a + s * k) % n := by
 have hn : 0 < n := by omega
 have t1 : k.tmod n < n := Int.tmod_lt_of_pos _ hn
 have t2 : -n < k.tmod n := Int.lt_tmod_of_pos _ hn
 have t3 : k.tmod n = k - n * k.tdiv n := Int.tmod_def k n
 generalize k.tmod n = t at *
 have e : (a + s * t) % n = (a + s * k) % n := by
  rw [t3, show a + s * (k - n * k.tdiv n) = a + s * k - n * (s * k.tdiv n) by rw [Int.mul_sub, Int.mul_left_comm]; omega]
  exact Int.sub_mul_emod_self_left _ _ _
 rw [← e]
 rcases hs with rfl | rfl
 · rw [wrap_nat (1 * t) (by omega) (by omega), wrap_nat (a + 1 * t) (by omega) (by omega)]
   exact rnd_val h0 h1 (by omega) (by omega)
 · rw [wrap_nat (-1 * t) (by omega) (by omega), wrap_nat (a + -1 * t) (by omega) (by omega)]
   exact rnd_val h0 h1 (by omega) (by omega)
theorem dist_valS {n a b s : Int} (hs : s = 1 ∨ s = -1) (h0 : 4 ≤ n) (h1 : n ≤ 16) (h2 : 0 ≤ a) (h3 : a < n) (h4 : 0 ≤ b) (h5 : b < n) :
 (IntKind.wrap IntKind.i64 (Int.tmod (IntKind.wrap IntKind.i64 (s * IntKind.wrap IntKind.i64 (b - a))) n + n)).tmod n = (s * (b - a)) % n := by
 rw [wrap_nat (b - a) (by omega) (by omega)]
 rcases hs with rfl | rfl
 · rw [wrap_nat (1 * (b - a)) (by omega) (by omega)]
   exact rnd_val h0 h1 (by omega) (by omega)
 · rw [wrap_nat (-1 * (b - a)) (by omega) (by omega)]
   exact rnd_val h0 h1 (by omega) (by omega)
theorem dir_cases {d : Int} (h : 0 ≤ d) : d = 0 ∨ d = 1 ∨ 2 ≤ d := by omega
theorem step_allD (n d a k : Int) (h0 : 0 ≤ d) : ∃ p r, stepR Tryz.prog n d a k p = some r ∧ GoodF (i64 (turnF n d a k)) r := by
 refine stpD n d a k _ ?_
 rcases dir_cases h0 with rfl | rfl | hd
 all_goals ((repeat' (first | refine ⟨fun h => ?_, fun h => ?_⟩ | fail)))
 all_goals (first | (exfalso; simp at *; omega) | skip)
 all_goals (refine ⟨?_, (by first | (unfold lim; omega) | (dsimp only; unfold lim; omega)), ?_, by simp⟩)
 all_goals (simp only [Bool.not_eq_true', Bool.not_eq_false', decide_eq_true_eq, decide_eq_false_iff_not] at *)
 all_goals (simp only [Int.ofNat_eq_natCast] at *)
 all_goals first
  | (show i64 _ = i64 _
     have hm : (ringB n 0 && nodeB n a) = true := (by simp [ringB, nodeB]; omega)
     unfold turnF; rw [if_pos hm, if_pos rfl]
     have := step_valS (n := n) (a := a) (k := k) (s := 1) (.inl rfl) (by omega) (by omega) (by omega) (by omega)
     rw [Int.one_mul k] at this
     exact congrArg i64 this)
  | (show i64 _ = i64 _
     have hm : (ringB n 1 && nodeB n a) = true := (by simp [ringB, nodeB]; omega)
     unfold turnF; rw [if_pos hm, if_neg (by decide)]
     have := step_valS (n := n) (a := a) (k := k) (s := -1) (.inr rfl) (by omega) (by omega) (by omega) (by omega)
     rw [Int.neg_one_mul k] at this
     exact congrArg i64 this)
  | (show i64 _ = i64 _
     unfold turnF; rw [if_neg (by simp [ringB, nodeB]; omega)]; rfl)
  | (simp [allT, inb_lit, okl]; omega)
theorem dist_allD (n d a b : Int) (h0 : 0 ≤ d) : ∃ p r, distR Tryz.prog n d a b p = some r ∧ GoodF (i64 (distF n d a b)) r := by
 refine dstD n d a b _ ?_
 rcases dir_cases h0 with rfl | rfl | hd
 all_goals ((repeat' (first | refine ⟨fun h => ?_, fun h => ?_⟩ | fail)))
 all_goals (first | (exfalso; simp at *; omega) | skip)
 all_goals (refine ⟨?_, (by first | (unfold lim; omega) | (dsimp only; unfold lim; omega)), ?_, by simp⟩)
 all_goals (simp only [Bool.not_eq_true', Bool.not_eq_false', decide_eq_true_eq, decide_eq_false_iff_not] at *)
 all_goals (simp only [Int.ofNat_eq_natCast] at *)
 all_goals first
  | (show i64 _ = i64 _
     have hm : (ringB n 0 && (nodeB n a && nodeB n b)) = true := (by simp [ringB, nodeB]; omega)
     unfold distF; rw [if_pos hm, if_pos rfl]
     have := dist_valS (n := n) (a := a) (b := b) (s := 1) (.inl rfl) (by omega) (by omega) (by omega) (by omega) (by omega) (by omega)
     rw [Int.one_mul (b - a)] at this
     exact congrArg i64 this)
  | (show i64 _ = i64 _
     have hm : (ringB n 1 && (nodeB n a && nodeB n b)) = true := (by simp [ringB, nodeB]; omega)
     unfold distF; rw [if_pos hm, if_neg (by decide)]
     have := dist_valS (n := n) (a := a) (b := b) (s := -1) (.inr rfl) (by omega) (by omega) (by omega) (by omega) (by omega) (by omega)
     rw [Int.neg_one_mul (b - a), Int.neg_sub] at this
     exact congrArg i64 this)
  | (show i64 _ = i64 _
     unfold distF; rw [if_neg (by simp [ringB, nodeB]; omega)]; rfl)
  | (simp [allT, inb_lit, okl]; omega)
def okN4 : List AV → Bool
 | [.c (.v (.int .i64 _)), .c (.v (.int .u8 d)), .c (.v (.int .i64 _)), .c (.v (.int .i64 _))] => decide (0 ≤ d)
 | _ => false
theorem okN4_eq (n d a b : Int) : okN4 [.c (.v (.int .i64 n)), .c (.v (.int .u8 d)), .c (.v (.int .i64 a)), .c (.v (.int .i64 b))] = decide (0 ≤ d) := rfl
def ctStepD : CtF := ctRd (pureRd mS (by kernel_rfl)) (fun | [.c (.v (.int .i64 n)), .c (.v (.int .u8 d)), .c (.v (.int .i64 a)), .c (.v (.int .i64 k))] => i64 (turnF n d a k) | _ => i64 0) okN4
def ctDistD : CtF := ctRd (pureRd mS (by kernel_rfl)) (fun | [.c (.v (.int .i64 n)), .c (.v (.int .u8 d)), .c (.v (.int .i64 a)), .c (.v (.int .i64 k))] => i64 (distF n d a k) | _ => i64 0) okN4
theorem ct_stepD : CtOk Tryz.prog 34 ctStepD := by
 refine ctRd_ofE (E := E1 Tryz.prog) hE1 (pureRd mS (by kernel_rfl)) (fuel := 300) (str := 10000000000000000000000000000000000000000) ⟨_, _, Tryz.func34, rfl⟩ (fun s => by split <;> rfl) fun s hs => ?_
 unfold okN4 at hs
 split at hs
 · rename_i n d a k
   obtain ⟨p, r, h1, h2⟩ := step_allD n d a k (of_decide_eq_true hs)
   exact ⟨p, [], r, h1, h2⟩
 · cases hs
theorem ct_distD : CtOk Tryz.prog 98 ctDistD := by
 refine ctRd_ofE (E := E1 Tryz.prog) hE1 (pureRd mS (by kernel_rfl)) (fuel := 300) (str := 10000000000000000000000000000000000000000) ⟨_, _, Tryz.func98, rfl⟩ (fun s => by split <;> rfl) fun s hs => ?_
 unfold okN4 at hs
 split at hs
 · rename_i n d a k
   obtain ⟨p, r, h1, h2⟩ := dist_allD n d a k (of_decide_eq_true hs)
   exact ⟨p, [], r, h1, h2⟩
 · cases hs
end Go.Proofs.YtoelekmbmghicaaGreatDoor
end
/- The variables that are laid, as the evaluator has them. -/
section
namespace Go.Proofs.YtoelekmbmghicaaGreatDoor
open Go.RowKit
def rolesB : ABlk := ⟨false, false, 115, 0, .lit [.v (.int .u8 1), .v (.int .u8 1), .v (.int .u8 2)]⟩
def mSR : AMem := [(gid 1, signB), (gid 0, rolesB)]
end Go.Proofs.YtoelekmbmghicaaGreatDoor
end
/- bits.Put of eight bits, as the evaluator runs it. -/
section
namespace Go.Proofs.YtoelekmbmghicaaGreatDoor
open Go.RowKit
abbrev symB (n : Nat) (f : Nat → Int) : ABlk := rBlk 49 1 n fun i => [.int .u8 (f i)]
def frPut (P : Program) (ids : List Nat) (a : AV) (m : AMem) (x : Int) (path : List Dec) : Option VF := viewF ids (fCallF (E1 P) (fC (E1 P) 300) 96 [a, .c (.v (.int .u64 x)), i64 8] 1000 10000000000000000000000000000000000000000 (stA m path []))
theorem frP0 (x : Int) (Q : VF → Prop) (H : Q (.c (.sl 1128 0 0 8 (some 8)), [some (ABlk.mk true true 49 1 (Cs.arr 8 fun i => if i < 7 then if i < 6 then if i < 5 then if i < 4 then if i < 3 then if i < 2 then if i < 1 then if i < 0 then [] else elt (ABlk.mk true false 49 0 (Cs.lit [.v (.int .u8 (IntKind.wrap .u8 (Int.ofNat 1 + IntKind.wrap .u8 (IntKind.wrap .u64 ↑(BitVec.toNat (BitVec.ofInt (IntKind.bits .u64) (Int.fdiv x (Int.ofNat 128)) &&& BitVec.ofInt (IntKind.bits .u64) 1))))))])) 0 0 1 (i - 0) else elt (ABlk.mk true false 49 0 (Cs.lit [.v (.int .u8 (IntKind.wrap .u8 (Int.ofNat 1 + IntKind.wrap .u8 (IntKind.wrap .u64 ↑(BitVec.toNat (BitVec.ofInt (IntKind.bits .u64) (Int.fdiv x (Int.ofNat 64)) &&& BitVec.ofInt (IntKind.bits .u64) 1))))))])) 0 0 1 (i - 1) else elt (ABlk.mk true false 49 0 (Cs.lit [.v (.int .u8 (IntKind.wrap .u8 (Int.ofNat 1 + IntKind.wrap .u8 (IntKind.wrap .u64 ↑(BitVec.toNat (BitVec.ofInt (IntKind.bits .u64) (Int.fdiv x (Int.ofNat 32)) &&& BitVec.ofInt (IntKind.bits .u64) 1))))))])) 0 0 1 (i - 2) else elt (ABlk.mk true false 49 0 (Cs.lit [.v (.int .u8 (IntKind.wrap .u8 (Int.ofNat 1 + IntKind.wrap .u8 (IntKind.wrap .u64 ↑(BitVec.toNat (BitVec.ofInt (IntKind.bits .u64) (Int.fdiv x (Int.ofNat 16)) &&& BitVec.ofInt (IntKind.bits .u64) 1))))))])) 0 0 1 (i - 3) else elt (ABlk.mk true false 49 0 (Cs.lit [.v (.int .u8 (IntKind.wrap .u8 (Int.ofNat 1 + IntKind.wrap .u8 (IntKind.wrap .u64 ↑(BitVec.toNat (BitVec.ofInt (IntKind.bits .u64) (Int.fdiv x (Int.ofNat 8)) &&& BitVec.ofInt (IntKind.bits .u64) 1))))))])) 0 0 1 (i - 4) else elt (ABlk.mk true false 49 0 (Cs.lit [.v (.int .u8 (IntKind.wrap .u8 (Int.ofNat 1 + IntKind.wrap .u8 (IntKind.wrap .u64 ↑(BitVec.toNat (BitVec.ofInt (IntKind.bits .u64) (Int.fdiv x (Int.ofNat 4)) &&& BitVec.ofInt (IntKind.bits .u64) 1))))))])) 0 0 1 (i - 5) else elt (ABlk.mk true false 49 0 (Cs.lit [.v (.int .u8 (IntKind.wrap .u8 (Int.ofNat 1 + IntKind.wrap .u8 (IntKind.wrap .u64 ↑(BitVec.toNat (BitVec.ofInt (IntKind.bits .u64) (Int.fdiv x (Int.ofNat 2)) &&& BitVec.ofInt (IntKind.bits .u64) 1))))))])) 0 0 1 (i - 6) else elt (ABlk.mk true false 49 0 (Cs.lit [.v (.int .u8 (IntKind.wrap .u8 (Int.ofNat 1 + IntKind.wrap .u8 (IntKind.wrap .u64 ↑(BitVec.toNat (BitVec.ofInt (IntKind.bits .u64) (Int.fdiv x (Int.ofNat 1)) &&& BitVec.ofInt (IntKind.bits .u64) 1))))))])) 0 0 1 (i - 7)))], 1142, [true, true, true, true, true, true, true, true, true, true, true, true, true, true, true, true, true, true, true, true, true, true, true, true, true, true, true, true, true, true, true, true, true, true, true, true, true, true, true, true, true, true, true], [])) :
 ∃ p r, frPut Tryz.prog [1128] (.c (.v (.slice none 0 0))) [] x p = some r ∧ Q r :=
 ⟨pD 10 0, _, by kernel_rfl, H⟩
theorem frP1 (n : Nat) (f : Nat → Int) (x : Int) (Q : VF → Prop) (H : let zz0 := (ABlk.mk true true 49 1 (Cs.arr (0 + n + 1 + 1 + 1 + 1 + 1 + 1 + 1 + 1) fun i => if i < 0 + n + 1 + 1 + 1 + 1 + 1 + 1 + 1 then if i < 0 + n + 1 + 1 + 1 + 1 + 1 + 1 then if i < 0 + n + 1 + 1 + 1 + 1 + 1 then if i < 0 + n + 1 + 1 + 1 + 1 then if i < 0 + n + 1 + 1 + 1 then if i < 0 + n + 1 + 1 then if i < 0 + n + 1 then if i < 0 + n then if i < 0 then [] else elt (ABlk.mk false false 49 1 (Cs.arr n fun k => List.map AC.v ((fun i => [Value.int IntKind.u8 (f i)]) k))) 0 0 1 (i - 0) else elt (ABlk.mk true false 49 0 (Cs.lit [AC.v (Value.int IntKind.u8 (IntKind.wrap IntKind.u8 (Int.ofNat 1 + IntKind.wrap IntKind.u8 (IntKind.wrap IntKind.u64 ↑(BitVec.toNat (BitVec.ofInt (IntKind.bits IntKind.u64) (Int.fdiv x (Int.ofNat 128)) &&& BitVec.ofInt (IntKind.bits IntKind.u64) 1))))))])) 0 0 1 (i - (0 + n)) else elt (ABlk.mk true false 49 0 (Cs.lit [AC.v (Value.int IntKind.u8 (IntKind.wrap IntKind.u8 (Int.ofNat 1 + IntKind.wrap IntKind.u8 (IntKind.wrap IntKind.u64 ↑(BitVec.toNat (BitVec.ofInt (IntKind.bits IntKind.u64) (Int.fdiv x (Int.ofNat 64)) &&& BitVec.ofInt (IntKind.bits IntKind.u64) 1))))))])) 0 0 1 (i - (0 + n + 1)) else elt (ABlk.mk true false 49 0 (Cs.lit [AC.v (Value.int IntKind.u8 (IntKind.wrap IntKind.u8 (Int.ofNat 1 + IntKind.wrap IntKind.u8 (IntKind.wrap IntKind.u64 ↑(BitVec.toNat (BitVec.ofInt (IntKind.bits IntKind.u64) (Int.fdiv x (Int.ofNat 32)) &&& BitVec.ofInt (IntKind.bits IntKind.u64) 1))))))])) 0 0 1 (i - (0 + n + 1 + 1)) else elt (ABlk.mk true false 49 0 (Cs.lit [AC.v (Value.int IntKind.u8 (IntKind.wrap IntKind.u8 (Int.ofNat 1 + IntKind.wrap IntKind.u8 (IntKind.wrap IntKind.u64 ↑(BitVec.toNat (BitVec.ofInt (IntKind.bits IntKind.u64) (Int.fdiv x (Int.ofNat 16)) &&& BitVec.ofInt (IntKind.bits IntKind.u64) 1))))))])) 0 0 1 (i - (0 + n + 1 + 1 + 1)) else elt (ABlk.mk true false 49 0 (Cs.lit [AC.v (Value.int IntKind.u8 (IntKind.wrap IntKind.u8 (Int.ofNat 1 + IntKind.wrap IntKind.u8 (IntKind.wrap IntKind.u64 ↑(BitVec.toNat (BitVec.ofInt (IntKind.bits IntKind.u64) (Int.fdiv x (Int.ofNat 8)) &&& BitVec.ofInt (IntKind.bits IntKind.u64) 1))))))])) 0 0 1 (i - (0 + n + 1 + 1 + 1 + 1)) else elt (ABlk.mk true false 49 0 (Cs.lit [AC.v (Value.int IntKind.u8 (IntKind.wrap IntKind.u8 (Int.ofNat 1 + IntKind.wrap IntKind.u8 (IntKind.wrap IntKind.u64 ↑(BitVec.toNat (BitVec.ofInt (IntKind.bits IntKind.u64) (Int.fdiv x (Int.ofNat 4)) &&& BitVec.ofInt (IntKind.bits IntKind.u64) 1))))))])) 0 0 1 (i - (0 + n + 1 + 1 + 1 + 1 + 1)) else elt (ABlk.mk true false 49 0 (Cs.lit [AC.v (Value.int IntKind.u8 (IntKind.wrap IntKind.u8 (Int.ofNat 1 + IntKind.wrap IntKind.u8 (IntKind.wrap IntKind.u64 ↑(BitVec.toNat (BitVec.ofInt (IntKind.bits IntKind.u64) (Int.fdiv x (Int.ofNat 2)) &&& BitVec.ofInt (IntKind.bits IntKind.u64) 1))))))])) 0 0 1 (i - (0 + n + 1 + 1 + 1 + 1 + 1 + 1)) else elt (ABlk.mk true false 49 0 (Cs.lit [AC.v (Value.int IntKind.u8 (IntKind.wrap IntKind.u8 (Int.ofNat 1 + IntKind.wrap IntKind.u8 (IntKind.wrap IntKind.u64 ↑(BitVec.toNat (BitVec.ofInt (IntKind.bits IntKind.u64) (Int.fdiv x (Int.ofNat 1)) &&& BitVec.ofInt (IntKind.bits IntKind.u64) 1))))))])) 0 0 1 (i - (0 + n + 1 + 1 + 1 + 1 + 1 + 1 + 1)))); Q (.c (.sl 1131 0 0 (Int.toNat (Option.getD (some ↑(0 + n + 1 + 1 + 1 + 1 + 1 + 1 + 1 + 1)) ↑(0 + n + 1 + 1 + 1 + 1 + 1 + 1 + 1 + 1) - Int.ofNat 0)) (some (Int.toNat (↑(0 + n + 1 + 1 + 1 + 1 + 1 + 1 + 1 + 1) - Int.ofNat 0)))), [some zz0], 1145, [decide (Int.ofNat 0 ≤ Int.ofNat 0 ∧ Int.ofNat 0 ≤ Option.getD (some ↑(0 + n + 1 + 1 + 1 + 1 + 1 + 1 + 1 + 1)) ↑(0 + n + 1 + 1 + 1 + 1 + 1 + 1 + 1 + 1) ∧ Option.getD (some ↑(0 + n + 1 + 1 + 1 + 1 + 1 + 1 + 1 + 1)) ↑(0 + n + 1 + 1 + 1 + 1 + 1 + 1 + 1 + 1) ≤ slC none (0 + n + 1 + 1 + 1 + 1 + 1 + 1 + 1 + 1) (some ↑(0 + n + 1 + 1 + 1 + 1 + 1 + 1 + 1 + 1))), true, decide (slC none (0 + n + 1 + 1 + 1 + 1 + 1 + 1 + 1 + 1) (some ↑(0 + n + 1 + 1 + 1 + 1 + 1 + 1 + 1 + 1)) ≤ ↑(Option.getD none (0 + n + 1 + 1 + 1 + 1 + 1 + 1 + 1 + 1))), true, slRow none zz0 0 (0 + n + 1 + 1 + 1 + 1 + 1 + 1 + 1 + 1), true, true, decide (0 + n + 1 + 1 + 1 + 1 + 1 + 1 + 1 ≤ 0 + n + 1 + 1 + 1 + 1 + 1 + 1 + 1), decide ((0 + n + 1 + 1 + 1 + 1 + 1 + 1 + 1 + 1) * 1 ≤ 140737488355328), true, true, true, decide (0 + n + 1 + 1 + 1 + 1 + 1 + 1 ≤ 0 + n + 1 + 1 + 1 + 1 + 1 + 1), decide ((0 + n + 1 + 1 + 1 + 1 + 1 + 1 + 1) * 1 ≤ 140737488355328), true, true, true, decide (0 + n + 1 + 1 + 1 + 1 + 1 ≤ 0 + n + 1 + 1 + 1 + 1 + 1), decide ((0 + n + 1 + 1 + 1 + 1 + 1 + 1) * 1 ≤ 140737488355328), true, true, true, decide (0 + n + 1 + 1 + 1 + 1 ≤ 0 + n + 1 + 1 + 1 + 1), decide ((0 + n + 1 + 1 + 1 + 1 + 1) * 1 ≤ 140737488355328), true, true, true, decide (0 + n + 1 + 1 + 1 ≤ 0 + n + 1 + 1 + 1), decide ((0 + n + 1 + 1 + 1 + 1) * 1 ≤ 140737488355328), true, true, true, decide (0 + n + 1 + 1 ≤ 0 + n + 1 + 1), decide ((0 + n + 1 + 1 + 1) * 1 ≤ 140737488355328), true, true, true, decide (0 + n + 1 ≤ 0 + n + 1), decide ((0 + n + 1 + 1) * 1 ≤ 140737488355328), true, true, true, decide (0 + n ≤ 0 + n), decide ((0 + n + 1) * 1 ≤ 140737488355328), true, decide (0 + n ≤ n), true, true, decide ((0 + n) * 1 ≤ 140737488355328), ABlk.inb (ABlk.mk false false 49 1 (Cs.arr n fun k => List.map AC.v ((fun i => [Value.int .u8 (f i)]) k))) 0 1], [])) :
 ∃ p r, frPut Tryz.prog [1131] (.c (.sl 0 0 0 n none)) [(0, symB n f)] x p = some r ∧ Q r :=
 ⟨pD 10 0, _, by kernel_rfl, H⟩
def frMay (P : Program) (o k st q v : Int) (path : List Dec) : Option VF := viewF [] (fCallF (E1 P) (fC (E1 P) 300) 69 [.agg [.v (.int .i64 o), .v (.int .u8 k), .v (.int .u8 st), .v (.int .u32 q), .v (.int .u32 v)]] 1000 10000000000000000000000000000000000000000 (stA [] path []))
theorem frMy (o k st q v : Int) (Q : VF → Prop) (H : (((decide (o ≥ Int.ofNat 0)) = true → (((decide (o < Int.ofNat 8)) = true → (((k == Int.ofNat 1) = true → Q (.c (.v (.bool true)), [], 1019, [(k == Int.ofNat 1) == true, true, true, decide (o < Int.ofNat 8) == true, true, true, decide (o ≥ Int.ofNat 0) == true, true, true], [])) ∧ ((k == Int.ofNat 1) = false → Q (.c (.v (.bool (k == Int.ofNat 2))), [], 1023, [true, true, (k == Int.ofNat 1) == false, true, true, decide (o < Int.ofNat 8) == true, true, true, decide (o ≥ Int.ofNat 0) == true, true, true], [])))) ∧ ((decide (o < Int.ofNat 8)) = false → Q (.c (.v (.bool false)), [], 1013, [decide (o < Int.ofNat 8) == false, true, true, decide (o ≥ Int.ofNat 0) == true, true, true], [])))) ∧ ((decide (o ≥ Int.ofNat 0)) = false → Q (.c (.v (.bool false)), [], 1010, [decide (o ≥ Int.ofNat 0) == false, true, true], [])))) :
 ∃ p r, frMay Tryz.prog o k st q v p = some r ∧ Q r :=
 two H
 (fun g1 => two g1
  (fun g2 => two g2
   (fun g3 => ⟨pD 13 6589, _, by kernel_rfl, g3⟩)
   (fun g3 => ⟨pD 13 13150, _, by kernel_rfl, g3⟩))
  (fun g2 => ⟨pD 9 55, _, by kernel_rfl, g2⟩))
 (fun g1 => ⟨pD 9 2, _, by kernel_rfl, g1⟩)
end Go.Proofs.YtoelekmbmghicaaGreatDoor
end
/- Contract of bits.Put of eight bits. -/
section
namespace Go.Proofs.YtoelekmbmghicaaGreatDoor
open Go.RowKit
def symZ (x : Int) (i : Nat) : Int := if crBit x.toNat i then 2 else 1
def pu8F (n : Nat) (f : Nat → Int) (x : Int) : Nat → Int := fun i => if i < n then f i else symZ x (i - n)
def fS (F : Nat → List AC) : Nat → Int := fun i => asI ((F i).getD 0 nov)
def isU8 : List AC → Bool
 | [.v (.int .u8 _)] => true
 | _ => false
def symsOk (n : Nat) (F : Nat → List AC) : Bool := (List.range n).all fun i => isU8 (F i)
theorem symsOk_eq {n : Nat} {F : Nat → List AC} (h : symsOk n F = true) (i : Nat) (hi : i < n) : F i = [Value.int .u8 (fS F i)].map .v := by
 have h1 := List.all_eq_true.1 h i (by simpa using hi)
 unfold isU8 at h1
 split at h1
 · rename_i z e
   unfold fS
   rw [e]
   rfl
 · cases h1
theorem symsOk_of {n : Nat} {F : Nat → List AC} {f : Nat → Int} (h : ∀ i, i < n → F i = [.v (.int .u8 (f i))]) : symsOk n F = true := List.all_eq_true.2 fun i hi => by rw [h i (by simpa using hi)]; rfl
def symRd : Rd (LstS Int) := oneRd 1 49 Nat.one_pos fS (fun z => [.int .u8 z]) (fun _ => rfl) symsOk (fun h i hi => symsOk_eq h i hi)
theorem and1 (a : Nat) : BitVec.toNat (BitVec.ofInt (IntKind.bits .u64) (a : Int) &&& BitVec.ofInt (IntKind.bits .u64) 1) = a % 2 := by
 show BitVec.toNat (BitVec.ofInt 64 (a : Int) &&& BitVec.ofInt 64 1) = a % 2
 rw [BitVec.ofInt_natCast, show BitVec.ofInt 64 1 = 1#64 from rfl, BitVec.toNat_and, BitVec.toNat_ofNat, show (1#64).toNat = 1 from rfl, Nat.and_one_is_mod]
 omega
theorem bit_sym {x : Int} (h0 : 0 ≤ x) {d : Int} {k i : Nat} (hd : d = ((2 ^ k : Nat) : Int)) (hk : k + i = 7) : IntKind.wrap .u8 (Int.ofNat 1 + IntKind.wrap .u8 (IntKind.wrap .u64 ((BitVec.toNat (BitVec.ofInt (IntKind.bits .u64) (Int.fdiv x d) &&& BitVec.ofInt (IntKind.bits .u64) 1) : Nat) : Int))) = symZ x i := by
 obtain ⟨b, rfl⟩ := Int.eq_ofNat_of_zero_le h0
 subst hd
 have e : Int.fdiv (b : Int) ((2 ^ k : Nat) : Int) = ((b / 2 ^ k : Nat) : Int) := by rw [Int.fdiv_eq_ediv_of_nonneg _ (Int.natCast_nonneg _)]; rfl
 rw [e, and1]
 have m := Nat.mod_two_eq_zero_or_one (b / 2 ^ k)
 have hz : symZ (b : Int) i = if (b / 2 ^ k) % 2 = 1 then 2 else 1 := by
  unfold symZ crBit
  rw [decide_eq_true (show i < 8 by omega), Bool.true_and, show 7 - i = k by omega, Int.toNat_natCast, Nat.testBit_eq_decide_div_mod_eq]
  simp
 rw [hz]
 rcases m with m | m <;> rw [m] <;> rfl
def pu8A (xs : List AV) : Bool := match xs with
 | [.c (.v (.slice none 0 0)), .c (.v (.int .u64 x)), .c (.v (.int .i64 8))] => decide (0 ≤ x)
 | _ => false
def pu8X (xs : List AV) : Int := match xs with
 | [_, .c (.v (.int .u64 x)), _] => x
 | _ => 0
def pu8B (s : LstS Int) : Bool := match s with
 | ⟨n, _, [.c (.v (.int .u64 x)), .c (.v (.int .i64 8))]⟩ => decide (1 ≤ n ∧ n ≤ 100000) && decide (0 ≤ x)
 | _ => false
def pu8Y (s : LstS Int) : Int := match s.rest with
 | [.c (.v (.int .u64 x)), _] => x
 | _ => 0
abbrev symW (n : Nat) (f : Nat → Int) : ABlk := wBlk 49 1 n fun i => [.int .u8 (f i)]
def ctPutA : CtF := ctRdV (pureRd [] rfl) (fun _ => 8) (fun _ => some 8) (fun s => symW 8 (symZ (pu8X s))) pu8A
def ctPutB : CtF := ctRdV symRd (fun s => s.n + 8) (fun s => some (s.n + 8)) (fun s => symW (s.n + 8) (pu8F s.n s.f (pu8Y s))) pu8B
theorem ct_putA : CtOk Tryz.prog 96 ctPutA := by
 refine ctRdV_of (E := E1 Tryz.prog) hE1 (pureRd [] rfl) (fuel := 300) (str := 10000000000000000000000000000000000000000) 1128 ⟨_, _, Tryz.func96, rfl⟩ (fun _ => rfl) (fun _ => ⟨_, _, rfl⟩) (fun _ => wBlk_pl (fun _ => rfl)) fun s hs => ?_
 unfold pu8A at hs
 split at hs
 · rename_i x
   have hx := of_decide_eq_true hs
   refine (?_ : (∃ p q, frPut Tryz.prog [1128] (.c (.v (.slice none 0 0))) [] x p = some q ∧ GoodW 1128 8 (some 8) (symW 8 (symZ x)) q) → _) (frP0 x _ ?_)
   · rintro ⟨p, q, h1, h2⟩
     exact ⟨p, [], q, h1, h2⟩
   · refine ⟨rfl, ⟨_, rfl, ⟨rfl, rfl, rfl, rfl, .inr (.inl ⟨_, _, _, rfl, rfl, fun i hi => ?_⟩)⟩⟩, (by first | (unfold lim; omega) | (dsimp only; unfold lim; omega)), by simp [allT], by simp⟩
     have : i = 0 ∨ i = 1 ∨ i = 2 ∨ i = 3 ∨ i = 4 ∨ i = 5 ∨ i = 6 ∨ i = 7 := by omega
     rcases this with rfl | rfl | rfl | rfl | rfl | rfl | rfl | rfl
     · exact congrArg (fun z => [AC.v (Value.int IntKind.u8 z)]) (bit_sym hx (d := Int.ofNat 128) (k := 7) (i := 0) rfl rfl)
     · exact congrArg (fun z => [AC.v (Value.int IntKind.u8 z)]) (bit_sym hx (d := Int.ofNat 64) (k := 6) (i := 1) rfl rfl)
     · exact congrArg (fun z => [AC.v (Value.int IntKind.u8 z)]) (bit_sym hx (d := Int.ofNat 32) (k := 5) (i := 2) rfl rfl)
     · exact congrArg (fun z => [AC.v (Value.int IntKind.u8 z)]) (bit_sym hx (d := Int.ofNat 16) (k := 4) (i := 3) rfl rfl)
     · exact congrArg (fun z => [AC.v (Value.int IntKind.u8 z)]) (bit_sym hx (d := Int.ofNat 8) (k := 3) (i := 4) rfl rfl)
     · exact congrArg (fun z => [AC.v (Value.int IntKind.u8 z)]) (bit_sym hx (d := Int.ofNat 4) (k := 2) (i := 5) rfl rfl)
     · exact congrArg (fun z => [AC.v (Value.int IntKind.u8 z)]) (bit_sym hx (d := Int.ofNat 2) (k := 1) (i := 6) rfl rfl)
     · exact congrArg (fun z => [AC.v (Value.int IntKind.u8 z)]) (bit_sym hx (d := Int.ofNat 1) (k := 0) (i := 7) rfl rfl)
 · cases hs
theorem ct_putB : CtOk Tryz.prog 96 ctPutB := by
 refine ctRdV_of (E := E1 Tryz.prog) hE1 symRd (fuel := 300) (str := 10000000000000000000000000000000000000000) 1131 ⟨_, _, Tryz.func96, rfl⟩ (fun _ => rfl) (fun _ => ⟨_, _, rfl⟩) (fun _ => wBlk_pl (fun _ => rfl)) fun s hs => ?_
 unfold pu8B at hs
 split at hs
 · rename_i n f x
   simp only [Bool.and_eq_true, decide_eq_true_eq] at hs
   obtain ⟨⟨n1, n2⟩, hx⟩ := hs
   refine (?_ : (∃ p q, frPut Tryz.prog [1131] (.c (.sl 0 0 0 n none)) [(0, symB n f)] x p = some q ∧ GoodW 1131 (n + 8) (some (n + 8)) (symW (n + 8) (pu8F n f x)) q) → _) (frP1 n f x _ ?_)
   · rintro ⟨p, q, h1, h2⟩
     exact ⟨p, [], q, h1, h2⟩
   · simp only [Nat.zero_add, Nat.add_assoc, Nat.reduceAdd]
     refine ⟨by simp; omega, ⟨_, rfl, ⟨rfl, rfl, rfl, rfl, .inr (.inl ⟨_, _, _, rfl, rfl, fun i hi => ?_⟩)⟩⟩, (by first | (unfold lim; omega) | (dsimp only; unfold lim; omega)), ?_, by simp⟩
     · have e : ∀ j, pu8F n f x (n + j) = symZ x j := fun j => by unfold pu8F; rw [if_neg (by omega), Nat.add_sub_cancel_left]
       have : i < n ∨ i = n ∨ i = n + 1 ∨ i = n + 2 ∨ i = n + 3 ∨ i = n + 4 ∨ i = n + 5 ∨ i = n + 6 ∨ i = n + 7 := by omega
       rcases this with h | h0 | rfl | rfl | rfl | rfl | rfl | rfl | rfl
       · rw [if_pos (show i < n + 7 by omega), if_pos (show i < n + 6 by omega), if_pos (show i < n + 5 by omega), if_pos (show i < n + 4 by omega), if_pos (show i < n + 3 by omega), if_pos (show i < n + 2 by omega), if_pos (show i < n + 1 by omega), if_pos h, if_neg (Nat.not_lt_zero i)]
         unfold pu8F
         dsimp only
         rw [if_pos h]
         simp [elt]
       · rw [h0, if_pos (show n < n + 7 by omega), if_pos (show n < n + 6 by omega), if_pos (show n < n + 5 by omega), if_pos (show n < n + 4 by omega), if_pos (show n < n + 3 by omega), if_pos (show n < n + 2 by omega), if_pos (show n < n + 1 by omega), if_neg (show ¬ n < n by omega), show n - n = 0 by omega]
         dsimp only
         rw [show pu8F n f x n = symZ x 0 from e 0]
         exact congrArg (fun z => [AC.v (Value.int IntKind.u8 z)]) (bit_sym hx (d := Int.ofNat 128) (k := 7) (i := 0) rfl rfl)
       · rw [if_pos (show n + 1 < n + 7 by omega), if_pos (show n + 1 < n + 6 by omega), if_pos (show n + 1 < n + 5 by omega), if_pos (show n + 1 < n + 4 by omega), if_pos (show n + 1 < n + 3 by omega), if_pos (show n + 1 < n + 2 by omega), if_neg (show ¬ n + 1 < n + 1 by omega), show n + 1 - (n + 1) = 0 by omega]
         dsimp only
         rw [e]
         exact congrArg (fun z => [AC.v (Value.int IntKind.u8 z)]) (bit_sym hx (d := Int.ofNat 64) (k := 6) (i := 1) rfl rfl)
       · rw [if_pos (show n + 2 < n + 7 by omega), if_pos (show n + 2 < n + 6 by omega), if_pos (show n + 2 < n + 5 by omega), if_pos (show n + 2 < n + 4 by omega), if_pos (show n + 2 < n + 3 by omega), if_neg (show ¬ n + 2 < n + 2 by omega), show n + 2 - (n + 2) = 0 by omega]
         dsimp only
         rw [e]
         exact congrArg (fun z => [AC.v (Value.int IntKind.u8 z)]) (bit_sym hx (d := Int.ofNat 32) (k := 5) (i := 2) rfl rfl)
       · rw [if_pos (show n + 3 < n + 7 by omega), if_pos (show n + 3 < n + 6 by omega), if_pos (show n + 3 < n + 5 by omega), if_pos (show n + 3 < n + 4 by omega), if_neg (show ¬ n + 3 < n + 3 by omega), show n + 3 - (n + 3) = 0 by omega]
         dsimp only
         rw [e]
         exact congrArg (fun z => [AC.v (Value.int IntKind.u8 z)]) (bit_sym hx (d := Int.ofNat 16) (k := 4) (i := 3) rfl rfl)
       · rw [if_pos (show n + 4 < n + 7 by omega), if_pos (show n + 4 < n + 6 by omega), if_pos (show n + 4 < n + 5 by omega), if_neg (show ¬ n + 4 < n + 4 by omega), show n + 4 - (n + 4) = 0 by omega]
         dsimp only
         rw [e]
         exact congrArg (fun z => [AC.v (Value.int IntKind.u8 z)]) (bit_sym hx (d := Int.ofNat 8) (k := 3) (i := 4) rfl rfl)
       · rw [if_pos (show n + 5 < n + 7 by omega), if_pos (show n + 5 < n + 6 by omega), if_neg (show ¬ n + 5 < n + 5 by omega), show n + 5 - (n + 5) = 0 by omega]
         dsimp only
         rw [e]
         exact congrArg (fun z => [AC.v (Value.int IntKind.u8 z)]) (bit_sym hx (d := Int.ofNat 4) (k := 2) (i := 5) rfl rfl)
       · rw [if_pos (show n + 6 < n + 7 by omega), if_neg (show ¬ n + 6 < n + 6 by omega), show n + 6 - (n + 6) = 0 by omega]
         dsimp only
         rw [e]
         exact congrArg (fun z => [AC.v (Value.int IntKind.u8 z)]) (bit_sym hx (d := Int.ofNat 2) (k := 1) (i := 6) rfl rfl)
       · rw [if_neg (show ¬ n + 7 < n + 7 by omega), show n + 7 - (n + 7) = 0 by omega]
         dsimp only
         rw [e]
         exact congrArg (fun z => [AC.v (Value.int IntKind.u8 z)]) (bit_sym hx (d := Int.ofNat 1) (k := 0) (i := 7) rfl rfl)
     · dsimp only
       simp [allT, slC, slRow, inb_arr]
       omega
 · cases hs
def mayZ (o k : Int) : Bool := decide (0 ≤ o) && (decide (o < 8) && (k == 1 || k == 2))
def mayX : List AV → AV
 | [.agg [.v (.int .i64 o), .v (.int .u8 k), .v (.int .u8 _), .v (.int .u32 _), .v (.int .u32 _)]] => bo (mayZ o k)
 | _ => bo false
def mayQ : List AV → Bool
 | [.agg [.v (.int .i64 _), .v (.int .u8 _), .v (.int .u8 _), .v (.int .u32 _), .v (.int .u32 _)]] => true
 | _ => false
theorem ct_may5 : CtOk Tryz.prog 69 (ctRd (pureRd [] rfl) mayX mayQ) := by
 refine ctRd_ofE (E := E1 Tryz.prog) hE1 (pureRd [] rfl) (fuel := 300) (str := 10000000000000000000000000000000000000000) ⟨_, _, Tryz.func69, rfl⟩ (fun s => by unfold mayX; split <;> rfl) fun s hs => ?_
 unfold mayQ at hs
 split at hs
 · rename_i o k st q v
   refine (?_ : (∃ p r, frMay Tryz.prog o k st q v p = some r ∧ GoodF (bo (mayZ o k)) r) → _) (frMy o k st q v _ ?_)
   · rintro ⟨p, q, h1, h2⟩
     exact ⟨p, [], q, h1, h2⟩
   · (repeat' (first | refine ⟨fun h => ?_, fun h => ?_⟩ | fail))
     all_goals (refine ⟨?_, (by first | (unfold lim; omega) | (dsimp only; unfold lim; omega)), by simp only [allT, List.forall_mem_cons, *]; simp, by simp⟩)
     all_goals (simp only [decide_eq_true_eq, decide_eq_false_iff_not, beq_iff_eq, beq_eq_false_iff_ne, ne_eq, Int.ofNat_eq_natCast, Int.cast_ofNat_Int, ge_iff_le] at *)
     all_goals (show bo _ = bo _; congr 1; unfold mayZ; first | (simp_all; done) | (simp_all; intros; omega))
 · cases hs
def isB8 : List AV → Bool
 | [_, _, .c (.v (.int .i64 b))] => b == 8
 | _ => false
def ctIf (p : List AV → Bool) (A : CtF) : CtF := fun xs m n => match p xs with | true => A xs m n | false => none
theorem ct_if {P : Program} {f : FuncId} {p : List AV → Bool} {A : CtF} (ha : CtOk P f A) : CtOk P f (ctIf p A) := by
 refine ⟨ha.1, fun C β m m2 w args ib r news k' ob vs hct => ?_⟩
 unfold ctIf at hct
 split at hct
 · exact ha.2 C β m m2 w args ib r news k' ob vs hct
 · cases hct
def ctPut8 : CtF := ctIf isB8 (ctOr ctPutA ctPutB)
theorem ct_put8 : CtOk Tryz.prog 96 ctPut8 := ct_if (ct_or ct_putA ct_putB)
end Go.Proofs.YtoelekmbmghicaaGreatDoor
end
/- sums.Of: its loops' rounds as the evaluator runs them. -/
section
namespace Go.Proofs.YtoelekmbmghicaaGreatDoor
open Go.RowKit
def EFr (P : Program) : Env := ⟨P, [(96, ctPut8), (69, ctRd (pureRd [] rfl) mayX mayQ)]⟩
theorem hEFr : EnvOk (EFr Tryz.prog) := by
 refine envOk (fun f g h => ?_) (by kernel_rfl) (by kernel_rfl)
 simp only [EFr, List.mem_cons, Prod.mk.injEq, List.not_mem_nil, or_false] at h
 rcases h with ⟨rfl, rfl⟩ | ⟨rfl, rfl⟩
 · exact ct_put8
 · exact ct_may5
abbrev fxR : Nat := 220000000000000000000000000000000000001124
abbrev fxP : Nat := 220000000000000000000000000000000000001113
abbrev fxI : List Nat := [fxP, fxR]
abbrev bytW (n : Nat) (f : Nat → Int) : ABlk := wBlk 5 1 n fun i => [.int .u8 (f i)]
abbrev rgB (z : Int) : ABlk := ⟨true, false, 182, 0, .lit [.v (.int .u32 z)]⟩
abbrev fxB (n : Nat) (f : Nat → Int) (z : Int) : List ABlk := [bytW n f, rgB z]
/-! a bit -/
abbrev faH : List Nat := [0, 13]
abbrev faV (j : Nat) : List AV := [.c (.ptr fxR 0 0), i64 (Int.ofNat j)]
abbrev faN : Nat := 220000000010000000000000000000000000000000
def faR (P : Program) (n : Nat) (f : Nat → Int) (z : Int) (j : Nat) (path : List Dec) : Option VC :=
 view faH fxI (fC (EFr P) 100 (loopAt P 133 0) faN 100000000 (stH 32 faH fxI (faV j) (fxB n f z) path []))
/-! a byte -/
abbrev fbH : List Nat := [3, 4, 11, 12, 16, 17, 18]
abbrev fbV (n k : Nat) : List AV := [.c (.ptr fxR 0 0), .c (.mv 133 fxR 0 0), i64 1, i64 0, .c (.sl fxP 0 0 n none), i64 (Int.ofNat n), i64 (Int.ofNat k)]
abbrev fbN : Nat := 220000000001000000000000000000000000000000
abbrev faE : Nat := 220000000100000000000000000000000000000000
abbrev faS (n : Nat) (f : Nat → Int) (z : Int) : Option LSum := some ⟨faH, fxI, mkFr 32 [], fxI.zip (fxB n f z), faE, .exit 0⟩
def fbR (P : Program) (n : Nat) (f : Nat → Int) (z : Int) (k : Nat) (path : List Dec) (lp : List (Option LSum)) : Option VC :=
 view fbH fxI (fC (EFr P) 100 (loopAt P 123 1) fbN 100000000 (stH 29 fbH fxI (fbV n k) (fxB n f z) path lp))
theorem faT (n : Nat) (f : Nat → Int) (z : Int) (j : Nat) (Q : VC → Prop) (H : let zz0 := (IntKind.wrap IntKind.u32 ↑(BitVec.toNat (BitVec.ofInt (IntKind.bits IntKind.u32) z &&& BitVec.ofInt (IntKind.bits IntKind.u32) 2147483648)) != Int.ofNat 0); let zz1 := (ABlk.mk true true 5 1 (Cs.arr n fun k => List.map AC.v ((fun i => [Value.int IntKind.u8 (f i)]) k))); (((decide (Int.ofNat j < Int.ofNat 8)) = true → ((zz0 = true → Q (Exit.normal, [some (lkA (List.zip faH (faV j)) 0), some (.c (.v (.int .i64 (IntKind.wrap .i64 (Int.ofNat j + Int.ofNat 1)))))], [some zz1, some (ABlk.mk true false 182 0 (Cs.lit [.v (.int .u32 (IntKind.wrap .u32 ↑(BitVec.toNat (BitVec.ofInt (IntKind.bits .u32) (IntKind.wrap .u32 (z * Int.ofNat 2)) ^^^ BitVec.ofInt (IntKind.bits .u32) 79764919))))]))], 32, 220000000010000000000000000000000000000022, [true, true, true, zz0 == true, true, true, true, true, true, true, decide (Int.ofNat j < Int.ofNat 8) == true], [])) ∧ (zz0 = false → Q (Exit.normal, [some (lkA (List.zip faH (faV j)) 0), some (.c (.v (.int .i64 (IntKind.wrap .i64 (Int.ofNat j + Int.ofNat 1)))))], [some zz1, some (ABlk.mk true false 182 0 (Cs.lit [.v (.int .u32 (IntKind.wrap .u32 (z * Int.ofNat 2)))]))], 32, 220000000010000000000000000000000000000016, [zz0 == false, true, true, true, true, true, true, decide (Int.ofNat j < Int.ofNat 8) == true], [])))) ∧ ((decide (Int.ofNat j < Int.ofNat 8)) = false → Q (Exit.exit 0, [some (lkA (List.zip faH (faV j)) 0), some (lkA (List.zip faH (faV j)) 13)], [some zz1, some (ABlk.mk true false 182 0 (Cs.lit [.v (.int .u32 z)]))], 32, 220000000010000000000000000000000000000001, [decide (Int.ofNat j < Int.ofNat 8) == false], [])))) :
 ∃ p r, faR Tryz.prog n f z j p = some r ∧ Q r :=
 two H
 (fun g1 => two g1
  (fun g2 => ⟨pD 2 4, _, by kernel_rfl, g2⟩)
  (fun g2 => ⟨pD 2 7, _, by kernel_rfl, g2⟩))
 (fun g1 => ⟨pD 1 2, _, by kernel_rfl, g1⟩)
theorem fbT (n : Nat) (f : Nat → Int) (z y : Int) (k : Nat) (Q : VC → Prop) (H : let zz0 := (ABlk.mk true true 5 1 (Cs.arr n fun k => List.map AC.v ((fun i => [Value.int IntKind.u8 (f i)]) k))); (((decide (Int.ofNat k < Int.ofNat n)) = true → Q (Exit.normal, [some (lkA (List.zip fbH (fbV n k)) 3), some (lkA (List.zip fbH (fbV n k)) 4), some (lkA (List.zip fbH (fbV n k)) 11), some (lkA (List.zip fbH (fbV n k)) 12), some (lkA (List.zip fbH (fbV n k)) 16), some (lkA (List.zip fbH (fbV n k)) 17), some (.c (.v (.int .i64 (IntKind.wrap .i64 (Int.ofNat k + Int.ofNat 1)))))], [some zz0, some (ABlk.mk true false 182 0 (Cs.lit [.v (.int .u32 y)]))], 29, 220000000100000000000000000000000000000002, [true, true, true, true, ABlk.inb zz0 (0 + Int.toNat (Int.ofNat k)) 1, true, decide (Int.ofNat 0 ≤ Int.ofNat k ∧ Int.ofNat k < ↑n), decide (Int.ofNat k < Int.ofNat n) == true], [LoopV Tryz.prog (loopAt Tryz.prog 133 0) faH fxI [some (.c (.ptr 220000000000000000000000000000000000001124 0 0)), some (.c (.v (.int .i64 (Int.ofNat 0))))] [some zz0, some (ABlk.mk true false 182 0 (Cs.lit [.v (.int .u32 (IntKind.wrap .u32 ↑(BitVec.toNat (BitVec.ofInt (IntKind.bits .u32) z ^^^ BitVec.ofInt (IntKind.bits .u32) (IntKind.wrap .u32 (IntKind.wrap .u32 (f (0 + Int.toNat (Int.ofNat k))) * Int.ofNat 16777216))))))]))] 32 220000000001000000000000000000000000000016 (mkFr 32 []) (List.zip fxI (fxB n f y)) 220000000100000000000000000000000000000000 (Exit.exit 0) none])) ∧ ((decide (Int.ofNat k < Int.ofNat n)) = false → Q (Exit.exit 2, [some (lkA (List.zip fbH (fbV n k)) 3), some (lkA (List.zip fbH (fbV n k)) 4), some (lkA (List.zip fbH (fbV n k)) 11), some (lkA (List.zip fbH (fbV n k)) 12), some (lkA (List.zip fbH (fbV n k)) 16), some (lkA (List.zip fbH (fbV n k)) 17), some (lkA (List.zip fbH (fbV n k)) 18)], [some zz0, some (ABlk.mk true false 182 0 (Cs.lit [.v (.int .u32 z)]))], 29, 220000000001000000000000000000000000000001, [decide (Int.ofNat k < Int.ofNat n) == false], [])))) :
 ∃ p r, fbR Tryz.prog n f z k p [faS n f y] = some r ∧ Q r :=
 two H
 (fun g1 => ⟨pD 1 1, _, by kernel_rfl, g1⟩)
 (fun g1 => ⟨pD 1 2, _, by kernel_rfl, g1⟩)
end Go.Proofs.YtoelekmbmghicaaGreatDoor
end
/- sums.Of: its loops' sums: the register behind all bytes. -/
section
namespace Go.Proofs.YtoelekmbmghicaaGreatDoor
open Go.RowKit
theorem ww32 (x : Int) : IntKind.wrap .u32 x = x % 4294967296 := by simp [IntKind.wrap, IntKind.bits, IntKind.signed]
theorem ob32 (v : BitVec 32) : BitVec.ofInt (IntKind.bits .u32) (v.toNat : Int) = v := by
 show BitVec.ofInt 32 (v.toNat : Int) = v
 rw [BitVec.ofInt_natCast, BitVec.ofNat_toNat, BitVec.setWidth_eq]
theorem wr32 (v : BitVec 32) : IntKind.wrap .u32 (v.toNat : Int) = v.toNat := by
 rw [ww32]
 have := v.isLt
 exact Int.emod_eq_of_lt (by omega) (by omega)
theorem and_top (v : BitVec 32) : v &&& 2147483648#32 = if v.msb then 2147483648#32 else 0#32 := by
 refine BitVec.eq_of_getLsbD_eq fun i hi => ?_
 rw [BitVec.getLsbD_and]
 have h : ∀ i, i < 32 → (2147483648#32).getLsbD i = decide (i = 31) := by decide
 rw [h i hi, BitVec.msb_eq_getLsbD_last]
 by_cases e : i = 31
 · subst e
   cases v.getLsbD 31 <;> simp
 · rw [decide_eq_false e, Bool.and_false]
   cases v.getLsbD (32 - 1)
   · simp
   · rw [if_pos rfl, h i hi, decide_eq_false e]
theorem fr_high (v : BitVec 32) : (IntKind.wrap .u32 ((BitVec.toNat (BitVec.ofInt (IntKind.bits .u32) (v.toNat : Int) &&& BitVec.ofInt (IntKind.bits .u32) 2147483648) : Nat) : Int) != Int.ofNat 0) = v.msb := by
 have e := and_top v
 rw [ob32]
 show (IntKind.wrap .u32 ((BitVec.toNat (v &&& 2147483648#32) : Nat) : Int) != Int.ofNat 0) = v.msb
 rw [e]
 cases v.msb <;> rfl
theorem fr_shl (v : BitVec 32) : IntKind.wrap .u32 ((v.toNat : Int) * Int.ofNat 2) = ((v <<< 1).toNat : Int) := by
 rw [ww32, BitVec.toNat_shiftLeft, Nat.shiftLeft_eq]
 show (v.toNat : Int) * 2 % 4294967296 = _
 omega
theorem fr_step (v : BitVec 32) (h : v.msb = true) : IntKind.wrap .u32 ((BitVec.toNat (BitVec.ofInt (IntKind.bits .u32) (IntKind.wrap .u32 ((v.toNat : Int) * Int.ofNat 2)) ^^^ BitVec.ofInt (IntKind.bits .u32) 79764919) : Nat) : Int) = ((crStep v).toNat : Int) := by
 rw [fr_shl, ob32]
 unfold crStep
 rw [if_pos h]
 exact wr32 _
theorem fr_step0 (v : BitVec 32) (h : v.msb = false) : IntKind.wrap .u32 ((v.toNat : Int) * Int.ofNat 2) = ((crStep v).toNat : Int) := by
 rw [fr_shl]
 unfold crStep
 rw [if_neg (by rw [h]; simp)]
theorem fr_put (v : BitVec 32) {b : Int} (h0 : 0 ≤ b) (h1 : b < 256) : IntKind.wrap .u32 ((BitVec.toNat (BitVec.ofInt (IntKind.bits .u32) (v.toNat : Int) ^^^ BitVec.ofInt (IntKind.bits .u32) (IntKind.wrap .u32 (IntKind.wrap .u32 b * Int.ofNat 16777216))) : Nat) : Int) = ((crPut v b.toNat).toNat : Int) := by
 obtain ⟨n, rfl⟩ := Int.eq_ofNat_of_zero_le h0
 have e : IntKind.wrap .u32 (IntKind.wrap .u32 (n : Int) * Int.ofNat 16777216) = ((BitVec.ofNat 32 n <<< 24).toNat : Int) := by
  rw [ww32, ww32, BitVec.toNat_shiftLeft, Nat.shiftLeft_eq, BitVec.toNat_ofNat]
  show (n : Int) % 4294967296 * 16777216 % 4294967296 = _
  omega
 rw [e, ob32, ob32]
 exact wr32 _
def natF (f : Nat → Int) : Nat → Nat := fun i => (f i).toNat
theorem fxB_low {N : Nat} (n : Nat) (f : Nat → Int) (z : Int) : ∀ b ∈ fxB n f z, lowB N b := by
 intro b hb
 simp only [List.mem_cons, List.not_mem_nil, or_false] at hb
 rcases hb with rfl | rfl
 · exact wBlk_low
 · exact low_lit rfl
abbrev fa0 : Nat := 220000000001000000000000000000000000000016
theorem fr_w1 {k : Nat} (h : k < 1000000) : IntKind.wrap .i64 (Int.ofNat k + Int.ofNat 1) = Int.ofNat (k + 1) := by rw [wrap_nat _ (by simp; omega) (by simp; omega)]; rfl
theorem fa_sum (n : Nat) (f : Nat → Int) (v : BitVec 32) : LoopV Tryz.prog (loopAt Tryz.prog 133 0) faH fxI ((faV 0).map some) ((fxB n f (v.toNat : Int)).map some) 32 fa0 (mkFr 32 []) (fxI.zip (fxB n f ((crIt 8 v).toNat : Int))) faE (.exit 0) none := by
 have hk : fxI.all (keptB fa0 faE) = true := by kernel_rfl
 refine loop_viewE (E := EFr Tryz.prog) hEFr (fuel := 100) (str := 100000000) (nh := faN) (S := Nat) (fun j => j ≤ 8) (fun j => 8 - j) faH [] fxI faV (fun j => fxB n f ((crIt j v).toNat : Int)) (Nat.le_of_ble_eq_true rfl) (Nat.le_of_ble_eq_true rfl) (Nat.le_of_ble_eq_true rfl) (s0 := 0) (Nat.zero_le _) (fun _ => ⟨rfl, rfl⟩) hk (BL.refl _) (fun j _ => ⟨rfl, fxB_low n f _⟩) ?_
 intro j hj
 refine (?_ : (∃ p r, faR Tryz.prog n f ((crIt j v).toNat : Int) j p = some r ∧ _) → _) (faT n f ((crIt j v).toNat : Int) j (StepV fa0 faE 32 faH [] fxI (fun j => j ≤ 8) (fun j => 8 - j) faV (fun j => fxB n f ((crIt j v).toNat : Int)) (.exit 0) [] (fxI.zip (fxB n f ((crIt 8 v).toNat : Int))) j) ?_)
 · rintro ⟨p, r, h1, h2⟩
   exact ⟨p, [], r, h1, h2⟩
 · simp only [fr_high]
   refine ⟨fun c1 => ?_, fun c1 => ?_⟩
   · have hlt : j < 8 := by simp at c1; omega
     have w := fr_w1 (show j < 1000000 by omega)
     refine ⟨fun c2 => ?_, fun c2 => ?_⟩
     · refine ⟨by simp only [allT, List.forall_mem_cons, c1, c2]; simp, rfl, by dsimp only [faE]; omega, rfl, .inl ⟨rfl, j + 1, hlt, by show 8 - (j + 1) < 8 - j; omega, by dsimp only; rw [w]; rfl, ?_⟩⟩
       rw [fr_step _ c2]
       exact BL.refl (fxB n f ((crIt (j + 1) v).toNat : Int))
     · refine ⟨by simp only [allT, List.forall_mem_cons, c1, c2]; simp, rfl, by dsimp only [faE]; omega, rfl, .inl ⟨rfl, j + 1, hlt, by show 8 - (j + 1) < 8 - j; omega, by dsimp only; rw [w]; rfl, ?_⟩⟩
       rw [fr_step0 _ c2]
       exact BL.refl (fxB n f ((crIt (j + 1) v).toNat : Int))
   · obtain rfl : j = 8 := by simp at c1; omega
     exact ⟨by simp only [allT, List.forall_mem_cons, c1]; simp, rfl, by dsimp only [faE]; omega, rfl, .inr ⟨by simp, rfl, (fun _ h => by cases h), mf_all hk (fxB_low n f _) rfl⟩⟩
abbrev fb0 : Nat := 220000000000000000000000000000000000001138
abbrev fbE : Nat := 220000001000000000000000000000000000000000
abbrev fbO : List (Nat × AV) := [(3, .c (.ptr fxR 0 0)), (11, i64 1), (12, i64 0)]
abbrev fbS (n : Nat) (f : Nat → Int) : Option LSum := some ⟨fbH, fxI, mkFr 29 fbO, fxI.zip (fxB n f ((crOf (natF f) n).toNat : Int)), fbE, .exit 2⟩
theorem fb_sum (n : Nat) (f : Nat → Int) (hn : n ≤ 1000) (hf : ∀ i, i < n → 0 ≤ f i ∧ f i < 256) {eblks : List (Option ABlk)} (heb : BL (fxB n f 4294967295) eblks) : LoopV Tryz.prog (loopAt Tryz.prog 123 1) fbH fxI ((fbV n 0).map some) eblks 29 fb0 (mkFr 29 fbO) (fxI.zip (fxB n f ((crOf (natF f) n).toNat : Int))) fbE (.exit 2) none := by
 have hk : fxI.all (keptB fb0 fbE) = true := by kernel_rfl
 refine loop_viewN (E := EFr Tryz.prog) hEFr (fuel := 100) (str := 100000000) (nh := fbN) (S := Nat) (fun k => k ≤ n) (fun k => n - k) fbH [] fxI (fbV n) (fun k => fxB n f ((crOf (natF f) k).toNat : Int)) (Nat.le_of_ble_eq_true rfl) (Nat.le_of_ble_eq_true rfl) (Nat.le_of_ble_eq_true rfl) (s0 := 0) (Nat.zero_le _) (fun _ => ⟨rfl, rfl⟩) hk heb (fun k _ => ⟨rfl, fxB_low n f _⟩) ?_
 intro k hk2
 refine (?_ : (∃ p r, fbR Tryz.prog n f ((crOf (natF f) k).toNat : Int) k p [faS n f ((crOf (natF f) (k + 1)).toNat : Int)] = some r ∧ _) → _) (fbT n f ((crOf (natF f) k).toNat : Int) ((crOf (natF f) (k + 1)).toNat : Int) k (StepN fb0 fbE 29 fbH [] fxI (fun k => k ≤ n) (fun k => n - k) (fbV n) (fun k => fxB n f ((crOf (natF f) k).toNat : Int)) (.exit 2) fbO (fxI.zip (fxB n f ((crOf (natF f) n).toNat : Int))) k) ?_)
 · rintro ⟨p, r, h1, h2⟩
   exact ⟨p, _, r, h1, h2⟩
 · refine ⟨fun c1 => ?_, fun c1 => ?_⟩
   · have hlt : k < n := by simp at c1; omega
     have w := fr_w1 (show k < 1000000 by omega)
     have ez : 0 + Int.toNat (Int.ofNat k) = k := by simp
     obtain ⟨b0, b1⟩ := hf k hlt
     refine ⟨?_, fun q hq => ?_, by dsimp only [fbE]; omega, rfl, .inl ⟨rfl, k + 1, hlt, by show n - (k + 1) < n - k; omega, by dsimp only; rw [w]; rfl, BL.refl (fxB n f ((crOf (natF f) (k + 1)).toNat : Int))⟩⟩
     · simp only [allT, List.forall_mem_cons, c1]
       simp [inb_arr]
       omega
     · rw [List.mem_singleton.1 hq, ez, fr_put _ b0 b1]
       exact fa_sum n f (crPut (crOf (natF f) k) (f k).toNat)
   · obtain rfl : k = n := by simp at c1; omega
     refine ⟨by simp only [allT, List.forall_mem_cons, c1]; simp, by simp, by dsimp only [fbE]; omega, rfl, .inr ⟨by simp, rfl, fun p hp => ?_, mf_all hk (fxB_low _ f _) rfl⟩⟩
     simp only [List.mem_cons, List.not_mem_nil, or_false] at hp
     rcases hp with rfl | rfl | rfl
     · exact ⟨rfl, .head _⟩
     · exact ⟨rfl, .tail _ (.tail _ (.head _))⟩
     · exact ⟨rfl, .tail _ (.tail _ (.tail _ (.head _)))⟩
end Go.Proofs.YtoelekmbmghicaaGreatDoor
end
/- bits.Of: its loop's round as the evaluator runs it. -/
section
namespace Go.Proofs.YtoelekmbmghicaaGreatDoor
open Go.RowKit
abbrev foQ : Nat := 220000001000000000000000000000000000000020
abbrev foG : Nat := 260000000000000000000000000000000000005000
abbrev foN : Nat := 260000000001000000000000000000000000000000
abbrev foX : Nat := 260000000001000000000000000000000000000007
abbrev fo0 : Nat := 260000000000000000000000000000000000001022
abbrev foE : Nat := 260000000010000000000000000000000000000000
abbrev bytQ (n : Nat) (f : Nat → Int) : ABlk := ⟨false, true, 5, 1, .arr n fun k => List.map AC.v [.int .u8 (f k)]⟩
abbrev foH : List Nat := [3, 6, 7, 8]
abbrev foU : AV := .c (.v (.slice none 0 0))
abbrev foL (m : Nat) : AV := .c (.sl foG 0 0 m (some m))
abbrev foV (a : AV) (k : Nat) : List AV := [a, .c (.sl foQ 0 0 14 (some 14)), i64 14, i64 (Int.ofNat k)]
def foR (P : Program) (a : AV) (m : Nat) (f b : Nat → Int) (k : Nat) (path : List Dec) : Option VC :=
 view foH [foX, foG, foQ] (fC (EFr P) 100 (loopAt P 49 0) foN 100000000 ⟨mkFr 19 (foH.zip (foV a k)), [(foG, symW m f), (foQ, bytQ 14 b)], 0, 0, false, path, [], [], [], none, []⟩)
theorem foA (f b : Nat → Int) (Q : VC → Prop) (H : Q (Exit.normal, [some (.c (.sl 260000000001000000000000000000000000000007 0 0 8 (some 8))), some (lkA (List.zip foH (foV foU 0)) 6), some (lkA (List.zip foH (foV foU 0)) 7), some (.c (.v (.int .i64 (Int.ofNat 1))))], [some (ABlk.mk true true 49 1 (Cs.arr 8 fun k => List.map AC.v ((fun i => [Value.int .u8 (symZ (pu8X [.c (AC.v (Value.slice none 0 0)), .c (.v (.int .u64 (IntKind.wrap .u64 (b 0)))), .c (.v (.int .i64 8))]) i)]) k))), some (ABlk.mk true true 49 1 (Cs.arr 0 fun k => List.map AC.v ((fun i => [Value.int .u8 (f i)]) k))), some (ABlk.mk false true 5 1 (Cs.arr 14 fun k => List.map AC.v [Value.int .u8 (b k)]))], 19, 260000000001000000000000000000000000000011, [true, pu8A [.c (AC.v (Value.slice none 0 0)), .c (.v (.int .u64 (IntKind.wrap .u64 (b 0)))), .c (.v (.int .i64 (Int.ofNat 8)))], true, true, true], [])) :
 ∃ p r, foR Tryz.prog foU 0 f b 0 p = some r ∧ Q r :=
 ⟨pD 1 0, _, by kernel_rfl, H⟩
theorem foB (m : Nat) (f b : Nat → Int) (k : Nat) (Q : VC → Prop) (H : let zz0 := (LstS.mk m (fS fun k => List.map AC.v ((fun i => [Value.int IntKind.u8 (f i)]) k)) [AV.c (AC.v (Value.int IntKind.u64 (IntKind.wrap IntKind.u64 (b (0 + Int.toNat (Int.ofNat k)))))), AV.c (AC.v (Value.int IntKind.i64 (Int.ofNat 8)))]); let zz2 := (ABlk.mk true true 49 1 (Cs.arr m fun k => List.map AC.v ((fun i => [Value.int IntKind.u8 (f i)]) k))); let zz1 := (LstS.mk m (fS (eltZ zz2 0 0 1)) [AV.c (AC.v (Value.int IntKind.u64 (IntKind.wrap IntKind.u64 (b (0 + Int.toNat (Int.ofNat k)))))), AV.c (AC.v (Value.int IntKind.i64 8))]); (((decide (Int.ofNat k < Int.ofNat 14)) = true → Q (Exit.normal, [some (.c (.sl 260000000001000000000000000000000000000007 0 0 (LstS.n zz0 + 8) (some (LstS.n zz0 + 8)))), some (lkA (List.zip foH (foV (foL m) k)) 6), some (lkA (List.zip foH (foV (foL m) k)) 7), some (.c (.v (.int .i64 (IntKind.wrap .i64 (Int.ofNat k + Int.ofNat 1)))))], [some (ABlk.mk true true 49 1 (Cs.arr (LstS.n zz0 + 8) fun k_1 => List.map AC.v ((fun i => [Value.int .u8 (pu8F (LstS.n zz1) (LstS.f zz1) (pu8Y zz1) i)]) k_1))), some zz2, some (ABlk.mk false true 5 1 (Cs.arr 14 fun k => List.map AC.v [Value.int .u8 (b k)]))], 19, 260000000001000000000000000000000000000011, [decide (0 + m ≤ m) && symsOk m fun k => List.map AC.v ((fun i => [Value.int .u8 (f i)]) k), pu8B zz0, ABlk.inb (ABlk.mk false true 5 1 (Cs.arr 14 fun k => List.map AC.v [Value.int .u8 (b k)])) (0 + Int.toNat (Int.ofNat k)) 1, true, decide (Int.ofNat 0 ≤ Int.ofNat k ∧ Int.ofNat k < Int.ofNat 14), decide (Int.ofNat k < Int.ofNat 14) == true], [])) ∧ ((decide (Int.ofNat k < Int.ofNat 14)) = false → Q (Exit.exit 0, [some (lkA (List.zip foH (foV (foL m) k)) 3), some (lkA (List.zip foH (foV (foL m) k)) 6), some (lkA (List.zip foH (foV (foL m) k)) 7), some (lkA (List.zip foH (foV (foL m) k)) 8)], [none, some zz2, some (ABlk.mk false true 5 1 (Cs.arr 14 fun k => List.map AC.v [Value.int .u8 (b k)]))], 19, 260000000001000000000000000000000000000001, [decide (Int.ofNat k < Int.ofNat 14) == false], [])))) :
 ∃ p r, foR Tryz.prog (foL m) m f b k p = some r ∧ Q r :=
 two H
 (fun g1 => ⟨pD 1 1, _, by kernel_rfl, g1⟩)
 (fun g1 => ⟨pD 1 2, _, by kernel_rfl, g1⟩)
end Go.Proofs.YtoelekmbmghicaaGreatDoor
end
/- bits.Of of fourteen bytes: its loop's sum. -/
section
namespace Go.Proofs.YtoelekmbmghicaaGreatDoor
open Go.RowKit
def symK (b : Nat → Int) : Nat → Int := fun i => symZ (b (i / 8)) (i % 8)
def foO : Nat → AV
 | 0 => foU
 | k + 1 => foL (8 * (k + 1))
abbrev foS (b : Nat → Int) : Option LSum := some ⟨foH, [foQ], mkFr 19 [(3, foL 112)], [(foG, symW 112 (symK b))], foE, .exit 0⟩
theorem symK_step (b : Nat → Int) (k : Nat) {F : Nat → Int} (hF : ∀ i, i < 8 * k → F i = symK b i) {x : Int} (hx : x = b k) (i : Nat) (hi : i < 8 * k + 8) : pu8F (8 * k) F x i = symK b i := by
 unfold pu8F
 by_cases h : i < 8 * k
 · rw [if_pos h, hF i h]
 · rw [if_neg h, hx]
   unfold symK
   rw [show i / 8 = k by omega, show i % 8 = i - 8 * k by omega]
theorem w64 {x : Int} (h0 : 0 ≤ x) (h1 : x < 256) : IntKind.wrap .u64 x = x := by simp [IntKind.wrap, IntKind.bits, IntKind.signed]; omega
theorem BEq_syms {n : Nat} {f g : Nat → Int} (h : ∀ i, i < n → f i = g i) : BEq (symW n f) (symW n g) := ⟨rfl, rfl, rfl, rfl, .inr (.inl ⟨_, _, _, rfl, rfl, fun i hi => by dsimp only; rw [h i hi]⟩)⟩
abbrev foT (b : Nat → Int) (k : Nat) (r : VC) : Prop := StepM fo0 foN foE 19 foH [foX, foG, foQ] [foG] [foQ] (fun k => k ≤ 14) (fun k => 14 - k) (fun k => foV (foO k) k) (fun k => [symW (8 * k) (symK b)]) (fun _ => [bytQ 14 b]) (.exit 0) [(3, foL 112)] [(foG, symW 112 (symK b))] k r
set_option maxRecDepth 100000 in
theorem fo_sum (b : Nat → Int) (hb : ∀ i, i < 14 → 0 ≤ b i ∧ b i < 256) {y : ABlk} (hy : BEq y (bytQ 14 b)) :
 LoopV Tryz.prog (loopAt Tryz.prog 49 0) foH [foQ] ((foV foU 0).map some) [some y] 19 fo0 (mkFr 19 [(3, foL 112)]) [(foG, symW 112 (symK b))] foE (.exit 0) none := by
 have hlow : ∀ x ∈ [bytQ 14 b], lowB fo0 x := fun x hx => by rw [List.mem_singleton.1 hx]; exact low_arr (fun k j => by match j with | 0 => rfl | j + 1 => rfl)
 have hbl : BL [bytQ 14 b] [some y] := ⟨hy, trivial⟩
 refine loop_growM hEFr (fuel := 100) (str := 100000000) (nh := foN) (S := Nat) (fun k => k ≤ 14) (fun k => 14 - k) foH [foX, foG, foQ] [foG] [foQ] [foQ] (fun k => foV (foO k) k) (fun k => [symW (8 * k) (symK b)]) (fun _ => [bytQ 14 b]) (by decide) (by decide) (Nat.le_of_ble_eq_true rfl) (s0 := 0) (Nat.zero_le _) ⟨fun _ => .inr 1, ?_⟩ ?_
 · refine mt_gen (A := []) (kb := [some y]) rfl (by kernel_rfl) ?_ ?_ (by kernel_rfl) hlow hbl
   · exact fr_cons (.head _) (fun h => (by cases h)) (GW_low rfl) (fr_cons (.tail _ (.head _)) (fun h => (by cases h)) (GW_low rfl) (fr_cons (.tail _ (.tail _ (.head _))) (fun h => (by cases h)) (GW_low rfl) (fr_cons (.tail _ (.tail _ (.tail _ (.head _)))) (fun h => (by cases h)) (GW_low rfl) fr_nil)))
   · exact me_cons (mv_nil rfl rfl rfl rfl ⟨_, rfl⟩) me_nil
 · intro k hk
   match k, hk with
   | 0, _ =>
    refine (?_ : (∃ p r, foR Tryz.prog foU 0 (symK b) b 0 p = some r ∧ _) → _) (foA (symK b) b (foT b 0) ?_)
    · rintro ⟨p, r, h1, h2⟩
      exact ⟨p, [], r, h1, h2⟩
    · obtain ⟨b0, b1⟩ := hb 0 (by omega)
      rw [w64 b0 b1]
      refine ⟨?_, (fun q hq => by cases hq), by dsimp only [foE]; omega, rfl, .inl ⟨rfl, 1, by omega, by show 14 - 1 < 14 - 0; omega, fun _ => .inl foX, ?_⟩⟩
      · simp [allT, pu8A, b0]
      · refine mt_gen (A := [(foX, _), (foG, _)]) (kb := [some (bytQ 14 b)]) rfl (by kernel_rfl) ?_ ?_ (by kernel_rfl) hlow (BL.refl [bytQ 14 b])
        · exact fr_cons (.head _) (fun h => (by cases h)) (GW_sl (by decide) (by decide) (by decide) rfl) (fr_cons (.tail _ (.head _)) (fun h => (by cases h)) (GW_low rfl) (fr_cons (.tail _ (.tail _ (.head _))) (fun h => (by cases h)) (GW_low rfl) (fr_cons (.tail _ (.tail _ (.tail _ (.head _)))) (fun h => (by cases h)) (GW_low rfl) fr_nil)))
        · refine me_cons (mv_new rfl rfl rfl (.head _) (BEq_syms fun i hi => ?_) wBlk_low) me_nil
          show symZ (b 0) i = symK b i
          unfold symK
          rw [show i / 8 = 0 by omega, show i % 8 = i by omega]
   | k + 1, hk =>
    refine (?_ : (∃ p r, foR Tryz.prog (foL (8 * (k + 1))) (8 * (k + 1)) (symK b) b (k + 1) p = some r ∧ _) → _) (foB (8 * (k + 1)) (symK b) b (k + 1) (foT b (k + 1)) ?_)
    · rintro ⟨p, r, h1, h2⟩
      exact ⟨p, [], r, h1, h2⟩
    · have ez : 0 + Int.toNat (Int.ofNat (k + 1)) = k + 1 := by simp
      refine ⟨fun c1 => ?_, fun c1 => ?_⟩
      · have hlt : k + 1 < 14 := by simp at c1; omega
        obtain ⟨b0, b1⟩ := hb (k + 1) hlt
        have w := fr_w1 (show k + 1 < 1000000 by omega)
        rw [ez, w64 b0 b1, w]
        refine ⟨?_, (fun q hq => by cases hq), by dsimp only [foE]; omega, rfl, .inl ⟨rfl, k + 2, by omega, by show 14 - (k + 2) < 14 - (k + 1); omega, fun _ => .inl foX, ?_⟩⟩
        · simp only [allT, List.forall_mem_cons, c1]
          have hs : symsOk (8 * (k + 1)) (fun j => List.map AC.v [Value.int .u8 (symK b j)]) = true := symsOk_of fun i _ => rfl
          simp [inb_arr, pu8B, b0]
          refine ⟨hs, ?_, ?_⟩
          · omega
          · refine ⟨by omega, Int.natCast_nonneg _, ?_⟩
            show ((k + 1 : Nat) : Int) < 14
            omega
        · refine mt_gen (A := [(foX, _), (foG, _)]) (kb := [some (bytQ 14 b)]) rfl (by kernel_rfl) ?_ ?_ (by kernel_rfl) hlow (BL.refl [bytQ 14 b])
          · exact fr_cons (.head _) (fun h => (by cases h)) (GW_sl (by decide) (by decide) (by decide) rfl) (fr_cons (.tail _ (.head _)) (fun h => (by cases h)) (GW_low rfl) (fr_cons (.tail _ (.tail _ (.head _))) (fun h => (by cases h)) (GW_low rfl) (fr_cons (.tail _ (.tail _ (.tail _ (.head _)))) (fun h => (by cases h)) (GW_low rfl) fr_nil)))
          · exact me_cons (mv_new rfl rfl rfl (.head _) (BEq_syms fun i hi => symK_step b (k + 1) (fun _ _ => rfl) rfl i hi) wBlk_low) me_nil
      · obtain rfl : k = 13 := by simp at c1; omega
        refine ⟨by simp only [allT, List.forall_mem_cons, c1]; simp, (fun q hq => by cases hq), by dsimp only [foE]; omega, rfl, .inr ⟨by simp, rfl, fun _ => .inl foG, ?_⟩⟩
        refine mt_gen (hs := [3]) (vals := [foL 112]) (gs := [foG]) (gb := [symW 112 (symK b)]) (ids := []) (blks := []) (A := [(foX, _), (foG, _), (foQ, _)]) (kb := []) rfl (by kernel_rfl) ?_ ?_ rfl (fun _ h => by cases h) trivial
        · exact fr_cons (.head _) (fun h => (by cases h)) (GW_sl (by decide) (by decide) (by decide) rfl) fr_nil
        · exact me_cons (mv_new rfl rfl rfl (.tail _ (.head _)) (BEq.refl _) wBlk_low) me_nil
end Go.Proofs.YtoelekmbmghicaaGreatDoor
end
/- frames.Syms of the example's frame as the evaluator runs it. -/
section
namespace Go.Proofs.YtoelekmbmghicaaGreatDoor
open Go.RowKit
abbrev syArgs : List AV := [.agg [.v (.int .i64 0), .v (.int .u8 2), .v (.int .u8 0), .v (.int .u32 0), .v (.int .u32 5)], .agg [.v (.bool true), .v (.bool false)]]
abbrev syN : Nat := 300000000000000000000000000000000000001118
set_option maxRecDepth 1000000
def syR (P : Program) : Option VF := viewF [syN] (fCallF (E1 P) (fC (E1 P) 300) 21 syArgs 1000 10000000000000000000000000000000000000000 (stA [] [] []))
theorem sy_run  : seeT (syR Tryz.prog) =
 some (.tup [.c (.sl 300000000000000000000000000000000000001118 0 0 114 (some 114)), .c (.v (.int .i64 (Int.ofNat 0)))], [some (true, true, 49, 1, 114, [[.v (.int .u8 (Int.ofNat 1))], [.v (.int .u8 (Int.ofNat 1))], [.v (.int .u8 (Int.ofNat 2))], [.v (.int .u8 (Int.ofNat 1))], [.v (.int .u8 (Int.ofNat 1))], [.v (.int .u8 (Int.ofNat 1))], [.v (.int .u8 (Int.ofNat 1))], [.v (.int .u8 (Int.ofNat 1))], [.v (.int .u8 (Int.ofNat 1))], [.v (.int .u8 (Int.ofNat 1))], [.v (.int .u8 (Int.ofNat 1))], [.v (.int .u8 (Int.ofNat 1))], [.v (.int .u8 (Int.ofNat 1))], [.v (.int .u8 (Int.ofNat 1))], [.v (.int .u8 (Int.ofNat 1))], [.v (.int .u8 (Int.ofNat 1))], [.v (.int .u8 (Int.ofNat 1))], [.v (.int .u8 (Int.ofNat 1))], [.v (.int .u8 (Int.ofNat 1))], [.v (.int .u8 (Int.ofNat 1))], [.v (.int .u8 (Int.ofNat 1))], [.v (.int .u8 (Int.ofNat 1))], [.v (.int .u8 (Int.ofNat 1))], [.v (.int .u8 (Int.ofNat 1))], [.v (.int .u8 (Int.ofNat 1))], [.v (.int .u8 (Int.ofNat 1))], [.v (.int .u8 (Int.ofNat 1))], [.v (.int .u8 (Int.ofNat 1))], [.v (.int .u8 (Int.ofNat 1))], [.v (.int .u8 (Int.ofNat 1))], [.v (.int .u8 (Int.ofNat 1))], [.v (.int .u8 (Int.ofNat 1))], [.v (.int .u8 (Int.ofNat 1))], [.v (.int .u8 (Int.ofNat 1))], [.v (.int .u8 (Int.ofNat 1))], [.v (.int .u8 (Int.ofNat 1))], [.v (.int .u8 (Int.ofNat 1))], [.v (.int .u8 (Int.ofNat 1))], [.v (.int .u8 (Int.ofNat 1))], [.v (.int .u8 (Int.ofNat 1))], [.v (.int .u8 (Int.ofNat 1))], [.v (.int .u8 (Int.ofNat 1))], [.v (.int .u8 (Int.ofNat 1))], [.v (.int .u8 (Int.ofNat 1))], [.v (.int .u8 (Int.ofNat 1))], [.v (.int .u8 (Int.ofNat 1))], [.v (.int .u8 (Int.ofNat 1))], [.v (.int .u8 (Int.ofNat 1))], [.v (.int .u8 (Int.ofNat 1))], [.v (.int .u8 (Int.ofNat 1))], [.v (.int .u8 (Int.ofNat 1))], [.v (.int .u8 (Int.ofNat 1))], [.v (.int .u8 (Int.ofNat 1))], [.v (.int .u8 (Int.ofNat 1))], [.v (.int .u8 (Int.ofNat 1))], [.v (.int .u8 (Int.ofNat 1))], [.v (.int .u8 (Int.ofNat 1))], [.v (.int .u8 (Int.ofNat 1))], [.v (.int .u8 (Int.ofNat 1))], [.v (.int .u8 (Int.ofNat 1))], [.v (.int .u8 (Int.ofNat 1))], [.v (.int .u8 (Int.ofNat 1))], [.v (.int .u8 (Int.ofNat 1))], [.v (.int .u8 (Int.ofNat 1))], [.v (.int .u8 (Int.ofNat 1))], [.v (.int .u8 (Int.ofNat 1))], [.v (.int .u8 (Int.ofNat 1))], [.v (.int .u8 (Int.ofNat 1))], [.v (.int .u8 (Int.ofNat 1))], [.v (.int .u8 (Int.ofNat 1))], [.v (.int .u8 (Int.ofNat 1))], [.v (.int .u8 (Int.ofNat 1))], [.v (.int .u8 (Int.ofNat 1))], [.v (.int .u8 (Int.ofNat 1))], [.v (.int .u8 (Int.ofNat 1))], [.v (.int .u8 (Int.ofNat 1))], [.v (.int .u8 (Int.ofNat 1))], [.v (.int .u8 (Int.ofNat 2))], [.v (.int .u8 (Int.ofNat 1))], [.v (.int .u8 (Int.ofNat 2))], [.v (.int .u8 (Int.ofNat 1))], [.v (.int .u8 (Int.ofNat 1))], [.v (.int .u8 (Int.ofNat 2))], [.v (.int .u8 (Int.ofNat 1))], [.v (.int .u8 (Int.ofNat 1))], [.v (.int .u8 (Int.ofNat 2))], [.v (.int .u8 (Int.ofNat 2))], [.v (.int .u8 (Int.ofNat 2))], [.v (.int .u8 (Int.ofNat 2))], [.v (.int .u8 (Int.ofNat 2))], [.v (.int .u8 (Int.ofNat 1))], [.v (.int .u8 (Int.ofNat 2))], [.v (.int .u8 (Int.ofNat 1))], [.v (.int .u8 (Int.ofNat 2))], [.v (.int .u8 (Int.ofNat 2))], [.v (.int .u8 (Int.ofNat 1))], [.v (.int .u8 (Int.ofNat 2))], [.v (.int .u8 (Int.ofNat 2))], [.v (.int .u8 (Int.ofNat 2))], [.v (.int .u8 (Int.ofNat 1))], [.v (.int .u8 (Int.ofNat 2))], [.v (.int .u8 (Int.ofNat 2))], [.v (.int .u8 (Int.ofNat 1))], [.v (.int .u8 (Int.ofNat 2))], [.v (.int .u8 (Int.ofNat 1))], [.v (.int .u8 (Int.ofNat 1))], [.v (.int .u8 (Int.ofNat 2))], [.v (.int .u8 (Int.ofNat 2))], [.v (.int .u8 (Int.ofNat 2))], [.v (.int .u8 (Int.ofNat 2))], [.v (.int .u8 (Int.ofNat 1))], [.v (.int .u8 (Int.ofNat 1))], [.v (.int .u8 (Int.ofNat 2))], [.v (.int .u8 (Int.ofNat 1))]])], 340000000000000000000000000000000000001040, true, []) := by kernel_rfl
end Go.Proofs.YtoelekmbmghicaaGreatDoor
end
/- frames.Syms of the example's frame: its contract. -/
section
namespace Go.Proofs.YtoelekmbmghicaaGreatDoor
open Go.RowKit
def isSy : List AV → Bool
 | [.agg [.v (.int .i64 a), .v (.int .u8 b), .v (.int .u8 c), .v (.int .u32 d), .v (.int .u32 e)], .agg [.v (.bool t), .v (.bool u)]] => decide (a = 0) && (decide (b = 2) && (decide (c = 0) && (decide (d = 0) && (decide (e = 5) && (t && !u)))))
 | _ => false
theorem isSy_eq {xs : List AV} (h : isSy xs = true) : xs = syArgs := by
 unfold isSy at h
 split at h
 · simp only [Bool.and_eq_true, decide_eq_true_eq, Bool.not_eq_true'] at h
   obtain ⟨rfl, rfl, rfl, rfl, rfl, rfl, rfl⟩ := h
   rfl
 · cases h
def syL : List Int := [1, 1, 2, 1, 1, 1, 1, 1, 1, 1, 1, 1, 1, 1, 1, 1, 1, 1, 1, 1, 1, 1, 1, 1, 1, 1, 1, 1, 1, 1, 1, 1, 1, 1, 1, 1, 1, 1, 1, 1, 1, 1, 1, 1, 1, 1, 1, 1, 1, 1, 1, 1, 1, 1, 1, 1, 1, 1, 1, 1, 1, 1, 1, 1, 1, 1, 1, 1, 1, 1, 1, 1, 1, 1, 1, 1, 1, 2, 1, 2, 1, 1, 2, 1, 1, 2, 2, 2, 2, 2, 1, 2, 1, 2, 2, 1, 2, 2, 2, 1, 2, 2, 1, 2, 1, 1, 2, 2, 2, 2, 1, 1, 2, 1]
def syB : ABlk := wBlk 49 1 114 fun j => [.int .u8 (syL.getD j 0)]
def ctSyms : CtF := ctRdT (pureRd [] rfl) (fun _ => 114) (fun _ => some 114) (fun _ => syB) (fun _ => i64 0) isSy
theorem ct_syms : CtOk Tryz.prog 21 ctSyms := by
 refine ctRdT_of (E := E1 Tryz.prog) hE1 (pureRd [] rfl) (fuel := 300) (str := 10000000000000000000000000000000000000000) syN ⟨_, _, Tryz.func21, rfl⟩ (fun _ => rfl) (fun _ => ⟨_, _, rfl⟩) (fun _ => wBlk_pl (fun _ => rfl)) (fun _ => rfl) fun xs hx => ?_
 obtain rfl := isSy_eq hx
 obtain ⟨f, b, h1, h2, h3⟩ := seeT_out sy_run
 refine ⟨[], [], _, h1, rfl, ⟨_, rfl, rfl, rfl, rfl, rfl, .inr (.inl ⟨114, _, _, rfl, rfl, fun k hk => ?_⟩)⟩, (by first | (unfold lim; omega) | (dsimp only; unfold lim; omega)), h2, by simp⟩
 have h4 : (List.range 114).map f = (List.range 114).map fun j => [AC.v (.int .u8 (syL.getD j 0))] := h3.trans (by kernel_rfl)
 have h5 := congrArg (fun l => l[k]?) h4
 simpa [hk] using h5
end Go.Proofs.YtoelekmbmghicaaGreatDoor
end
/- The examples of layer 11 as the evaluator runs them, frames.Syms by its contract. -/
section
namespace Go.Proofs.YtoelekmbmghicaaGreatDoor
open Go.RowKit
def ENy (P : Program) : Env := ⟨P, [(21, ctSyms)]⟩
theorem hENy : EnvOk (ENy Tryz.prog) := by
 refine envOk (fun f g h => ?_) (by kernel_rfl) (by kernel_rfl)
 simp only [ENy, List.mem_cons, Prod.mk.injEq, List.not_mem_nil, or_false] at h
 obtain ⟨rfl, rfl⟩ := h
 exact ct_syms
def lv11 (P : Program) : Option VF := viewF [] (fCallF (ENy P) (fC (ENy P) 300) 6 [] 10 10000000000000000000000000000000000000000 (stC mSR))
theorem lv11_run  : lv11 Tryz.prog =
 some (.c (.v (.bool true)), [], 2490000000000000000000000000000000000001175, [], []) := by kernel_rfl
end Go.Proofs.YtoelekmbmghicaaGreatDoor
end
