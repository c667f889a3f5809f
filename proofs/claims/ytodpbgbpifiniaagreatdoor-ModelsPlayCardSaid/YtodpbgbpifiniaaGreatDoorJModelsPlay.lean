/- ModelsPlay: for any config, whatever it begins with and whatever is delivered the law returns true (its tied card). No further condition. -/
import Derived.Test.YtodpbgbpifiniaaGreatDoorTie
import Derived.Test.YtodpbgbpifiniaaGreatDoorCards
import Derived.Test.YtodpbgbpifiniaaGreatDoorJModelsPlay22
import Derived.Test.YtodpbgbpifiniaaGreatDoorJModelsPlay20
import Derived.Test.YtodpbgbpifiniaaGreatDoorJModelsPlay23
import Derived.Test.YtodpbgbpifiniaaGreatDoorJModelsPlay25
import Derived.LaidMore
import Derived.LaidHandle
set_option linter.unusedSimpArgs false
set_option linter.unusedVariables false
set_option maxRecDepth 1000000
section
namespace Go.Proofs.YtodpbgbpifiniaaGreatDoor.modelsPlay
open Go.RowKit Go.WideShapes Go.ChangeShapes Go.ChangeAt

theorem Tc (c : Cfg) (z : Int) (v : Vw) (m : Nat) (S : Nat -> ZO) (k : Nat) (F : Nat -> Said) (h0 : ZH c = 0) (hv : v.Ok) (hS : ∀ i, (S i).Ok) : Kb c z v m S k F := by
  have f := jjna h0
  have hs : ∀ j, YK (S j).rnd = true := fun j => by
    obtain ⟨a, b⟩ := (hS j).2.2
    unfold YK
    rw [decide_eq_true a, decide_eq_true b]; rfl
  rcases Nat.lt_or_ge 40 m with hm | hm
  . exact AP c z v m S k F f.g hm
  rcases Nat.lt_or_ge 100 k with hk | hk
  . exact AQ c z v m S k F f.g hm hk
  rcases Int.lt_or_le z 0 with z0 | z0
  . exact AR c z v m S k F f hv hm hk z0
  rcases Int.lt_or_le z 1099511627776 with z1 | z1
  . cases hy : UK c c.nodes.toNat (ZI c (2 * c.np)) (ZW v) with
    | false => exact AT c z v m S k F f hv hm hk z0 z1 hy
    | true =>
      by_cases e : m = c.nt
      . subst e
        exact AW c z v S k F f hv hs hk z0 z1 hy
      . exact AU c z v m S k F f hv hm hk z0 z1 hy e
  . exact AS c z v m S k F f hv hm hk z1
theorem walk (c : Cfg) (cs : List Value) (z : Int) (x : View) (m : Nat) (S : Nat -> ZO) (s : Value) (A : Option Addr) (n cp : Nat) (l : List Said) (w : World) (hc : PF w c cs) (ho : c.Ok) (hx : x.Ok) (gm : m <= 9223372036854775807) (hS : ∀ i, (S i).Ok) (iS : WJ w 4 m (fun i => [.bool (S i).any, .int .u32 (S i).seq, .int .u32 (S i).val, .int .i64 (S i).rnd]) s) (hnc : n <= cp) (hcp : cp <= maxLen) (hA : Ku w A n cp) (hsl : Sl w w.heap.size 6 A n (l.flatMap Said.cells)) (hl : l.length = n) (hok : ∀ x ∈ l, x.Ok) (hL : laidMetH Tryz.prog Rows.modelsPlayRow.laid w) :
    Calls Tryz.prog 3 #[.agg cs.toArray, .agg (.int .i64 z :: (x.cells ++ [s])).toArray, .slice A n cp] w fun e w' => e = .returned (.bool true) /\ Below w.heap.size w w' := by
  have hG : ∀ p ∈ QB, W2 w p := by
    rw [MakeChecks.laidMetH_plain _ _ _ (by kernel_rfl)] at hL
    intro p hp
    rcases List.mem_cons.1 hp with rfl | hp
    . exact jj8f hL
    . rw [List.mem_singleton.1 hp]
      exact jj8g (jj89 hL)
  have hin := Li (cells := Said.cells) (C := 6) (by omega) Said.len Said.one Said.zero hA hsl hl
  have hr : ∀ β, γc β (.sl 4 0 0 m none) = some s -> γt β [FU z (Mh x) m] = some [.agg (.int .i64 z :: (x.cells ++ [s])).toArray] := fun β h => by
    have h1 : γs β (ZW (Mh x)) = some x.cells := by rw [ZW, Pg, jjd1]
    have h2 : γs β [.sl 4 0 0 m none] = some [s] := by simp only [γs, h]
    have h3 := HX h1 h2
    have h4 : γs β (.v (.int .i64 z) :: (ZW (Mh x) ++ [.sl 4 0 0 m none])) = some (.int .i64 z :: (x.cells ++ [s])) := by
      simp only [γs, γc, h3]
    simp only [γt, γ1, h4]
  by_cases h0 : ZH c = 0
  . obtain ⟨p, lp, r, h1, h2⟩ := Tc c z (Mh x) m S n (fun i => l.getD i Said.zero) h0 (jjm2 hx) hS
    have h3 : At (MF Tryz.prog ZH VE) 3 QB c [FU z (Mh x) m] 54 4 m (fun i => [.bool (S i).any, .int .u32 (S i).seq, .int .u32 (S i).val, .int .i64 (S i).rnd]) 62 6 n (fun i => (l.getD i Said.zero).cells) p lp = some r := h1
    have h4 := E7 (JL Lk) hG hc iS hin hr ⟨p, lp, r, h3, h2⟩
    exact h4
  . obtain ⟨p, r, h1, h2⟩ := jjjk c z (Mh x) m S n (fun i => l.getD i Said.zero) h0 ho.nb gm
    have h3 : At (Kq Tryz.prog ZH VE) 3 QB c [FU z (Mh x) m] 54 4 m (fun i => [.bool (S i).any, .int .u32 (S i).seq, .int .u32 (S i).val, .int .i64 (S i).rnd]) 62 6 n (fun i => (l.getD i Said.zero).cells) p [] = some r := h1
    have h4 := E7 (Cx Lk) hG hc iS hin hr ⟨p, [], r, h3, h2⟩
    exact h4
theorem lifted (os : Os) (started : os.Started) (H : Type) (enc : TypeId × Value -> H) (F : Stop.Interp) :
    ReturnsInHanded {} Tryz.checked os 3 .any ((OpenSpec.ofChange Rows.modelsPlaySpec).preRow enc Tryz.prog Tryz.f3 Rows.modelsPlayRow.domain false Rows.modelsPlayRow.laid) (((OpenSpec.ofChange Rows.modelsPlaySpec).at F).post enc Tryz.prog Tryz.f3 false true false false) := by
  refine jjac (C := Tryz.checked) (by kernel_rfl) started (by kernel_rfl) Tryz.func3 (by kernel_rfl) (by kernel_rfl) rfl Tryz.underlying4 rfl (fun ds h => by match ds, h with | [_, _, _], _ => rfl)
    (jj8r (enc := enc) (C := Tryz.checked) (World.doorLaid Tryz.prog 1000 os) #[.agg #[.int .i64 0, .slice none 0 0, .slice none 0 0, .int .i64 0, .slice none 0 0, .slice none 0 0, .int .i64 0, .int .i64 0, .int .i64 0], .agg (.int .i64 0 :: (View.zero.cells ++ [.slice none 0 0])).toArray, .slice none 0 0] rfl (by kernel_rfl) (by kernel_rfl) (by kernel_rfl) (by kernel_rfl) (by kernel_rfl) (laidMetH_of_parts3 (fuel := 8) (laidMet_of_run' 8 (by kernel_rfl) (by kernel_rfl)) (by kernel_rfl) (by kernel_rfl))) ?_
  intro W base args ds p hval hA hL
  change DataW.TrodAll enc Tryz.prog W 0 (fun _ => true) true Tryz.f3.params.toList args.toList ds p at hA
  rw [Tryz.params3] at hA hval
  obtain ⟨v0, vs0, d0, ds0, p0, q0, hargs, rfl, rfl, h0, r0⟩ := trodAll_cons hA
  obtain ⟨v1, vs1, d1, ds1, p1, q1, rfl, rfl, rfl, h1, r1⟩ := trodAll_cons r0
  obtain ⟨v2, vs2, d2, ds2, p2, q2, rfl, rfl, rfl, h2, r2⟩ := trodAll_cons r1
  obtain ⟨rfl, rfl, rfl⟩ := trodAll_nil r2
  obtain rfl : args = #[v0, v1, v2] := by cases args; simp_all
  obtain ⟨c0, cs0, rfl, ic0, oc0⟩ := jjh5 (hval 0 25 v0 rfl rfl) h0
  obtain ⟨z1, x1, m1, S1, s1, rfl, ox1, gm1, oS1, iS1⟩ := jjbj (hval 1 35 v1 rfl rfl) h1
  obtain ⟨A2, n2, c2, l2, rfl, hl2, hm2, pl2, hs2, ll2, ol2⟩ := KS (m := 9) Tryz.underlying36 Said.cells Said.Ok Said.len (by kernel_rfl) (by kernel_rfl) (fun _ h => Said.of_flat h) (by omega) (hval 2 36 v2 rfl rfl) h2
  exact walk c0 cs0 z1 x1 m1 S1 s1 A2 n2 c2 l2 W ic0 oc0 ox1 gm1 oS1 iS1 hl2 hm2 pl2 hs2 ll2 ol2 hL

theorem said : Rows.ModelsPlaySaid :=
  OpenClaim.holds_of_cond 3 Tryz.f3 rfl rfl rfl rfl rfl rfl rfl ⟨rfl, rfl, rfl, rfl, rfl⟩ rfl rfl rfl rfl rfl (by kernel_rfl) Tryz.func3 (by kernel_rfl)
    (of_decide_eq_true (by kernel_rfl)) (by unfold Func.isWrapper; first | (rw [if_pos (by decide +kernel)]; kernel_rfl) | (rw [if_neg (by decide +kernel)]; exact ⟨rfl, rfl⟩))
    (fun os started H enc _ F => by rw [OpenClaim.pre_eq_preRow]; exact lifted os started H enc F)
theorem plain (f : FuncId) (fn : Func) (hf : Tryz.pinned.checked.prog.funcNamed Rows.modelsPlayRow.func = some f) (hfn : Tryz.pinned.checked.prog.funcs[f]? = some fn) :
    false = Tryz.pinned.checked.prog.looks [] /\ ∀ (j : Nat) t, fn.params[j]? = some t -> Tryz.pinned.checked.prog.wantsStandIn t = false := by
  obtain rfl : f = 3 := Option.some.inj ((show Tryz.prog.funcNamed Rows.modelsPlayRow.func = some 3 by kernel_rfl).symm.trans hf) |>.symm
  obtain rfl : fn = Tryz.f3 := (Option.some.inj (Tryz.func3.symm.trans hfn)).symm
  refine ⟨by kernel_rfl, fun j t ht => ?_⟩
  have hm : t ∈ Tryz.f3.params.toList := by rw [<- Array.getElem?_toList] at ht; exact List.mem_of_getElem? ht
  have hall : (Tryz.f3.params.toList.all fun u => !Tryz.prog.wantsStandIn u) = true := by kernel_rfl
  exact (show Tryz.prog.wantsStandIn t = false by simpa using List.all_eq_true.1 hall t hm)
theorem proved : Rows.ModelsPlayCardSaid :=
  Claim7.holds_tied_plain_at .later [] _ _ _ _ said (fun _ h => by cases h) (by kernel_rfl) (fun _ h => by cases h) modelsPlay_row_tie rfl ⟨rfl, rfl⟩ (by kernel_rfl) rfl plain (by kernel_rfl)
#print axioms proved
end Go.Proofs.YtodpbgbpifiniaaGreatDoor.modelsPlay
end
