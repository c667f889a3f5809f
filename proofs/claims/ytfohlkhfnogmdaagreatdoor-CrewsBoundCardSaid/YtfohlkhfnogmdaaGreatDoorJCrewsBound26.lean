/- Parts of a proof. -/
import Derived.Test.YtfohlkhfnogmdaaGreatDoorJCrewsBound15
import Derived.Test.YtfohlkhfnogmdaaGreatDoorJCrewsBound16
import Derived.Test.YtfohlkhfnogmdaaGreatDoorJCrewsBound20
import Derived.Test.YtfohlkhfnogmdaaGreatDoorJCrewsBound22
import Derived.Laws.IdiomRangeMap
set_option linter.unusedSimpArgs false
set_option linter.unusedVariables false
section
namespace Go.Proofs.YtfohlkhfnogmdaaGreatDoor
open Go.RowKit Go.MapKept
theorem jjce {P : Program} {f : FuncId} {g : CtF} (h : CtOk P f g) {args : List AV} {mem : AMem} {r : AV} {ob : List Bool} (hct : g args mem 1000 = some (r, [], 0, ob)) (ho : allT ob) {w : World} {β : Nm} {vs : List Value} (hr : Rel (loneC w) β mem w) (hv : γt β args = some vs) (hp : plainR r = true) {v : Value} (hrv : γ β r = some v) :
 Calls P f vs.toArray w fun e w' => e = .returned v ∧ Below w.heap.size w w' := by
 refine (h.2 (loneC w) β mem mem w args 1000 r [] 0 ob vs hct ho (Sub.refl _) hr (fun id h1 h2 => by omega) (by unfold lim; omega) hv).mono ?_; rintro e w' ⟨β', u, rfl, _, _, hu, hr'⟩; have := jj6h hp β' β u hu; rw [hrv] at this; cases this; exact ⟨rfl, jjj hr'⟩
theorem jjdp {S : Type} {P : Program} {f : FuncId} (rd : Rd S) {R : S → AV} {pre : S → Bool} (hf : ∃ (fn : Func) (c : Code), P.funcs[f]? = some fn ∧ fn.body = some c) (hres : ∀ s, plainR (R s) = true)
 (run : ∀ s, pre s = true → ∀ (w : World) (β : Nm) (vs : List Value), Rel (loneC w) β (rd.mem s) w → γt β (rd.args s) = some vs → Calls P f vs.toArray w fun e w' => ∃ v, e = .returned v ∧ γ β (R s) = some v ∧ Below w.heap.size w w') : CtOk P f (ctRd rd R pre) := by
 refine ⟨hf, fun C β m m2 w args ib r news k' ob vs hct ho hs hr hfree hlim hv => ?_⟩; unfold ctRd at hct; split at hct
 · rename_i s b hd
   simp only [Option.some.injEq, Prod.mk.injEq] at hct; obtain ⟨rfl, rfl, rfl, rfl⟩ := hct; simp only [allT, List.forall_mem_cons] at ho; obtain ⟨rfl, o2, _⟩ := ho; obtain ⟨β1, q1, q2, q3⟩ := rd.ok hs hr hd hv; refine (run s o2 w β1 vs q1 q2).mono ?_; rintro e w' ⟨u, rfl, hu, hb⟩; exact ⟨β, u, rfl, Ext.refl _, fun _ _ => rfl, jj6h (hres s) _ _ _ hu, by rw [List.append_nil]; exact hr.below hb⟩
 · cases hct
theorem jjes {w w1 : World} {β : Nm} {mem : AMem} (hr : Rel (loneC w) β mem w) (hb : Below w.heap.size w w1) (hm : roM mem = mem) : Rel (loneC w1) β mem w1 := by
 have h := (hr.below hb).ro (Sub.refl mem)
 rwa [hm] at h
theorem jjeo (c : Cfg) (nq : Nat) (fq : Nat → Int) : roM (mS ++ netL c nq fq) = mS ++ netL c nq fq := rfl
set_option maxRecDepth 100000 in
theorem base0 (c : Cfg) (nq : Nat) (fq : Nat → Int) (h0 : roundN c nq ≠ 0) (w : World) (β : Nm) (a : Addr) (hr : Rel (loneC w) β (mS ++ netL c nq fq) w) (ha : γ1 β (.c (.ptr 5 0 0)) = some (.pointer (some a))) :
 Calls Tryz.prog 122 #[.pointer (some a), .slice none 0 0] w fun e w' => e = .returned (.agg (fstV c nq fq).cells.toArray) ∧ Below w.heap.size w w' := by
 have c1 : ∀ w1, Below w.heap.size w w1 → Calls Tryz.prog 12 #[.pointer (some a)] w1 fun e w' => e = .returned (.int .i64 (roundN c nq)) ∧ Below w1.heap.size w1 w' := fun w1 hb =>
  jjce jjc6 (args := [.c (.ptr 5 0 0)]) (mem := mS ++ netL c nq fq) (r := i64 (roundN c nq)) (ob := [netK c nq fq, true]) (by kernel_rfl) (by simp [allT, jjn, jju, jj1, jj3, jj7, jjg]) (β := β) (vs := [.pointer (some a)]) (jjes hr hb (jjeo c nq fq)) (by simp only [γt, ha]) rfl rfl
 have c2 : ∀ w1, Below w.heap.size w w1 → Calls Tryz.prog 119 #[.pointer (some a)] w1 fun e w' => e = .returned (.agg (fstV c nq fq).cells.toArray) ∧ Below w1.heap.size w1 w' := fun w1 hb =>
  jjce jjju (args := [.c (.ptr 5 0 0)]) (mem := mS ++ netL c nq fq) (r := .agg (vwL (fstV c nq fq))) (ob := [netK c nq fq, true]) (by kernel_rfl) (by simp [allT, jjn, jju, jj1, jj3, jj7, jjg]) (β := β) (vs := [.pointer (some a)]) (jjes hr hb (jjeo c nq fq)) (by simp only [γt, ha]) rfl (by simp only [γ, γ1, vwL, jj5q])
 have hu : (fstV c nq fq).cells.length = 42 ∧ allOne (fstV c nq fq).cells = true := ⟨rfl, rfl⟩
 generalize roundN c nq = r at c1 h0; generalize (fstV c nq fq).cells = u at c2 hu
 go_enter Tryz.func122, Tryz.ntmps122
 go_wp2_with (first
  | (go_at_call 12; refine (c1 _ (by (repeat' (first | exact jj12 _ _ | assumption | refine jj13 ?_ | refine jjy _ ?_ | refine jjl _ (by first | omega | (simp [jj2, jj4] <;> omega)) ?_ | refine jjt (by first | omega | (simp [jj2, jj4] <;> omega)) ?_ | refine jjk (by first | omega | (simp [jj2, jj4] <;> omega)) ?_ | refine jj21 (by first | omega | (simp [jj2, jj4] <;> omega)) ?_)))).mono ?_; rintro e w1 ⟨rfl, hb1⟩)
  | (go_at_call 119; refine (c2 _ ((jjl _ (Nat.le_refl _) (jj12 _ _)).trans (hb1.mono (by simp)))).mono ?_; rintro e w2 ⟨rfl, hb2⟩))
 have hz0 : w.heap.size < w1.heap.size := Nat.lt_of_lt_of_le (by simp) hb1.size; have hz1 : w.heap.size < w2.heap.size := Nat.lt_of_lt_of_le hz0 hb2.size; have hb : Below w.heap.size w w2 := ((jjl _ (Nat.le_refl _) (jj12 _ _)).trans (hb1.mono (by simp))).trans (hb2.mono (by omega)); have hv0 : Blk w2 w.heap.size 59 View.zero.cells := ((Blk.new w 59 View.zero.cells).below hb1 (by simp)).below hb2 hz0; obtain ⟨W, hW⟩ : ∃ W, ((w2.alloc (Obj.cells (lay View.zero.cells 0 u).toArray 59)).alloc (Obj.map #[] 0)) = W := ⟨_, rfl⟩
 have hm : W.heap[w2.heap.size + 1]? = some (.map #[] 0) := by
  subst hW; have := (heap_alloc (w2.alloc (Obj.cells (lay View.zero.cells 0 u).toArray 59)) (.map #[] 0)).1
  rwa [show (w2.alloc (Obj.cells (lay View.zero.cells 0 u).toArray 59)).heap.size = w2.heap.size + 1 by simp] at this
 have hbu : Blk W w2.heap.size 59 u := by
  subst hW; rw [jj2a _ _ (by rw [hu.1]; rfl)]; exact (Blk.new w2 59 u).alloc _
 have hv1 : Blk W w.heap.size 59 View.zero.cells := by subst hW; exact (hv0.alloc _).alloc _
 have hbW : Below w.heap.size w W := by subst hW; exact jjl _ (by simp; omega) (jjl _ (by omega) hb)
 have hsW : w2.heap.size + 1 < W.heap.size := by subst hW; simp
 rw [hW]; clear hW hb1 hb2 hb hv0 c1 c2; have hrg : (Instr.range 222 (.map (some (w2.heap.size + 1)))).run Tryz.prog W = .ok (.pointer (some ⟨W.heap.size, 0, none⟩)) (W.alloc (.mapIter (some (w2.heap.size + 1)) 0 #[] 0)) := run_range_map W 222 59 3 _ #[] 0 (by kernel_rfl) hm
 have hnx : ∀ ty, (Instr.next (.pointer (some ⟨W.heap.size, 0, none⟩)) false ty).run Tryz.prog (W.alloc (.mapIter (some (w2.heap.size + 1)) 0 #[] 0)) = .ok (.tuple #[.bool false]) (W.alloc (.mapIter (some (w2.heap.size + 1)) 0 #[] 0)) := fun ty => by
  rcases run_next_map (P := Tryz.prog) W ty (w2.heap.size + 1) 0 0 #[] #[] 0 hm (fun x hx => by simp at hx) (Nat.le_refl _) with h | ⟨e, he, _⟩
  · exact h.2
  · simp [leftOf] at he
 have hgb : grab (W.alloc (.mapIter (some (w2.heap.size + 1)) 0 #[] 0)) w2.heap.size 0 42 = some u := by rw [(hbu.alloc _).grab, if_pos (by omega), jj30 _ _ hu.1]
 have hpo : putOk (W.alloc (.mapIter (some (w2.heap.size + 1)) 0 #[] 0)) w.heap.size 0 42 = true := by rw [(hv1.alloc _).putOk]; rfl
 have hpu : put (W.alloc (.mapIter (some (w2.heap.size + 1)) 0 #[] 0)) w.heap.size 0 u = setB (W.alloc (.mapIter (some (w2.heap.size + 1)) 0 #[] 0)) w.heap.size 59 u := by rw [(hv1.alloc _).put, jj2a _ _ (by rw [hu.1]; rfl)]
 have hs0 : w.heap.size < (W.alloc (.mapIter (some (w2.heap.size + 1)) 0 #[] 0)).heap.size := by simp; omega
 go_loopw [22] (fun i wr => i = .int .i64 0 ∧ wr = W) (fun _ _ => 0)
 case atStart => exact ⟨rfl, rfl⟩
 case round =>
  obtain ⟨rfl, rfl⟩ := hrel
  go_wp2
  go_loopw [10] (fun i wr2 => i = .int .i64 0 ∧ wr2 = wr.alloc (.mapIter (some (w2.heap.size + 1)) 0 #[] 0)) (fun _ _ => 0)
  case atStart => exact ⟨rfl, rfl⟩
  case round =>
   obtain ⟨rfl, rfl⟩ := hrel
   go_wp2
   refine bodyPost_ret (jj1x rfl (k := 42) (by kernel_rfl) rfl (by go_simp; rw [((hv1.alloc _).same u).grab, if_pos (by omega), jj30 _ _ hu.1])) rfl ⟨jj1w rfl, ?_⟩; exact jjt (Nat.le_refl _) (jjl _ (by omega) hbW)
theorem jje6 {β : Nm} {x : AV} {r : List AV} {vs : List Value} (h : γt β (x :: r) = some vs) : ∃ v us, vs = v :: us ∧ γ1 β x = some v ∧ γt β r = some us := by
 simp only [γt] at h; split at h
 · rename_i v us h1 h2
   cases h; exact ⟨v, us, rfl, h1, h2⟩
 · cases h
def ctBase0 : CtF := ctRd netRd (fun | ⟨c, nq, fq, [.c (.v (.slice none 0 0))]⟩ => .agg (vwL (fstV c nq fq)) | _ => i64 0) (fun | ⟨c, nq, _, [.c (.v (.slice none 0 0))]⟩ => decide (roundN c nq ≠ 0) | _ => false)
theorem jjh6 : CtOk Tryz.prog 122 ctBase0 := by
 refine jjdp netRd ⟨_, _, Tryz.func122, rfl⟩ (fun s => by split <;> rfl) fun s hs w β vs hr hv => ?_
 split at hs
 · rename_i c nq fq
   have h0 : roundN c nq ≠ 0 := of_decide_eq_true hs; obtain ⟨v1, u1, rfl, e1, h1⟩ := jje6 hv; obtain ⟨v2, u2, rfl, e2, h2⟩ := jje6 h1; cases e2; cases h2
   have ha : ∃ a, v1 = .pointer (some a) := by
    simp only [γ1, γc] at e1; split at e1
    · rename_i a _; exact ⟨a, (Option.some.inj e1).symm⟩
    · cases e1
   obtain ⟨a, rfl⟩ := ha; refine (base0 c nq fq h0 w β a hr e1).mono ?_; rintro e w' ⟨rfl, hb⟩; exact ⟨_, rfl, by simp only [γ, γ1, vwL, jj5q], hb⟩
 · cases hs
end Go.Proofs.YtfohlkhfnogmdaaGreatDoor
end
