/- Parts of a proof. -/
import Derived.Test.YtfohlkhfnogmdaaGreatDoorJCrewsBound21
import Derived.Test.YtfohlkhfnogmdaaGreatDoorJCrewsBound23
import Derived.Test.YtfohlkhfnogmdaaGreatDoorJCrewsBound4
import Derived.Deep.QuietTactic
import Derived.BigRegion
set_option linter.unusedSimpArgs false
set_option linter.unusedVariables false
section
namespace Go.Proofs.YtfohlkhfnogmdaaGreatDoor
open Go.RowKit
@[go_sem] theorem MBlk_drew (w : World) (b : Nat) (es : List (List Value × Value)) : MBlk w.drew b es ↔ MBlk w b es := Iff.rfl
structure DelSt where
 m : PM
 out : Said
def delStep (a : Int) (s : DelSt) (h : Held) : Option DelSt :=
 if h.is && h.cell.report.is && decide (h.cell.report.at_ = a) then
  let m' := s.m.inc h.cell.report.p
  if m'.cnt h.cell.report.p = 2 then (if s.out.is then none else some ⟨m', ⟨true, a, h.cell.report.p⟩⟩) else some ⟨m', s.out⟩
 else some s
def delRun (a : Int) (l : List Held) : Option DelSt := l.foldlM (delStep a) ⟨[], Said.zero⟩
def deliverL (a : Int) (l : List Held) : Said := ((delRun a l).map (·.out)).getD Said.zero
theorem jjr {a : Int} {l : List Held} {k : Nat} {x : Held} {s : DelSt} (hx : l[k]? = some x) (h : delRun a (l.take k) = some s) : delRun a (l.take (k + 1)) = delStep a s x := by
 unfold delRun at h ⊢; rw [List.take_add_one, hx, List.foldlM_append, h]; simp
theorem jj62 {a : Int} {l : List Held} {k M : Nat} (h : delRun a (l.take k) = none) (hk : k ≤ M) : delRun a (l.take M) = none := by
 unfold delRun at h ⊢; rw [show l.take M = l.take k ++ (l.take M).drop k by rw [show l.take k = (l.take M).take k by rw [List.take_take, Nat.min_eq_left hk], List.take_append_drop], List.foldlM_append, h]; rfl
theorem jj99 {q : IntKind} {n : Int} (h : (Lit.int q n).wf = true) : KOk (some q) (.int q n) := ⟨n, rfl, h⟩
theorem Payload.ok_flat {x : Payload} (h : x.Ok) : Flat Payload.ks x.cells := by
 obtain ⟨h0, h1, h2, h3⟩ := h; refine ⟨rfl, fun i k hk => ?_⟩
 match i, hk with
 | 0, hk => obtain rfl := Option.some.inj hk.symm; exact ⟨_, rfl, jj99 (by unfold Lit.wf; rw [Bool.and_eq_true, decide_eq_true_iff, decide_eq_true_iff, show IntKind.min _ = 0 from rfl]; first | (rw [show IntKind.max .u8 = 255 from rfl]; omega) | (rw [show IntKind.max .u32 = 4294967295 from rfl]; omega))⟩
 | 1, hk => obtain rfl := Option.some.inj hk.symm; exact ⟨_, rfl, jj99 (by unfold Lit.wf; rw [Bool.and_eq_true, decide_eq_true_iff, decide_eq_true_iff, show IntKind.min _ = 0 from rfl]; first | (rw [show IntKind.max .u8 = 255 from rfl]; omega) | (rw [show IntKind.max .u32 = 4294967295 from rfl]; omega))⟩
 | 2, hk => obtain rfl := Option.some.inj hk.symm; exact ⟨_, rfl, jj99 (by unfold Lit.wf; rw [Bool.and_eq_true, decide_eq_true_iff, decide_eq_true_iff, show IntKind.min _ = 0 from rfl]; first | (rw [show IntKind.max .u8 = 255 from rfl]; omega) | (rw [show IntKind.max .u32 = 4294967295 from rfl]; omega))⟩
 | 3, hk => obtain rfl := Option.some.inj hk.symm; exact ⟨_, rfl, jj99 (by unfold Lit.wf; rw [Bool.and_eq_true, decide_eq_true_iff, decide_eq_true_iff, show IntKind.min _ = 0 from rfl]; first | (rw [show IntKind.max .u8 = 255 from rfl]; omega) | (rw [show IntKind.max .u32 = 4294967295 from rfl]; omega))⟩
 | i + 4, hk => simp [Payload.ks] at hk
theorem jj96 {w : World} {b b' : Nat} {t : TypeId} {es : List (List Value × Value)} (h : MBlk w b es) (hne : b' ≠ b) (c : List Value) : MBlk (setB w b' t c) b es := by
 unfold MBlk at h ⊢; simp [setB, hne, h]
set_option maxRecDepth 100000 in
set_option maxHeartbeats 1000000 in
theorem jj8f (a : Int) (A : Option Addr) (n cap M : Nat) (l : List Held) (w : World) (hM : M ≤ n) (hnc : n ≤ cap) (hn : n ≤ maxLen) (hok : ∀ h ∈ l, h.Ok) (hl : Sl w w.heap.size 56 A n (l.flatMap Held.cells)) (ha : inAge a = true) (nn : Int) (hnn : min nn n = M) (h4 : 4 ≤ nn) (h16 : nn ≤ 16) :
 Calls Tryz.prog 123 #[.int .i64 nn, .slice A n cap, .int .i64 a] w fun e w' => e = .returned (.agg (deliverL a (l.take M)).cells.toArray) ∧ Below w.heap.size w w' := by
 unfold maxLen at hn
 go_enter Tryz.func123, Tryz.ntmps123
 go_wp2_with (go_at_call 157; refine (jj3s _ _).mono ?_; rintro e w' ⟨rfl, rfl⟩)
 · obtain rfl : M = n := by omega
   go_loopw [32] (fun i wr => ∃ (k : Nat) (s : DelSt), k ≤ M ∧ i = .int .i64 k ∧ (∀ q, s.m.cnt q ≤ k) ∧ delRun a (l.take k) = some s ∧ Below w.heap.size w wr ∧ w.heap.size + 3 ≤ wr.heap.size ∧ MBlk wr (w.heap.size + 1) s.m.enc ∧ Blk wr (w.heap.size + 1 + 1) 70 s.out.cells ∧ Blk wr w.heap.size 70 Said.zero.cells) (fun i _ => M - (intOf i).toNat)
   case atStart =>
    refine ⟨0, ⟨[], Said.zero⟩, Nat.zero_le _, rfl, fun q => Nat.le_refl 0, rfl, by (repeat' (first | exact jj12 _ _ | assumption | refine jj13 ?_ | refine jjy _ ?_ | refine jjl _ (by first | omega | (simp [jj2, jj4] <;> omega)) ?_ | refine jjt (by first | omega | (simp [jj2, jj4] <;> omega)) ?_ | refine jjk (by first | omega | (simp [jj2, jj4] <;> omega)) ?_ | refine jj21 (by first | omega | (simp [jj2, jj4] <;> omega)) ?_)), by simp, ?_, ?_, ?_⟩
    · have := (MBlk.new (w.alloc (.cells Said.zero.cells.toArray 70))).alloc (.cells Said.zero.cells.toArray 70)
      rwa [show (w.alloc (.cells Said.zero.cells.toArray 70)).heap.size = w.heap.size + 1 by simp] at this
    · have := Blk.new ((w.alloc (.cells Said.zero.cells.toArray 70)).alloc (.map #[] 0)) 70 Said.zero.cells
      rwa [show ((w.alloc (.cells Said.zero.cells.toArray 70)).alloc (.map #[] 0)).heap.size = w.heap.size + 1 + 1 by simp] at this
    · exact ((Blk.new w 70 Said.zero.cells).alloc _).alloc _
   case round =>
    obtain ⟨k, s, hk, rfl, hcnt, hrun, hbel, hsz, hmb, hbo, hbr⟩ := hrel; by_cases hlt : k < M
    · obtain ⟨b, o, x, rfl, hb, hx, hg⟩ := (hl.below hbel).elem Held.len (by omega) hlt
      have hgo : grab wr (w.heap.size + 1 + 1) 0 6 = some s.out.cells := by rw [hbo.grab, if_pos (by rw [Said.len]; omega), jj30 _ _ (Said.len _)]
      have hs2 : w.heap.size + 1 + 1 < wr.heap.size := by omega
      have hs1 : w.heap.size < wr.heap.size := by omega
      cases hx1 : x.is
      · go_wp2
        exact ⟨⟨k + 1, s, by omega, by simp, fun q => by have := hcnt q; omega, (jjr hx hrun).trans (by simp [delStep, hx1]), by (repeat' (first | exact jj12 _ _ | assumption | refine jj13 ?_ | refine jjy _ ?_ | refine jjl _ (by first | omega | (simp [jj2, jj4] <;> omega)) ?_ | refine jjt (by first | omega | (simp [jj2, jj4] <;> omega)) ?_ | refine jjk (by first | omega | (simp [jj2, jj4] <;> omega)) ?_ | refine jj21 (by first | omega | (simp [jj2, jj4] <;> omega)) ?_)), by simp; omega, (hmb.alloc _).alloc _, (hbo.alloc _).alloc _, (hbr.alloc _).alloc _⟩, by simp [intOf]; omega⟩
      · cases hx2 : x.cell.report.is
        · go_wp2
          exact ⟨⟨k + 1, s, by omega, by simp, fun q => by have := hcnt q; omega, (jjr hx hrun).trans (by simp [delStep, hx1, hx2]), by (repeat' (first | exact jj12 _ _ | assumption | refine jj13 ?_ | refine jjy _ ?_ | refine jjl _ (by first | omega | (simp [jj2, jj4] <;> omega)) ?_ | refine jjt (by first | omega | (simp [jj2, jj4] <;> omega)) ?_ | refine jjk (by first | omega | (simp [jj2, jj4] <;> omega)) ?_ | refine jj21 (by first | omega | (simp [jj2, jj4] <;> omega)) ?_)), by simp; omega, (hmb.alloc _).alloc _, (hbo.alloc _).alloc _, (hbr.alloc _).alloc _⟩, by simp [intOf]; omega⟩
        · by_cases hx3 : x.cell.report.at_ = a
          · go_wp2
            generalize hW : (wr.alloc (.cells x.cells.toArray 145)).alloc (.cells x.cell.report.cells.toArray 70) = W1; have hm1 : MBlk W1 (w.heap.size + 1) s.m.enc := hW ▸ (hmb.alloc _).alloc _; have hr1 : Blk W1 (wr.heap.size + 1) 70 x.cell.report.cells := by subst hW; have := Blk.new (wr.alloc (.cells x.cells.toArray 145)) 70 x.cell.report.cells; rwa [show (wr.alloc (.cells x.cells.toArray 145)).heap.size = wr.heap.size + 1 by simp] at this
            have hg1 : grab W1 (wr.heap.size + 1) 2 4 = some x.cell.report.p.cells := by rw [hr1.grab, if_pos (by rw [Said.len]; omega)]; rfl
            have ho1 : Blk W1 (w.heap.size + 1 + 1) 70 s.out.cells := hW ▸ (hbo.alloc _).alloc _; have hz1 : Blk W1 w.heap.size 70 Said.zero.cells := hW ▸ (hbr.alloc _).alloc _; have hb1 : Below w.heap.size w W1 := by subst hW; (repeat' (first | exact jj12 _ _ | assumption | refine jj13 ?_ | refine jjy _ ?_ | refine jjl _ (by first | omega | (simp [jj2, jj4] <;> omega)) ?_ | refine jjt (by first | omega | (simp [jj2, jj4] <;> omega)) ?_ | refine jjk (by first | omega | (simp [jj2, jj4] <;> omega)) ?_ | refine jj21 (by first | omega | (simp [jj2, jj4] <;> omega)) ?_))
            have hsz1 : w.heap.size + 3 ≤ W1.heap.size := by subst hW; simp; omega
            have hpf : Flat Payload.ks x.cell.report.p.cells := Payload.ok_flat (hok x (List.mem_of_getElem? hx)).2.2.1.2; have L3 := (bump (s.m.inc x.cell.report.p) x.cell.report.p hpf (w.heap.size + 1)).choose_spec.choose_spec.1; obtain ⟨es1, idx, H1, H2, H3, H4, H5, H6⟩ := bump s.m x.cell.report.p hpf (w.heap.size + 1); have hcb := hcnt x.cell.report.p; have hinc := H6; have hci0 : ((s.m.cnt x.cell.report.p : Nat) : Int) ≤ k := by omega
            have hci1 : (0 : Int) ≤ ((s.m.cnt x.cell.report.p : Nat) : Int) := by omega
            rw [H6] at L3; rw [show ((s.m.cnt x.cell.report.p + 1 : Nat) : Int) = ((s.m.cnt x.cell.report.p : Nat) : Int) + 1 by omega] at L3; clear hinc H6 hcb; obtain ⟨c, hcc⟩ : ∃ c : Int, ((s.m.cnt x.cell.report.p : Nat) : Int) = c := ⟨_, rfl⟩
            rw [hcc] at hci0 hci1 L3; simp only [hcc] at H1 H2 H3 H4; have HC := Lib.hid hcc; clear hcc; have hwr : wrap64 (c + 1) = c + 1 := by unfold RowKit.wrap64; omega
            clear hci0 hci1; have hm2 : MBlk W1.drew (w.heap.size + 1) s.m.enc := hm1; have a1 := H1 W1 hm1; have a2 := H1 W1.drew hm2; have b1 := H2 W1 hm1; have b2 := H2 W1.drew hm2; have c1 := H3 _ (H5 W1 hm1); have c2 := H3 _ (H5 W1.drew hm2); have c3 := H3 (setM W1 (w.heap.size + 1) es1).drew (H5 W1 hm1); have d1 := H4 _ (H5 W1 hm1); have d2 := H4 _ (H5 W1.drew hm2); have d3 := H4 (setM W1 (w.heap.size + 1) es1).drew (H5 W1 hm1); clear H1 H2 H3 H4 H5
            go_region
            rw [jj8x]; have hm3 := hm2.set (s.m.inc x.cell.report.p).enc; have hr3 := (show Blk W1.drew (wr.heap.size + 1) 70 x.cell.report.cells from hr1).setM (b' := w.heap.size + 1) (by omega) (s.m.inc x.cell.report.p).enc; have ho3 := (show Blk W1.drew (w.heap.size + 1 + 1) 70 s.out.cells from ho1).setM (b' := w.heap.size + 1) (by omega) (s.m.inc x.cell.report.p).enc; have hz3 := (show Blk W1.drew w.heap.size 70 Said.zero.cells from hz1).setM (b' := w.heap.size + 1) (by omega) (s.m.inc x.cell.report.p).enc; have hb3 : Below w.heap.size w (setM W1.drew (w.heap.size + 1) (s.m.inc x.cell.report.p).enc) := (jj13 hb1).trans (jj7k (by omega)); have hsz3 : w.heap.size + 3 ≤ (setM W1.drew (w.heap.size + 1) (s.m.inc x.cell.report.p).enc).heap.size := by rw [jj8w]; exact hsz1
            clear a1 a2 b1 b2 c1 c2 c3 d1 d2 d3 hm1 hm2 hr1 ho1 hz1 hb1 hsz1 hg1 hW; generalize setM W1.drew (w.heap.size + 1) (s.m.inc x.cell.report.p).enc = W2 at hm3 hr3 ho3 hz3 hb3 hsz3 ⊢; have hl3 := L3 _ hm3; clear L3; have hg3 : grab W2 (wr.heap.size + 1) 2 4 = some x.cell.report.p.cells := by rw [hr3.grab, if_pos (by rw [Said.len]; omega)]; rfl
            have hcl : W2.cell? ⟨w.heap.size + 1 + 1, 0, none⟩ = some (.bool s.out.is) := (ho3.cell 0).trans rfl; have hpo : putOk W2 (w.heap.size + 1 + 1) 0 6 = true := by rw [ho3.putOk, Said.len]; rfl
            have hpu : ∀ v : Said, put W2 (w.heap.size + 1 + 1) 0 v.cells = setB W2 (w.heap.size + 1 + 1) 70 v.cells := fun v => by rw [ho3.put, jj2a _ _ (by rw [Said.len, Said.len])]
            have hpo0 : putOk W2 w.heap.size 0 6 = true := by rw [hz3.putOk, Said.len]; rfl
            have hpu0 : ∀ v : Said, put W2 w.heap.size 0 v.cells = setB W2 w.heap.size 70 v.cells := fun v => by rw [hz3.put, jj2a _ _ (by rw [Said.len, Said.len])]
            have hci : ∀ q, (s.m.inc x.cell.report.p).cnt q ≤ k + 1 := by
             intro q; rw [jj63]; have h1 := hcnt q; have h2 := hcnt x.cell.report.p; split <;> omega
            have hce : (s.m.inc x.cell.report.p).cnt x.cell.report.p = 2 ↔ c + 1 = 2 := by
             rw [jj63, if_pos rfl]; have := HC.out; omega
            have HE := Lib.hid hce; have HI := Lib.hid hci; clear hce hci; by_cases hc2 : c + 1 = 2
            · cases ho : s.out.is
              · have hst : delRun a (l.take (k + 1)) = some ⟨s.m.inc x.cell.report.p, ⟨true, a, x.cell.report.p⟩⟩ := (jjr hx hrun).trans (by simp [delStep, hx1, hx2, hx3, HE.out.2 hc2, ho])
                have HS := Lib.hid hst; clear hst
                go_wp2
                exact ⟨⟨k + 1, _, by omega, by simp, HI.out, HS.out, jjt (by omega) hb3, by rw [jj2]; exact hsz3, jj96 hm3 (by omega) _, ho3.same _, hz3.other (by omega) _⟩, by simp [intOf]; omega⟩
              · have hst : delRun a (l.take (k + 1)) = none := (jjr hx hrun).trans (by simp [delStep, hx1, hx2, hx3, HE.out.2 hc2, ho])
                have HS := Lib.hid (jj62 (M := M) hst (by omega)); clear hst; have hs3 : w.heap.size < W2.heap.size := by omega
                go_wp2
                refine bodyPost_ret (jj1x rfl (k := 6) (by kernel_rfl) rfl (by go_simp; rfl)) rfl ⟨jj1w ?_, ?_⟩
                · simp [deliverL, HS.out]
                · exact jjt (by omega) hb3
            · have hst : delRun a (l.take (k + 1)) = some ⟨s.m.inc x.cell.report.p, s.out⟩ := (jjr hx hrun).trans (by simp [delStep, hx1, hx2, hx3, mt HE.out.1 hc2])
              have HS := Lib.hid hst; clear hst
              go_wp2
              exact ⟨⟨k + 1, _, by omega, by simp, HI.out, HS.out, hb3, hsz3, hm3, ho3, hz3⟩, by simp [intOf]; omega⟩
          · go_wp2
            exact ⟨⟨k + 1, s, by omega, by simp, fun q => by have := hcnt q; omega, (jjr hx hrun).trans (by simp [delStep, hx1, hx2, hx3]), by (repeat' (first | exact jj12 _ _ | assumption | refine jj13 ?_ | refine jjy _ ?_ | refine jjl _ (by first | omega | (simp [jj2, jj4] <;> omega)) ?_ | refine jjt (by first | omega | (simp [jj2, jj4] <;> omega)) ?_ | refine jjk (by first | omega | (simp [jj2, jj4] <;> omega)) ?_ | refine jj21 (by first | omega | (simp [jj2, jj4] <;> omega)) ?_)), by simp; omega, (hmb.alloc _).alloc _, (hbo.alloc _).alloc _, (hbr.alloc _).alloc _⟩, by simp [intOf]; omega⟩
    · obtain rfl : k = M := by omega
      have hgo : grab wr (w.heap.size + 1 + 1) 0 6 = some s.out.cells := by rw [hbo.grab, if_pos (by rw [Said.len]; omega), jj30 _ _ (Said.len _)]
      have hpr : putOk wr w.heap.size 0 6 = true := by rw [hbr.putOk, Said.len]; rfl
      have hpp : put wr w.heap.size 0 s.out.cells = setB wr w.heap.size 70 s.out.cells := by rw [hbr.put, jj2a _ _ (by rw [Said.len, Said.len])]
      have hb0 : w.heap.size < wr.heap.size := by omega
      go_wp2
      refine bodyPost_ret (jj1x rfl (k := 6) (by kernel_rfl) rfl (by go_simp; rfl)) rfl ⟨jj1w ?_, ?_⟩
      · simp [deliverL, hrun]
      · exact jjt (Nat.le_refl _) hbel
 · obtain rfl : nn = (M : Int) := by omega
   go_loopw [32] (fun i wr => ∃ (k : Nat) (s : DelSt), k ≤ M ∧ i = .int .i64 k ∧ (∀ q, s.m.cnt q ≤ k) ∧ delRun a (l.take k) = some s ∧ Below w.heap.size w wr ∧ w.heap.size + 3 ≤ wr.heap.size ∧ MBlk wr (w.heap.size + 1) s.m.enc ∧ Blk wr (w.heap.size + 1 + 1) 70 s.out.cells ∧ Blk wr w.heap.size 70 Said.zero.cells) (fun i _ => M - (intOf i).toNat)
   case atStart =>
    refine ⟨0, ⟨[], Said.zero⟩, Nat.zero_le _, rfl, fun q => Nat.le_refl 0, rfl, by (repeat' (first | exact jj12 _ _ | assumption | refine jj13 ?_ | refine jjy _ ?_ | refine jjl _ (by first | omega | (simp [jj2, jj4] <;> omega)) ?_ | refine jjt (by first | omega | (simp [jj2, jj4] <;> omega)) ?_ | refine jjk (by first | omega | (simp [jj2, jj4] <;> omega)) ?_ | refine jj21 (by first | omega | (simp [jj2, jj4] <;> omega)) ?_)), by simp, ?_, ?_, ?_⟩
    · have := (MBlk.new (w.alloc (.cells Said.zero.cells.toArray 70))).alloc (.cells Said.zero.cells.toArray 70)
      rwa [show (w.alloc (.cells Said.zero.cells.toArray 70)).heap.size = w.heap.size + 1 by simp] at this
    · have := Blk.new ((w.alloc (.cells Said.zero.cells.toArray 70)).alloc (.map #[] 0)) 70 Said.zero.cells
      rwa [show ((w.alloc (.cells Said.zero.cells.toArray 70)).alloc (.map #[] 0)).heap.size = w.heap.size + 1 + 1 by simp] at this
    · exact ((Blk.new w 70 Said.zero.cells).alloc _).alloc _
   case round =>
    obtain ⟨k, s, hk, rfl, hcnt, hrun, hbel, hsz, hmb, hbo, hbr⟩ := hrel; by_cases hlt : k < M
    · obtain ⟨b, o, x, rfl, hb, hx, hg⟩ := (hl.below hbel).elem Held.len (by omega) (show k < n by omega)
      have hgo : grab wr (w.heap.size + 1 + 1) 0 6 = some s.out.cells := by rw [hbo.grab, if_pos (by rw [Said.len]; omega), jj30 _ _ (Said.len _)]
      have hs2 : w.heap.size + 1 + 1 < wr.heap.size := by omega
      have hs1 : w.heap.size < wr.heap.size := by omega
      cases hx1 : x.is
      · go_wp2
        exact ⟨⟨k + 1, s, by omega, by simp, fun q => by have := hcnt q; omega, (jjr hx hrun).trans (by simp [delStep, hx1]), by (repeat' (first | exact jj12 _ _ | assumption | refine jj13 ?_ | refine jjy _ ?_ | refine jjl _ (by first | omega | (simp [jj2, jj4] <;> omega)) ?_ | refine jjt (by first | omega | (simp [jj2, jj4] <;> omega)) ?_ | refine jjk (by first | omega | (simp [jj2, jj4] <;> omega)) ?_ | refine jj21 (by first | omega | (simp [jj2, jj4] <;> omega)) ?_)), by simp; omega, (hmb.alloc _).alloc _, (hbo.alloc _).alloc _, (hbr.alloc _).alloc _⟩, by simp [intOf]; omega⟩
      · cases hx2 : x.cell.report.is
        · go_wp2
          exact ⟨⟨k + 1, s, by omega, by simp, fun q => by have := hcnt q; omega, (jjr hx hrun).trans (by simp [delStep, hx1, hx2]), by (repeat' (first | exact jj12 _ _ | assumption | refine jj13 ?_ | refine jjy _ ?_ | refine jjl _ (by first | omega | (simp [jj2, jj4] <;> omega)) ?_ | refine jjt (by first | omega | (simp [jj2, jj4] <;> omega)) ?_ | refine jjk (by first | omega | (simp [jj2, jj4] <;> omega)) ?_ | refine jj21 (by first | omega | (simp [jj2, jj4] <;> omega)) ?_)), by simp; omega, (hmb.alloc _).alloc _, (hbo.alloc _).alloc _, (hbr.alloc _).alloc _⟩, by simp [intOf]; omega⟩
        · by_cases hx3 : x.cell.report.at_ = a
          · go_wp2
            generalize hW : (wr.alloc (.cells x.cells.toArray 145)).alloc (.cells x.cell.report.cells.toArray 70) = W1; have hm1 : MBlk W1 (w.heap.size + 1) s.m.enc := hW ▸ (hmb.alloc _).alloc _; have hr1 : Blk W1 (wr.heap.size + 1) 70 x.cell.report.cells := by subst hW; have := Blk.new (wr.alloc (.cells x.cells.toArray 145)) 70 x.cell.report.cells; rwa [show (wr.alloc (.cells x.cells.toArray 145)).heap.size = wr.heap.size + 1 by simp] at this
            have hg1 : grab W1 (wr.heap.size + 1) 2 4 = some x.cell.report.p.cells := by rw [hr1.grab, if_pos (by rw [Said.len]; omega)]; rfl
            have ho1 : Blk W1 (w.heap.size + 1 + 1) 70 s.out.cells := hW ▸ (hbo.alloc _).alloc _; have hz1 : Blk W1 w.heap.size 70 Said.zero.cells := hW ▸ (hbr.alloc _).alloc _; have hb1 : Below w.heap.size w W1 := by subst hW; (repeat' (first | exact jj12 _ _ | assumption | refine jj13 ?_ | refine jjy _ ?_ | refine jjl _ (by first | omega | (simp [jj2, jj4] <;> omega)) ?_ | refine jjt (by first | omega | (simp [jj2, jj4] <;> omega)) ?_ | refine jjk (by first | omega | (simp [jj2, jj4] <;> omega)) ?_ | refine jj21 (by first | omega | (simp [jj2, jj4] <;> omega)) ?_))
            have hsz1 : w.heap.size + 3 ≤ W1.heap.size := by subst hW; simp; omega
            have hpf : Flat Payload.ks x.cell.report.p.cells := Payload.ok_flat (hok x (List.mem_of_getElem? hx)).2.2.1.2; have L3 := (bump (s.m.inc x.cell.report.p) x.cell.report.p hpf (w.heap.size + 1)).choose_spec.choose_spec.1; obtain ⟨es1, idx, H1, H2, H3, H4, H5, H6⟩ := bump s.m x.cell.report.p hpf (w.heap.size + 1); have hcb := hcnt x.cell.report.p; have hinc := H6; have hci0 : ((s.m.cnt x.cell.report.p : Nat) : Int) ≤ k := by omega
            have hci1 : (0 : Int) ≤ ((s.m.cnt x.cell.report.p : Nat) : Int) := by omega
            rw [H6] at L3; rw [show ((s.m.cnt x.cell.report.p + 1 : Nat) : Int) = ((s.m.cnt x.cell.report.p : Nat) : Int) + 1 by omega] at L3; clear hinc H6 hcb; obtain ⟨c, hcc⟩ : ∃ c : Int, ((s.m.cnt x.cell.report.p : Nat) : Int) = c := ⟨_, rfl⟩
            rw [hcc] at hci0 hci1 L3; simp only [hcc] at H1 H2 H3 H4; have HC := Lib.hid hcc; clear hcc; have hwr : wrap64 (c + 1) = c + 1 := by unfold RowKit.wrap64; omega
            clear hci0 hci1; have hm2 : MBlk W1.drew (w.heap.size + 1) s.m.enc := hm1; have a1 := H1 W1 hm1; have a2 := H1 W1.drew hm2; have b1 := H2 W1 hm1; have b2 := H2 W1.drew hm2; have c1 := H3 _ (H5 W1 hm1); have c2 := H3 _ (H5 W1.drew hm2); have c3 := H3 (setM W1 (w.heap.size + 1) es1).drew (H5 W1 hm1); have d1 := H4 _ (H5 W1 hm1); have d2 := H4 _ (H5 W1.drew hm2); have d3 := H4 (setM W1 (w.heap.size + 1) es1).drew (H5 W1 hm1); clear H1 H2 H3 H4 H5
            go_region
            rw [jj8x]; have hm3 := hm2.set (s.m.inc x.cell.report.p).enc; have hr3 := (show Blk W1.drew (wr.heap.size + 1) 70 x.cell.report.cells from hr1).setM (b' := w.heap.size + 1) (by omega) (s.m.inc x.cell.report.p).enc; have ho3 := (show Blk W1.drew (w.heap.size + 1 + 1) 70 s.out.cells from ho1).setM (b' := w.heap.size + 1) (by omega) (s.m.inc x.cell.report.p).enc; have hz3 := (show Blk W1.drew w.heap.size 70 Said.zero.cells from hz1).setM (b' := w.heap.size + 1) (by omega) (s.m.inc x.cell.report.p).enc; have hb3 : Below w.heap.size w (setM W1.drew (w.heap.size + 1) (s.m.inc x.cell.report.p).enc) := (jj13 hb1).trans (jj7k (by omega)); have hsz3 : w.heap.size + 3 ≤ (setM W1.drew (w.heap.size + 1) (s.m.inc x.cell.report.p).enc).heap.size := by rw [jj8w]; exact hsz1
            clear a1 a2 b1 b2 c1 c2 c3 d1 d2 d3 hm1 hm2 hr1 ho1 hz1 hb1 hsz1 hg1 hW; generalize setM W1.drew (w.heap.size + 1) (s.m.inc x.cell.report.p).enc = W2 at hm3 hr3 ho3 hz3 hb3 hsz3 ⊢; have hl3 := L3 _ hm3; clear L3; have hg3 : grab W2 (wr.heap.size + 1) 2 4 = some x.cell.report.p.cells := by rw [hr3.grab, if_pos (by rw [Said.len]; omega)]; rfl
            have hcl : W2.cell? ⟨w.heap.size + 1 + 1, 0, none⟩ = some (.bool s.out.is) := (ho3.cell 0).trans rfl; have hpo : putOk W2 (w.heap.size + 1 + 1) 0 6 = true := by rw [ho3.putOk, Said.len]; rfl
            have hpu : ∀ v : Said, put W2 (w.heap.size + 1 + 1) 0 v.cells = setB W2 (w.heap.size + 1 + 1) 70 v.cells := fun v => by rw [ho3.put, jj2a _ _ (by rw [Said.len, Said.len])]
            have hpo0 : putOk W2 w.heap.size 0 6 = true := by rw [hz3.putOk, Said.len]; rfl
            have hpu0 : ∀ v : Said, put W2 w.heap.size 0 v.cells = setB W2 w.heap.size 70 v.cells := fun v => by rw [hz3.put, jj2a _ _ (by rw [Said.len, Said.len])]
            have hci : ∀ q, (s.m.inc x.cell.report.p).cnt q ≤ k + 1 := by
             intro q; rw [jj63]; have h1 := hcnt q; have h2 := hcnt x.cell.report.p; split <;> omega
            have hce : (s.m.inc x.cell.report.p).cnt x.cell.report.p = 2 ↔ c + 1 = 2 := by
             rw [jj63, if_pos rfl]; have := HC.out; omega
            have HE := Lib.hid hce; have HI := Lib.hid hci; clear hce hci; by_cases hc2 : c + 1 = 2
            · cases ho : s.out.is
              · have hst : delRun a (l.take (k + 1)) = some ⟨s.m.inc x.cell.report.p, ⟨true, a, x.cell.report.p⟩⟩ := (jjr hx hrun).trans (by simp [delStep, hx1, hx2, hx3, HE.out.2 hc2, ho])
                have HS := Lib.hid hst; clear hst
                go_wp2
                exact ⟨⟨k + 1, _, by omega, by simp, HI.out, HS.out, jjt (by omega) hb3, by rw [jj2]; exact hsz3, jj96 hm3 (by omega) _, ho3.same _, hz3.other (by omega) _⟩, by simp [intOf]; omega⟩
              · have hst : delRun a (l.take (k + 1)) = none := (jjr hx hrun).trans (by simp [delStep, hx1, hx2, hx3, HE.out.2 hc2, ho])
                have HS := Lib.hid (jj62 (M := M) hst (by omega)); clear hst; have hs3 : w.heap.size < W2.heap.size := by omega
                go_wp2
                refine bodyPost_ret (jj1x rfl (k := 6) (by kernel_rfl) rfl (by go_simp; rfl)) rfl ⟨jj1w ?_, ?_⟩
                · simp [deliverL, HS.out]
                · exact jjt (by omega) hb3
            · have hst : delRun a (l.take (k + 1)) = some ⟨s.m.inc x.cell.report.p, s.out⟩ := (jjr hx hrun).trans (by simp [delStep, hx1, hx2, hx3, mt HE.out.1 hc2])
              have HS := Lib.hid hst; clear hst
              go_wp2
              exact ⟨⟨k + 1, _, by omega, by simp, HI.out, HS.out, hb3, hsz3, hm3, ho3, hz3⟩, by simp [intOf]; omega⟩
          · go_wp2
            exact ⟨⟨k + 1, s, by omega, by simp, fun q => by have := hcnt q; omega, (jjr hx hrun).trans (by simp [delStep, hx1, hx2, hx3]), by (repeat' (first | exact jj12 _ _ | assumption | refine jj13 ?_ | refine jjy _ ?_ | refine jjl _ (by first | omega | (simp [jj2, jj4] <;> omega)) ?_ | refine jjt (by first | omega | (simp [jj2, jj4] <;> omega)) ?_ | refine jjk (by first | omega | (simp [jj2, jj4] <;> omega)) ?_ | refine jj21 (by first | omega | (simp [jj2, jj4] <;> omega)) ?_)), by simp; omega, (hmb.alloc _).alloc _, (hbo.alloc _).alloc _, (hbr.alloc _).alloc _⟩, by simp [intOf]; omega⟩
    · obtain rfl : k = M := by omega
      have hgo : grab wr (w.heap.size + 1 + 1) 0 6 = some s.out.cells := by rw [hbo.grab, if_pos (by rw [Said.len]; omega), jj30 _ _ (Said.len _)]
      have hpr : putOk wr w.heap.size 0 6 = true := by rw [hbr.putOk, Said.len]; rfl
      have hpp : put wr w.heap.size 0 s.out.cells = setB wr w.heap.size 70 s.out.cells := by rw [hbr.put, jj2a _ _ (by rw [Said.len, Said.len])]
      have hb0 : w.heap.size < wr.heap.size := by omega
      go_wp2
      refine bodyPost_ret (jj1x rfl (k := 6) (by kernel_rfl) rfl (by go_simp; rfl)) rfl ⟨jj1w ?_, ?_⟩
      · simp [deliverL, hrun]
      · exact jjt (Nat.le_refl _) hbel
def deliverF (nn : Int) (l : List Held) (a : Int) : Said := if 4 ≤ nn ∧ nn ≤ 16 ∧ inAge a = true then deliverL a (l.take nn.toNat) else Said.zero
theorem jj3e (nn a : Int) (A : Option Addr) (n cap : Nat) (l : List Held) (w : World) (hnc : n ≤ cap) (hn : n ≤ maxLen) (hlen : l.length = n) (hok : ∀ h ∈ l, h.Ok) (hl : Sl w w.heap.size 56 A n (l.flatMap Held.cells)) :
 Calls Tryz.prog 123 #[.int .i64 nn, .slice A n cap, .int .i64 a] w fun e w' => e = .returned (.agg (deliverF nn l a).cells.toArray) ∧ Below w.heap.size w w' := by
 by_cases hc : 4 ≤ nn ∧ nn ≤ 16 ∧ inAge a = true
 · obtain ⟨h4, h16, ha⟩ := hc
   have e : deliverF nn l a = deliverL a (l.take (min nn n).toNat) := by
    unfold deliverF; rw [if_pos ⟨h4, h16, ha⟩]; by_cases hle : nn ≤ n
    · rw [Int.min_eq_left hle]
    · rw [Int.min_eq_right (by omega), List.take_of_length_le (by omega), List.take_of_length_le (by omega)]
   rw [e]; exact jj8f a A n cap (min nn n).toNat l w (by omega) hnc hn hok hl ha nn (by omega) h4 h16
 · have e : deliverF nn l a = Said.zero := by unfold deliverF; rw [if_neg hc]
   rw [e]; have hc2 : ¬ (4 ≤ nn ∧ nn ≤ 16 ∧ inAge a = true) := hc; have HC := Lib.hid hc2; clear hc hc2 e
   go_enter Tryz.func123, Tryz.ntmps123
   cases ha : inAge a
   · go_wp2_with (go_at_call 157; refine (jj3s _ _).mono ?_; rintro e w' ⟨rfl, rfl⟩)
     all_goals exact bodyPost_ret (jj1x rfl (k := 6) (by kernel_rfl) rfl (by first | (go_simp; done) | (go_simp; rfl))) rfl ⟨jj1w rfl, by (repeat' (first | exact jj12 _ _ | assumption | refine jj13 ?_ | refine jjy _ ?_ | refine jjl _ (by first | omega | (simp [jj2, jj4] <;> omega)) ?_ | refine jjt (by first | omega | (simp [jj2, jj4] <;> omega)) ?_ | refine jjk (by first | omega | (simp [jj2, jj4] <;> omega)) ?_ | refine jj21 (by first | omega | (simp [jj2, jj4] <;> omega)) ?_))⟩
   · have h : nn < 4 ∨ 16 < nn := Classical.byContradiction fun hh => HC.out ⟨by omega, by omega, ha⟩
     rcases h with h | h
     · go_wp2_with (go_at_call 157; refine (jj3s _ _).mono ?_; rintro e w' ⟨rfl, rfl⟩)
       all_goals first | exact bodyPost_ret (jj1x rfl (k := 6) (by kernel_rfl) rfl (by first | (go_simp; done) | (go_simp; rfl))) rfl ⟨jj1w rfl, by (repeat' (first | exact jj12 _ _ | assumption | refine jj13 ?_ | refine jjy _ ?_ | refine jjl _ (by first | omega | (simp [jj2, jj4] <;> omega)) ?_ | refine jjt (by first | omega | (simp [jj2, jj4] <;> omega)) ?_ | refine jjk (by first | omega | (simp [jj2, jj4] <;> omega)) ?_ | refine jj21 (by first | omega | (simp [jj2, jj4] <;> omega)) ?_))⟩ | (exfalso; omega)
     · go_wp2_with (go_at_call 157; refine (jj3s _ _).mono ?_; rintro e w' ⟨rfl, rfl⟩)
       all_goals first | exact bodyPost_ret (jj1x rfl (k := 6) (by kernel_rfl) rfl (by first | (go_simp; done) | (go_simp; rfl))) rfl ⟨jj1w rfl, by (repeat' (first | exact jj12 _ _ | assumption | refine jj13 ?_ | refine jjy _ ?_ | refine jjl _ (by first | omega | (simp [jj2, jj4] <;> omega)) ?_ | refine jjt (by first | omega | (simp [jj2, jj4] <;> omega)) ?_ | refine jjk (by first | omega | (simp [jj2, jj4] <;> omega)) ?_ | refine jj21 (by first | omega | (simp [jj2, jj4] <;> omega)) ?_))⟩ | (exfalso; omega)
end Go.Proofs.YtfohlkhfnogmdaaGreatDoor
end
