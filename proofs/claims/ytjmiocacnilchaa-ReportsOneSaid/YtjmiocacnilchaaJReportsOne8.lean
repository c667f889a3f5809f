/- Parts, one behind the other. reports.Deliver. -/
import Derived.Test.YtjmiocacnilchaaJReportsOne4
import Derived.Test.YtjmiocacnilchaaJReportsOne6
import Derived.Test.YtjmiocacnilchaaJReportsOne7
import Derived.Deep.QuietTactic
import Derived.BigRegion
set_option linter.unusedSimpArgs false
set_option linter.unusedVariables false
/- reports.Deliver. -/
section
namespace Go.Proofs.Ytjmiocacnilchaa
open Go.RowKit
@[go_sem] theorem MBlk_drew (w : World) (b : Nat) (es : List (List Value × Value)) : MBlk w.drew b es ↔ MBlk w b es := Iff.rfl
/-! ### what it computes -/
structure DelSt where
 m : PM
 out : Said
def delStep (a : Int) (s : DelSt) (h : Held) : Option DelSt :=
 if h.is && h.cell.report.is && decide (h.cell.report.at_ = a) then
  let m' := s.m.inc h.cell.report.p
  if m'.cnt h.cell.report.p = 2 then (if s.out.is then none else some ⟨m', ⟨true, a, h.cell.report.p⟩⟩) else some ⟨m', s.out⟩
 else some s
def delRun (a : Int) (l : List Held) : Option DelSt := l.foldlM (delStep a) ⟨[], Said.zero⟩
def deliverL (a : Int) (l : List Held) : Said := ((delRun a l).map (·.out)).getD Said.zero
theorem delRun_snoc {a : Int} {l : List Held} {k : Nat} {x : Held} {s : DelSt} (hx : l[k]? = some x) (h : delRun a (l.take k) = some s) : delRun a (l.take (k + 1)) = delStep a s x := by
 unfold delRun at h ⊢
 rw [List.take_add_one, hx, List.foldlM_append, h]
 simp
theorem delRun_none {a : Int} {l : List Held} {k M : Nat} (h : delRun a (l.take k) = none) (hk : k ≤ M) : delRun a (l.take M) = none := by
 unfold delRun at h ⊢
 rw [show l.take M = l.take k ++ (l.take M).drop k by rw [show l.take k = (l.take M).take k by rw [List.take_take, Nat.min_eq_left hk], List.take_append_drop], List.foldlM_append, h]
 rfl
theorem kok_int {q : IntKind} {n : Int} (h : (Lit.int q n).wf = true) : KOk (some q) (.int q n) := ⟨n, rfl, h⟩
theorem Payload.ok_flat {x : Payload} (h : x.Ok) : Flat Payload.ks x.cells := by
 obtain ⟨h0, h1, h2, h3⟩ := h
 refine ⟨rfl, fun i k hk => ?_⟩
 match i, hk with
 | 0, hk => obtain rfl := Option.some.inj hk.symm; exact ⟨_, rfl, kok_int (by unfold Lit.wf; rw [Bool.and_eq_true, decide_eq_true_iff, decide_eq_true_iff, show IntKind.min _ = 0 from rfl]; first | (rw [show IntKind.max .u8 = 255 from rfl]; omega) | (rw [show IntKind.max .u32 = 4294967295 from rfl]; omega))⟩
 | 1, hk => obtain rfl := Option.some.inj hk.symm; exact ⟨_, rfl, kok_int (by unfold Lit.wf; rw [Bool.and_eq_true, decide_eq_true_iff, decide_eq_true_iff, show IntKind.min _ = 0 from rfl]; first | (rw [show IntKind.max .u8 = 255 from rfl]; omega) | (rw [show IntKind.max .u32 = 4294967295 from rfl]; omega))⟩
 | 2, hk => obtain rfl := Option.some.inj hk.symm; exact ⟨_, rfl, kok_int (by unfold Lit.wf; rw [Bool.and_eq_true, decide_eq_true_iff, decide_eq_true_iff, show IntKind.min _ = 0 from rfl]; first | (rw [show IntKind.max .u8 = 255 from rfl]; omega) | (rw [show IntKind.max .u32 = 4294967295 from rfl]; omega))⟩
 | 3, hk => obtain rfl := Option.some.inj hk.symm; exact ⟨_, rfl, kok_int (by unfold Lit.wf; rw [Bool.and_eq_true, decide_eq_true_iff, decide_eq_true_iff, show IntKind.min _ = 0 from rfl]; first | (rw [show IntKind.max .u8 = 255 from rfl]; omega) | (rw [show IntKind.max .u32 = 4294967295 from rfl]; omega))⟩
 | i + 4, hk => simp [Payload.ks] at hk
theorem mblk_setB {w : World} {b b' : Nat} {t : TypeId} {es : List (List Value × Value)} (h : MBlk w b es) (hne : b' ≠ b) (c : List Value) : MBlk (setB w b' t c) b es := by
 unfold MBlk at h ⊢
 simp [setB, hne, h]
set_option maxRecDepth 100000 in
set_option maxHeartbeats 1000000 in
theorem deliver_loop (a : Int) (A : Option Addr) (n cap M : Nat) (l : List Held) (w : World) (hM : M ≤ n) (hnc : n ≤ cap) (hn : n ≤ maxLen) (hok : ∀ h ∈ l, h.Ok) (hl : Sl w w.heap.size 56 A n (l.flatMap Held.cells)) (ha : inAge a = true) (nn : Int) (hnn : min nn n = M) (h4 : 4 ≤ nn) (h16 : nn ≤ 16) :
 Calls Try.prog 23 #[.int .i64 nn, .slice A n cap, .int .i64 a] w fun e w' => e = .returned (.agg (deliverL a (l.take M)).cells.toArray) ∧ Below w.heap.size w w' := by
 unfold maxLen at hn
 go_enter Try.func23, Try.ntmps23
 go_wp2_with (go_at_call 27; refine (reports_is _ _).mono ?_; rintro e w' ⟨rfl, rfl⟩)
 · obtain rfl : M = n := by omega
   go_loopw [32] (fun i wr => ∃ (k : Nat) (s : DelSt), k ≤ M ∧ i = .int .i64 k ∧ (∀ q, s.m.cnt q ≤ k) ∧ delRun a (l.take k) = some s ∧ Below w.heap.size w wr ∧ w.heap.size + 3 ≤ wr.heap.size ∧ MBlk wr (w.heap.size + 1) s.m.enc ∧ Blk wr (w.heap.size + 1 + 1) 41 s.out.cells ∧ Blk wr w.heap.size 41 Said.zero.cells) (fun i _ => M - (intOf i).toNat)
   case atStart =>
    refine ⟨0, ⟨[], Said.zero⟩, Nat.zero_le _, rfl, fun q => Nat.le_refl 0, rfl, by (repeat' (first | exact bel_refl _ _ | assumption | refine bel_drew ?_ | refine bel_drewN _ ?_ | refine bel_alloc _ (by first | omega | (simp [size_setB, size_put] <;> omega)) ?_ | refine bel_setB (by first | omega | (simp [size_setB, size_put] <;> omega)) ?_ | refine bel_setCell (by first | omega | (simp [size_setB, size_put] <;> omega)) ?_ | refine bel_put (by first | omega | (simp [size_setB, size_put] <;> omega)) ?_)), by simp, ?_, ?_, ?_⟩
    · have := (MBlk.new (w.alloc (.cells Said.zero.cells.toArray 41))).alloc (.cells Said.zero.cells.toArray 41)
      rwa [show (w.alloc (.cells Said.zero.cells.toArray 41)).heap.size = w.heap.size + 1 by simp] at this
    · have := Blk.new ((w.alloc (.cells Said.zero.cells.toArray 41)).alloc (.map #[] 0)) 41 Said.zero.cells
      rwa [show ((w.alloc (.cells Said.zero.cells.toArray 41)).alloc (.map #[] 0)).heap.size = w.heap.size + 1 + 1 by simp] at this
    · exact ((Blk.new w 41 Said.zero.cells).alloc _).alloc _
   case round =>
    obtain ⟨k, s, hk, rfl, hcnt, hrun, hbel, hsz, hmb, hbo, hbr⟩ := hrel
    by_cases hlt : k < M
    · obtain ⟨b, o, x, rfl, hb, hx, hg⟩ := (hl.below hbel).elem Held.len (by omega) hlt
      have hgo : grab wr (w.heap.size + 1 + 1) 0 6 = some s.out.cells := by rw [hbo.grab, if_pos (by rw [Said.len]; omega), cut_all _ _ (Said.len _)]
      have hs2 : w.heap.size + 1 + 1 < wr.heap.size := by omega
      have hs1 : w.heap.size < wr.heap.size := by omega
      cases hx1 : x.is
      · go_wp2
        exact ⟨⟨k + 1, s, by omega, by simp, fun q => by have := hcnt q; omega, (delRun_snoc hx hrun).trans (by simp [delStep, hx1]), by (repeat' (first | exact bel_refl _ _ | assumption | refine bel_drew ?_ | refine bel_drewN _ ?_ | refine bel_alloc _ (by first | omega | (simp [size_setB, size_put] <;> omega)) ?_ | refine bel_setB (by first | omega | (simp [size_setB, size_put] <;> omega)) ?_ | refine bel_setCell (by first | omega | (simp [size_setB, size_put] <;> omega)) ?_ | refine bel_put (by first | omega | (simp [size_setB, size_put] <;> omega)) ?_)), by simp; omega, (hmb.alloc _).alloc _, (hbo.alloc _).alloc _, (hbr.alloc _).alloc _⟩, by simp [intOf]; omega⟩
      · cases hx2 : x.cell.report.is
        · go_wp2
          exact ⟨⟨k + 1, s, by omega, by simp, fun q => by have := hcnt q; omega, (delRun_snoc hx hrun).trans (by simp [delStep, hx1, hx2]), by (repeat' (first | exact bel_refl _ _ | assumption | refine bel_drew ?_ | refine bel_drewN _ ?_ | refine bel_alloc _ (by first | omega | (simp [size_setB, size_put] <;> omega)) ?_ | refine bel_setB (by first | omega | (simp [size_setB, size_put] <;> omega)) ?_ | refine bel_setCell (by first | omega | (simp [size_setB, size_put] <;> omega)) ?_ | refine bel_put (by first | omega | (simp [size_setB, size_put] <;> omega)) ?_)), by simp; omega, (hmb.alloc _).alloc _, (hbo.alloc _).alloc _, (hbr.alloc _).alloc _⟩, by simp [intOf]; omega⟩
        · by_cases hx3 : x.cell.report.at_ = a
          · go_wp2
            generalize hW : (wr.alloc (.cells x.cells.toArray 53)).alloc (.cells x.cell.report.cells.toArray 41) = W1
            have hm1 : MBlk W1 (w.heap.size + 1) s.m.enc := hW ▸ (hmb.alloc _).alloc _
            have hr1 : Blk W1 (wr.heap.size + 1) 41 x.cell.report.cells := by subst hW; have := Blk.new (wr.alloc (.cells x.cells.toArray 53)) 41 x.cell.report.cells; rwa [show (wr.alloc (.cells x.cells.toArray 53)).heap.size = wr.heap.size + 1 by simp] at this
            have hg1 : grab W1 (wr.heap.size + 1) 2 4 = some x.cell.report.p.cells := by rw [hr1.grab, if_pos (by rw [Said.len]; omega)]; rfl
            have ho1 : Blk W1 (w.heap.size + 1 + 1) 41 s.out.cells := hW ▸ (hbo.alloc _).alloc _
            have hz1 : Blk W1 w.heap.size 41 Said.zero.cells := hW ▸ (hbr.alloc _).alloc _
            have hb1 : Below w.heap.size w W1 := by subst hW; (repeat' (first | exact bel_refl _ _ | assumption | refine bel_drew ?_ | refine bel_drewN _ ?_ | refine bel_alloc _ (by first | omega | (simp [size_setB, size_put] <;> omega)) ?_ | refine bel_setB (by first | omega | (simp [size_setB, size_put] <;> omega)) ?_ | refine bel_setCell (by first | omega | (simp [size_setB, size_put] <;> omega)) ?_ | refine bel_put (by first | omega | (simp [size_setB, size_put] <;> omega)) ?_))
            have hsz1 : w.heap.size + 3 ≤ W1.heap.size := by subst hW; simp; omega
            have hpf : Flat Payload.ks x.cell.report.p.cells := Payload.ok_flat (hok x (List.mem_of_getElem? hx)).2.2.1.2
            have L3 := (bump (s.m.inc x.cell.report.p) x.cell.report.p hpf (w.heap.size + 1)).choose_spec.choose_spec.1
            obtain ⟨es1, idx, H1, H2, H3, H4, H5, H6⟩ := bump s.m x.cell.report.p hpf (w.heap.size + 1)
            have hcb := hcnt x.cell.report.p
            have hinc := H6
            have hci0 : ((s.m.cnt x.cell.report.p : Nat) : Int) ≤ k := by omega
            have hci1 : (0 : Int) ≤ ((s.m.cnt x.cell.report.p : Nat) : Int) := by omega
            rw [H6] at L3
            rw [show ((s.m.cnt x.cell.report.p + 1 : Nat) : Int) = ((s.m.cnt x.cell.report.p : Nat) : Int) + 1 by omega] at L3
            clear hinc H6 hcb
            obtain ⟨c, hcc⟩ : ∃ c : Int, ((s.m.cnt x.cell.report.p : Nat) : Int) = c := ⟨_, rfl⟩
            rw [hcc] at hci0 hci1 L3
            simp only [hcc] at H1 H2 H3 H4
            have HC := Lib.hid hcc
            clear hcc
            have hwr : wrap64 (c + 1) = c + 1 := by unfold RowKit.wrap64; omega
            clear hci0 hci1
            have hm2 : MBlk W1.drew (w.heap.size + 1) s.m.enc := hm1
            have a1 := H1 W1 hm1
            have a2 := H1 W1.drew hm2
            have b1 := H2 W1 hm1
            have b2 := H2 W1.drew hm2
            have c1 := H3 _ (H5 W1 hm1)
            have c2 := H3 _ (H5 W1.drew hm2)
            have c3 := H3 (setM W1 (w.heap.size + 1) es1).drew (H5 W1 hm1)
            have d1 := H4 _ (H5 W1 hm1)
            have d2 := H4 _ (H5 W1.drew hm2)
            have d3 := H4 (setM W1 (w.heap.size + 1) es1).drew (H5 W1 hm1)
            clear H1 H2 H3 H4 H5
            go_region
            rw [setM_setM]
            have hm3 := hm2.set (s.m.inc x.cell.report.p).enc
            have hr3 := (show Blk W1.drew (wr.heap.size + 1) 41 x.cell.report.cells from hr1).setM (b' := w.heap.size + 1) (by omega) (s.m.inc x.cell.report.p).enc
            have ho3 := (show Blk W1.drew (w.heap.size + 1 + 1) 41 s.out.cells from ho1).setM (b' := w.heap.size + 1) (by omega) (s.m.inc x.cell.report.p).enc
            have hz3 := (show Blk W1.drew w.heap.size 41 Said.zero.cells from hz1).setM (b' := w.heap.size + 1) (by omega) (s.m.inc x.cell.report.p).enc
            have hb3 : Below w.heap.size w (setM W1.drew (w.heap.size + 1) (s.m.inc x.cell.report.p).enc) := (bel_drew hb1).trans (below_setM (by omega))
            have hsz3 : w.heap.size + 3 ≤ (setM W1.drew (w.heap.size + 1) (s.m.inc x.cell.report.p).enc).heap.size := by rw [size_setM]; exact hsz1
            clear a1 a2 b1 b2 c1 c2 c3 d1 d2 d3 hm1 hm2 hr1 ho1 hz1 hb1 hsz1 hg1 hW
            generalize setM W1.drew (w.heap.size + 1) (s.m.inc x.cell.report.p).enc = W2 at hm3 hr3 ho3 hz3 hb3 hsz3 ⊢
            have hl3 := L3 _ hm3
            clear L3
            have hg3 : grab W2 (wr.heap.size + 1) 2 4 = some x.cell.report.p.cells := by rw [hr3.grab, if_pos (by rw [Said.len]; omega)]; rfl
            have hcl : W2.cell? ⟨w.heap.size + 1 + 1, 0, none⟩ = some (.bool s.out.is) := (ho3.cell 0).trans rfl
            have hpo : putOk W2 (w.heap.size + 1 + 1) 0 6 = true := by rw [ho3.putOk, Said.len]; rfl
            have hpu : ∀ v : Said, put W2 (w.heap.size + 1 + 1) 0 v.cells = setB W2 (w.heap.size + 1 + 1) 41 v.cells := fun v => by rw [ho3.put, lay_all _ _ (by rw [Said.len, Said.len])]
            have hpo0 : putOk W2 w.heap.size 0 6 = true := by rw [hz3.putOk, Said.len]; rfl
            have hpu0 : ∀ v : Said, put W2 w.heap.size 0 v.cells = setB W2 w.heap.size 41 v.cells := fun v => by rw [hz3.put, lay_all _ _ (by rw [Said.len, Said.len])]
            have hci : ∀ q, (s.m.inc x.cell.report.p).cnt q ≤ k + 1 := by
             intro q
             rw [cnt_inc]
             have h1 := hcnt q
             have h2 := hcnt x.cell.report.p
             split <;> omega
            have hce : (s.m.inc x.cell.report.p).cnt x.cell.report.p = 2 ↔ c + 1 = 2 := by
             rw [cnt_inc, if_pos rfl]
             have := HC.out
             omega
            have HE := Lib.hid hce
            have HI := Lib.hid hci
            clear hce hci
            by_cases hc2 : c + 1 = 2
            · cases ho : s.out.is
              · have hst : delRun a (l.take (k + 1)) = some ⟨s.m.inc x.cell.report.p, ⟨true, a, x.cell.report.p⟩⟩ := (delRun_snoc hx hrun).trans (by simp [delStep, hx1, hx2, hx3, HE.out.2 hc2, ho])
                have HS := Lib.hid hst
                clear hst
                go_wp2
                exact ⟨⟨k + 1, _, by omega, by simp, HI.out, HS.out, bel_setB (by omega) hb3, by rw [size_setB]; exact hsz3, mblk_setB hm3 (by omega) _, ho3.same _, hz3.other (by omega) _⟩, by simp [intOf]; omega⟩
              · have hst : delRun a (l.take (k + 1)) = none := (delRun_snoc hx hrun).trans (by simp [delStep, hx1, hx2, hx3, HE.out.2 hc2, ho])
                have HS := Lib.hid (delRun_none (M := M) hst (by omega))
                clear hst
                have hs3 : w.heap.size < W2.heap.size := by omega
                go_wp2
                refine bodyPost_ret (results_c rfl (k := 6) (by kernel_rfl) rfl (by go_simp; rfl)) rfl ⟨ret_cells ?_, ?_⟩
                · simp [deliverL, HS.out]
                · exact bel_setB (by omega) hb3
            · have hst : delRun a (l.take (k + 1)) = some ⟨s.m.inc x.cell.report.p, s.out⟩ := (delRun_snoc hx hrun).trans (by simp [delStep, hx1, hx2, hx3, mt HE.out.1 hc2])
              have HS := Lib.hid hst
              clear hst
              go_wp2
              exact ⟨⟨k + 1, _, by omega, by simp, HI.out, HS.out, hb3, hsz3, hm3, ho3, hz3⟩, by simp [intOf]; omega⟩
          · go_wp2
            exact ⟨⟨k + 1, s, by omega, by simp, fun q => by have := hcnt q; omega, (delRun_snoc hx hrun).trans (by simp [delStep, hx1, hx2, hx3]), by (repeat' (first | exact bel_refl _ _ | assumption | refine bel_drew ?_ | refine bel_drewN _ ?_ | refine bel_alloc _ (by first | omega | (simp [size_setB, size_put] <;> omega)) ?_ | refine bel_setB (by first | omega | (simp [size_setB, size_put] <;> omega)) ?_ | refine bel_setCell (by first | omega | (simp [size_setB, size_put] <;> omega)) ?_ | refine bel_put (by first | omega | (simp [size_setB, size_put] <;> omega)) ?_)), by simp; omega, (hmb.alloc _).alloc _, (hbo.alloc _).alloc _, (hbr.alloc _).alloc _⟩, by simp [intOf]; omega⟩
    · obtain rfl : k = M := by omega
      have hgo : grab wr (w.heap.size + 1 + 1) 0 6 = some s.out.cells := by rw [hbo.grab, if_pos (by rw [Said.len]; omega), cut_all _ _ (Said.len _)]
      have hpr : putOk wr w.heap.size 0 6 = true := by rw [hbr.putOk, Said.len]; rfl
      have hpp : put wr w.heap.size 0 s.out.cells = setB wr w.heap.size 41 s.out.cells := by rw [hbr.put, lay_all _ _ (by rw [Said.len, Said.len])]
      have hb0 : w.heap.size < wr.heap.size := by omega
      go_wp2
      refine bodyPost_ret (results_c rfl (k := 6) (by kernel_rfl) rfl (by go_simp; rfl)) rfl ⟨ret_cells ?_, ?_⟩
      · simp [deliverL, hrun]
      · exact bel_setB (Nat.le_refl _) hbel
 · obtain rfl : nn = (M : Int) := by omega
   go_loopw [32] (fun i wr => ∃ (k : Nat) (s : DelSt), k ≤ M ∧ i = .int .i64 k ∧ (∀ q, s.m.cnt q ≤ k) ∧ delRun a (l.take k) = some s ∧ Below w.heap.size w wr ∧ w.heap.size + 3 ≤ wr.heap.size ∧ MBlk wr (w.heap.size + 1) s.m.enc ∧ Blk wr (w.heap.size + 1 + 1) 41 s.out.cells ∧ Blk wr w.heap.size 41 Said.zero.cells) (fun i _ => M - (intOf i).toNat)
   case atStart =>
    refine ⟨0, ⟨[], Said.zero⟩, Nat.zero_le _, rfl, fun q => Nat.le_refl 0, rfl, by (repeat' (first | exact bel_refl _ _ | assumption | refine bel_drew ?_ | refine bel_drewN _ ?_ | refine bel_alloc _ (by first | omega | (simp [size_setB, size_put] <;> omega)) ?_ | refine bel_setB (by first | omega | (simp [size_setB, size_put] <;> omega)) ?_ | refine bel_setCell (by first | omega | (simp [size_setB, size_put] <;> omega)) ?_ | refine bel_put (by first | omega | (simp [size_setB, size_put] <;> omega)) ?_)), by simp, ?_, ?_, ?_⟩
    · have := (MBlk.new (w.alloc (.cells Said.zero.cells.toArray 41))).alloc (.cells Said.zero.cells.toArray 41)
      rwa [show (w.alloc (.cells Said.zero.cells.toArray 41)).heap.size = w.heap.size + 1 by simp] at this
    · have := Blk.new ((w.alloc (.cells Said.zero.cells.toArray 41)).alloc (.map #[] 0)) 41 Said.zero.cells
      rwa [show ((w.alloc (.cells Said.zero.cells.toArray 41)).alloc (.map #[] 0)).heap.size = w.heap.size + 1 + 1 by simp] at this
    · exact ((Blk.new w 41 Said.zero.cells).alloc _).alloc _
   case round =>
    obtain ⟨k, s, hk, rfl, hcnt, hrun, hbel, hsz, hmb, hbo, hbr⟩ := hrel
    by_cases hlt : k < M
    · obtain ⟨b, o, x, rfl, hb, hx, hg⟩ := (hl.below hbel).elem Held.len (by omega) (show k < n by omega)
      have hgo : grab wr (w.heap.size + 1 + 1) 0 6 = some s.out.cells := by rw [hbo.grab, if_pos (by rw [Said.len]; omega), cut_all _ _ (Said.len _)]
      have hs2 : w.heap.size + 1 + 1 < wr.heap.size := by omega
      have hs1 : w.heap.size < wr.heap.size := by omega
      cases hx1 : x.is
      · go_wp2
        exact ⟨⟨k + 1, s, by omega, by simp, fun q => by have := hcnt q; omega, (delRun_snoc hx hrun).trans (by simp [delStep, hx1]), by (repeat' (first | exact bel_refl _ _ | assumption | refine bel_drew ?_ | refine bel_drewN _ ?_ | refine bel_alloc _ (by first | omega | (simp [size_setB, size_put] <;> omega)) ?_ | refine bel_setB (by first | omega | (simp [size_setB, size_put] <;> omega)) ?_ | refine bel_setCell (by first | omega | (simp [size_setB, size_put] <;> omega)) ?_ | refine bel_put (by first | omega | (simp [size_setB, size_put] <;> omega)) ?_)), by simp; omega, (hmb.alloc _).alloc _, (hbo.alloc _).alloc _, (hbr.alloc _).alloc _⟩, by simp [intOf]; omega⟩
      · cases hx2 : x.cell.report.is
        · go_wp2
          exact ⟨⟨k + 1, s, by omega, by simp, fun q => by have := hcnt q; omega, (delRun_snoc hx hrun).trans (by simp [delStep, hx1, hx2]), by (repeat' (first | exact bel_refl _ _ | assumption | refine bel_drew ?_ | refine bel_drewN _ ?_ | refine bel_alloc _ (by first | omega | (simp [size_setB, size_put] <;> omega)) ?_ | refine bel_setB (by first | omega | (simp [size_setB, size_put] <;> omega)) ?_ | refine bel_setCell (by first | omega | (simp [size_setB, size_put] <;> omega)) ?_ | refine bel_put (by first | omega | (simp [size_setB, size_put] <;> omega)) ?_)), by simp; omega, (hmb.alloc _).alloc _, (hbo.alloc _).alloc _, (hbr.alloc _).alloc _⟩, by simp [intOf]; omega⟩
        · by_cases hx3 : x.cell.report.at_ = a
          · go_wp2
            generalize hW : (wr.alloc (.cells x.cells.toArray 53)).alloc (.cells x.cell.report.cells.toArray 41) = W1
            have hm1 : MBlk W1 (w.heap.size + 1) s.m.enc := hW ▸ (hmb.alloc _).alloc _
            have hr1 : Blk W1 (wr.heap.size + 1) 41 x.cell.report.cells := by subst hW; have := Blk.new (wr.alloc (.cells x.cells.toArray 53)) 41 x.cell.report.cells; rwa [show (wr.alloc (.cells x.cells.toArray 53)).heap.size = wr.heap.size + 1 by simp] at this
            have hg1 : grab W1 (wr.heap.size + 1) 2 4 = some x.cell.report.p.cells := by rw [hr1.grab, if_pos (by rw [Said.len]; omega)]; rfl
            have ho1 : Blk W1 (w.heap.size + 1 + 1) 41 s.out.cells := hW ▸ (hbo.alloc _).alloc _
            have hz1 : Blk W1 w.heap.size 41 Said.zero.cells := hW ▸ (hbr.alloc _).alloc _
            have hb1 : Below w.heap.size w W1 := by subst hW; (repeat' (first | exact bel_refl _ _ | assumption | refine bel_drew ?_ | refine bel_drewN _ ?_ | refine bel_alloc _ (by first | omega | (simp [size_setB, size_put] <;> omega)) ?_ | refine bel_setB (by first | omega | (simp [size_setB, size_put] <;> omega)) ?_ | refine bel_setCell (by first | omega | (simp [size_setB, size_put] <;> omega)) ?_ | refine bel_put (by first | omega | (simp [size_setB, size_put] <;> omega)) ?_))
            have hsz1 : w.heap.size + 3 ≤ W1.heap.size := by subst hW; simp; omega
            have hpf : Flat Payload.ks x.cell.report.p.cells := Payload.ok_flat (hok x (List.mem_of_getElem? hx)).2.2.1.2
            have L3 := (bump (s.m.inc x.cell.report.p) x.cell.report.p hpf (w.heap.size + 1)).choose_spec.choose_spec.1
            obtain ⟨es1, idx, H1, H2, H3, H4, H5, H6⟩ := bump s.m x.cell.report.p hpf (w.heap.size + 1)
            have hcb := hcnt x.cell.report.p
            have hinc := H6
            have hci0 : ((s.m.cnt x.cell.report.p : Nat) : Int) ≤ k := by omega
            have hci1 : (0 : Int) ≤ ((s.m.cnt x.cell.report.p : Nat) : Int) := by omega
            rw [H6] at L3
            rw [show ((s.m.cnt x.cell.report.p + 1 : Nat) : Int) = ((s.m.cnt x.cell.report.p : Nat) : Int) + 1 by omega] at L3
            clear hinc H6 hcb
            obtain ⟨c, hcc⟩ : ∃ c : Int, ((s.m.cnt x.cell.report.p : Nat) : Int) = c := ⟨_, rfl⟩
            rw [hcc] at hci0 hci1 L3
            simp only [hcc] at H1 H2 H3 H4
            have HC := Lib.hid hcc
            clear hcc
            have hwr : wrap64 (c + 1) = c + 1 := by unfold RowKit.wrap64; omega
            clear hci0 hci1
            have hm2 : MBlk W1.drew (w.heap.size + 1) s.m.enc := hm1
            have a1 := H1 W1 hm1
            have a2 := H1 W1.drew hm2
            have b1 := H2 W1 hm1
            have b2 := H2 W1.drew hm2
            have c1 := H3 _ (H5 W1 hm1)
            have c2 := H3 _ (H5 W1.drew hm2)
            have c3 := H3 (setM W1 (w.heap.size + 1) es1).drew (H5 W1 hm1)
            have d1 := H4 _ (H5 W1 hm1)
            have d2 := H4 _ (H5 W1.drew hm2)
            have d3 := H4 (setM W1 (w.heap.size + 1) es1).drew (H5 W1 hm1)
            clear H1 H2 H3 H4 H5
            go_region
            rw [setM_setM]
            have hm3 := hm2.set (s.m.inc x.cell.report.p).enc
            have hr3 := (show Blk W1.drew (wr.heap.size + 1) 41 x.cell.report.cells from hr1).setM (b' := w.heap.size + 1) (by omega) (s.m.inc x.cell.report.p).enc
            have ho3 := (show Blk W1.drew (w.heap.size + 1 + 1) 41 s.out.cells from ho1).setM (b' := w.heap.size + 1) (by omega) (s.m.inc x.cell.report.p).enc
            have hz3 := (show Blk W1.drew w.heap.size 41 Said.zero.cells from hz1).setM (b' := w.heap.size + 1) (by omega) (s.m.inc x.cell.report.p).enc
            have hb3 : Below w.heap.size w (setM W1.drew (w.heap.size + 1) (s.m.inc x.cell.report.p).enc) := (bel_drew hb1).trans (below_setM (by omega))
            have hsz3 : w.heap.size + 3 ≤ (setM W1.drew (w.heap.size + 1) (s.m.inc x.cell.report.p).enc).heap.size := by rw [size_setM]; exact hsz1
            clear a1 a2 b1 b2 c1 c2 c3 d1 d2 d3 hm1 hm2 hr1 ho1 hz1 hb1 hsz1 hg1 hW
            generalize setM W1.drew (w.heap.size + 1) (s.m.inc x.cell.report.p).enc = W2 at hm3 hr3 ho3 hz3 hb3 hsz3 ⊢
            have hl3 := L3 _ hm3
            clear L3
            have hg3 : grab W2 (wr.heap.size + 1) 2 4 = some x.cell.report.p.cells := by rw [hr3.grab, if_pos (by rw [Said.len]; omega)]; rfl
            have hcl : W2.cell? ⟨w.heap.size + 1 + 1, 0, none⟩ = some (.bool s.out.is) := (ho3.cell 0).trans rfl
            have hpo : putOk W2 (w.heap.size + 1 + 1) 0 6 = true := by rw [ho3.putOk, Said.len]; rfl
            have hpu : ∀ v : Said, put W2 (w.heap.size + 1 + 1) 0 v.cells = setB W2 (w.heap.size + 1 + 1) 41 v.cells := fun v => by rw [ho3.put, lay_all _ _ (by rw [Said.len, Said.len])]
            have hpo0 : putOk W2 w.heap.size 0 6 = true := by rw [hz3.putOk, Said.len]; rfl
            have hpu0 : ∀ v : Said, put W2 w.heap.size 0 v.cells = setB W2 w.heap.size 41 v.cells := fun v => by rw [hz3.put, lay_all _ _ (by rw [Said.len, Said.len])]
            have hci : ∀ q, (s.m.inc x.cell.report.p).cnt q ≤ k + 1 := by
             intro q
             rw [cnt_inc]
             have h1 := hcnt q
             have h2 := hcnt x.cell.report.p
             split <;> omega
            have hce : (s.m.inc x.cell.report.p).cnt x.cell.report.p = 2 ↔ c + 1 = 2 := by
             rw [cnt_inc, if_pos rfl]
             have := HC.out
             omega
            have HE := Lib.hid hce
            have HI := Lib.hid hci
            clear hce hci
            by_cases hc2 : c + 1 = 2
            · cases ho : s.out.is
              · have hst : delRun a (l.take (k + 1)) = some ⟨s.m.inc x.cell.report.p, ⟨true, a, x.cell.report.p⟩⟩ := (delRun_snoc hx hrun).trans (by simp [delStep, hx1, hx2, hx3, HE.out.2 hc2, ho])
                have HS := Lib.hid hst
                clear hst
                go_wp2
                exact ⟨⟨k + 1, _, by omega, by simp, HI.out, HS.out, bel_setB (by omega) hb3, by rw [size_setB]; exact hsz3, mblk_setB hm3 (by omega) _, ho3.same _, hz3.other (by omega) _⟩, by simp [intOf]; omega⟩
              · have hst : delRun a (l.take (k + 1)) = none := (delRun_snoc hx hrun).trans (by simp [delStep, hx1, hx2, hx3, HE.out.2 hc2, ho])
                have HS := Lib.hid (delRun_none (M := M) hst (by omega))
                clear hst
                have hs3 : w.heap.size < W2.heap.size := by omega
                go_wp2
                refine bodyPost_ret (results_c rfl (k := 6) (by kernel_rfl) rfl (by go_simp; rfl)) rfl ⟨ret_cells ?_, ?_⟩
                · simp [deliverL, HS.out]
                · exact bel_setB (by omega) hb3
            · have hst : delRun a (l.take (k + 1)) = some ⟨s.m.inc x.cell.report.p, s.out⟩ := (delRun_snoc hx hrun).trans (by simp [delStep, hx1, hx2, hx3, mt HE.out.1 hc2])
              have HS := Lib.hid hst
              clear hst
              go_wp2
              exact ⟨⟨k + 1, _, by omega, by simp, HI.out, HS.out, hb3, hsz3, hm3, ho3, hz3⟩, by simp [intOf]; omega⟩
          · go_wp2
            exact ⟨⟨k + 1, s, by omega, by simp, fun q => by have := hcnt q; omega, (delRun_snoc hx hrun).trans (by simp [delStep, hx1, hx2, hx3]), by (repeat' (first | exact bel_refl _ _ | assumption | refine bel_drew ?_ | refine bel_drewN _ ?_ | refine bel_alloc _ (by first | omega | (simp [size_setB, size_put] <;> omega)) ?_ | refine bel_setB (by first | omega | (simp [size_setB, size_put] <;> omega)) ?_ | refine bel_setCell (by first | omega | (simp [size_setB, size_put] <;> omega)) ?_ | refine bel_put (by first | omega | (simp [size_setB, size_put] <;> omega)) ?_)), by simp; omega, (hmb.alloc _).alloc _, (hbo.alloc _).alloc _, (hbr.alloc _).alloc _⟩, by simp [intOf]; omega⟩
    · obtain rfl : k = M := by omega
      have hgo : grab wr (w.heap.size + 1 + 1) 0 6 = some s.out.cells := by rw [hbo.grab, if_pos (by rw [Said.len]; omega), cut_all _ _ (Said.len _)]
      have hpr : putOk wr w.heap.size 0 6 = true := by rw [hbr.putOk, Said.len]; rfl
      have hpp : put wr w.heap.size 0 s.out.cells = setB wr w.heap.size 41 s.out.cells := by rw [hbr.put, lay_all _ _ (by rw [Said.len, Said.len])]
      have hb0 : w.heap.size < wr.heap.size := by omega
      go_wp2
      refine bodyPost_ret (results_c rfl (k := 6) (by kernel_rfl) rfl (by go_simp; rfl)) rfl ⟨ret_cells ?_, ?_⟩
      · simp [deliverL, hrun]
      · exact bel_setB (Nat.le_refl _) hbel
def deliverF (nn : Int) (l : List Held) (a : Int) : Said := if 4 ≤ nn ∧ nn ≤ 16 ∧ inAge a = true then deliverL a (l.take nn.toNat) else Said.zero
theorem reports_Deliver (nn a : Int) (A : Option Addr) (n cap : Nat) (l : List Held) (w : World) (hnc : n ≤ cap) (hn : n ≤ maxLen) (hlen : l.length = n) (hok : ∀ h ∈ l, h.Ok) (hl : Sl w w.heap.size 56 A n (l.flatMap Held.cells)) :
 Calls Try.prog 23 #[.int .i64 nn, .slice A n cap, .int .i64 a] w fun e w' => e = .returned (.agg (deliverF nn l a).cells.toArray) ∧ Below w.heap.size w w' := by
 by_cases hc : 4 ≤ nn ∧ nn ≤ 16 ∧ inAge a = true
 · obtain ⟨h4, h16, ha⟩ := hc
   have e : deliverF nn l a = deliverL a (l.take (min nn n).toNat) := by
    unfold deliverF
    rw [if_pos ⟨h4, h16, ha⟩]
    by_cases hle : nn ≤ n
    · rw [Int.min_eq_left hle]
    · rw [Int.min_eq_right (by omega), List.take_of_length_le (by omega), List.take_of_length_le (by omega)]
   rw [e]
   exact deliver_loop a A n cap (min nn n).toNat l w (by omega) hnc hn hok hl ha nn (by omega) h4 h16
 · have e : deliverF nn l a = Said.zero := by unfold deliverF; rw [if_neg hc]
   rw [e]
   have hc2 : ¬ (4 ≤ nn ∧ nn ≤ 16 ∧ inAge a = true) := hc
   have HC := Lib.hid hc2
   clear hc hc2 e
   go_enter Try.func23, Try.ntmps23
   cases ha : inAge a
   · go_wp2_with (go_at_call 27; refine (reports_is _ _).mono ?_; rintro e w' ⟨rfl, rfl⟩)
     all_goals exact bodyPost_ret (results_c rfl (k := 6) (by kernel_rfl) rfl (by first | (go_simp; done) | (go_simp; rfl))) rfl ⟨ret_cells rfl, by (repeat' (first | exact bel_refl _ _ | assumption | refine bel_drew ?_ | refine bel_drewN _ ?_ | refine bel_alloc _ (by first | omega | (simp [size_setB, size_put] <;> omega)) ?_ | refine bel_setB (by first | omega | (simp [size_setB, size_put] <;> omega)) ?_ | refine bel_setCell (by first | omega | (simp [size_setB, size_put] <;> omega)) ?_ | refine bel_put (by first | omega | (simp [size_setB, size_put] <;> omega)) ?_))⟩
   · have h : nn < 4 ∨ 16 < nn := Classical.byContradiction fun hh => HC.out ⟨by omega, by omega, ha⟩
     rcases h with h | h
     · go_wp2_with (go_at_call 27; refine (reports_is _ _).mono ?_; rintro e w' ⟨rfl, rfl⟩)
       all_goals first | exact bodyPost_ret (results_c rfl (k := 6) (by kernel_rfl) rfl (by first | (go_simp; done) | (go_simp; rfl))) rfl ⟨ret_cells rfl, by (repeat' (first | exact bel_refl _ _ | assumption | refine bel_drew ?_ | refine bel_drewN _ ?_ | refine bel_alloc _ (by first | omega | (simp [size_setB, size_put] <;> omega)) ?_ | refine bel_setB (by first | omega | (simp [size_setB, size_put] <;> omega)) ?_ | refine bel_setCell (by first | omega | (simp [size_setB, size_put] <;> omega)) ?_ | refine bel_put (by first | omega | (simp [size_setB, size_put] <;> omega)) ?_))⟩ | (exfalso; omega)
     · go_wp2_with (go_at_call 27; refine (reports_is _ _).mono ?_; rintro e w' ⟨rfl, rfl⟩)
       all_goals first | exact bodyPost_ret (results_c rfl (k := 6) (by kernel_rfl) rfl (by first | (go_simp; done) | (go_simp; rfl))) rfl ⟨ret_cells rfl, by (repeat' (first | exact bel_refl _ _ | assumption | refine bel_drew ?_ | refine bel_drewN _ ?_ | refine bel_alloc _ (by first | omega | (simp [size_setB, size_put] <;> omega)) ?_ | refine bel_setB (by first | omega | (simp [size_setB, size_put] <;> omega)) ?_ | refine bel_setCell (by first | omega | (simp [size_setB, size_put] <;> omega)) ?_ | refine bel_put (by first | omega | (simp [size_setB, size_put] <;> omega)) ?_))⟩ | (exfalso; omega)
end Go.Proofs.Ytjmiocacnilchaa
end
/- What is delivered, as a function of the reports alone; the map's way to find it comes to it. -/
section
namespace Go.Proofs.Ytjmiocacnilchaa
open Go.RowKit
abbrev RP := Bool × Said
def hitP (a : Int) (h : RP) : Bool := h.1 && (h.2.is && (h.2.at_ == a))
def hitsP (a : Int) (R : List RP) (i : Nat) : List Payload := ((R.take i).filter (hitP a)).map (·.2.p)
def fnd (L : List Payload) : List Payload := L.filter fun p => decide (2 ≤ L.count p)
def dl (a : Int) (L : List Payload) : Said :=
 if fnd L = [] then Said.zero else if ((fnd L).all fun p => decide (p = (fnd L).getD 0 Payload.zero)) = true then ⟨true, a, (fnd L).getD 0 Payload.zero⟩ else Said.zero
def dlv (nn : Int) (R : List RP) (a : Int) : Said := if 4 ≤ nn ∧ nn ≤ 16 ∧ inAge a = true then dl a (hitsP a R nn.toNat) else Said.zero
def twice (L : List Payload) (p : Payload) : Prop := 2 ≤ L.count p
theorem fnd_mem (L : List Payload) (p : Payload) : p ∈ fnd L ↔ twice L p := by
 unfold fnd twice
 rw [List.mem_filter, decide_eq_true_eq]
 exact ⟨fun h => h.2, fun h => ⟨List.count_pos_iff.1 (by omega), h⟩⟩
theorem dl_spec (a : Int) (L : List Payload) : (∃ p, twice L p ∧ (∀ q, twice L q → q = p) ∧ dl a L = ⟨true, a, p⟩) ∨ ((¬ ∃ p, twice L p ∧ ∀ q, twice L q → q = p) ∧ dl a L = Said.zero) := by
 unfold dl
 cases hF : fnd L with
 | nil =>
  refine .inr ⟨fun ⟨p, h, _⟩ => ?_, by simp⟩
  rw [← fnd_mem, hF] at h
  cases h
 | cons p r =>
  have hp : twice L p := by rw [← fnd_mem, hF]; simp
  by_cases hs : ((p :: r).all fun x => decide (x = (p :: r).getD 0 Payload.zero)) = true
  · refine .inl ⟨p, hp, fun q hq => ?_, by rw [if_neg (by simp), if_pos hs]; rfl⟩
    rw [← fnd_mem, hF] at hq
    have := List.all_eq_true.1 hs q hq
    simpa using this
  · refine .inr ⟨fun ⟨q, h, hu⟩ => hs ?_, by rw [if_neg (by simp), if_neg hs]⟩
    refine List.all_eq_true.2 fun x hx => ?_
    rw [← hF, fnd_mem] at hx
    simp [hu x hx, hu p hp]
theorem dl_eq {a : Int} {L : List Payload} {p : Payload} (h : twice L p) (hu : ∀ q, twice L q → q = p) : dl a L = ⟨true, a, p⟩ := by
 rcases dl_spec a L with ⟨q, h1, h2, h3⟩ | ⟨h1, _⟩
 · rw [h3, h2 p h]
 · exact absurd ⟨p, h, hu⟩ h1
theorem dl_zero {a : Int} {L : List Payload} (h : ¬ ∃ p, twice L p ∧ ∀ q, twice L q → q = p) : dl a L = Said.zero := by
 rcases dl_spec a L with ⟨q, h1, h2, h3⟩ | ⟨_, h1⟩
 · exact absurd ⟨q, h1, h2⟩ h
 · exact h1
/-! the map's way -/
def rp (h : Held) : RP := (h.is, h.cell.report)
theorem hits_rp (a : Int) (l : List Held) (i : Nat) : hitsP a (l.map rp) i = ((l.take i).filter fun h => h.is && h.cell.report.is && decide (h.cell.report.at_ = a)).map (·.cell.report.p) := by
 have e : ((fun h : Held => h.is && h.cell.report.is && decide (h.cell.report.at_ = a))) = hitP a ∘ rp := by
  funext h
  simp only [hitP, rp, Function.comp, Bool.and_assoc]
  rfl
 rw [hitsP, ← List.map_take, List.filter_map, List.map_map, e]
 rfl
def delInv (a : Int) (L : List Payload) (s : DelSt) : Prop :=
 (∀ p, s.m.cnt p = L.count p) ∧ ((s.out = Said.zero ∧ ∀ p, ¬ twice L p) ∨ ∃ p, s.out = ⟨true, a, p⟩ ∧ twice L p ∧ ∀ q, twice L q → q = p)
def delOk (a : Int) (L : List Payload) : Option DelSt → Prop
 | some s => delInv a L s
 | none => ∃ p q, twice L p ∧ twice L q ∧ p ≠ q
theorem delRun_ok (a : Int) (l : List Held) : ∀ i, i ≤ l.length → delOk a (hitsP a (l.map rp) i) (delRun a (l.take i))
 | 0, _ => ⟨fun p => by simp [hitsP, PM.cnt, PM.find], .inl ⟨rfl, fun p => by simp [hitsP, twice]⟩⟩
 | i + 1, h => by
  have ih := delRun_ok a l i (by omega)
  have hx : l[i]? = some l[i] := List.getElem?_eq_getElem (by omega)
  have hs : hitsP a (l.map rp) (i + 1) = hitsP a (l.map rp) i ++ if l[i].is && l[i].cell.report.is && decide (l[i].cell.report.at_ = a) then [l[i].cell.report.p] else [] := by
   rw [hits_rp, hits_rp, List.take_succ_eq_append_getElem (by omega), List.filter_append, List.map_append]
   congr 1
   by_cases hh : (l[i].is && l[i].cell.report.is && decide (l[i].cell.report.at_ = a)) = true
   · rw [if_pos hh, List.filter_cons, if_pos hh]; rfl
   · rw [if_neg hh, List.filter_cons, if_neg hh]; rfl
  cases hr : delRun a (l.take i) with
  | none =>
   rw [delRun_none hr (by omega)]
   rw [hr] at ih
   obtain ⟨p, q, h1, h2, h3⟩ := ih
   refine ⟨p, q, ?_, ?_, h3⟩ <;> rw [hs, twice, List.count_append] <;> simp only [twice] at h1 h2 <;> omega
  | some s =>
   rw [delRun_snoc hx hr]
   rw [hr] at ih
   obtain ⟨hc, ho⟩ := ih
   generalize hitsP a (l.map rp) i = L at hs hc ho
   generalize l[i] = x at hs
   rw [hs]
   unfold delStep
   by_cases hh : (x.is && x.cell.report.is && decide (x.cell.report.at_ = a)) = true
   · rw [if_pos hh]
     simp only [hh, if_true]
     generalize x.cell.report.p = p
     have hcnt : ∀ q, (L ++ [p]).count q = L.count q + if q = p then 1 else 0 := fun q => by
      rw [List.count_append, List.count_singleton]
      by_cases e : q = p
      · simp [e]
      · have : ¬ p = q := fun h => e h.symm
        simp [e, this]
     have hm : ∀ q, (s.m.inc p).cnt q = (L ++ [p]).count q := fun q => by
      rw [cnt_inc, hcnt, hc]
      by_cases e : q = p
      · simp [e, hc]
      · simp [e, hc]
     have hp2 : (L ++ [p]).count p = L.count p + 1 := by rw [hcnt]; simp
     have hne : ∀ q, q ≠ p → (twice (L ++ [p]) q ↔ twice L q) := fun q hq => by simp [twice, hcnt, hq]
     have hmono : ∀ q, twice L q → twice (L ++ [p]) q := fun q hq => by
      have := hcnt q
      simp only [twice] at hq ⊢
      omega
     by_cases h2 : (s.m.inc p).cnt p = 2
     · rw [if_pos h2]
       rw [hm, hp2] at h2
       have ht : twice (L ++ [p]) p := by simp only [twice, hp2]; omega
       have hnp : ¬ twice L p := by simp only [twice]; omega
       rcases ho with ⟨h3, h4⟩ | ⟨q, h3, h4, h5⟩
       · rw [h3]
         refine ⟨hm, .inr ⟨p, rfl, ht, fun q hq => ?_⟩⟩
         by_cases e : q = p
         · exact e
         · exact absurd ((hne q e).1 hq) (h4 q)
       · rw [h3]
         refine ⟨p, q, ht, hmono q h4, fun e => ?_⟩
         subst e
         exact hnp h4
     · rw [if_neg h2]
       rw [hm, hp2] at h2
       have hiff : ∀ q, twice (L ++ [p]) q ↔ twice L q := fun q => by
        by_cases e : q = p
        · subst e; simp only [twice, hp2]; omega
        · exact hne q e
       refine ⟨hm, ?_⟩
       rcases ho with ⟨h3, h4⟩ | ⟨q, h3, h4, h5⟩
       · exact .inl ⟨h3, fun q hq => h4 q ((hiff q).1 hq)⟩
       · exact .inr ⟨q, h3, (hiff q).2 h4, fun r hr => h5 r ((hiff r).1 hr)⟩
   · rw [if_neg hh]
     simp only [hh, if_false, List.append_nil]
     exact ⟨hc, ho⟩
theorem deliverL_dl (a : Int) (l : List Held) : deliverL a l = dl a (hitsP a (l.map rp) l.length) := by
 have h := delRun_ok a l l.length (Nat.le_refl _)
 rw [List.take_length] at h
 unfold deliverL
 cases hr : delRun a l with
 | none =>
  rw [hr] at h
  obtain ⟨p, q, h1, h2, h3⟩ := h
  rw [dl_zero fun ⟨r, _, hu⟩ => h3 ((hu p h1).trans (hu q h2).symm)]
  rfl
 | some s =>
  rw [hr] at h
  obtain ⟨_, ⟨h3, h4⟩ | ⟨p, h3, h4, h5⟩⟩ := h
  · rw [dl_zero fun ⟨r, h, _⟩ => h4 r h]
    simp [h3]
  · rw [dl_eq h4 h5]
    simp [h3]
theorem deliverF_dlv (nn : Int) (l : List Held) (a : Int) : deliverF nn l a = dlv nn (l.map rp) a := by
 unfold deliverF dlv
 by_cases h : 4 ≤ nn ∧ nn ≤ 16 ∧ inAge a = true
 · rw [if_pos h, if_pos h, deliverL_dl]
   congr 1
   simp only [hitsP, List.map_take, List.length_take]
   congr 2
   rw [List.take_take]
   by_cases hle : nn.toNat ≤ l.length
   · rw [show min (min nn.toNat l.length) nn.toNat = nn.toNat by omega]
   · rw [List.take_of_length_le (by simp; omega), List.take_of_length_le (by simp; omega)]
 · rw [if_neg h, if_neg h]
end Go.Proofs.Ytjmiocacnilchaa
end
/- ReportsOne: the plain law. No program is in sight. -/
section
namespace Go.Proofs.Ytjmiocacnilchaa
open Go.RowKit
theorem dl_perm {a : Int} {L M : List Payload} (h : L.Perm M) : dl a L = dl a M := by
 have ht : ∀ p, twice L p ↔ twice M p := fun p => by unfold twice; rw [h.count_eq]
 rcases dl_spec a L with ⟨p, h1, h2, h3⟩ | ⟨h1, h2⟩
 · rw [h3, dl_eq ((ht p).1 h1) (fun q hq => h2 q ((ht q).2 hq))]
 · rw [h2, dl_zero (fun ⟨p, q1, q2⟩ => h1 ⟨p, (ht p).2 q1, fun q hq => q2 q ((ht q).1 hq)⟩)]
theorem dlv_perm {nn : Int} {R S : List RP} {a : Int} (h : R.Perm S) (hn : R.length ≤ nn.toNat) : dlv nn R a = dlv nn S a := by
 unfold dlv
 split
 · refine dl_perm ?_
   unfold hitsP
   rw [List.take_of_length_le hn, List.take_of_length_le (by rw [← h.length_eq]; exact hn)]
   exact (h.filter _).map _
 · rfl
def roE (b : Nat) (y : RP) (t : Nat → Bool) (a : Int) (p : Payload) (i : Nat) : RP := if i = b then y else (true, if t i = true then ⟨true, a, p⟩ else Said.zero)
def roN (b : Nat) (t : Nat → Bool) : Nat → Nat
 | 0 => 0
 | k + 1 => roN b t k + if k ≠ b ∧ t k = true then 1 else 0
def roL (b : Nat) (y : RP) (t : Nat → Bool) (a : Int) (p : Payload) (k : Nat) : List Payload := (((List.range k).map (roE b y t a p)).filter (hitP a)).map (·.2.p)
theorem hit_z (a : Int) : hitP a (true, Said.zero) = false := rfl
theorem hit_p (a : Int) (p : Payload) : hitP a (true, ⟨true, a, p⟩) = true := by simp [hitP]
theorem roL_succ (b : Nat) (y : RP) (t : Nat → Bool) (a : Int) (p : Payload) (k : Nat) : roL b y t a p (k + 1) = roL b y t a p k ++ if hitP a (roE b y t a p k) = true then [(roE b y t a p k).2.p] else [] := by
 unfold roL
 rw [List.range_succ, List.map_append, List.filter_append, List.map_append]
 congr 1
 by_cases h : hitP a (roE b y t a p k) = true
 · simp [h]
 · simp [h]
theorem roL_count (b : Nat) (y : RP) (t : Nat → Bool) (a : Int) (p x : Payload) : ∀ k, (roL b y t a p k).count x = (if x = p then roN b t k else 0) + if b < k ∧ hitP a y = true ∧ y.2.p = x then 1 else 0
 | 0 => by simp [roL, roN]
 | k + 1 => by
  rw [roL_succ, List.count_append, roL_count b y t a p x k]
  by_cases hb : k = b
  · subst hb
    have e : roE k y t a p k = y := by simp [roE]
    rw [e]
    have e2 : roN k t (k + 1) = roN k t k := by simp [roN]
    rw [e2]
    simp only [Nat.lt_irrefl, false_and, if_false, Nat.add_zero, Nat.lt_succ_self, true_and]
    congr 1
    by_cases h1 : hitP a y = true
    · rw [if_pos h1]
      by_cases h2 : y.2.p = x
      · rw [if_pos ⟨h1, h2⟩, h2]; simp
      · rw [if_neg (fun h => h2 h.2), List.count_cons]
        simp [h2]
    · rw [if_neg h1, if_neg (fun h => h1 h.1)]; rfl
  · have e : roE b y t a p k = (true, if t k = true then ⟨true, a, p⟩ else Said.zero) := by simp [roE, hb]
    rw [e]
    have hbk : (b < k + 1) ↔ b < k := by omega
    simp only [hbk, roN]
    cases ht : t k with
    | false =>
     simp only [Bool.false_eq_true, if_false, hit_z, and_false, Nat.add_zero, List.count_nil]
    | true =>
     simp only [if_true, hit_p, and_true]
     rw [if_pos hb, List.count_cons, List.count_nil]
     by_cases hx : x = p
     · subst hx
       simp only [if_true, beq_self_eq_true]
       omega
     · have : ¬ p = x := fun h => hx h.symm
       simp only [if_neg hx, beq_iff_eq, this, if_false]
       omega
theorem ro_main {b n : Nat} {y : RP} {t : Nat → Bool} {a : Int} {p : Payload} (hb : b < n) (h4 : 4 ≤ n) (h16 : n ≤ 16) (ha : inAge a = true) {d : Said} (hd : dlv (n : Int) ((List.range n).map (roE b y t a p)) a = d) :
 (d = ⟨true, a, p⟩ ∧ (1 ≤ roN b t n) ∧ (roN b t n = 1 → hitP a y = true ∧ y.2.p = p)) ∨ (d = Said.zero ∧ roN b t n < 2 ∧ (roN b t n = 1 → ¬ (hitP a y = true ∧ y.2.p = p))) := by
 have e : d = dl a (roL b y t a p n) := by
  rw [← hd]
  unfold dlv
  rw [if_pos ⟨by omega, by omega, ha⟩]
  unfold hitsP roL
  rw [List.take_of_length_le (by simp)]
 have hc := fun x => roL_count b y t a p x n
 have hu : ∀ q, twice (roL b y t a p n) q → q = p := fun q hq => by
  unfold twice at hq
  rw [hc] at hq
  by_cases h : q = p
  · exact h
  · rw [if_neg h] at hq
    split at hq <;> omega
 by_cases hp : twice (roL b y t a p n) p
 · left
   refine ⟨by rw [e, dl_eq hp hu], ?_⟩
   unfold twice at hp
   rw [hc, if_pos rfl] at hp
   by_cases h : b < n ∧ hitP a y = true ∧ y.2.p = p
   · rw [if_pos h] at hp
     exact ⟨by omega, fun _ => h.2⟩
   · rw [if_neg h] at hp
     exact ⟨by omega, fun h1 => by omega⟩
 · right
   refine ⟨by rw [e, dl_zero fun ⟨q, h1, _⟩ => hp (hu q h1 ▸ h1)], ?_⟩
   unfold twice at hp
   rw [hc, if_pos rfl] at hp
   by_cases h : b < n ∧ hitP a y = true ∧ y.2.p = p
   · rw [if_pos h] at hp
     exact ⟨by omega, fun h1 => by omega⟩
   · rw [if_neg h] at hp
     exact ⟨by omega, fun _ h2 => h ⟨hb, h2⟩⟩
theorem ro_turn {n k : Nat} (e : Nat → RP) (hk : k ≤ n) (f : Nat → RP) (h1 : ∀ i, i < n - k → f i = e (k + i)) (h2 : ∀ i, n - k ≤ i → i < n → f i = e (i - (n - k))) : ((List.range n).map e).Perm ((List.range n).map f) := by
 have l1 : (List.range n).map f = (List.range (n - k)).map (fun i => e (k + i)) ++ (List.range k).map e := by
  refine List.ext_getElem (by simp; omega) fun i g1 g2 => ?_
  simp only [List.length_map, List.length_range] at g1
  rw [List.getElem_map, List.getElem_range]
  by_cases hi : i < n - k
  · rw [List.getElem_append_left (by simpa using hi)]
    simp [h1 i hi]
  · rw [List.getElem_append_right (by simpa using Nat.le_of_not_lt hi)]
    simp [h2 i (by omega) g1]
 have l2 : (List.range n).map e = (List.range k).map e ++ (List.range (n - k)).map (fun i => e (k + i)) := by
  refine List.ext_getElem (by simp; omega) fun i g1 g2 => ?_
  simp only [List.length_map, List.length_range] at g1
  rw [List.getElem_map, List.getElem_range]
  by_cases hi : i < k
  · rw [List.getElem_append_left (by simpa using hi)]
    simp
  · rw [List.getElem_append_right (by simpa using Nat.le_of_not_lt hi)]
    simp [show k + (i - k) = i by omega]
 rw [l1, l2]
 exact List.perm_append_comm
end Go.Proofs.Ytjmiocacnilchaa
end
