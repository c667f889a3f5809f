/- ScoresOrder: for every two scores, and every run of rewards and penalties, the law returns true (its '..Said'). No further condition. -/
import Derived.Test.YtjmiocacnilchaaRows
import Derived.Test.YtjmiocacnilchaaScoresA
import Derived.Test.YtjmiocacnilchaaApp
import Derived.Test.YtjmiocacnilchaaFlat
import Derived.Deep.QuietTactic
import Derived.BigQuiet
import Derived.Deep.OwnRows
namespace Go.Proofs.Ytjmiocacnilchaa.scoresOrder
open Go.RowKit Go.WideShapes Go.ChangeShapes Go.ChangeAt

theorem boolInfo : (Try.prog.info? 4).map (fun i => (i.zero, i.size, i.bytes)) = some (some (.bool false), 1, 1) := by kernel_rfl
theorem stepS_mono {a b : Int} (x : Bool) (h : a ≤ b) : stepS a x ≤ stepS b x := by unfold stepS rew pen; split <;> omega
theorem foldS_mono (l : List Bool) : ∀ {a b : Int}, a ≤ b → l.foldl stepS a ≤ l.foldl stepS b := by
  induction l with
  | nil => intro a b h; exact h
  | cons x l ih => intro a b h; exact ih (stepS_mono x h)
theorem runS_mono {a b : Int} (l : List Bool) (h : a ≤ b) : runS a l ≤ runS b l := foldS_mono l (by omega)
theorem runS_app (s : Int) (h0 : 0 ≤ s) (a b : List Bool) : runS (runS s a) b = runS s (a ++ b) := by
  have := runS_bd a h0
  unfold runS at this ⊢
  rw [List.foldl_append, Int.min_eq_left (by omega)]
theorem runS_min (s : Int) (l : List Bool) : runS s l = l.foldl stepS (min s 1000) := rfl
theorem runS_rewards (k : Nat) : ∀ (s : Int), 0 ≤ s → s ≤ k → (List.replicate k true).foldl stepS s = 0 := by
  induction k with
  | zero => intro s h0 h1; simp; omega
  | succ k ih =>
    intro s h0 h1
    rw [List.replicate_succ, List.foldl_cons]
    apply ih
    · simp only [stepS, rew, if_true]; omega
    · simp only [stepS, rew, if_true]; omega


def fillC (k M : Nat) : Array Value := (List.replicate k (Value.bool true) ++ List.replicate (M - k) (Value.bool false)).toArray
theorem fillC_zero (M : Nat) : fillC 0 M = madeCells #[.bool false] M := by
  apply Array.ext'
  rw [toList_madeCells_one]
  simp [fillC]
theorem mk_bools (n : Nat) (h : n ≤ 100000) (wx : World) : (Instr.makeSlice 23 (.int .i64 n) (.int .i64 n)).run Try.prog wx = .ok (.slice (some ⟨wx.heap.size, 0, none⟩) n n) (wx.alloc (.cells (fillC 0 n) 4)) := by
  rw [fillC_zero]
  exact run_make_row' (P := Try.prog) 23 4 (.bool false) 1 Try.underlying23 boolInfo rfl .i64 .i64 n (by omega) (by omega) wx
theorem fillC_set {k M : Nat} (h : k < M) : (fillC k M).setIfInBounds k (.bool true) = fillC (k + 1) M := by
  unfold fillC
  apply Array.ext'
  simp only [Array.toList_setIfInBounds]
  apply List.ext_getElem?
  intro i
  rw [List.getElem?_set]
  simp only [List.getElem?_append, List.length_replicate, List.getElem?_replicate, List.length_append]
  by_cases h1 : k = i
  · subst h1; simp; omega
  · rw [if_neg h1]
    (repeat' split) <;> first | rfl | omega
theorem fillC_get {k M : Nat} (h : k < M) : (fillC k M)[k]? = some (.bool false) := by
  unfold fillC
  rw [List.getElem?_toArray, List.getElem?_append_right (by simp), List.length_replicate, Nat.sub_self, List.getElem?_replicate, if_pos (by omega)]
theorem fillC_size (k M : Nat) (h : k ≤ M) : (fillC k M).size = M := by unfold fillC; simp; omega
theorem sl_fill (w : World) (d e M : Nat) (t : TypeId) : Sl (((w.drewN d).alloc (.cells (fillC M M) t)).drewN e) (w.heap.size + 1) 1 (some ⟨w.heap.size, 0, none⟩) M (bools (List.replicate M true)) := by
  have := (Sl.new (w := w.drewN d) (cs := fillC M M) (t := t) (n := M) (sz := 1) (by rw [fillC_size _ _ (Nat.le_refl M)]; omega)).drewN e
  have e2 : (fillC M M).toList = bools (List.replicate M true) := by simp [fillC, bools]
  rw [← e2]
  exact this
attribute [local irreducible] runS pen rew
set_option maxHeartbeats 1000000 in
theorem walkA (top lo : Int) (q : Nat) (HQ : Hid (lo = (q : Int))) (A : Option Addr) (n cap : Nat) (l : List Bool) (w : World) (b0 : 0 ≤ top) (b1 : top ≤ 65535) (a0 : 0 ≤ lo) (a1 : lo ≤ 65535) (hnc : n ≤ cap) (hn : cap ≤ maxLen) (hl : Sl w w.heap.size 1 A n (bools l)) (hbig : ¬1000 < n) (hab : lo < top) :
    Calls Try.prog 5 #[.int .u16 top, .int .u16 lo, .slice A n cap] w fun e w' => e = .returned (.bool true) ∧ Below w.heap.size w w' := by
  unfold maxLen at hn
  have hq : q ≤ 65535 := by have := HQ.out; omega
  have hm := runS_mono l (show lo ≤ top by omega)
  have hbd := runS_bd l (show 0 ≤ top by omega)
  have hbl := runS_bd l (show 0 ≤ lo by omega)
  obtain ⟨k, hk, hkn⟩ : ∃ k : Nat, lo % ((n : Int) + 1) = (k : Int) ∧ k ≤ n := ⟨(lo % ((n : Int) + 1)).toNat, by have := Int.emod_nonneg lo (show (n : Int) + 1 ≠ 0 by omega); omega, by have := Int.emod_lt_of_pos lo (show (0 : Int) < (n : Int) + 1 by omega); have := Int.emod_nonneg lo (show (n : Int) + 1 ≠ 0 by omega); omega⟩
  have HK := Lib.hid hk
  clear hk
  have hs1 : Sl w w.heap.size 1 A k (bools (l.take k)) := by have := hl.take (k := k) hkn; simpa [bools, List.map_take] using this
  have hs2 : Sl w w.heap.size 1 (if cap = k then A else A.map (·.add k)) (n - k) (bools (l.drop k)) := by have := hl.drop (k := k) (cap := cap) hkn hnc; simpa [bools, List.map_drop] using this
  have hbt := runS_bd (l.take k) (show 0 ≤ top by omega)
  have happ : (runS (runS top (l.take k)) (l.drop k) != runS top l) = false := by rw [runS_app _ (by omega), List.take_append_drop]; simp
  have i1 : (k : Int) ≤ (cap : Int) := by omega
  have i2 : (0 : Int) ≤ (k : Int) := by omega
  have i3 : (k : Int) ≤ (n : Int) := by omega
  have i4 : (n : Int) ≤ (cap : Int) := by omega
  have d1 : (runS top l < runS lo l) = False := eq_false (by omega)
  have d2 : ((1000 : Int) < runS top l) = False := eq_false (by omega)
  have c1 : ∀ x, Calls Try.prog 18 #[.int .u16 top, .slice A k cap] (w.drewN x) fun e w'' => e = .returned (.int .u16 (runS top (l.take k))) ∧ ∃ m, w'' = w.drewN m :=
    fun x => quiet_sameN (scores_Run _ _ k _ (l.take k) _ _ (by omega) (by omega) (by unfold maxLen; omega) (hs1.drewN _))
  have c2 : ∀ x, Calls Try.prog 18 #[.int .u16 (runS top (l.take k)), .slice (if cap = k then A else A.map (fun x => x.add k)) (n - k) (cap - k)] (w.drewN x) fun e w'' => e = .returned (.int .u16 (runS (runS top (l.take k)) (l.drop k))) ∧ ∃ m, w'' = w.drewN m :=
    fun x => quiet_sameN (scores_Run _ _ (n - k) _ (l.drop k) _ _ (by omega) (by omega) (by unfold maxLen; omega) (hs2.drewN _))
  obtain ⟨M, hM⟩ : ∃ M : Nat, 1000 = M := ⟨_, rfl⟩
  have hmq : ∀ wx : World, (Instr.makeSlice 23 (.int .i64 lo) (.int .i64 lo)).run Try.prog wx = .ok (.slice (some ⟨wx.heap.size, 0, none⟩) q q) (wx.alloc (.cells (fillC 0 q) 4)) := by
    have := HQ.out
    rw [this]
    exact mk_bools q (by omega)
  have hmk : ∀ wx : World, (Instr.makeSlice 23 (.int .i64 1000) (.int .i64 1000)).run Try.prog wx = .ok (.slice (some ⟨wx.heap.size, 0, none⟩) M M) (wx.alloc (.cells (fillC 0 M) 4)) := by
    subst hM
    exact fun wx => mk_bools 1000 (by omega) wx
  have hM1 : M ≤ 65535 := by omega
  have HM := Lib.hid hM
  clear hM
  go_enter Try.func5, Try.ntmps5
  go_wp2_with (go_at_call 18; refine (scores_Run _ _ _ _ l _ _ (by omega) (by omega) (by simp only [maxLen]; omega) hl).mono ?_; rintro e w' ⟨rfl, rfl⟩)
  rw [HK.out]
  refine wp_region_quiet_lit (by kernel_rfl) (by kernel_rfl) ?_
  iterate 12 (quiet_step (fail))
  quiet_step ((exact c1 _))
  iterate 3 (quiet_step (fail))
  quiet_step ((exact c2 _))
  iterate 3 (quiet_step (fail))
  refine wpQuiet_nil ?_
  rintro _ ⟨nq, rfl⟩
  clear c1 c2
  generalize (if cap = k then A else Option.map (fun x => Addr.add x k) A) = A2
  go_wp2
  · go_loopw [11] (fun i wr => ∃ j d : Nat, j ≤ q ∧ i = .int .i64 j ∧ wr = (w.drewN d).alloc (.cells (fillC j q) 4)) (fun i _ => q - (intOf i).toNat)
    case atStart => exact ⟨0, _, Nat.zero_le _, rfl, rfl⟩
    case round =>
      obtain ⟨j, d, hj, rfl, rfl⟩ := hrel
      by_cases hlt : j < q
      · have hcell : ((w.drewN d).alloc (.cells (fillC j q) 4)).cell? ⟨w.heap.size, j, none⟩ = some (.bool false) := (World.cell?_alloc_at _ _ _ _ rfl).trans (fillC_get hlt)
        have hfroz : ((w.drewN d).alloc (.cells (fillC j q) 4)).frozen? ⟨w.heap.size, j, none⟩ = false := World.frozen?_alloc_at _ _ _ _ rfl
        have hset : ((w.drewN d).alloc (.cells (fillC j q) 4)).setCell ⟨w.heap.size, j, none⟩ (.bool true) = (w.drewN d).alloc (.cells (fillC (j + 1) q) 4) := (World.setCell_alloc_at _ _ _ _ _ rfl).trans (by rw [fillC_set hlt])
        go_wp2
        exact ⟨⟨j + 1, d, by omega, by go_num, rfl⟩, by simp [intOf]; omega⟩
      · obtain rfl : j = q := by omega
        have hfin := sl_fill w d 0 j 4
        have hrun : runS lo (List.replicate j true) = 0 := by
          have e1 := HQ.out
          rw [e1, runS_min, runS_rewards j _ (by omega) (by omega)]
        go_wp2_with (first
          | (go_at_call 18; refine (scores_Run _ _ j _ (List.replicate j true) _ _ (by omega) (by omega) (by simp only [maxLen]; omega) hfin).mono ?_; rintro e w' ⟨rfl, rfl⟩)
          | (go_at_call 9; refine (lives21 _).mono ?_; rintro e w' ⟨rfl, hb⟩))
        go_ret
        exact ⟨rfl, (bel_alloc _ (Nat.le_refl _) (bel_drewN d (bel_refl _ _))).trans (hb.mono (show w.heap.size ≤ ((w.drewN d).heap.push _).size by rw [Array.size_push]; exact Nat.le_succ _))⟩
  · go_loopw [11] (fun i wr => ∃ j d : Nat, j ≤ M ∧ i = .int .i64 j ∧ wr = (w.drewN d).alloc (.cells (fillC j M) 4)) (fun i _ => M - (intOf i).toNat)
    case atStart => exact ⟨0, _, Nat.zero_le _, rfl, rfl⟩
    case round =>
      obtain ⟨j, d, hj, rfl, rfl⟩ := hrel
      by_cases hlt : j < M
      · have hcell : ((w.drewN d).alloc (.cells (fillC j M) 4)).cell? ⟨w.heap.size, j, none⟩ = some (.bool false) := (World.cell?_alloc_at _ _ _ _ rfl).trans (fillC_get hlt)
        have hfroz : ((w.drewN d).alloc (.cells (fillC j M) 4)).frozen? ⟨w.heap.size, j, none⟩ = false := World.frozen?_alloc_at _ _ _ _ rfl
        have hset : ((w.drewN d).alloc (.cells (fillC j M) 4)).setCell ⟨w.heap.size, j, none⟩ (.bool true) = (w.drewN d).alloc (.cells (fillC (j + 1) M) 4) := (World.setCell_alloc_at _ _ _ _ _ rfl).trans (by rw [fillC_set hlt])
        go_wp2
        exact ⟨⟨j + 1, d, by omega, by go_num, rfl⟩, by simp [intOf]; omega⟩
      · obtain rfl : j = M := by omega
        have hfin := sl_fill w d 0 j 4
        have hrun : runS lo (List.replicate j true) = 0 := by
          have e1 := HM.out
          rw [runS_min, runS_rewards j _ (by omega) (by omega)]
        go_wp2_with (first
          | (go_at_call 18; refine (scores_Run _ _ j _ (List.replicate j true) _ _ (by omega) (by omega) (by simp only [maxLen]; omega) hfin).mono ?_; rintro e w' ⟨rfl, rfl⟩)
          | (go_at_call 9; refine (lives21 _).mono ?_; rintro e w' ⟨rfl, hb⟩))
        go_ret
        exact ⟨rfl, (bel_alloc _ (Nat.le_refl _) (bel_drewN d (bel_refl _ _))).trans (hb.mono (show w.heap.size ≤ ((w.drewN d).heap.push _).size by rw [Array.size_push]; exact Nat.le_succ _))⟩

set_option maxHeartbeats 1000000 in
theorem walkB (top lo : Int) (q : Nat) (HQ : Hid (lo = (q : Int))) (A : Option Addr) (n cap : Nat) (l : List Bool) (w : World) (b0 : 0 ≤ top) (b1 : top ≤ 65535) (a0 : 0 ≤ lo) (a1 : lo ≤ 65535) (hnc : n ≤ cap) (hn : cap ≤ maxLen) (hl : Sl w w.heap.size 1 A n (bools l)) (hbig : ¬1000 < n) (hab : ¬ top < lo) :
    Calls Try.prog 5 #[.int .u16 lo, .int .u16 top, .slice A n cap] w fun e w' => e = .returned (.bool true) ∧ Below w.heap.size w w' := by
  unfold maxLen at hn
  have hq : q ≤ 65535 := by have := HQ.out; omega
  have hm := runS_mono l (show lo ≤ top by omega)
  have hbd := runS_bd l (show 0 ≤ top by omega)
  have hbl := runS_bd l (show 0 ≤ lo by omega)
  obtain ⟨k, hk, hkn⟩ : ∃ k : Nat, lo % ((n : Int) + 1) = (k : Int) ∧ k ≤ n := ⟨(lo % ((n : Int) + 1)).toNat, by have := Int.emod_nonneg lo (show (n : Int) + 1 ≠ 0 by omega); omega, by have := Int.emod_lt_of_pos lo (show (0 : Int) < (n : Int) + 1 by omega); have := Int.emod_nonneg lo (show (n : Int) + 1 ≠ 0 by omega); omega⟩
  have HK := Lib.hid hk
  clear hk
  have hs1 : Sl w w.heap.size 1 A k (bools (l.take k)) := by have := hl.take (k := k) hkn; simpa [bools, List.map_take] using this
  have hs2 : Sl w w.heap.size 1 (if cap = k then A else A.map (·.add k)) (n - k) (bools (l.drop k)) := by have := hl.drop (k := k) (cap := cap) hkn hnc; simpa [bools, List.map_drop] using this
  have hbt := runS_bd (l.take k) (show 0 ≤ top by omega)
  have happ : (runS (runS top (l.take k)) (l.drop k) != runS top l) = false := by rw [runS_app _ (by omega), List.take_append_drop]; simp
  have i1 : (k : Int) ≤ (cap : Int) := by omega
  have i2 : (0 : Int) ≤ (k : Int) := by omega
  have i3 : (k : Int) ≤ (n : Int) := by omega
  have i4 : (n : Int) ≤ (cap : Int) := by omega
  have d1 : (runS top l < runS lo l) = False := eq_false (by omega)
  have d2 : ((1000 : Int) < runS top l) = False := eq_false (by omega)
  have c1 : ∀ x, Calls Try.prog 18 #[.int .u16 top, .slice A k cap] (w.drewN x) fun e w'' => e = .returned (.int .u16 (runS top (l.take k))) ∧ ∃ m, w'' = w.drewN m :=
    fun x => quiet_sameN (scores_Run _ _ k _ (l.take k) _ _ (by omega) (by omega) (by unfold maxLen; omega) (hs1.drewN _))
  have c2 : ∀ x, Calls Try.prog 18 #[.int .u16 (runS top (l.take k)), .slice (if cap = k then A else A.map (fun x => x.add k)) (n - k) (cap - k)] (w.drewN x) fun e w'' => e = .returned (.int .u16 (runS (runS top (l.take k)) (l.drop k))) ∧ ∃ m, w'' = w.drewN m :=
    fun x => quiet_sameN (scores_Run _ _ (n - k) _ (l.drop k) _ _ (by omega) (by omega) (by unfold maxLen; omega) (hs2.drewN _))
  obtain ⟨M, hM⟩ : ∃ M : Nat, 1000 = M := ⟨_, rfl⟩
  have hmq : ∀ wx : World, (Instr.makeSlice 23 (.int .i64 lo) (.int .i64 lo)).run Try.prog wx = .ok (.slice (some ⟨wx.heap.size, 0, none⟩) q q) (wx.alloc (.cells (fillC 0 q) 4)) := by
    have := HQ.out
    rw [this]
    exact mk_bools q (by omega)
  have hmk : ∀ wx : World, (Instr.makeSlice 23 (.int .i64 1000) (.int .i64 1000)).run Try.prog wx = .ok (.slice (some ⟨wx.heap.size, 0, none⟩) M M) (wx.alloc (.cells (fillC 0 M) 4)) := by
    subst hM
    exact fun wx => mk_bools 1000 (by omega) wx
  have hM1 : M ≤ 65535 := by omega
  have HM := Lib.hid hM
  clear hM
  go_enter Try.func5, Try.ntmps5
  go_wp2_with (go_at_call 18; refine (scores_Run _ _ _ _ l _ _ (by omega) (by omega) (by simp only [maxLen]; omega) hl).mono ?_; rintro e w' ⟨rfl, rfl⟩)
  rw [HK.out]
  refine wp_region_quiet_lit (by kernel_rfl) (by kernel_rfl) ?_
  iterate 12 (quiet_step (fail))
  quiet_step ((exact c1 _))
  iterate 3 (quiet_step (fail))
  quiet_step ((exact c2 _))
  iterate 3 (quiet_step (fail))
  refine wpQuiet_nil ?_
  rintro _ ⟨nq, rfl⟩
  clear c1 c2
  generalize (if cap = k then A else Option.map (fun x => Addr.add x k) A) = A2
  go_wp2
  · go_loopw [11] (fun i wr => ∃ j d : Nat, j ≤ q ∧ i = .int .i64 j ∧ wr = (w.drewN d).alloc (.cells (fillC j q) 4)) (fun i _ => q - (intOf i).toNat)
    case atStart => exact ⟨0, _, Nat.zero_le _, rfl, rfl⟩
    case round =>
      obtain ⟨j, d, hj, rfl, rfl⟩ := hrel
      by_cases hlt : j < q
      · have hcell : ((w.drewN d).alloc (.cells (fillC j q) 4)).cell? ⟨w.heap.size, j, none⟩ = some (.bool false) := (World.cell?_alloc_at _ _ _ _ rfl).trans (fillC_get hlt)
        have hfroz : ((w.drewN d).alloc (.cells (fillC j q) 4)).frozen? ⟨w.heap.size, j, none⟩ = false := World.frozen?_alloc_at _ _ _ _ rfl
        have hset : ((w.drewN d).alloc (.cells (fillC j q) 4)).setCell ⟨w.heap.size, j, none⟩ (.bool true) = (w.drewN d).alloc (.cells (fillC (j + 1) q) 4) := (World.setCell_alloc_at _ _ _ _ _ rfl).trans (by rw [fillC_set hlt])
        go_wp2
        exact ⟨⟨j + 1, d, by omega, by go_num, rfl⟩, by simp [intOf]; omega⟩
      · obtain rfl : j = q := by omega
        have hfin := sl_fill w d 0 j 4
        have hrun : runS lo (List.replicate j true) = 0 := by
          have e1 := HQ.out
          rw [e1, runS_min, runS_rewards j _ (by omega) (by omega)]
        go_wp2_with (first
          | (go_at_call 18; refine (scores_Run _ _ j _ (List.replicate j true) _ _ (by omega) (by omega) (by simp only [maxLen]; omega) hfin).mono ?_; rintro e w' ⟨rfl, rfl⟩)
          | (go_at_call 9; refine (lives21 _).mono ?_; rintro e w' ⟨rfl, hb⟩))
        go_ret
        exact ⟨rfl, (bel_alloc _ (Nat.le_refl _) (bel_drewN d (bel_refl _ _))).trans (hb.mono (show w.heap.size ≤ ((w.drewN d).heap.push _).size by rw [Array.size_push]; exact Nat.le_succ _))⟩
  · go_loopw [11] (fun i wr => ∃ j d : Nat, j ≤ M ∧ i = .int .i64 j ∧ wr = (w.drewN d).alloc (.cells (fillC j M) 4)) (fun i _ => M - (intOf i).toNat)
    case atStart => exact ⟨0, _, Nat.zero_le _, rfl, rfl⟩
    case round =>
      obtain ⟨j, d, hj, rfl, rfl⟩ := hrel
      by_cases hlt : j < M
      · have hcell : ((w.drewN d).alloc (.cells (fillC j M) 4)).cell? ⟨w.heap.size, j, none⟩ = some (.bool false) := (World.cell?_alloc_at _ _ _ _ rfl).trans (fillC_get hlt)
        have hfroz : ((w.drewN d).alloc (.cells (fillC j M) 4)).frozen? ⟨w.heap.size, j, none⟩ = false := World.frozen?_alloc_at _ _ _ _ rfl
        have hset : ((w.drewN d).alloc (.cells (fillC j M) 4)).setCell ⟨w.heap.size, j, none⟩ (.bool true) = (w.drewN d).alloc (.cells (fillC (j + 1) M) 4) := (World.setCell_alloc_at _ _ _ _ _ rfl).trans (by rw [fillC_set hlt])
        go_wp2
        exact ⟨⟨j + 1, d, by omega, by go_num, rfl⟩, by simp [intOf]; omega⟩
      · obtain rfl : j = M := by omega
        have hfin := sl_fill w d 0 j 4
        have hrun : runS lo (List.replicate j true) = 0 := by
          have e1 := HM.out
          rw [runS_min, runS_rewards j _ (by omega) (by omega)]
        go_wp2_with (first
          | (go_at_call 18; refine (scores_Run _ _ j _ (List.replicate j true) _ _ (by omega) (by omega) (by simp only [maxLen]; omega) hfin).mono ?_; rintro e w' ⟨rfl, rfl⟩)
          | (go_at_call 9; refine (lives21 _).mono ?_; rintro e w' ⟨rfl, hb⟩))
        go_ret
        exact ⟨rfl, (bel_alloc _ (Nat.le_refl _) (bel_drewN d (bel_refl _ _))).trans (hb.mono (show w.heap.size ≤ ((w.drewN d).heap.push _).size by rw [Array.size_push]; exact Nat.le_succ _))⟩

theorem walk (a b : Int) (A : Option Addr) (n cap : Nat) (l : List Bool) (w : World) (a0 : 0 ≤ a) (a1 : a ≤ 65535) (b0 : 0 ≤ b) (b1 : b ≤ 65535) (hnc : n ≤ cap) (hn : cap ≤ maxLen) (hl : Sl w w.heap.size 1 A n (bools l)) :
    Calls Try.prog 5 #[.int .u16 a, .int .u16 b, .slice A n cap] w fun e w' => e = .returned (.bool true) ∧ Below w.heap.size w w' := by
  by_cases hbig : 1000 < n
  · unfold maxLen at hn
    go_enter Try.func5, Try.ntmps5
    go_wp2_with (go_at_call 9; refine (lives21 _).mono ?_; rintro e w' ⟨rfl, hb⟩)
    go_ret
    exact ⟨rfl, hb⟩
  · by_cases hab : b < a
    · obtain ⟨q, hq⟩ := Int.eq_ofNat_of_zero_le b0
      exact walkA a b q (Lib.hid hq) A n cap l w a0 a1 b0 b1 hnc hn hl hbig hab
    · obtain ⟨q, hq⟩ := Int.eq_ofNat_of_zero_le a0
      exact walkB b a q (Lib.hid hq) A n cap l w b0 b1 a0 a1 hnc hn hl hbig hab
set_option maxRecDepth 100000 in
theorem lifted (os : Os) (started : os.Started) (H : Type) (enc : TypeId × Value → H) :
    ReturnsInHanded {} Try.checked os 5 .any (Rows.scoresOrderSpec.pre6 enc Try.prog Try.f5 [] false) (Rows.scoresOrderSpec.post enc Try.prog Try.f5 false true false false) := by
  refine law_lifted (C := Try.checked) (by kernel_rfl) started (by kernel_rfl) Try.func5 (by kernel_rfl) (by kernel_rfl) rfl Try.underlying4 rfl
    (fun ds h => by match ds, h with | [_, _, _], _ => rfl)
    (ChangeSpec.witness6 (enc := enc) (C := Try.checked) false ⟨#[], #[.int .u16 0, .int .u16 0, .slice none 0 0], []⟩ 8 (by kernel_rfl) (by kernel_rfl) (by kernel_rfl) (by kernel_rfl)) ?_
  intro W base args ds p hval hA _
  change DataW.TrodAll enc Try.prog W 0 (fun _ => true) true Try.f5.params.toList args.toList ds p at hA
  rw [Try.params5] at hA hval
  obtain ⟨v0, vs0, d0, ds0, p0, q0, hargs, rfl, rfl, h0, r0⟩ := trodAll_cons hA
  obtain ⟨v1, vs1, d1, ds1, p1, q1, rfl, rfl, rfl, h1, r1⟩ := trodAll_cons r0
  obtain ⟨v2, vs2, d2, ds2, p2, q2, rfl, rfl, rfl, h2, r2⟩ := trodAll_cons r1
  obtain ⟨rfl, rfl, rfl⟩ := trodAll_nil r2
  obtain rfl : args = #[v0, v1, v2] := by cases args; simp_all
  obtain ⟨a0, rfl, rfl, rfl, w0⟩ := open_int Try.underlying22 (hval 0 22 v0 rfl rfl) h0
  have b0 := bounds_u16 w0
  obtain ⟨a1, rfl, rfl, rfl, w1⟩ := open_int Try.underlying22 (hval 1 22 v1 rfl rfl) h1
  have b1 := bounds_u16 w1
  obtain ⟨A2, n2, c2, l2, rfl, hl2, hm2, hs2⟩ := open_bools Try.underlying23 Try.underlying4 (by kernel_rfl) (hval 2 23 v2 rfl rfl) h2
  exact walk a0 a1 A2 n2 c2 l2 W b0.1 b0.2 b1.1 b1.2 hl2 hm2 hs2

theorem proved : Rows.ScoresOrderSaid :=
  OpenClaim.holds_of_wide 5 Try.f5 rfl rfl rfl rfl rfl rfl rfl ⟨rfl, rfl, rfl, rfl, rfl⟩ rfl rfl rfl rfl rfl (by kernel_rfl) Try.func5 (by kernel_rfl)
    (of_decide_eq_true (by kernel_rfl)) (by unfold Func.isWrapper; first | (rw [if_pos (by decide +kernel)]; kernel_rfl) | (rw [if_neg (by decide +kernel)]; exact ⟨rfl, rfl⟩))
    (fun os started H enc _ => lifted os started H enc)
#print axioms proved
end Go.Proofs.Ytjmiocacnilchaa.scoresOrder
