/- The contracts of the functions of package scores (Penalty, Reward, LevelOf, Up) and of their references: what each returns, as plain integers. -/
import Derived.Test.YtjmiocacnilchaaChecked
import Derived.Test.YtjmiocacnilchaaBase
namespace Go.Proofs.Ytjmiocacnilchaa
open Go.RowKit

def pen (s : Int) : Int := min (min s 1000 + 8) 1000
def rew (s : Int) : Int := max (min s 1000) 1 - 1
def lvl (s : Int) : Int := if s < 16 then 0 else if s < 64 then 1 else 2
def upc (s : Int) : Int := min s 99 + 1

theorem scores_Penalty (s : Int) (w : World) (h0 : 0 ≤ s) (h1 : s ≤ 65535) :
    Calls Try.prog 10 #[.int .u16 s] w fun e w' => e = .returned (.int .u16 (pen s)) ∧ w = w' := by
  go_enter Try.func10, Try.ntmps10
  go_wp2
  all_goals (go_ret; exact ⟨ret_int (by unfold pen; omega), rfl⟩)

theorem scores_Reward (s : Int) (w : World) (h0 : 0 ≤ s) (h1 : s ≤ 65535) :
    Calls Try.prog 12 #[.int .u16 s] w fun e w' => e = .returned (.int .u16 (rew s)) ∧ w = w' := by
  go_enter Try.func12, Try.ntmps12
  go_wp2
  all_goals (go_ret; exact ⟨ret_int (by unfold rew; omega), rfl⟩)

theorem scores_LevelOf (s : Int) (w : World) (h0 : 0 ≤ s) (h1 : s ≤ 65535) :
    Calls Try.prog 14 #[.int .u16 s] w fun e w' => e = .returned (.int .u8 (lvl s)) ∧ w = w' := by
  go_enter Try.func14, Try.ntmps14
  go_wp2
  all_goals (go_ret; exact ⟨ret_int (by unfold lvl; (repeat' split) <;> omega), rfl⟩)

theorem scores_Up (s : Int) (w : World) (h0 : 0 ≤ s) (h1 : s ≤ 255) :
    Calls Try.prog 16 #[.int .u8 s] w fun e w' => e = .returned (.int .u8 (upc s)) ∧ w = w' := by
  go_enter Try.func16, Try.ntmps16
  go_wp2
  all_goals (go_ret; exact ⟨ret_int (by unfold upc; omega), rfl⟩)

theorem ref_within (x m : Int) (w : World) (hm : 0 ≤ m) :
    Calls Try.prog 25 #[.int .i64 x, .int .i64 m] w fun e w' => e = .returned (.int .i64 (max 0 (min x m))) ∧ w = w' := by
  go_enter Try.func25, Try.ntmps25
  go_wp2
  all_goals (go_ret; exact ⟨ret_int (by omega), rfl⟩)

theorem ref_Penalty (s : Int) (w : World) (h0 : 0 ≤ s) (h1 : s ≤ 65535) :
    Calls Try.prog 11 #[.int .u16 s] w fun e w' => e = .returned (.int .u16 (pen s)) ∧ w = w' := by
  go_enter Try.func11, Try.ntmps11
  go_wp2_with (go_at_call 25; refine (ref_within _ _ _ (by omega)).mono ?_; rintro e w' ⟨rfl, rfl⟩)
  all_goals (go_ret; exact ⟨ret_int (by unfold pen; omega), rfl⟩)

theorem ref_Reward (s : Int) (w : World) (h0 : 0 ≤ s) (h1 : s ≤ 65535) :
    Calls Try.prog 13 #[.int .u16 s] w fun e w' => e = .returned (.int .u16 (rew s)) ∧ w = w' := by
  go_enter Try.func13, Try.ntmps13
  go_wp2_with (go_at_call 25; refine (ref_within _ _ _ (by omega)).mono ?_; rintro e w' ⟨rfl, rfl⟩)
  all_goals (go_ret; exact ⟨ret_int (by unfold rew; omega), rfl⟩)

theorem ref_Level (s : Int) (w : World) (h0 : 0 ≤ s) (h1 : s ≤ 65535) :
    Calls Try.prog 15 #[.int .u16 s] w fun e w' => e = .returned (.int .i64 (lvl s)) ∧ w = w' := by
  go_enter Try.func15, Try.ntmps15
  go_wp2
  all_goals (go_ret; exact ⟨ret_int (by unfold lvl; (repeat' split) <;> omega), rfl⟩)

theorem ref_Up (s : Int) (w : World) (h0 : 0 ≤ s) (h1 : s ≤ 255) :
    Calls Try.prog 17 #[.int .u8 s] w fun e w' => e = .returned (.int .u8 (upc s)) ∧ w = w' := by
  go_enter Try.func17, Try.ntmps17
  go_wp2_with (go_at_call 25; refine (ref_within _ _ _ (by omega)).mono ?_; rintro e w' ⟨rfl, rfl⟩)
  all_goals (go_ret; exact ⟨ret_int (by unfold upc; omega), rfl⟩)

/-- one step of a run -/
def stepS (s : Int) (b : Bool) : Int := if b then rew s else pen s
def runS (s : Int) (l : List Bool) : Int := l.foldl stepS (min s 1000)

theorem stepS_bd {s : Int} (b : Bool) (h0 : 0 ≤ s) (h1 : s ≤ 1000) : 0 ≤ stepS s b ∧ stepS s b ≤ 1000 := by
  unfold stepS pen rew; split <;> omega
theorem foldS_bd (l : List Bool) : ∀ {s : Int}, 0 ≤ s → s ≤ 1000 → 0 ≤ l.foldl stepS s ∧ l.foldl stepS s ≤ 1000 := by
  induction l with
  | nil => intro s h0 h1; exact ⟨h0, h1⟩
  | cons b l ih => intro s h0 h1; have := stepS_bd b h0 h1; exact ih this.1 this.2
theorem runS_bd {s : Int} (l : List Bool) (h0 : 0 ≤ s) : 0 ≤ runS s l ∧ runS s l ≤ 1000 := foldS_bd l (by omega) (by omega)
theorem runS_snoc (s : Int) (l : List Bool) (k : Nat) (b : Bool) (h : l[k]? = some b) : runS s (l.take (k + 1)) = stepS (runS s (l.take k)) b := by
  unfold runS
  rw [List.take_add_one, h]
  simp [List.foldl_append]

theorem scores_Run (s : Int) (A : Option Addr) (n c : Nat) (l : List Bool) (w : World) (B : Nat) (h0 : 0 ≤ s) (h1 : s ≤ 65535) (hn : n ≤ maxLen) (hl : Sl w B 1 A n (bools l)) :
    Calls Try.prog 18 #[.int .u16 s, .slice A n c] w fun e w' => e = .returned (.int .u16 (runS s l)) ∧ w = w' := by
  unfold maxLen at hn
  have hlen : l.length = n := by have := hl.len; simpa [bools] using this
  have H0 := Lib.hid hlen
  clear hlen
  go_enter Try.func18, Try.ntmps18
  go_wp2
  all_goals
    go_loop [0, 11] (fun sc i => ∃ k : Nat, k ≤ n ∧ i = .int .i64 k ∧ sc = .int .u16 (runS s (l.take k))) (fun _ i => n - (intOf i).toNat)
    case atStart => exact ⟨0, Nat.zero_le _, rfl, by simp only [List.take_zero, runS, List.foldl_nil]; congr 1; omega⟩
    case round =>
      obtain ⟨k, hk, rfl, rfl⟩ := hrel
      by_cases hlt : k < n
      · obtain ⟨b, o, x, rfl, hb, hx, hc⟩ := hl.bool hlt
        have hs := Lib.hid (runS_snoc s l k x hx)
        have hbd := runS_bd (l.take k) h0
        cases x
        · go_wp2_with (go_at_call 10; refine (scores_Penalty _ _ (by omega) (by omega)).mono ?_; rintro e w' ⟨rfl, rfl⟩)
          go_round
          case rel => exact ⟨k + 1, by omega, by go_num, by rw [hs.out]; rfl⟩
          case measure => simp [intOf]; omega
        · go_wp2_with (go_at_call 12; refine (scores_Reward _ _ (by omega) (by omega)).mono ?_; rintro e w' ⟨rfl, rfl⟩)
          go_round
          case rel => exact ⟨k + 1, by omega, by go_num, by rw [hs.out]; rfl⟩
          case measure => simp [intOf]; omega
      · go_wp2
        go_ret
        exact ⟨ret_int (by rw [List.take_of_length_le (by rw [H0.out]; omega)]), rfl⟩

theorem ref_Run (s : Int) (A : Option Addr) (n c : Nat) (l : List Bool) (w : World) (B : Nat) (h0 : 0 ≤ s) (h1 : s ≤ 65535) (hn : n ≤ maxLen) (hl : Sl w B 1 A n (bools l)) :
    Calls Try.prog 19 #[.int .u16 s, .slice A n c] w fun e w' => e = .returned (.int .u16 (runS s l)) ∧ w = w' := by
  unfold maxLen at hn
  have hlen : l.length = n := by have := hl.len; simpa [bools] using this
  have H0 := Lib.hid hlen
  clear hlen
  go_enter Try.func19, Try.ntmps19
  go_wp2_with (go_at_call 25; refine (ref_within _ _ _ (by omega)).mono ?_; rintro e w' ⟨rfl, rfl⟩)
  go_loop [5, 6] (fun sc i => ∃ k : Nat, k ≤ n ∧ i = .int .i64 k ∧ sc = .int .i64 (runS s (l.take k))) (fun _ i => n - (intOf i).toNat)
  case atStart => exact ⟨0, Nat.zero_le _, rfl, by simp only [List.take_zero, runS, List.foldl_nil]; congr 1; omega⟩
  case round =>
    obtain ⟨k, hk, rfl, rfl⟩ := hrel
    by_cases hlt : k < n
    · obtain ⟨b, o, x, rfl, hb, hx, hc⟩ := hl.bool hlt
      have hs := Lib.hid (runS_snoc s l k x hx)
      have hbd := runS_bd (l.take k) h0
      cases x
      · go_wp2_with (go_at_call 25; refine (ref_within _ _ _ (by omega)).mono ?_; rintro e w' ⟨rfl, rfl⟩)
        go_round
        case rel => exact ⟨k + 1, by omega, by go_num, by rw [hs.out]; simp only [stepS, pen]; congr 1; simp; omega⟩
        case measure => simp [intOf]; omega
      · go_wp2_with (go_at_call 25; refine (ref_within _ _ _ (by omega)).mono ?_; rintro e w' ⟨rfl, rfl⟩)
        go_round
        case rel => exact ⟨k + 1, by omega, by go_num, by rw [hs.out]; simp only [stepS, rew]; congr 1; simp; omega⟩
        case measure => simp [intOf]; omega
    · have hbd := runS_bd (l.take k) h0
      go_wp2
      go_ret
      exact ⟨ret_int (by rw [List.take_of_length_le (by rw [H0.out]; omega)]), rfl⟩

theorem lives21 (w : World) : Calls Try.prog 9 #[] w fun e w' => e = .returned (.bool true) ∧ Below w.heap.size w w' := by
  have e1 : (pen 0 == 8) = true := by decide
  have e2 : (pen 995 == 1000) = true := by decide
  have e3 : (rew 0 == 0) = true := by decide
  have e4 : (lvl 16 == 1) = true := by decide
  have e5 : (lvl 15 == 0) = true := by decide
  have e6 : (lvl 64 == 2) = true := by decide
  have e7 : (upc 100 == 100) = true := by decide
  have e8 : (runS 0 [false, true, true] == 6) = true := by decide
  go_enter Try.func9, Try.ntmps9
  go_wp2_with (first
    | (go_at_call 10; refine (scores_Penalty _ _ (by omega) (by omega)).mono ?_; rintro e w' ⟨rfl, rfl⟩)
    | (go_at_call 12; refine (scores_Reward _ _ (by omega) (by omega)).mono ?_; rintro e w' ⟨rfl, rfl⟩)
    | (go_at_call 14; refine (scores_LevelOf _ _ (by omega) (by omega)).mono ?_; rintro e w' ⟨rfl, rfl⟩)
    | (go_at_call 16; refine (scores_Up _ _ (by omega) (by omega)).mono ?_; rintro e w' ⟨rfl, rfl⟩))
  refine (scores_Run 0 _ 3 3 [false, true, true] _ _ (by omega) (by omega) (by decide) (Sl.new (n := 3) (sz := 1) rfl)).mono ?_
  rintro e w' ⟨rfl, rfl⟩
  go_wp2
  go_ret
  exact ⟨rfl, below_new _⟩
end Go.Proofs.Ytjmiocacnilchaa
