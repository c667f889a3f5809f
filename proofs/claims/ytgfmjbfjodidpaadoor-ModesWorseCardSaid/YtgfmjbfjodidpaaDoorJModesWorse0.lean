/- Views as plain data with a number for each pair. No Go text is in sight. -/
import Derived.Test.YtgfmjbfjodidpaaDoorJB0x9
import Derived.Test.YtgfmjbfjodidpaaDoorJB0x2
set_option linter.unusedSimpArgs false
set_option linter.unusedVariables false
section
namespace Go.Proofs.YtgfmjbfjodidpaaDoor
open Go.RowKit

structure Vw where
  inn : Nat → Bool
  miss : Nat → Int
  good : Nat → Int
  score : Nat → Int
  got : Nat → Bool
  command : Int
  mode : Int
def Vw.cells (v : Vw) : List Value := [.bool (v.inn 0), .bool (v.inn 1), .bool (v.inn 2), .bool (v.inn 3), .bool (v.inn 4), .bool (v.inn 5), .bool (v.inn 6), .bool (v.inn 7), .int .u8 (v.miss 0), .int .u8 (v.miss 1), .int .u8 (v.miss 2), .int .u8 (v.miss 3), .int .u8 (v.miss 4), .int .u8 (v.miss 5), .int .u8 (v.miss 6), .int .u8 (v.miss 7), .int .u8 (v.good 0), .int .u8 (v.good 1), .int .u8 (v.good 2), .int .u8 (v.good 3), .int .u8 (v.good 4), .int .u8 (v.good 5), .int .u8 (v.good 6), .int .u8 (v.good 7), .int .u16 (v.score 0), .int .u16 (v.score 1), .int .u16 (v.score 2), .int .u16 (v.score 3), .int .u16 (v.score 4), .int .u16 (v.score 5), .int .u16 (v.score 6), .int .u16 (v.score 7), .bool (v.got 0), .bool (v.got 1), .bool (v.got 2), .bool (v.got 3), .bool (v.got 4), .bool (v.got 5), .bool (v.got 6), .bool (v.got 7), .int .i8 v.command, .int .u8 v.mode]
theorem Vw.len (v : Vw) : v.cells.length = 42 := rfl
def vwOf (l : List AC) : Vw := ⟨fun i => asB (l.getD i nov), fun i => asI (l.getD (8 + i) nov), fun i => asI (l.getD (16 + i) nov), fun i => asI (l.getD (24 + i) nov), fun i => asB (l.getD (32 + i) nov), asI (l.getD 40 nov), asI (l.getD 41 nov)⟩
/-- cells of these kinds -/
def kdB : List (Option IntKind) → List AC → Bool
  | [], [] => true
  | none :: ks, .v (.bool _) :: r => kdB ks r
  | some k :: ks, .v (.int q _) :: r => decide (q = k) && kdB ks r
  | _, _ => false
theorem kdB_b {ks : List (Option IntKind)} {l : List AC} (h : kdB (none :: ks) l = true) : ∃ b r, l = .v (.bool b) :: r ∧ kdB ks r = true := by
  unfold kdB at h
  split at h
  · rename_i e; cases e
  · rename_i e; cases e; exact ⟨_, _, rfl, h⟩
  · rename_i e; cases e
  · cases h
theorem kdB_i {k : IntKind} {ks : List (Option IntKind)} {l : List AC} (h : kdB (some k :: ks) l = true) : ∃ z r, l = .v (.int k z) :: r ∧ kdB ks r = true := by
  unfold kdB at h
  split at h
  · rename_i e; cases e
  · rename_i e; cases e
  · rename_i e; cases e; simp only [Bool.and_eq_true, decide_eq_true_eq] at h; obtain ⟨rfl, h⟩ := h; exact ⟨_, _, rfl, h⟩
  · cases h
theorem kdB_n {l : List AC} (h : kdB [] l = true) : l = [] := by
  cases l with
  | nil => rfl
  | cons a r => simp [kdB] at h
def vwKs : List (Option IntKind) := none :: none :: none :: none :: none :: none :: none :: none :: some .u8 :: some .u8 :: some .u8 :: some .u8 :: some .u8 :: some .u8 :: some .u8 :: some .u8 :: some .u8 :: some .u8 :: some .u8 :: some .u8 :: some .u8 :: some .u8 :: some .u8 :: some .u8 :: some .u16 :: some .u16 :: some .u16 :: some .u16 :: some .u16 :: some .u16 :: some .u16 :: some .u16 :: none :: none :: none :: none :: none :: none :: none :: none :: some .i8 :: some .u8 :: []
/-- the cells of a view, as the evaluator has them -/
abbrev vwL (v : Vw) : List AC := v.cells.map .v
def isVw (l : List AC) : Bool := kdB vwKs l
theorem vw_eq {l : List AC} (h : isVw l = true) : l = (vwOf l).cells.map .v := by
  unfold isVw vwKs at h
  obtain ⟨x0, l0, rfl, h_0⟩ := kdB_b h
  obtain ⟨x1, l1, rfl, h_1⟩ := kdB_b h_0
  obtain ⟨x2, l2, rfl, h_2⟩ := kdB_b h_1
  obtain ⟨x3, l3, rfl, h_3⟩ := kdB_b h_2
  obtain ⟨x4, l4, rfl, h_4⟩ := kdB_b h_3
  obtain ⟨x5, l5, rfl, h_5⟩ := kdB_b h_4
  obtain ⟨x6, l6, rfl, h_6⟩ := kdB_b h_5
  obtain ⟨x7, l7, rfl, h_7⟩ := kdB_b h_6
  obtain ⟨x8, l8, rfl, h_8⟩ := kdB_i h_7
  obtain ⟨x9, l9, rfl, h_9⟩ := kdB_i h_8
  obtain ⟨x10, l10, rfl, h_10⟩ := kdB_i h_9
  obtain ⟨x11, l11, rfl, h_11⟩ := kdB_i h_10
  obtain ⟨x12, l12, rfl, h_12⟩ := kdB_i h_11
  obtain ⟨x13, l13, rfl, h_13⟩ := kdB_i h_12
  obtain ⟨x14, l14, rfl, h_14⟩ := kdB_i h_13
  obtain ⟨x15, l15, rfl, h_15⟩ := kdB_i h_14
  obtain ⟨x16, l16, rfl, h_16⟩ := kdB_i h_15
  obtain ⟨x17, l17, rfl, h_17⟩ := kdB_i h_16
  obtain ⟨x18, l18, rfl, h_18⟩ := kdB_i h_17
  obtain ⟨x19, l19, rfl, h_19⟩ := kdB_i h_18
  obtain ⟨x20, l20, rfl, h_20⟩ := kdB_i h_19
  obtain ⟨x21, l21, rfl, h_21⟩ := kdB_i h_20
  obtain ⟨x22, l22, rfl, h_22⟩ := kdB_i h_21
  obtain ⟨x23, l23, rfl, h_23⟩ := kdB_i h_22
  obtain ⟨x24, l24, rfl, h_24⟩ := kdB_i h_23
  obtain ⟨x25, l25, rfl, h_25⟩ := kdB_i h_24
  obtain ⟨x26, l26, rfl, h_26⟩ := kdB_i h_25
  obtain ⟨x27, l27, rfl, h_27⟩ := kdB_i h_26
  obtain ⟨x28, l28, rfl, h_28⟩ := kdB_i h_27
  obtain ⟨x29, l29, rfl, h_29⟩ := kdB_i h_28
  obtain ⟨x30, l30, rfl, h_30⟩ := kdB_i h_29
  obtain ⟨x31, l31, rfl, h_31⟩ := kdB_i h_30
  obtain ⟨x32, l32, rfl, h_32⟩ := kdB_b h_31
  obtain ⟨x33, l33, rfl, h_33⟩ := kdB_b h_32
  obtain ⟨x34, l34, rfl, h_34⟩ := kdB_b h_33
  obtain ⟨x35, l35, rfl, h_35⟩ := kdB_b h_34
  obtain ⟨x36, l36, rfl, h_36⟩ := kdB_b h_35
  obtain ⟨x37, l37, rfl, h_37⟩ := kdB_b h_36
  obtain ⟨x38, l38, rfl, h_38⟩ := kdB_b h_37
  obtain ⟨x39, l39, rfl, h_39⟩ := kdB_b h_38
  obtain ⟨x40, l40, rfl, h_40⟩ := kdB_i h_39
  obtain ⟨x41, l41, rfl, h_41⟩ := kdB_i h_40
  obtain rfl := kdB_n h_41
  rfl
theorem isVw_cells (v : Vw) : isVw (v.cells.map .v) = true := rfl
/-- a view that came in -/
def vwI (x : View) : Vw := ⟨fun i => vat false x.inn i, fun i => vat 0 x.miss i, fun i => vat 0 x.good i, fun i => vat 0 x.score i, fun i => vat false x.got i, x.command, x.mode⟩
theorem vwI_cells (x : View) : (vwI x).cells = x.cells := by rw [← View.cellsE_eq]; rfl
structure Vw.Ok (v : Vw) : Prop where
  miss : ∀ i, i < 8 → 0 ≤ v.miss i ∧ v.miss i ≤ 255
  good : ∀ i, i < 8 → 0 ≤ v.good i ∧ v.good i ≤ 255
  score : ∀ i, i < 8 → 0 ≤ v.score i ∧ v.score i ≤ 65535
  command : -128 ≤ v.command ∧ v.command ≤ 127
  mode : 0 ≤ v.mode ∧ v.mode ≤ 255
/-- the numbers below 'n' of which it is true -/
def cntF (f : Nat → Bool) : Nat → Nat
  | 0 => 0
  | k + 1 => cntF f k + (if f k then 1 else 0)
theorem cntF_le (f : Nat → Bool) : ∀ n, cntF f n ≤ n
  | 0 => Nat.le_refl _
  | n + 1 => by have := cntF_le f n; unfold cntF; split <;> omega
theorem cntF_congr {f g : Nat → Bool} : ∀ {n : Nat}, (∀ i, i < n → f i = g i) → cntF f n = cntF g n
  | 0, _ => rfl
  | n + 1, h => by unfold cntF; rw [h n (by omega), cntF_congr fun i hi => h i (by omega)]
theorem cntF_mono {f g : Nat → Bool} : ∀ {n : Nat}, (∀ i, i < n → f i = true → g i = true) → cntF f n ≤ cntF g n
  | 0, _ => Nat.le_refl _
  | n + 1, h => by
    have h1 := cntF_mono (f := f) (g := g) (n := n) fun i hi => h i (by omega)
    have h2 := h n (by omega)
    unfold cntF
    cases hf : f n <;> cases hg : g n <;> simp_all <;> omega
end Go.Proofs.YtgfmjbfjodidpaaDoor
end
