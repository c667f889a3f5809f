/- Parts, one behind the other. Views as plain data with a number for each pair. No Go text is in sight. -/
import Derived.Test.YthekiiagacnhkaaDoorJB0x9
import Derived.Test.YthekiiagacnhkaaDoorJMembersOrder0
import Derived.IntWalk
set_option linter.unusedSimpArgs false
set_option linter.unusedVariables false
/- Views as plain data with a number for each pair. No Go text is in sight. -/
section
namespace Go.Proofs.YthekiiagacnhkaaDoor
open Go.RowKit

structure Vw where
  inn : Nat → Bool
  miss : Nat → Int
  good : Nat → Int
  score : Nat → Int
  got : Nat → Bool
  command : Int
  mode : Int
def Vw.cells (v : Vw) : List Value := [.bool (v.inn 0), .bool (v.inn 1), .bool (v.inn 2), .bool (v.inn 3), .bool (v.inn 4), .bool (v.inn 5), .bool (v.inn 6), .bool (v.inn 7), .int .u8 (v.miss 0), .int .u8 (v.miss 1), .int .u8 (v.miss 2), .int .u8 (v.miss 3), .int .u8 (v.miss 4), .int .u8 (v.miss 5), .int .u8 (v.miss 6), .int .u8 (v.miss 7), .int .u8 (v.good 0), .int .u8 (v.good 1), .int .u8 (v.good 2), .int .u8 (v.good 3), .int .u8 (v.good 4), .int .u8 (v.good 5), .int .u8 (v.good 6), .int .u8 (v.good 7), .int .u16 (v.score 0), .int .u16 (v.score 1), .int .u16 (v.score 2), .int .u16 (v.score 3), .int .u16 (v.score 4), .int .u16 (v.score 5), .int .u16 (v.score 6), .int .u16 (v.score 7), .bool (v.got 0), .bool (v.got 1), .bool (v.got 2), .bool (v.got 3), .bool (v.got 4), .bool (v.got 5), .bool (v.got 6), .bool (v.got 7), .int .i8 v.command, .int .u8 v.mode]
theorem Vw.len (v : Vw) : v.cells.length = 42 := rfl
def vwOf (l : List AC) : Vw := ⟨fun i => asB (l.getD i nov), fun i => asI (l.getD (8 + i) nov), fun i => asI (l.getD (16 + i) nov), fun i => asI (l.getD (24 + i) nov), fun i => asB (l.getD (32 + i) nov), asI (l.getD 40 nov), asI (l.getD 41 nov)⟩
/-- cells of these kinds -/
def kdB : List (Option IntKind) → List AC → Bool
  | [], [] => true
  | none :: ks, .v (.bool _) :: r => kdB ks r
  | some k :: ks, .v (.int q _) :: r => decide (q = k) && kdB ks r
  | _, _ => false
theorem kdB_b {ks : List (Option IntKind)} {l : List AC} (h : kdB (none :: ks) l = true) : ∃ b r, l = .v (.bool b) :: r ∧ kdB ks r = true := by
  unfold kdB at h
  split at h
  · rename_i e; cases e
  · rename_i e; cases e; exact ⟨_, _, rfl, h⟩
  · rename_i e; cases e
  · cases h
theorem kdB_i {k : IntKind} {ks : List (Option IntKind)} {l : List AC} (h : kdB (some k :: ks) l = true) : ∃ z r, l = .v (.int k z) :: r ∧ kdB ks r = true := by
  unfold kdB at h
  split at h
  · rename_i e; cases e
  · rename_i e; cases e
  · rename_i e; cases e; simp only [Bool.and_eq_true, decide_eq_true_eq] at h; obtain ⟨rfl, h⟩ := h; exact ⟨_, _, rfl, h⟩
  · cases h
theorem kdB_n {l : List AC} (h : kdB [] l = true) : l = [] := by
  cases l with
  | nil => rfl
  | cons a r => simp [kdB] at h
def vwKs : List (Option IntKind) := none :: none :: none :: none :: none :: none :: none :: none :: some .u8 :: some .u8 :: some .u8 :: some .u8 :: some .u8 :: some .u8 :: some .u8 :: some .u8 :: some .u8 :: some .u8 :: some .u8 :: some .u8 :: some .u8 :: some .u8 :: some .u8 :: some .u8 :: some .u16 :: some .u16 :: some .u16 :: some .u16 :: some .u16 :: some .u16 :: some .u16 :: some .u16 :: none :: none :: none :: none :: none :: none :: none :: none :: some .i8 :: some .u8 :: []
/-- the cells of a view, as the evaluator has them -/
abbrev vwL (v : Vw) : List AC := v.cells.map .v
def isVw (l : List AC) : Bool := kdB vwKs l
theorem vw_eq {l : List AC} (h : isVw l = true) : l = (vwOf l).cells.map .v := by
  unfold isVw vwKs at h
  obtain ⟨x0, l0, rfl, h_0⟩ := kdB_b h
  obtain ⟨x1, l1, rfl, h_1⟩ := kdB_b h_0
  obtain ⟨x2, l2, rfl, h_2⟩ := kdB_b h_1
  obtain ⟨x3, l3, rfl, h_3⟩ := kdB_b h_2
  obtain ⟨x4, l4, rfl, h_4⟩ := kdB_b h_3
  obtain ⟨x5, l5, rfl, h_5⟩ := kdB_b h_4
  obtain ⟨x6, l6, rfl, h_6⟩ := kdB_b h_5
  obtain ⟨x7, l7, rfl, h_7⟩ := kdB_b h_6
  obtain ⟨x8, l8, rfl, h_8⟩ := kdB_i h_7
  obtain ⟨x9, l9, rfl, h_9⟩ := kdB_i h_8
  obtain ⟨x10, l10, rfl, h_10⟩ := kdB_i h_9
  obtain ⟨x11, l11, rfl, h_11⟩ := kdB_i h_10
  obtain ⟨x12, l12, rfl, h_12⟩ := kdB_i h_11
  obtain ⟨x13, l13, rfl, h_13⟩ := kdB_i h_12
  obtain ⟨x14, l14, rfl, h_14⟩ := kdB_i h_13
  obtain ⟨x15, l15, rfl, h_15⟩ := kdB_i h_14
  obtain ⟨x16, l16, rfl, h_16⟩ := kdB_i h_15
  obtain ⟨x17, l17, rfl, h_17⟩ := kdB_i h_16
  obtain ⟨x18, l18, rfl, h_18⟩ := kdB_i h_17
  obtain ⟨x19, l19, rfl, h_19⟩ := kdB_i h_18
  obtain ⟨x20, l20, rfl, h_20⟩ := kdB_i h_19
  obtain ⟨x21, l21, rfl, h_21⟩ := kdB_i h_20
  obtain ⟨x22, l22, rfl, h_22⟩ := kdB_i h_21
  obtain ⟨x23, l23, rfl, h_23⟩ := kdB_i h_22
  obtain ⟨x24, l24, rfl, h_24⟩ := kdB_i h_23
  obtain ⟨x25, l25, rfl, h_25⟩ := kdB_i h_24
  obtain ⟨x26, l26, rfl, h_26⟩ := kdB_i h_25
  obtain ⟨x27, l27, rfl, h_27⟩ := kdB_i h_26
  obtain ⟨x28, l28, rfl, h_28⟩ := kdB_i h_27
  obtain ⟨x29, l29, rfl, h_29⟩ := kdB_i h_28
  obtain ⟨x30, l30, rfl, h_30⟩ := kdB_i h_29
  obtain ⟨x31, l31, rfl, h_31⟩ := kdB_i h_30
  obtain ⟨x32, l32, rfl, h_32⟩ := kdB_b h_31
  obtain ⟨x33, l33, rfl, h_33⟩ := kdB_b h_32
  obtain ⟨x34, l34, rfl, h_34⟩ := kdB_b h_33
  obtain ⟨x35, l35, rfl, h_35⟩ := kdB_b h_34
  obtain ⟨x36, l36, rfl, h_36⟩ := kdB_b h_35
  obtain ⟨x37, l37, rfl, h_37⟩ := kdB_b h_36
  obtain ⟨x38, l38, rfl, h_38⟩ := kdB_b h_37
  obtain ⟨x39, l39, rfl, h_39⟩ := kdB_b h_38
  obtain ⟨x40, l40, rfl, h_40⟩ := kdB_i h_39
  obtain ⟨x41, l41, rfl, h_41⟩ := kdB_i h_40
  obtain rfl := kdB_n h_41
  rfl
/-- a view that came in -/
def vwI (x : View) : Vw := ⟨fun i => vat false x.inn i, fun i => vat 0 x.miss i, fun i => vat 0 x.good i, fun i => vat 0 x.score i, fun i => vat false x.got i, x.command, x.mode⟩
theorem vwI_cells (x : View) : (vwI x).cells = x.cells := by rw [← View.cellsE_eq]; rfl
structure Vw.Ok (v : Vw) : Prop where
  miss : ∀ i, i < 8 → 0 ≤ v.miss i ∧ v.miss i ≤ 255
  good : ∀ i, i < 8 → 0 ≤ v.good i ∧ v.good i ≤ 255
  score : ∀ i, i < 8 → 0 ≤ v.score i ∧ v.score i ≤ 65535
  command : -128 ≤ v.command ∧ v.command ≤ 127
  mode : 0 ≤ v.mode ∧ v.mode ≤ 255
/-- what is read of views: only what stands there for the eight pairs -/
structure Vw.Same (v u : Vw) : Prop where
  inn : ∀ i, i < 8 → v.inn i = u.inn i
  miss : ∀ i, i < 8 → v.miss i = u.miss i
  good : ∀ i, i < 8 → v.good i = u.good i
  score : ∀ i, i < 8 → v.score i = u.score i
  got : ∀ i, i < 8 → v.got i = u.got i
  command : v.command = u.command
  mode : v.mode = u.mode
end Go.Proofs.YthekiiagacnhkaaDoor
end
/- Views in one order: their numbers, the first one that is unlike. No Go text is in sight. -/
section
namespace Go.Proofs.YthekiiagacnhkaaDoor
open Go.RowKit

def oneI (b : Bool) : Int := match b with | true => 1 | false => 0
/-- the numbers of a view's cells, in order -/
def keyF (l : List AC) (j : Nat) : Int :=
  if j < 40 then
    (match j % 5 with
     | 0 => oneI (asB (l.getD (j / 5) nov))
     | 1 => oneI (asB (l.getD (32 + j / 5) nov))
     | 2 => IntKind.wrap .i64 (asI (l.getD (8 + j / 5) nov))
     | 3 => IntKind.wrap .i64 (asI (l.getD (16 + j / 5) nov))
     | _ => IntKind.wrap .i64 (asI (l.getD (24 + j / 5) nov)))
  else if j = 40 then IntKind.wrap .i64 (asI (l.getD 40 nov)) else IntKind.wrap .i64 (asI (l.getD 41 nov))
/-- does the first one of 'n' numbers, from 'i' on, that is unlike, stand ahead? -/
def lexF (f g : Nat → Int) : Nat → Nat → Bool
  | 0, _ => false
  | n + 1, i => match decide (f i = g i) with | true => lexF f g n (i + 1) | false => decide (f i < g i)
def lessL (x y : List AC) : Bool := lexF (keyF x) (keyF y) 42 0
theorem lex_eq {f g : Nat → Int} {n i : Nat} (h : f i = g i) : lexF f g (n + 1) i = lexF f g n (i + 1) := by
  show (match decide (f i = g i) with | true => lexF f g n (i + 1) | false => decide (f i < g i)) = _
  rw [decide_eq_true h]
theorem lex_ne {f g : Nat → Int} {n i : Nat} (h : f i ≠ g i) : lexF f g (n + 1) i = decide (f i < g i) := by
  show (match decide (f i = g i) with | true => lexF f g n (i + 1) | false => decide (f i < g i)) = _
  rw [decide_eq_false h]
theorem lex_skip {f g : Nat → Int} : ∀ (k : Nat) {n i : Nat}, (∀ j, i ≤ j → j < i + k → f j = g j) → lexF f g (n + k) i = lexF f g n (i + k)
  | 0, n, i, _ => rfl
  | k + 1, n, i, h => by
    rw [show n + (k + 1) = (n + k) + 1 by omega, lex_eq (h i (Nat.le_refl _) (by omega)), lex_skip k fun j h1 h2 => h j (by omega) (by omega), show i + 1 + k = i + (k + 1) by omega]
theorem lex_first {f g : Nat → Int} {n j : Nat} (hj : j < n) (h : ∀ i, i < j → f i = g i) (hne : f j ≠ g j) : lexF f g n 0 = decide (f j < g j) := by
  have e := lex_skip (f := f) (g := g) j (n := n - j - 1 + 1) (i := 0) fun i _ hi => h i (by omega)
  rw [show n - j - 1 + 1 + j = n by omega, Nat.zero_add] at e
  rw [e, lex_ne hne]
theorem lex_all {f g : Nat → Int} {n : Nat} (h : ∀ i, i < n → f i = g i) : lexF f g n 0 = false := by
  have e := lex_skip (f := f) (g := g) n (n := 0) (i := 0) fun i _ hi => h i (by omega)
  rw [Nat.zero_add] at e
  rw [e]; rfl
theorem lex_trans {f g h : Nat → Int} : ∀ {n i : Nat}, lexF f g n i = true → lexF g h n i = true → lexF f h n i = true
  | 0, _, h1, _ => by cases h1
  | n + 1, i, h1, h2 => by
    by_cases a : f i = g i
    · rw [lex_eq a] at h1
      by_cases b : g i = h i
      · rw [lex_eq b] at h2
        rw [lex_eq (a.trans b)]
        exact lex_trans h1 h2
      · rw [lex_ne b] at h2
        rw [lex_ne (by rw [a]; exact b), a]
        exact h2
    · rw [lex_ne a] at h1
      have h1 := of_decide_eq_true h1
      by_cases b : g i = h i
      · rw [lex_ne (by rw [← b]; exact a), ← b]
        exact decide_eq_true h1
      · rw [lex_ne b] at h2
        have h2 := of_decide_eq_true h2
        rw [lex_ne (by omega)]
        exact decide_eq_true (by omega)
theorem lex_irrefl (f : Nat → Int) (n : Nat) : lexF f f n 0 = false := lex_all fun _ _ => rfl
theorem lex_cases (f g : Nat → Int) (n : Nat) : (∀ i, i < n → f i = g i) ∨ ∃ j, j < n ∧ (∀ i, i < j → f i = g i) ∧ f j ≠ g j := by
  induction n with
  | zero => exact .inl fun i h => by omega
  | succ n ih =>
    rcases ih with h | ⟨j, h1, h2, h3⟩
    · by_cases e : f n = g n
      · exact .inl fun i hi => by
          by_cases e2 : i = n
          · rw [e2]; exact e
          · exact h i (by omega)
      · exact .inr ⟨n, by omega, h, e⟩
    · exact .inr ⟨j, by omega, h2, h3⟩
theorem lex_total (f g : Nat → Int) (n : Nat) : (lexF f g n 0 || lexF g f n 0) = true ↔ ¬ ∀ i, i < n → f i = g i := by
  rcases lex_cases f g n with h | ⟨j, h1, h2, h3⟩
  · rw [lex_all h, lex_all fun i hi => (h i hi).symm]
    simp only [Bool.or_false, Bool.false_eq_true, false_iff, Classical.not_not]
    exact h
  · rw [lex_first h1 h2 h3, lex_first h1 (fun i hi => (h2 i hi).symm) (Ne.symm h3)]
    simp only [Bool.or_eq_true, decide_eq_true_eq]
    constructor
    · intro _ h; exact h3 (h j h1)
    · intro _; omega
theorem lex_asymm (f g : Nat → Int) (n : Nat) (h : lexF f g n 0 = true) : lexF g f n 0 = false := by
  rcases lex_cases f g n with h' | ⟨j, h1, h2, h3⟩
  · rw [lex_all h'] at h; cases h
  · rw [lex_first h1 h2 h3] at h
    have h := of_decide_eq_true h
    rw [lex_first h1 (fun i hi => (h2 i hi).symm) (Ne.symm h3)]
    exact decide_eq_false (by omega)
theorem oneI_inj {a b : Bool} (h : oneI a = oneI b) : a = b := by
  cases a <;> cases b <;> first | rfl | (exfalso; revert h; decide)
theorem key_in (v : Vw) (i : Nat) (h : i < 8) : keyF (vwL v) (5 * i) = oneI (v.inn i) ∧ keyF (vwL v) (5 * i + 1) = oneI (v.got i) ∧ keyF (vwL v) (5 * i + 2) = IntKind.wrap .i64 (v.miss i) ∧ keyF (vwL v) (5 * i + 3) = IntKind.wrap .i64 (v.good i) ∧ keyF (vwL v) (5 * i + 4) = IntKind.wrap .i64 (v.score i) := by
  match i, h with
  | 0, _ => exact ⟨rfl, rfl, rfl, rfl, rfl⟩
  | 1, _ => exact ⟨rfl, rfl, rfl, rfl, rfl⟩
  | 2, _ => exact ⟨rfl, rfl, rfl, rfl, rfl⟩
  | 3, _ => exact ⟨rfl, rfl, rfl, rfl, rfl⟩
  | 4, _ => exact ⟨rfl, rfl, rfl, rfl, rfl⟩
  | 5, _ => exact ⟨rfl, rfl, rfl, rfl, rfl⟩
  | 6, _ => exact ⟨rfl, rfl, rfl, rfl, rfl⟩
  | 7, _ => exact ⟨rfl, rfl, rfl, rfl, rfl⟩
theorem key_end (v : Vw) : keyF (vwL v) 40 = IntKind.wrap .i64 v.command ∧ keyF (vwL v) 41 = IntKind.wrap .i64 v.mode := ⟨rfl, rfl⟩
end Go.Proofs.YthekiiagacnhkaaDoor
end
/- A call that reads what an 'Rd' says and hands out one new list of plain cells: its contract. No Go text is in sight. -/
section
namespace Go.Proofs.YthekiiagacnhkaaDoor
open Go.RowKit

theorem low_plain {n : Nat} {y : ABlk} {q : Nat} {F : Nat → List AC} (hcs : y.cs = .arr q F) (hpl : ∀ k j, y.inb k (j + 1) = true → ∃ v, y.cs.get k j = .v v) : lowB n y := by
  refine ⟨fun k j hi => ?_, fun o e => by rw [hcs] at e; cases e⟩
  obtain ⟨v, hv⟩ := hpl k j hi
  rw [hv]
  rfl
theorem rel_sub1 {C : Ctx} {β : Nm} {m : AMem} {w : World} (hr : Rel C β m w) {g : Nat} {x y : ABlk} (hx : look m g = some x) (hb : BEq x y) {q : Nat} {F : Nat → List AC} (hcs : y.cs = .arr q F) (hpl : ∀ k j, y.inb k (j + 1) = true → ∃ v, y.cs.get k j = .v v) :
    ∃ β2 : Nm, (∀ id, β2 id = β id) ∧ Rel C β2 [(g, y)] w := by
  obtain ⟨β2, h1, _, _, h4⟩ := wk_mk (n := 0) (nh := 0) (n' := 0) (ρ := fun _ => .inr 1) (tm1 := []) (m1 := m) (Nat.le_refl _) (Nat.le_refl _) (Nat.zero_le _) (N := 0) (lv := []) (m2 := [(g, y)]) rfl (by simp [rnOk]) ⟨.inr (.inr (.inr ⟨.inr (Nat.zero_le _), x, hx, hb, low_plain hcs hpl⟩)), trivial⟩ trivial C β w #[] ⟨rfl, fun t av h => by simp at h⟩ hr
  exact ⟨β2, fun id => h1 id (.inr (Nat.zero_le _)), h4⟩
def ctRdL {S : Type} (rd : Rd S) (len : S → Nat) (blk : S → ABlk) (pre : S → Bool) : CtF := fun xs m ib =>
  match rd.dec xs m with
  | some (s, b) => some (.c (.sl ib 0 0 (len s) none), [(ib, blk s)], 1, [b, pre s])
  | none => none
def GoodL (g n : Nat) (b : ABlk) (r : VF) : Prop := r.1 = .c (.sl g 0 0 n none) ∧ (∃ y, r.2.1 = [some y] ∧ BEq y b) ∧ r.2.2.1 ≤ lim ∧ allT r.2.2.2.1 ∧ ∀ q ∈ r.2.2.2.2, q
theorem ctRdL_of {S : Type} {E : Env} (hE : EnvOk E) {f : FuncId} (rd : Rd S) {len : S → Nat} {blk : S → ABlk} {pre : S → Bool} (g : Nat) (hf : ∃ (fn : Func) (c : Code), E.P.funcs[f]? = some fn ∧ fn.body = some c)
    (hown : ∀ s, (blk s).own = true) (hcs : ∀ s, ∃ q F, (blk s).cs = .arr q F) (hpl : ∀ s k j, (blk s).inb k (j + 1) = true → ∃ v, (blk s).cs.get k j = .v v) {fuel str : Nat}
    (run : ∀ s, pre s = true → ∃ p lp r, viewF [g] (fCallF E (fC E fuel) f (rd.args s) 1000 str (stA (rd.mem s) p lp)) = some r ∧ GoodL g (len s) (blk s) r) : CtOk E.P f (ctRdL rd len blk pre) := by
  refine ⟨hf, fun C β m m2 w args ib r news k' ob vs hct ho hs hr hfree hlim hv => ?_⟩
  unfold ctRdL at hct
  split at hct
  · rename_i s b hd
    simp only [Option.some.injEq, Prod.mk.injEq] at hct
    obtain ⟨rfl, rfl, rfl, rfl⟩ := hct
    simp only [allT, List.forall_mem_cons] at ho
    obtain ⟨rfl, o2, _⟩ := ho
    obtain ⟨p, lp, ⟨v, b', n', ob, po⟩, hrun, hvr, ⟨y, hy, hb⟩, hn, hob, hpo⟩ := run s o2
    obtain ⟨s', r1, r2, r3, r4⟩ := viewF_out hrun
    simp only at hvr hy hn hob hpo
    subst hvr
    obtain ⟨β1, q1, q2, q3⟩ := rd.ok hs hr hd hv
    refine (calls_f hE r1 ⟨by rw [r3]; exact hob, by rw [r4]; exact hpo⟩ (C := loneC w) (β := β1) (w := w) (vs := vs) q2 q1 (fun id h1 h2 => q3 id h1 (by omega))).mono ?_
    rintro e w' ⟨β', u, rfl, _, _, hu, hr'⟩
    rw [hy] at r2
    simp only [List.map_cons, List.map_nil, List.cons.injEq, and_true] at r2
    obtain ⟨q, F, hq⟩ := hcs s
    obtain ⟨β2, e2, hr2⟩ := rel_sub1 hr' r2 hb hq (hpl s)
    obtain ⟨L, hL, _⟩ := hr2.blk g (blk s) (by simp [look_cons])
    have hid : β ib = none := hfree ib (Nat.le_refl _) (by omega)
    refine ⟨ext1 β ib L, u, rfl, ext1_ext hid, fun id h => ?_, ?_, ?_⟩
    · unfold ext1
      rw [if_neg (by omega)]
    · have hL' : β' g = some L := by rw [← e2]; exact hL
      simp only [γ, γ1, γc, hL'] at hu
      simp only [γ, γ1, γc, ext1_same]
      exact hu
    · exact rel_fresh hr (below_lone hr') hid (not_gid (by omega)) hr2 (i1 := g) (by simp [look_cons]) (hown s) hq (hpl s) hL
  · cases hct
theorem wBlk_pl {ty sz n : Nat} {f : Nat → List Value} (hf : ∀ k, (f k).length = sz) (k j : Nat) (h : (wBlk ty sz n f).inb k (j + 1) = true) : ∃ v, (wBlk ty sz n f).cs.get k j = .v v := by
  simp only [ABlk.inb, wBlk, Bool.and_eq_true, decide_eq_true_eq] at h
  have h2 : j + 1 ≤ sz := of_decide_eq_true h.2
  have hj : j < (f k).length := by rw [hf]; omega
  exact ⟨(f k)[j], by simp [Cs.get, wBlk, List.getD, List.getElem?_map, List.getElem?_eq_getElem hj]⟩
/-! the same, where the list is handed out to be read alone -/
def roB (x : ABlk) : ABlk := { x with own := false }
theorem rel_ro {C : Ctx} {β : Nm} {m : AMem} {w : World} {id : Nat} {x : ABlk} {q : Nat} {F : Nat → List AC} (h : Rel C β (m ++ [(id, x)]) w) (hcs : x.cs = .arr q F) : Rel C β (m ++ [(id, roB x)]) w := by
  have hlk : ∀ i z, look (m ++ [(id, roB x)]) i = some z → look (m ++ [(id, x)]) i = some z ∨ (z = roB x ∧ look (m ++ [(id, x)]) i = some x) := by
    intro i z e
    rw [look_append] at e ⊢
    cases e' : look m i with
    | some z' => rw [e'] at e; exact .inl e
    | none =>
      rw [e'] at e
      simp only [look_cons] at e ⊢
      cases hb : Nat.beq id i with
      | true => rw [hb] at e; cases e; exact .inr ⟨rfl, rfl⟩
      | false => rw [hb] at e; cases e
  have hob : ∀ i z, look (m ++ [(id, roB x)]) i = some z → ∃ y, look (m ++ [(id, x)]) i = some y ∧ (z.own = true → y.own = true) ∧ z.cs = y.cs := by
    intro i z e
    rcases hlk i z e with e1 | ⟨rfl, e1⟩
    · exact ⟨z, e1, fun h => h, rfl⟩
    · exact ⟨x, e1, fun h => (by cases h), rfl⟩
  refine ⟨h.os, h.tape, h.output, h.size, h.base, h.out, fun i z e => ?_, fun i i' z z' M M' e e' hne ho hM hM' hn hn' => ?_, h.glob, fun i z o e ho => ?_⟩
  · rcases hlk i z e with e1 | ⟨rfl, e1⟩
    · exact h.blk i z e1
    · obtain ⟨L, hL, hk⟩ := h.blk i x e1
      exact ⟨L, hL, hk.sz, hk.lit, fun k j hi => hk.cells k j hi, hk.lt, fun ho => (by cases ho), hk.arrl, hk.rowc⟩
  · obtain ⟨y, g1, g2, _⟩ := hob i z e
    obtain ⟨y', g1', _, _⟩ := hob i' z' e'
    exact h.sep i i' y y' M M' g1 g1' hne (g2 ho) hM hM' hn hn'
  · obtain ⟨y, g1, _, g3⟩ := hob i z e
    obtain ⟨L, p1, p2, p3, p4, p5⟩ := h.objs i y o g1 (by rw [← g3]; exact ho)
    refine ⟨L, p1, p2, p3, p4, fun i' y' K q1 q2 q3 q4 => ?_⟩
    obtain ⟨u, u1, _, _⟩ := hob i' y' q2
    exact p5 i' u K q1 u1 q3 q4
def ctRdR {S : Type} (rd : Rd S) (len : S → Nat) (blk : S → ABlk) (pre : S → Bool) : CtF := fun xs m ib =>
  match rd.dec xs m with
  | some (s, b) => some (.c (.sl ib 0 0 (len s) none), [(ib, roB (blk s))], 1, [b, pre s])
  | none => none
theorem ctRdR_of {S : Type} {P : Program} {f : FuncId} {rd : Rd S} {len : S → Nat} {blk : S → ABlk} {pre : S → Bool} (hcs : ∀ s, ∃ q F, (blk s).cs = .arr q F) (h : CtOk P f (ctRdL rd len blk pre)) : CtOk P f (ctRdR rd len blk pre) := by
  refine ⟨h.1, fun C β m m2 w args ib r news k ob vs hct ho hs hr hfree hlim hv => ?_⟩
  unfold ctRdR at hct
  split at hct
  · rename_i s b hd
    simp only [Option.some.injEq, Prod.mk.injEq] at hct
    obtain ⟨rfl, rfl, rfl, rfl⟩ := hct
    refine (h.2 C β m m2 w args ib _ [(ib, blk s)] 1 _ vs (by unfold ctRdL; rw [hd]) ho hs hr hfree hlim hv).mono ?_
    rintro e w' ⟨β', v, e1, e2, e3, e4, e5⟩
    obtain ⟨q, F, hq⟩ := hcs s
    exact ⟨β', v, e1, e2, e3, e4, rel_ro e5 hq⟩
  · cases hct
end Go.Proofs.YthekiiagacnhkaaDoor
end
/- Views in one order: of two that are unlike just one stands ahead. No Go text is in sight. -/
section
namespace Go.Proofs.YthekiiagacnhkaaDoor
open Go.RowKit

theorem i64_nat {x : Int} (h0 : -9223372036854775808 ≤ x) (h1 : x ≤ 9223372036854775807) : IntKind.wrap .i64 x = x := IntWalk.i64_in _ (by first | exact ⟨h0, h1⟩ | omega)
theorem key_same {a b : Vw} (ha : a.Ok) (hb : b.Ok) : (∀ i, i < 42 → keyF (vwL a) i = keyF (vwL b) i) ↔ a.Same b := by
  constructor
  · intro h
    have h8 : ∀ i, i < 8 → a.inn i = b.inn i ∧ a.got i = b.got i ∧ a.miss i = b.miss i ∧ a.good i = b.good i ∧ a.score i = b.score i := by
      intro i hi
      obtain ⟨a0, a1, a2, a3, a4⟩ := key_in a i hi
      obtain ⟨b0, b1, b2, b3, b4⟩ := key_in b i hi
      have m1 := ha.miss i hi
      have m2 := hb.miss i hi
      have g1 := ha.good i hi
      have g2 := hb.good i hi
      have s1 := ha.score i hi
      have s2 := hb.score i hi
      have e0 := h (5 * i) (by omega)
      have e1 := h (5 * i + 1) (by omega)
      have e2 := h (5 * i + 2) (by omega)
      have e3 := h (5 * i + 3) (by omega)
      have e4 := h (5 * i + 4) (by omega)
      rw [a0, b0] at e0
      rw [a1, b1] at e1
      rw [a2, b2, i64_nat (by omega) (by omega), i64_nat (by omega) (by omega)] at e2
      rw [a3, b3, i64_nat (by omega) (by omega), i64_nat (by omega) (by omega)] at e3
      rw [a4, b4, i64_nat (by omega) (by omega), i64_nat (by omega) (by omega)] at e4
      exact ⟨oneI_inj e0, oneI_inj e1, e2, e3, e4⟩
    have e40 := h 40 (by omega)
    have e41 := h 41 (by omega)
    rw [(key_end a).1, (key_end b).1] at e40
    rw [(key_end a).2, (key_end b).2] at e41
    have c1 := ha.command
    have c2 := hb.command
    have d1 := ha.mode
    have d2 := hb.mode
    rw [i64_nat (by omega) (by omega), i64_nat (by omega) (by omega)] at e40
    rw [i64_nat (by omega) (by omega), i64_nat (by omega) (by omega)] at e41
    exact ⟨fun i hi => (h8 i hi).1, fun i hi => (h8 i hi).2.2.1, fun i hi => (h8 i hi).2.2.2.1, fun i hi => (h8 i hi).2.2.2.2, fun i hi => (h8 i hi).2.1, e40, e41⟩
  · intro h j hj
    rcases Nat.lt_or_ge j 40 with hlt | hge
    · have hi : j / 5 < 8 := by omega
      obtain ⟨a0, a1, a2, a3, a4⟩ := key_in a (j / 5) hi
      obtain ⟨b0, b1, b2, b3, b4⟩ := key_in b (j / 5) hi
      have hr : j % 5 < 5 := Nat.mod_lt _ (by omega)
      have e := Nat.div_add_mod j 5
      rcases (by omega : j = 5 * (j / 5) ∨ j = 5 * (j / 5) + 1 ∨ j = 5 * (j / 5) + 2 ∨ j = 5 * (j / 5) + 3 ∨ j = 5 * (j / 5) + 4) with q | q | q | q | q
      · rw [q, a0, b0, h.inn _ hi]
      · rw [q, a1, b1, h.got _ hi]
      · rw [q, a2, b2, h.miss _ hi]
      · rw [q, a3, b3, h.good _ hi]
      · rw [q, a4, b4, h.score _ hi]
    · rcases (by omega : j = 40 ∨ j = 41) with q | q
      · rw [q, (key_end a).1, (key_end b).1, h.command]
      · rw [q, (key_end a).2, (key_end b).2, h.mode]
theorem vwI_ok {x : View} (h : x.Ok) : (vwI x).Ok := ⟨fun i hi => h.1 i hi, fun i hi => h.2.1 i hi, fun i hi => h.2.2.1 i hi, h.2.2.2.1, h.2.2.2.2⟩
/-- are two views' cells alike? -/
def eqV (a b : Vw) : Bool := eqF vwKs (vwL a) (vwL b)
theorem eqF_same (a b : Vw) : eqF vwKs (vwL a) (vwL b) = true ↔ a.Same b := by
  simp only [vwKs, vwL, Vw.cells, List.map_cons, List.map_nil, eqF, asB, asI, Bool.and_eq_true, beq_iff_eq, and_true]
  constructor
  · rintro ⟨i0, i1, i2, i3, i4, i5, i6, i7, m0, m1, m2, m3, m4, m5, m6, m7, g0, g1, g2, g3, g4, g5, g6, g7, s0, s1, s2, s3, s4, s5, s6, s7, t0, t1, t2, t3, t4, t5, t6, t7, c, d⟩
    refine ⟨?_, ?_, ?_, ?_, ?_, c, d⟩
    all_goals
      intro i hi
      match i, hi with
      | 0, _ => assumption
      | 1, _ => assumption
      | 2, _ => assumption
      | 3, _ => assumption
      | 4, _ => assumption
      | 5, _ => assumption
      | 6, _ => assumption
      | 7, _ => assumption
  · rintro ⟨h1, h2, h3, h4, h5, c, d⟩
    exact ⟨h1 0 (by omega), h1 1 (by omega), h1 2 (by omega), h1 3 (by omega), h1 4 (by omega), h1 5 (by omega), h1 6 (by omega), h1 7 (by omega), h2 0 (by omega), h2 1 (by omega), h2 2 (by omega), h2 3 (by omega), h2 4 (by omega), h2 5 (by omega), h2 6 (by omega), h2 7 (by omega), h3 0 (by omega), h3 1 (by omega), h3 2 (by omega), h3 3 (by omega), h3 4 (by omega), h3 5 (by omega), h3 6 (by omega), h3 7 (by omega), h4 0 (by omega), h4 1 (by omega), h4 2 (by omega), h4 3 (by omega), h4 4 (by omega), h4 5 (by omega), h4 6 (by omega), h4 7 (by omega), h5 0 (by omega), h5 1 (by omega), h5 2 (by omega), h5 3 (by omega), h5 4 (by omega), h5 5 (by omega), h5 6 (by omega), h5 7 (by omega), c, d⟩
end Go.Proofs.YthekiiagacnhkaaDoor
end
