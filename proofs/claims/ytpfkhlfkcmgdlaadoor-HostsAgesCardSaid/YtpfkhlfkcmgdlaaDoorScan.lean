/- The symbolic evaluator: loops that run over a list up to the first element that stops them. No Go text is in sight. -/
import Derived.Test.YtpfkhlfkcmgdlaaDoorSxView
set_option linter.unusedSimpArgs false
set_option linter.unusedVariables false
namespace Go.Proofs.YtpfkhlfkcmgdlaaDoor
open Go.RowKit

/-- a head: frame, memory -/
def stH (N : Nat) (hs ids : List Nat) (vals : List AV) (blks : List ABlk) (p : List Dec) (lp : List (Option LSum)) : St := ⟨mkFr N (hs.zip vals), ids.zip blks, 0, 0, false, p, [], [], [], none, lp⟩
def GoodV (n' N : Nat) (r : VC) : Prop := allT r.2.2.2.2.2.1 ∧ r.2.2.2.2.2.2 = [] ∧ r.2.2.2.2.1 ≤ n' ∧ r.2.2.2.1 = N
/-- the next head -/
def NextV (n' N h : Nat) (vals : List AV) (blks : List ABlk) (r : VC) : Prop := GoodV n' N r ∧ r.1 = .normal ∧ r.2.1.take h = vals.map some ∧ BL blks r.2.2.1
/-- the end -/
def EndV (n n' N : Nat) (ts ids : List Nat) (e : Exit) (out : List (Nat × AV)) (mF : AMem) (r : VC) : Prop :=
  GoodV n' N r ∧ r.1 = e ∧ (∀ q ∈ out, okV n q.2 = true ∧ (q.1, some q.2) ∈ ts.zip r.2.1) ∧ ∀ p ∈ mF, keptB n n' p.1 = true ∧ lowB n p.2 ∧ ∃ y, (p.1, some y) ∈ ids.zip r.2.2.1 ∧ BEq y p.2
theorem scan_ob {E : Env} (hE : EnvOk E) {fuel : Nat} {body : Code} (hs xs ids : List Nat) (vals : Nat → List AV) (blks : List ABlk) {N n nh n' str : Nat} {e : Exit} {out : List (Nat × AV)} {mF : AMem} (j : Nat)
    (hn1 : n ≤ nh) (hn2 : nh ≤ n') (hn3 : n' ≤ lim) (he : e ≠ .normal) (hlen : ∀ k, hs.length = (vals k).length ∧ ids.length = blks.length) (hids : ids.all (keptB n n') = true) (hlow : ∀ k, k ≤ j → ((vals k).all (okV n)) = true) (hb : ∀ b ∈ blks, lowB n b)
    (step : ∀ k, k < j → ∃ p r, view (hs ++ xs) ids (fC E fuel body nh str (stH N hs ids (vals k) blks p [])) = some r ∧ NextV n' N hs.length (vals (k + 1)) blks r)
    (stop : ∃ p r, view (hs ++ xs) ids (fC E fuel body nh str (stH N hs ids (vals j) blks p [])) = some r ∧ EndV n n' N (hs ++ xs) ids e out mF r) :
    LoopV E.P body hs ids ((vals 0).map some) (blks.map some) N n (mkFr N out) mF n' e none := by
  refine loop_view hE (fuel := fuel) (nh := nh) (str := str) (S := Nat) (fun k => k ≤ j) (fun k => j - k) hs xs ids vals (fun _ => blks) hn1 hn2 hn3 (s0 := 0) (Nat.zero_le _) hlen hids (fun k hk => ⟨hlow k hk, hb⟩) fun k hk => ?_
  rcases Nat.lt_or_ge k j with h | h
  · obtain ⟨p, r, h1, ⟨g1, g2, g3, g4⟩, h3, h4, h5⟩ := step k h
    exact ⟨p, [], r, h1, g1, g2, g3, g4, .inl ⟨h3, k + 1, h, by show j - (k + 1) < j - k; omega, h4, h5⟩⟩
  · obtain rfl : k = j := by omega
    obtain ⟨p, r, h1, ⟨g1, g2, g3, g4⟩, h3, h4, h5⟩ := stop
    exact ⟨p, [], r, h1, g1, g2, g3, g4, .inr ⟨by rw [h3]; exact he, h3, h4, h5⟩⟩
theorem EndV_nil {n n' N : Nat} {ts ids : List Nat} {e : Exit} {r : VC} (h : GoodV n' N r) (he : r.1 = e) : EndV n n' N ts ids e [] [] r := ⟨h, he, (fun _ h => by cases h), (fun _ h => by cases h)⟩
theorem EndV_one {n n' N : Nat} {ts ids : List Nat} {e : Exit} {r : VC} {t : Nat} {v : AV} (h : GoodV n' N r) (he : r.1 = e) (hv : okV n v = true) (hm : (t, some v) ∈ ts.zip r.2.1) : EndV n n' N ts ids e [(t, v)] [] r :=
  ⟨h, he, (fun q hq => by rw [List.mem_singleton.1 hq]; exact ⟨hv, hm⟩), (fun _ h => by cases h)⟩
theorem inb_arr {o r : Bool} {t s n : Nat} {g : Nat → List AC} {k j : Nat} : ABlk.inb ⟨o, r, t, s, .arr n g⟩ k j = (decide (k < n) && decide (j ≤ s)) := rfl
theorem inb_lit {o r : Bool} {t s : Nat} {l : List AC} {k j : Nat} : ABlk.inb ⟨o, r, t, s, .lit l⟩ k j = decide (k * s + j ≤ l.length) := rfl
/-- the first one that stops -/
theorem first_stop (n : Nat) (q : Nat → Bool) : ∃ j, j ≤ n ∧ (∀ i, i < j → q i = false) ∧ (j < n → q j = true) := by
  induction n with
  | zero => exact ⟨0, Nat.le_refl _, fun i h => by omega, fun h => by omega⟩
  | succ n ih =>
    obtain ⟨j, h1, h2, h3⟩ := ih
    rcases Nat.lt_or_ge j n with h | h
    · exact ⟨j, by omega, h2, fun _ => h3 h⟩
    · obtain rfl : j = n := by omega
      cases hq : q j with
      | true => exact ⟨j, by omega, h2, fun _ => hq⟩
      | false =>
        refine ⟨j + 1, Nat.le_refl _, fun i hi => ?_, fun h => by omega⟩
        by_cases e : i = j
        · rw [e]; exact hq
        · exact h2 i (by omega)
abbrev ints (ty n : Nat) (f : Nat → Int) : ABlk := rBlk ty 1 n fun i => [.int .i64 (f i)]
end Go.Proofs.YtpfkhlfkcmgdlaaDoor
