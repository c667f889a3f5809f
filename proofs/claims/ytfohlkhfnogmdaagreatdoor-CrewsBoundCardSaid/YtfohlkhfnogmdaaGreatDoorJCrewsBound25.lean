/- Parts of a proof. -/
import Derived.Test.YtfohlkhfnogmdaaGreatDoorJCrewsBound24
import Derived.Test.YtfohlkhfnogmdaaGreatDoorJCrewsBound9
set_option linter.unusedSimpArgs false
set_option linter.unusedVariables false
section
namespace Go.Proofs.YtfohlkhfnogmdaaGreatDoor
open Go.RowKit
def eqV1 : AC → Value → Bool
 | .v (.int k x), .int q y => decide (k = q) && decide (x = y)
 | .v (.bool x), .bool y => x == y
 | _, _ => false
def eqVs : List AC → List Value → Bool
 | [], [] => true
 | x :: r, v :: q => eqV1 x v && eqVs r q
 | _, _ => false
theorem jjf5 : ∀ {l : List AC} {vs : List Value}, eqVs l vs = true → l = vs.map .v
 | [], [], _ => rfl
 | x :: r, v :: q, h => by
  simp only [eqVs, Bool.and_eq_true] at h; rw [List.map_cons, ← jjf5 h.2]; congr 1; have h1 := h.1; unfold eqV1 at h1; split at h1
  · simp only [Bool.and_eq_true, decide_eq_true_eq] at h1
    obtain ⟨rfl, rfl⟩ := h1; rfl
  · rw [eq_of_beq h1]
  · cases h1
theorem jj9b : ∀ hs : List Held, (hs.flatMap Held.cells).length = hs.length * 56
 | [] => rfl
 | y :: r => by rw [List.flatMap_cons, List.length_append, jj9b r, Held.len, List.length_cons]; omega
def ctDc (hs : List Held) (cs : List Value) : CtF
 | [.c (.v (.int .i64 nn)), .c (.v (.slice none 0 0)), .c (.v (.int .i64 a))], _, _ => some (.agg ((deliverF nn [] a).cells.map .v), [], 0, [])
 | [.c (.v (.int .i64 nn)), .c (.sl id 0 0 n (some cp)), .c (.v (.int .i64 a))], m, _ =>
  match look m id with
  | some ⟨_, _, _, 0, .lit l⟩ => some (.agg ((deliverF nn hs a).cells.map .v), [], 0, [Nat.beq n hs.length, decide (n ≤ cp), eqVs l cs])
  | _ => none
 | _, _, _ => none
theorem ct_dc {hs : List Held} {cs : List Value} (hcs : hs.flatMap Held.cells = cs) (hl : hs.length ≤ 1000000) (hp : 0 < hs.length) (hok : ∀ h ∈ hs, h.Ok) : CtOk Tryz.prog 123 (ctDc hs cs) := by
 refine ⟨⟨_, _, Tryz.func123, rfl⟩, fun C β m m2 w args ib r news k ob vs hct ho hs2 hr hfree hlim hv => ?_⟩; unfold ctDc at hct; split at hct
 · rename_i nn a
   simp only [Option.some.injEq, Prod.mk.injEq] at hct; obtain ⟨rfl, rfl, rfl, rfl⟩ := hct; cases hv; refine (jj3e nn a none 0 0 [] w (Nat.le_refl _) (by unfold maxLen; omega) rfl (by simp) Sl.nil).mono ?_; rintro e w' ⟨rfl, hb⟩; exact ⟨β, _, rfl, Ext.refl _, fun _ _ => rfl, by simp only [γ, γ1, jj5q], by rw [List.append_nil]; exact hr.below hb⟩
 · rename_i nn id n cp a
   split at hct
   · rename_i own row ty l hlk
     simp only [Option.some.injEq, Prod.mk.injEq] at hct; obtain ⟨rfl, rfl, rfl, rfl⟩ := hct; simp only [allT, List.forall_mem_cons] at ho; obtain ⟨o1, o2, o3, _⟩ := ho; have o1 := Nat.eq_of_beq_eq_true o1; rw [decide_eq_true_eq] at o2; have o3 := jjf5 o3; rw [← hcs] at o3; obtain ⟨L, hL, hk⟩ := hr.blk id _ (hs2 _ _ hlk); have hlen : (hs.flatMap Held.cells).length = n * 56 := by rw [o1]; exact jj9b hs
     have hn0 : L.nil = false := (hk.cells 0 0 (by simp only [ABlk.inb]; rw [o3]; simp [hlen]; omega)).1; simp only [γt, γ1, γc, hL, hn0, Bool.false_eq_true, if_false, Option.getD_some, Option.some.injEq] at hv; subst hv
     have hsl : Sl w w.heap.size 56 (some ⟨L.b, L.o, none⟩) n (hs.flatMap Held.cells) := by
      refine ⟨hlen, fun _ => ⟨L.b, L.o, rfl, hk.lt hn0, fun i u hu => ?_⟩⟩; have hi : i < (hs.flatMap Held.cells).length := (List.getElem?_eq_some_iff.1 hu).1; obtain ⟨_, v, g1, g2, g3⟩ := hk.cells 0 i (by simp only [ABlk.inb]; rw [o3, decide_eq_true_eq, List.length_map]; omega); rw [o3] at g1; simp only [Cs.get, List.getD, List.getElem?_map, hu, Option.map_some, Option.getD_some, γc, Option.some.injEq] at g1; subst g1; rw [← g3]; congr 2; omega
     have hv2 : #[Value.int .i64 nn, .slice (some ⟨L.b, L.o + (0 * L.s + 0), none⟩) n cp, .int .i64 a] = #[Value.int .i64 nn, .slice (some ⟨L.b, L.o, none⟩) n cp, .int .i64 a] := by simp
     refine (show Calls _ _ #[Value.int .i64 nn, .slice (some ⟨L.b, L.o + (0 * L.s + 0), none⟩) n cp, .int .i64 a] w _ from hv2 ▸ jj3e nn a (some ⟨L.b, L.o, none⟩) n cp hs w o2 (by unfold maxLen; omega) o1.symm hok hsl).mono ?_; rintro e w' ⟨rfl, hb⟩; exact ⟨β, _, rfl, Ext.refl _, fun _ _ => rfl, by simp only [γ, γ1, jj5q], by rw [List.append_nil]; exact hr.below hb⟩
   · cases hct
 · cases hct
end Go.Proofs.YtfohlkhfnogmdaaGreatDoor
end
