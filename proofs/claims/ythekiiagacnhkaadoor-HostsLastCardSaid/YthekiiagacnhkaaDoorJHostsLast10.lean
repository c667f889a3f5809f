/- Parts, one behind the other. hosts.Offer: what it answers, of a list and a round, in plain words; what its loop's round does, as the evaluator runs it. -/
import Derived.Test.YthekiiagacnhkaaDoorJHostsLast9
import Derived.Test.YthekiiagacnhkaaDoorJHostsLast2
import Derived.Test.YthekiiagacnhkaaDoorChecked
import Derived.KernelRfl
import Derived.IntWalk
set_option linter.unusedSimpArgs false
set_option linter.unusedVariables false
/- hosts.Offer: what it answers, of a list and a round, in plain words; what its loop's round does, as the evaluator runs it. -/
section
namespace Go.Proofs.YthekiiagacnhkaaDoor
open Go.RowKit

/-- the last place below n at which q holds -/
def lastOf (q : Nat → Bool) : Nat → Option Nat
  | 0 => none
  | n + 1 => match q n with | true => some n | false => lastOf q n
def offB (e : Entry) (r : Int) : Bool := (decide (e.p.kind = 1) || decide (e.p.kind = 2)) && (decide (e.frm ≤ r) && (decide (0 < e.rounds) && decide (r - e.frm < e.rounds)))
def rndOk (r : Int) : Bool := decide (0 ≤ r) && decide (r ≤ 1099511627776)
def ofJ (n : Nat) (f : Nat → Entry) (r : Int) : Option Nat := match rndOk r with | true => lastOf (fun i => offB (f i) r) n | false => none
/-- what is offered -/
def ofS (n : Nat) (f : Nat → Entry) (r : Int) : Said := match ofJ n f r with | some j => ⟨true, r, (f j).p⟩ | none => Said.zero
abbrev saidA (s : Said) : AV := .agg [.v (.bool s.is), .v (.int .i64 s.at_), .v (.int .u8 s.p.kind), .v (.int .u8 s.p.st), .v (.int .u32 s.p.seq), .v (.int .u32 s.p.val)]
def entIs (l : List AC) : Bool := Nat.beq l.length 6 && (okl (.i .i64) (l.getD 0 nov) && (okl (.i .i64) (l.getD 1 nov) && (okl (.i .u8) (l.getD 2 nov) && (okl (.i .u8) (l.getD 3 nov) && (okl (.i .u32) (l.getD 4 nov) && okl (.i .u32) (l.getD 5 nov))))))
def entOf (l : List AC) : Entry := ⟨asI (l.getD 0 nov), asI (l.getD 1 nov), ⟨asI (l.getD 2 nov), asI (l.getD 3 nov), asI (l.getD 4 nov), asI (l.getD 5 nov)⟩⟩
theorem okl_v {k : IntKind} {x : AC} (h : okl (.i k) x = true) : x = .v (.int k (asI x)) := by
  cases x with
  | v y =>
    cases y with
    | int k' n =>
      have e : k = k' := by simpa [okl] using h
      subst e
      rfl
    | _ => simp [okl] at h
  | _ => simp [okl] at h
def entP : Prs Entry where
  sz := 6
  cells := Entry.cells
  of := entOf
  is := entIs
  len := Entry.len
  ok := by
    intro l h
    unfold entIs at h
    simp only [Bool.and_eq_true] at h
    obtain ⟨hl, h0, h1, h2, h3, h4, h5⟩ := h
    have hl := Nat.eq_of_beq_eq_true hl
    match l, hl with
    | [a, b, c, d, e, f], _ =>
      simp only [List.getD, List.getElem?_cons_zero, List.getElem?_cons_succ, Option.getD_some] at h0 h1 h2 h3 h4 h5
      rw [okl_v h0, okl_v h1, okl_v h2, okl_v h3, okl_v h4, okl_v h5]
      rfl
abbrev enB (n : Nat) (f : Nat → Entry) : ABlk := rBlk 59 6 n fun i => [.int .i64 (f i).frm, .int .i64 (f i).rounds, .int .u8 (f i).p.kind, .int .u8 (f i).p.st, .int .u32 (f i).p.seq, .int .u32 (f i).p.val]
end Go.Proofs.YthekiiagacnhkaaDoor
end
/- What configs.New leans on: the sums of loops. -/
section
namespace Go.Proofs.YthekiiagacnhkaaDoor
open Go.RowKit

theorem hE1 : EnvOk (E1 Tryd.prog) := envOk (fun _ _ h => by cases h) (by kernel_rfl) (by kernel_rfl)
theorem wrap_nat (x : Int) (h0 : -9223372036854775808 ≤ x) (h1 : x ≤ 9223372036854775807) : IntKind.wrap .i64 x = x := IntWalk.i64_in _ (by first | exact ⟨h0, h1⟩ | omega)
end Go.Proofs.YthekiiagacnhkaaDoor
end
/- hosts.Entry.offers, sennitref19.offers as the evaluator runs them. -/
section
namespace Go.Proofs.YthekiiagacnhkaaDoor
open Go.RowKit

abbrev entA (e : Entry) : AV := .agg [.v (.int .i64 e.frm), .v (.int .i64 e.rounds), .v (.int .u8 e.p.kind), .v (.int .u8 e.p.st), .v (.int .u32 e.p.seq), .v (.int .u32 e.p.val)]
def ofsE (P : Program) (f : FuncId) (e : Entry) (r : Int) (path : List Dec) : Option VF := viewF [] (fCallF (E1 P) (fC (E1 P) 300) f [entA e, i64 r] 1000 10000000000000000000000000000000000000000 (stA [] path []))
theorem ofs (e : Entry) (z : Int) (Q : VF → Prop) (H : (((Payload.kind (Entry.p e) == Int.ofNat 1) = true → (((decide (z ≥ Entry.frm e)) = true → (((decide (Entry.rounds e > Int.ofNat 0)) = true → (((decide (Entry.frm e ≥ Int.ofNat 0)) = true → (((decide (IntKind.wrap .i64 (z - Entry.frm e) < Entry.rounds e)) = true → Q (.c (.v (.bool true)), [], 1038, [decide (IntKind.wrap .i64 (z - Entry.frm e) < Entry.rounds e) == true, true, true, true, true, decide (Entry.frm e ≥ Int.ofNat 0) == true, true, true, decide (Entry.rounds e > Int.ofNat 0) == true, true, true, decide (z ≥ Entry.frm e) == true, true, true, (Payload.kind (Entry.p e) == Int.ofNat 1) == true, true, true], [])) ∧ ((decide (IntKind.wrap .i64 (z - Entry.frm e) < Entry.rounds e)) = false → (((decide (Entry.frm e < Int.ofNat 0)) = true → Q (.c (.v (.bool (decide (z < IntKind.wrap .i64 (Entry.rounds e + Entry.frm e))))), [], 1050, [true, true, true, true, decide (Entry.frm e < Int.ofNat 0) == true, true, true, decide (IntKind.wrap .i64 (z - Entry.frm e) < Entry.rounds e) == false, true, true, true, true, decide (Entry.frm e ≥ Int.ofNat 0) == true, true, true, decide (Entry.rounds e > Int.ofNat 0) == true, true, true, decide (z ≥ Entry.frm e) == true, true, true, (Payload.kind (Entry.p e) == Int.ofNat 1) == true, true, true], [])) ∧ ((decide (Entry.frm e < Int.ofNat 0)) = false → Q (.c (.v (.bool false)), [], 1043, [decide (Entry.frm e < Int.ofNat 0) == false, true, true, decide (IntKind.wrap .i64 (z - Entry.frm e) < Entry.rounds e) == false, true, true, true, true, decide (Entry.frm e ≥ Int.ofNat 0) == true, true, true, decide (Entry.rounds e > Int.ofNat 0) == true, true, true, decide (z ≥ Entry.frm e) == true, true, true, (Payload.kind (Entry.p e) == Int.ofNat 1) == true, true, true], [])))))) ∧ ((decide (Entry.frm e ≥ Int.ofNat 0)) = false → (((decide (Entry.frm e < Int.ofNat 0)) = true → Q (.c (.v (.bool (decide (z < IntKind.wrap .i64 (Entry.rounds e + Entry.frm e))))), [], 1043, [true, true, true, true, decide (Entry.frm e < Int.ofNat 0) == true, true, true, decide (Entry.frm e ≥ Int.ofNat 0) == false, true, true, decide (Entry.rounds e > Int.ofNat 0) == true, true, true, decide (z ≥ Entry.frm e) == true, true, true, (Payload.kind (Entry.p e) == Int.ofNat 1) == true, true, true], [])) ∧ ((decide (Entry.frm e < Int.ofNat 0)) = false → Q (.c (.v (.bool false)), [], 1036, [decide (Entry.frm e < Int.ofNat 0) == false, true, true, decide (Entry.frm e ≥ Int.ofNat 0) == false, true, true, decide (Entry.rounds e > Int.ofNat 0) == true, true, true, decide (z ≥ Entry.frm e) == true, true, true, (Payload.kind (Entry.p e) == Int.ofNat 1) == true, true, true], [])))))) ∧ ((decide (Entry.rounds e > Int.ofNat 0)) = false → Q (.c (.v (.bool false)), [], 1024, [decide (Entry.rounds e > Int.ofNat 0) == false, true, true, decide (z ≥ Entry.frm e) == true, true, true, (Payload.kind (Entry.p e) == Int.ofNat 1) == true, true, true], [])))) ∧ ((decide (z ≥ Entry.frm e)) = false → Q (.c (.v (.bool false)), [], 1021, [decide (z ≥ Entry.frm e) == false, true, true, (Payload.kind (Entry.p e) == Int.ofNat 1) == true, true, true], [])))) ∧ ((Payload.kind (Entry.p e) == Int.ofNat 1) = false → (((Payload.kind (Entry.p e) == Int.ofNat 2) = true → (((decide (z ≥ Entry.frm e)) = true → (((decide (Entry.rounds e > Int.ofNat 0)) = true → (((decide (Entry.frm e ≥ Int.ofNat 0)) = true → (((decide (IntKind.wrap .i64 (z - Entry.frm e) < Entry.rounds e)) = true → Q (.c (.v (.bool true)), [], 1042, [decide (IntKind.wrap .i64 (z - Entry.frm e) < Entry.rounds e) == true, true, true, true, true, decide (Entry.frm e ≥ Int.ofNat 0) == true, true, true, decide (Entry.rounds e > Int.ofNat 0) == true, true, true, decide (z ≥ Entry.frm e) == true, true, true, (Payload.kind (Entry.p e) == Int.ofNat 2) == true, true, true, (Payload.kind (Entry.p e) == Int.ofNat 1) == false, true, true], [])) ∧ ((decide (IntKind.wrap .i64 (z - Entry.frm e) < Entry.rounds e)) = false → (((decide (Entry.frm e < Int.ofNat 0)) = true → Q (.c (.v (.bool (decide (z < IntKind.wrap .i64 (Entry.rounds e + Entry.frm e))))), [], 1054, [true, true, true, true, decide (Entry.frm e < Int.ofNat 0) == true, true, true, decide (IntKind.wrap .i64 (z - Entry.frm e) < Entry.rounds e) == false, true, true, true, true, decide (Entry.frm e ≥ Int.ofNat 0) == true, true, true, decide (Entry.rounds e > Int.ofNat 0) == true, true, true, decide (z ≥ Entry.frm e) == true, true, true, (Payload.kind (Entry.p e) == Int.ofNat 2) == true, true, true, (Payload.kind (Entry.p e) == Int.ofNat 1) == false, true, true], [])) ∧ ((decide (Entry.frm e < Int.ofNat 0)) = false → Q (.c (.v (.bool false)), [], 1047, [decide (Entry.frm e < Int.ofNat 0) == false, true, true, decide (IntKind.wrap .i64 (z - Entry.frm e) < Entry.rounds e) == false, true, true, true, true, decide (Entry.frm e ≥ Int.ofNat 0) == true, true, true, decide (Entry.rounds e > Int.ofNat 0) == true, true, true, decide (z ≥ Entry.frm e) == true, true, true, (Payload.kind (Entry.p e) == Int.ofNat 2) == true, true, true, (Payload.kind (Entry.p e) == Int.ofNat 1) == false, true, true], [])))))) ∧ ((decide (Entry.frm e ≥ Int.ofNat 0)) = false → (((decide (Entry.frm e < Int.ofNat 0)) = true → Q (.c (.v (.bool (decide (z < IntKind.wrap .i64 (Entry.rounds e + Entry.frm e))))), [], 1047, [true, true, true, true, decide (Entry.frm e < Int.ofNat 0) == true, true, true, decide (Entry.frm e ≥ Int.ofNat 0) == false, true, true, decide (Entry.rounds e > Int.ofNat 0) == true, true, true, decide (z ≥ Entry.frm e) == true, true, true, (Payload.kind (Entry.p e) == Int.ofNat 2) == true, true, true, (Payload.kind (Entry.p e) == Int.ofNat 1) == false, true, true], [])) ∧ ((decide (Entry.frm e < Int.ofNat 0)) = false → Q (.c (.v (.bool false)), [], 1040, [decide (Entry.frm e < Int.ofNat 0) == false, true, true, decide (Entry.frm e ≥ Int.ofNat 0) == false, true, true, decide (Entry.rounds e > Int.ofNat 0) == true, true, true, decide (z ≥ Entry.frm e) == true, true, true, (Payload.kind (Entry.p e) == Int.ofNat 2) == true, true, true, (Payload.kind (Entry.p e) == Int.ofNat 1) == false, true, true], [])))))) ∧ ((decide (Entry.rounds e > Int.ofNat 0)) = false → Q (.c (.v (.bool false)), [], 1028, [decide (Entry.rounds e > Int.ofNat 0) == false, true, true, decide (z ≥ Entry.frm e) == true, true, true, (Payload.kind (Entry.p e) == Int.ofNat 2) == true, true, true, (Payload.kind (Entry.p e) == Int.ofNat 1) == false, true, true], [])))) ∧ ((decide (z ≥ Entry.frm e)) = false → Q (.c (.v (.bool false)), [], 1025, [decide (z ≥ Entry.frm e) == false, true, true, (Payload.kind (Entry.p e) == Int.ofNat 2) == true, true, true, (Payload.kind (Entry.p e) == Int.ofNat 1) == false, true, true], [])))) ∧ ((Payload.kind (Entry.p e) == Int.ofNat 2) = false → Q (.c (.v (.bool false)), [], 1021, [(Payload.kind (Entry.p e) == Int.ofNat 2) == false, true, true, (Payload.kind (Entry.p e) == Int.ofNat 1) == false, true, true], [])))))) :
    ∃ p r, ofsE Tryd.prog 63 e z p = some r ∧ Q r :=
  two H
  (fun g1 => two g1
    (fun g2 => two g2
      (fun g3 => two g3
        (fun g4 => two g4
          (fun g5 => ⟨pD 30 282444069097, _, by kernel_rfl, g5⟩)
          (fun g5 => two g5
            (fun g6 => ⟨pD 37 23441666060539, _, by kernel_rfl, g6⟩)
            (fun g6 => ⟨pD 37 46318458515500, _, by kernel_rfl, g6⟩)))
        (fun g4 => two g4
          (fun g5 => ⟨pD 37 22876821336484, _, by kernel_rfl, g5⟩)
          (fun g5 => ⟨pD 37 45753613791445, _, by kernel_rfl, g5⟩)))
      (fun g3 => ⟨pD 18 360856, _, by kernel_rfl, g3⟩))
    (fun g2 => ⟨pD 18 13123, _, by kernel_rfl, g2⟩))
  (fun g1 => two g1
    (fun g2 => two g2
      (fun g3 => two g3
        (fun g4 => two g4
          (fun g5 => two g5
            (fun g6 => ⟨pD 30 282444069179, _, by kernel_rfl, g6⟩)
            (fun g6 => two g6
              (fun g7 => ⟨pD 37 23441666060621, _, by kernel_rfl, g7⟩)
              (fun g7 => ⟨pD 37 46318458515582, _, by kernel_rfl, g7⟩)))
          (fun g5 => two g5
            (fun g6 => ⟨pD 37 22876821336566, _, by kernel_rfl, g6⟩)
            (fun g6 => ⟨pD 37 45753613791527, _, by kernel_rfl, g6⟩)))
        (fun g4 => ⟨pD 18 360938, _, by kernel_rfl, g4⟩))
      (fun g3 => ⟨pD 18 13205, _, by kernel_rfl, g3⟩))
    (fun g2 => ⟨pD 18 164, _, by kernel_rfl, g2⟩))
theorem ofu (e : Entry) (z : Int) (Q : VF → Prop) (H : (((decide (Entry.rounds e < Int.ofNat 1)) = true → Q (.c (.v (.bool false)), [], 1010, [decide (Entry.rounds e < Int.ofNat 1) == true, true, true], [])) ∧ ((decide (Entry.rounds e < Int.ofNat 1)) = false → (((decide (z < Entry.frm e)) = true → Q (.c (.v (.bool false)), [], 1014, [decide (z < Entry.frm e) == true, true, true, decide (Entry.rounds e < Int.ofNat 1) == false, true, true], [])) ∧ ((decide (z < Entry.frm e)) = false → (((Payload.kind (Entry.p e) != Int.ofNat 1) = true → (((Payload.kind (Entry.p e) != Int.ofNat 2) = true → Q (.c (.v (.bool false)), [], 1024, [(Payload.kind (Entry.p e) != Int.ofNat 2) == true, true, true, (Payload.kind (Entry.p e) != Int.ofNat 1) == true, true, true, decide (z < Entry.frm e) == false, true, true, decide (Entry.rounds e < Int.ofNat 1) == false, true, true], [])) ∧ ((Payload.kind (Entry.p e) != Int.ofNat 2) = false → Q (.c (.v (.bool (decide (IntKind.wrap .u64 (IntKind.wrap .u64 z - IntKind.wrap .u64 (Entry.frm e)) < IntKind.wrap .u64 (Entry.rounds e))))), [], 1034, [true, true, true, true, (Payload.kind (Entry.p e) != Int.ofNat 2) == false, true, true, (Payload.kind (Entry.p e) != Int.ofNat 1) == true, true, true, decide (z < Entry.frm e) == false, true, true, decide (Entry.rounds e < Int.ofNat 1) == false, true, true], [])))) ∧ ((Payload.kind (Entry.p e) != Int.ofNat 1) = false → Q (.c (.v (.bool (decide (IntKind.wrap .u64 (IntKind.wrap .u64 z - IntKind.wrap .u64 (Entry.frm e)) < IntKind.wrap .u64 (Entry.rounds e))))), [], 1030, [true, true, true, true, (Payload.kind (Entry.p e) != Int.ofNat 1) == false, true, true, decide (z < Entry.frm e) == false, true, true, decide (Entry.rounds e < Int.ofNat 1) == false, true, true], [])))))))) :
    ∃ p r, ofsE Tryd.prog 64 e z p = some r ∧ Q r :=
  two H
  (fun g1 => ⟨pD 11 1, _, by kernel_rfl, g1⟩)
  (fun g1 => two g1
    (fun g2 => ⟨pD 11 83, _, by kernel_rfl, g2⟩)
    (fun g2 => two g2
      (fun g3 => two g3
        (fun g4 => ⟨pD 15 4802816, _, by kernel_rfl, g4⟩)
        (fun g4 => ⟨pD 15 9585785, _, by kernel_rfl, g4⟩))
      (fun g3 => ⟨pD 15 39530, _, by kernel_rfl, g3⟩)))
end Go.Proofs.YthekiiagacnhkaaDoor
end
/- hosts.Entry.offers, sennitref19.offers: their contracts. -/
section
namespace Go.Proofs.YthekiiagacnhkaaDoor
open Go.RowKit

def offL (l : List AC) (r : Int) : Bool := offB (entOf l) r
def entB (e : Entry) : Bool := decide (-9223372036854775808 ≤ e.frm ∧ e.frm ≤ 9223372036854775807) && decide (-9223372036854775808 ≤ e.rounds ∧ e.rounds ≤ 9223372036854775807)
def ofsG : List AV → AV
  | [.agg l, .c (.v (.int .i64 r))] => bo (offL l r)
  | _ => i64 0
def ofsP : List AV → Bool
  | [.agg l, .c (.v (.int .i64 r))] => entIs l && (entB (entOf l) && rndOk r)
  | _ => false
def ctOff : CtF := ctRd (pureRd [] rfl) ofsG ofsP
theorem ctOff_of {f : FuncId} (hf : ∃ (fn : Func) (c : Code), Tryd.prog.funcs[f]? = some fn ∧ fn.body = some c) (run : ∀ e r, entB e = true → rndOk r = true → ∃ p q, ofsE Tryd.prog f e r p = some q ∧ GoodF (bo (offB e r)) q) : CtOk Tryd.prog f ctOff := by
  refine ctRd_ofE (E := E1 Tryd.prog) hE1 (pureRd [] rfl) (fuel := 300) (str := 10000000000000000000000000000000000000000) hf (fun s => by unfold ofsG; split <;> rfl) fun s hs => ?_
  unfold ofsP at hs
  split at hs
  · rename_i l r
    simp only [Bool.and_eq_true] at hs
    obtain ⟨h1, h2, h3⟩ := hs
    obtain ⟨p, q, g1, g2⟩ := run (entOf l) r h2 h3
    have e := entP.ok l h1
    refine ⟨p, [], q, ?_, g2⟩
    show viewF [] (fCallF (E1 Tryd.prog) (fC (E1 Tryd.prog) 300) f [.agg l, i64 r] 1000 10000000000000000000000000000000000000000 (stA [] p [])) = some q
    rw [e]
    exact g1
  · cases hs
theorem rnd_in {r : Int} (h : rndOk r = true) : 0 ≤ r ∧ r ≤ 1099511627776 := by
  unfold rndOk at h
  simpa using h
theorem ent_in {e : Entry} (h : entB e = true) : (-9223372036854775808 ≤ e.frm ∧ e.frm ≤ 9223372036854775807) ∧ (-9223372036854775808 ≤ e.rounds ∧ e.rounds ≤ 9223372036854775807) := by
  unfold entB at h
  simpa using h
theorem i64_in {z : Int} (h0 : -9223372036854775808 ≤ z) (h1 : z ≤ 9223372036854775807) : IntKind.wrap .i64 z = z := wrap_nat z h0 h1
theorem u64_mod (z : Int) : IntKind.wrap .u64 z = z % 18446744073709551616 := by
  simp only [IntKind.wrap, IntKind.bits, IntKind.signed]
  simp
theorem offB_iff (e : Entry) (r : Int) : offB e r = true ↔ (e.p.kind = 1 ∨ e.p.kind = 2) ∧ e.frm ≤ r ∧ 0 < e.rounds ∧ r - e.frm < e.rounds := by
  unfold offB
  simp
theorem ct_ofs : CtOk Tryd.prog 63 ctOff := by
  refine ctOff_of ⟨_, _, Tryd.func63, rfl⟩ fun e r he hr => ofs e r _ ?_
  obtain ⟨r0, r1⟩ := rnd_in hr
  obtain ⟨⟨a0, a1⟩, b0, b1⟩ := ent_in he
  have hi := offB_iff e r
  have w1 : 0 ≤ e.frm → e.frm ≤ r → IntKind.wrap .i64 (r - e.frm) = r - e.frm := fun _ _ => i64_in (by omega) (by omega)
  have w2 : e.frm < 0 → 0 < e.rounds → IntKind.wrap .i64 (e.rounds + e.frm) = e.rounds + e.frm := fun _ _ => i64_in (by omega) (by omega)
  have w3 := i64_in b0 b1
  generalize offB e r = x at hi ⊢
  (repeat' (first | refine ⟨fun h => ?_, fun h => ?_⟩ | fail))
  all_goals (refine ⟨?_, (by first | (unfold lim; omega) | (dsimp only; unfold lim; omega)), ?_, by simp⟩)
  all_goals (cases x <;> simp_all [allT, bo] <;> omega)
theorem ct_ofu : CtOk Tryd.prog 64 ctOff := by
  refine ctOff_of ⟨_, _, Tryd.func64, rfl⟩ fun e r he hr => ofu e r _ ?_
  obtain ⟨r0, r1⟩ := rnd_in hr
  obtain ⟨⟨a0, a1⟩, b0, b1⟩ := ent_in he
  have hi := offB_iff e r
  generalize offB e r = x at hi ⊢
  simp only [u64_mod]
  (repeat' (first | refine ⟨fun h => ?_, fun h => ?_⟩ | fail))
  all_goals (refine ⟨?_, (by first | (unfold lim; omega) | (dsimp only; unfold lim; omega)), ?_, by simp⟩)
  all_goals (cases x <;> simp_all [allT, bo] <;> omega)
end Go.Proofs.YthekiiagacnhkaaDoor
end
/- Plain facts: the last place at which something holds. No Go text is in sight. -/
section
namespace Go.Proofs.YthekiiagacnhkaaDoor
open Go.RowKit

theorem lastOf_none {q : Nat → Bool} : ∀ {n : Nat}, (∀ i, i < n → q i = false) → lastOf q n = none
  | 0, _ => rfl
  | n + 1, h => by
    unfold lastOf
    rw [h n (by omega)]
    exact lastOf_none fun i hi => h i (by omega)
theorem lastOf_at {q : Nat → Bool} : ∀ {n j : Nat}, j < n → q j = true → (∀ i, j < i → i < n → q i = false) → lastOf q n = some j
  | 0, _, h, _, _ => absurd h (by omega)
  | n + 1, j, h, hq, hr => by
    unfold lastOf
    by_cases e : j = n
    · subst e; rw [hq]
    · rw [hr n (by omega) (by omega)]
      exact lastOf_at (by omega) hq fun i h1 h2 => hr i h1 (by omega)
theorem lastOf_cases (q : Nat → Bool) : ∀ n, (lastOf q n = none ∧ ∀ i, i < n → q i = false) ∨ ∃ j, lastOf q n = some j ∧ j < n ∧ q j = true ∧ ∀ i, j < i → i < n → q i = false
  | 0 => .inl ⟨rfl, fun i h => by omega⟩
  | n + 1 => by
    cases hq : q n with
    | true => exact .inr ⟨n, by unfold lastOf; rw [hq], by omega, hq, fun i h1 h2 => by omega⟩
    | false =>
      have e : lastOf q (n + 1) = lastOf q n := by show (match q n with | true => some n | false => lastOf q n) = _; rw [hq]
      rw [e]
      rcases lastOf_cases q n with ⟨h1, h2⟩ | ⟨j, h1, h2, h3, h4⟩
      · refine .inl ⟨h1, fun i hi => ?_⟩
        by_cases e : i = n
        · rw [e]; exact hq
        · exact h2 i (by omega)
      · refine .inr ⟨j, h1, by omega, h3, fun i g1 g2 => ?_⟩
        by_cases e : i = n
        · rw [e]; exact hq
        · exact h4 i g1 (by omega)
theorem lastOf_congr {q r : Nat → Bool} : ∀ {n : Nat}, (∀ i, i < n → q i = r i) → lastOf q n = lastOf r n
  | 0, _ => rfl
  | n + 1, h => by
    unfold lastOf
    rw [h n (by omega), lastOf_congr (n := n) fun i hi => h i (by omega)]
theorem lastOf_no {q : Nat → Bool} {n : Nat} (h : q n = false) : lastOf q (n + 1) = lastOf q n := by
  show (match q n with | true => some n | false => lastOf q n) = _
  rw [h]
theorem lastOf_yes {q : Nat → Bool} {n : Nat} (h : q n = true) : lastOf q (n + 1) = some n := by
  show (match q n with | true => some n | false => lastOf q n) = _
  rw [h]
end Go.Proofs.YthekiiagacnhkaaDoor
end
/- hosts.Offer, sennitref19.Offer as the evaluator runs them. -/
section
namespace Go.Proofs.YthekiiagacnhkaaDoor
open Go.RowKit

def ctsOf : List (FuncId × CtF) := [(63, ctOff), (64, ctOff)]
theorem ctsOf_ok : ∀ f g, (f, g) ∈ ctsOf → CtOk Tryd.prog f g := by
  intro f g h
  simp only [ctsOf, List.mem_cons, Prod.mk.injEq, List.not_mem_nil, or_false] at h
  rcases h with ⟨rfl, rfl⟩ | ⟨rfl, rfl⟩
  · exact ct_ofs
  · exact ct_ofu
def EOf (P : Program) : Env := ⟨P, ctsOf⟩
theorem hEOf : EnvOk (EOf Tryd.prog) := envOk ctsOf_ok (by kernel_rfl) (by kernel_rfl)
abbrev uA : AV := .c (.v undef)
abbrev ofTM (n : Nat) (z : Int) : List AV := [.c (.sl 0 0 0 n none), i64 z, uA, .c (.ptr 1000 0 0), .c (.ptr 1001 0 0), uA, uA, i64 z, bo (decide (z ≤ Int.ofNat 1099511627776)), bo false, uA, .c (.sl 0 0 0 n none), .c (.fn 101 [(1013, 0, 0)]), uA, uA, uA, uA, uA, uA, uA, uA, uA, uA]
abbrev saidB (s : Said) : ABlk := ⟨true, false, 62, 0, .lit [.v (.bool s.is), .v (.int .i64 s.at_), .v (.int .u8 s.p.kind), .v (.int .u8 s.p.st), .v (.int .u32 s.p.seq), .v (.int .u32 s.p.val)]⟩
abbrev ofI : List Nat := [0, 1000, 1001, 1013, 1017, 1018]
abbrev ofBk (P : Program) (n : Nat) (f : Nat → Entry) (z : Int) (s : Said) (st : LoopState) (pd : Option Code) : List ABlk := [enB n f, ⟨true, false, 2, 0, .lit [.v (.int .i64 z)]⟩, saidB s, ⟨true, false, 53, 0, .lit [.sl 0 0 0 n none]⟩, oblk (.dfr true), oblk (.loop st pd (ofTM n z) #[13, 14] (rfA P 25 0) (rfB P 25 0) 1017)]
abbrev ofW (i : Int) : List AV := [.c (.yld 1018), .c (.ptr 1013 0 0), i64 i]
def ofL (P : Program) (n : Nat) (f : Nat → Entry) (z i : Int) (path : List Dec) : Option VC :=
  view ([0, 1, 3] ++ []) ofI (fC (EOf P) 100 (loopAt P 101 0) 1000000000000000000000000000000000000000000 10000000000000000000000000000000000000000 (stH 19 [0, 1, 3] ofI (ofW i) (ofBk P n f z Said.zero .ready none) path []))
theorem ofl (n : Nat) (f : Nat → Entry) (z i : Int) (Q : VC → Prop) (H : (((decide (i ≥ Int.ofNat 0)) = true → (((offL [.v (.int .i64 (Entry.frm (f (0 + Int.toNat i)))), .v (.int .i64 (Entry.rounds (f (0 + Int.toNat i)))), .v (.int .u8 (Payload.kind (Entry.p (f (0 + Int.toNat i))))), .v (.int .u8 (Payload.st (Entry.p (f (0 + Int.toNat i))))), .v (.int .u32 (Payload.seq (Entry.p (f (0 + Int.toNat i))))), .v (.int .u32 (Payload.val (Entry.p (f (0 + Int.toNat i)))))] z) = true → Q (Exit.ret, [some (lkA (List.zip [0, 1, 3] (ofW i)) 0), some (lkA (List.zip [0, 1, 3] (ofW i)) (0 + 1)), some (lkA (List.zip [0, 1, 3] (ofW i)) (0 + 1 + 1 + 1))], [some (ABlk.mk false false 59 6 (Cs.arr n fun k => List.map AC.v ((fun i => [Value.int .i64 (Entry.frm (f i)), Value.int .i64 (Entry.rounds (f i)), Value.int .u8 (Payload.kind (Entry.p (f i))), Value.int .u8 (Payload.st (Entry.p (f i))), Value.int .u32 (Payload.seq (Entry.p (f i))), Value.int .u32 (Payload.val (Entry.p (f i)))]) k))), some (ABlk.mk true false 2 0 (Cs.lit [.v (.int .i64 z)])), some (ABlk.mk true false 62 0 (Cs.lit [.v (.bool true), .v (.int .i64 z), .v (.int .u8 (Payload.kind (Entry.p (f (0 + Int.toNat i))))), .v (.int .u8 (Payload.st (Entry.p (f (0 + Int.toNat i))))), .v (.int .u32 (Payload.seq (Entry.p (f (0 + Int.toNat i))))), .v (.int .u32 (Payload.val (Entry.p (f (0 + Int.toNat i)))))])), some (ABlk.mk true false 53 0 (Cs.lit [AC.sl 0 0 0 n none])), some (ABlk.mk false false 0 0 (Cs.obj (AObj.dfr true))), some (ABlk.mk false false 0 0 (Cs.obj (AObj.loop LoopState.done (some Code.ret) [.c (.sl 0 0 0 n none), .c (.v (.int .i64 z)), .c (AC.v (Value.tuple (Array.mk []))), .c (.ptr 1000 0 0), .c (.ptr 1001 0 0), .c (AC.v (Value.tuple (Array.mk []))), .c (AC.v (Value.tuple (Array.mk []))), .c (.v (.int .i64 z)), .c (.v (.bool (decide (z ≤ Int.ofNat 1099511627776)))), .c (.v (.bool false)), .c (AC.v (Value.tuple (Array.mk []))), .c (.sl 0 0 0 n none), .c (AC.fn 101 [(1013, 0, 0)]), .c (AC.v (Value.tuple (Array.mk []))), .c (AC.v (Value.tuple (Array.mk []))), .c (AC.v (Value.tuple (Array.mk []))), .c (AC.v (Value.tuple (Array.mk []))), .c (AC.v (Value.tuple (Array.mk []))), .c (AC.v (Value.tuple (Array.mk []))), .c (AC.v (Value.tuple (Array.mk []))), .c (AC.v (Value.tuple (Array.mk []))), .c (AC.v (Value.tuple (Array.mk []))), .c (AC.v (Value.tuple (Array.mk [])))] (Array.mk [13, 14]) (rfA Tryd.prog 25 0) (rfB Tryd.prog 25 0) 1017)))], 19, 1000000000000000000000000000000000000000018, [true, true, true, true, true, true, true, true, offL [.v (.int .i64 (Entry.frm (f (0 + Int.toNat i)))), .v (.int .i64 (Entry.rounds (f (0 + Int.toNat i)))), .v (.int .u8 (Payload.kind (Entry.p (f (0 + Int.toNat i))))), .v (.int .u8 (Payload.st (Entry.p (f (0 + Int.toNat i))))), .v (.int .u32 (Payload.seq (Entry.p (f (0 + Int.toNat i))))), .v (.int .u32 (Payload.val (Entry.p (f (0 + Int.toNat i)))))] z == true, true, ofsP [.agg [.v (.int .i64 (Entry.frm (f (0 + Int.toNat i)))), .v (.int .i64 (Entry.rounds (f (0 + Int.toNat i)))), .v (.int .u8 (Payload.kind (Entry.p (f (0 + Int.toNat i))))), .v (.int .u8 (Payload.st (Entry.p (f (0 + Int.toNat i))))), .v (.int .u32 (Payload.seq (Entry.p (f (0 + Int.toNat i))))), .v (.int .u32 (Payload.val (Entry.p (f (0 + Int.toNat i)))))], .c (.v (.int .i64 z))], true, true, true, true, true, true, true, true, true, true, ABlk.inb (ABlk.mk false false 59 6 (Cs.arr n fun k => List.map AC.v ((fun i => [Value.int .i64 (Entry.frm (f i)), Value.int .i64 (Entry.rounds (f i)), Value.int .u8 (Payload.kind (Entry.p (f i))), Value.int .u8 (Payload.st (Entry.p (f i))), Value.int .u32 (Payload.seq (Entry.p (f i))), Value.int .u32 (Payload.val (Entry.p (f i)))]) k))) (0 + Int.toNat i) 6, true, true, true, true, true, true, decide (Int.ofNat 0 ≤ i ∧ i < ↑n), true, decide (i ≥ Int.ofNat 0) == true], [])) ∧ ((offL [.v (.int .i64 (Entry.frm (f (0 + Int.toNat i)))), .v (.int .i64 (Entry.rounds (f (0 + Int.toNat i)))), .v (.int .u8 (Payload.kind (Entry.p (f (0 + Int.toNat i))))), .v (.int .u8 (Payload.st (Entry.p (f (0 + Int.toNat i))))), .v (.int .u32 (Payload.seq (Entry.p (f (0 + Int.toNat i))))), .v (.int .u32 (Payload.val (Entry.p (f (0 + Int.toNat i)))))] z) = false → Q (Exit.normal, [some (lkA (List.zip [0, 1, 3] (ofW i)) 0), some (lkA (List.zip [0, 1, 3] (ofW i)) (0 + 1)), some (.c (.v (.int .i64 (IntKind.wrap .i64 (i - Int.ofNat 1)))))], [some (ABlk.mk false false 59 6 (Cs.arr n fun k => List.map AC.v ((fun i => [Value.int .i64 (Entry.frm (f i)), Value.int .i64 (Entry.rounds (f i)), Value.int .u8 (Payload.kind (Entry.p (f i))), Value.int .u8 (Payload.st (Entry.p (f i))), Value.int .u32 (Payload.seq (Entry.p (f i))), Value.int .u32 (Payload.val (Entry.p (f i)))]) k))), some (ABlk.mk true false 2 0 (Cs.lit [.v (.int .i64 z)])), some (ABlk.mk true false 62 0 (Cs.lit [.v (.bool false), .v (.int .i64 (Int.ofNat 0)), .v (.int .u8 (Int.ofNat 0)), .v (.int .u8 (Int.ofNat 0)), .v (.int .u32 (Int.ofNat 0)), .v (.int .u32 (Int.ofNat 0))])), some (ABlk.mk true false 53 0 (Cs.lit [AC.sl 0 0 0 n none])), some (ABlk.mk false false 0 0 (Cs.obj (AObj.dfr true))), some (ABlk.mk false false 0 0 (Cs.obj (AObj.loop LoopState.ready none [.c (.sl 0 0 0 n none), .c (.v (.int .i64 z)), .c (AC.v (Value.tuple (Array.mk []))), .c (.ptr 1000 0 0), .c (.ptr 1001 0 0), .c (AC.v (Value.tuple (Array.mk []))), .c (AC.v (Value.tuple (Array.mk []))), .c (.v (.int .i64 z)), .c (.v (.bool (decide (z ≤ Int.ofNat 1099511627776)))), .c (.v (.bool false)), .c (AC.v (Value.tuple (Array.mk []))), .c (.sl 0 0 0 n none), .c (AC.fn 101 [(1013, 0, 0)]), .c (AC.v (Value.tuple (Array.mk []))), .c (AC.v (Value.tuple (Array.mk []))), .c (AC.v (Value.tuple (Array.mk []))), .c (AC.v (Value.tuple (Array.mk []))), .c (AC.v (Value.tuple (Array.mk []))), .c (AC.v (Value.tuple (Array.mk []))), .c (AC.v (Value.tuple (Array.mk []))), .c (AC.v (Value.tuple (Array.mk []))), .c (AC.v (Value.tuple (Array.mk []))), .c (AC.v (Value.tuple (Array.mk [])))] (Array.mk [13, 14]) (rfA Tryd.prog 25 0) (rfB Tryd.prog 25 0) 1017)))], 19, 1000000000000000000000000000000000000000016, [offL [.v (.int .i64 (Entry.frm (f (0 + Int.toNat i)))), .v (.int .i64 (Entry.rounds (f (0 + Int.toNat i)))), .v (.int .u8 (Payload.kind (Entry.p (f (0 + Int.toNat i))))), .v (.int .u8 (Payload.st (Entry.p (f (0 + Int.toNat i))))), .v (.int .u32 (Payload.seq (Entry.p (f (0 + Int.toNat i))))), .v (.int .u32 (Payload.val (Entry.p (f (0 + Int.toNat i)))))] z == false, true, ofsP [.agg [.v (.int .i64 (Entry.frm (f (0 + Int.toNat i)))), .v (.int .i64 (Entry.rounds (f (0 + Int.toNat i)))), .v (.int .u8 (Payload.kind (Entry.p (f (0 + Int.toNat i))))), .v (.int .u8 (Payload.st (Entry.p (f (0 + Int.toNat i))))), .v (.int .u32 (Payload.seq (Entry.p (f (0 + Int.toNat i))))), .v (.int .u32 (Payload.val (Entry.p (f (0 + Int.toNat i)))))], .c (.v (.int .i64 z))], true, true, true, true, true, true, true, true, true, true, ABlk.inb (ABlk.mk false false 59 6 (Cs.arr n fun k => List.map AC.v ((fun i => [Value.int .i64 (Entry.frm (f i)), Value.int .i64 (Entry.rounds (f i)), Value.int .u8 (Payload.kind (Entry.p (f i))), Value.int .u8 (Payload.st (Entry.p (f i))), Value.int .u32 (Payload.seq (Entry.p (f i))), Value.int .u32 (Payload.val (Entry.p (f i)))]) k))) (0 + Int.toNat i) 6, true, true, true, true, true, true, decide (Int.ofNat 0 ≤ i ∧ i < ↑n), true, decide (i ≥ Int.ofNat 0) == true], [])))) ∧ ((decide (i ≥ Int.ofNat 0)) = false → Q (Exit.exit 0, [some (lkA (List.zip [0, 1, 3] (ofW i)) 0), some (lkA (List.zip [0, 1, 3] (ofW i)) (0 + 1)), some (lkA (List.zip [0, 1, 3] (ofW i)) (0 + 1 + 1 + 1))], [some (ABlk.mk false false 59 6 (Cs.arr n fun k => List.map AC.v ((fun i => [Value.int .i64 (Entry.frm (f i)), Value.int .i64 (Entry.rounds (f i)), Value.int .u8 (Payload.kind (Entry.p (f i))), Value.int .u8 (Payload.st (Entry.p (f i))), Value.int .u32 (Payload.seq (Entry.p (f i))), Value.int .u32 (Payload.val (Entry.p (f i)))]) k))), some (ABlk.mk true false 2 0 (Cs.lit [.v (.int .i64 z)])), some (ABlk.mk true false 62 0 (Cs.lit [.v (.bool false), .v (.int .i64 (Int.ofNat 0)), .v (.int .u8 (Int.ofNat 0)), .v (.int .u8 (Int.ofNat 0)), .v (.int .u32 (Int.ofNat 0)), .v (.int .u32 (Int.ofNat 0))])), some (ABlk.mk true false 53 0 (Cs.lit [AC.sl 0 0 0 n none])), some (ABlk.mk false false 0 0 (Cs.obj (AObj.dfr true))), some (ABlk.mk false false 0 0 (Cs.obj (AObj.loop LoopState.ready none [.c (.sl 0 0 0 n none), .c (.v (.int .i64 z)), .c (AC.v (Value.tuple (Array.mk []))), .c (.ptr 1000 0 0), .c (.ptr 1001 0 0), .c (AC.v (Value.tuple (Array.mk []))), .c (AC.v (Value.tuple (Array.mk []))), .c (.v (.int .i64 z)), .c (.v (.bool (decide (z ≤ Int.ofNat 1099511627776)))), .c (.v (.bool false)), .c (AC.v (Value.tuple (Array.mk []))), .c (.sl 0 0 0 n none), .c (AC.fn 101 [(1013, 0, 0)]), .c (AC.v (Value.tuple (Array.mk []))), .c (AC.v (Value.tuple (Array.mk []))), .c (AC.v (Value.tuple (Array.mk []))), .c (AC.v (Value.tuple (Array.mk []))), .c (AC.v (Value.tuple (Array.mk []))), .c (AC.v (Value.tuple (Array.mk []))), .c (AC.v (Value.tuple (Array.mk []))), .c (AC.v (Value.tuple (Array.mk []))), .c (AC.v (Value.tuple (Array.mk []))), .c (AC.v (Value.tuple (Array.mk [])))] (Array.mk [13, 14]) (rfA Tryd.prog 25 0) (rfB Tryd.prog 25 0) 1017)))], 19, 1000000000000000000000000000000000000000002, [decide (i ≥ Int.ofNat 0) == false], [])))) :
    ∃ p r, ofL Tryd.prog n f z i p = some r ∧ Q r :=
  two H
  (fun g1 => two g1
    (fun g2 => ⟨pD 3 4, _, by kernel_rfl, g2⟩)
    (fun g2 => ⟨pD 3 7, _, by kernel_rfl, g2⟩))
  (fun g1 => ⟨pD 1 2, _, by kernel_rfl, g1⟩)
abbrev ofS1 (P : Program) (n : Nat) (f : Nat → Entry) (z : Int) (s : Said) : LSum := ⟨[0, 1, 3], ofI, mkFr 19 [], ofI.zip (ofBk P n f z s .done (some .ret)), 100000000000000000000000000000000000000000000000000, .ret⟩
abbrev ofS0 (P : Program) (n : Nat) (f : Nat → Entry) (z : Int) : LSum := ⟨[0, 1, 3], ofI, mkFr 19 [], ofI.zip (ofBk P n f z Said.zero .ready none), 100000000000000000000000000000000000000000000000000, .exit 0⟩
def ofE (P : Program) (n : Nat) (f : Nat → Entry) (z : Int) (path : List Dec) (lp : List (Option LSum)) : Option VF := viewF [] (fCallF (EOf P) (fC (EOf P) 300) 25 [.c (.sl 0 0 0 n none), i64 z] 1000 10000000000000000000000000000000000000000 (stA [(0, enB n f)] path lp))
theorem ofr1 (n : Nat) (f : Nat → Entry) (z : Int) (s : Said) (Q : VF → Prop) (H : (((decide (z ≥ Int.ofNat 0)) = true → (((!decide (z ≤ Int.ofNat 1099511627776)) = true → Q (.agg [.v (.bool false), .v (.int .i64 (Int.ofNat 0)), .v (.int .u8 (Int.ofNat 0)), .v (.int .u8 (Int.ofNat 0)), .v (.int .u32 (Int.ofNat 0)), .v (.int .u32 (Int.ofNat 0))], [], 1014, [true, true, true, true, true, true, true, true, (!decide (z ≤ Int.ofNat 1099511627776)) == true, decide (z ≥ Int.ofNat 0) == true, true, true], [])) ∧ ((!decide (z ≤ Int.ofNat 1099511627776)) = false → Q (.agg [.v (.bool (Said.is s)), .v (.int .i64 (Said.at_ s)), .v (.int .u8 (Payload.kind (Said.p s))), .v (.int .u8 (Payload.st (Said.p s))), .v (.int .u32 (Payload.seq (Said.p s))), .v (.int .u32 (Payload.val (Said.p s)))], [], 100000000000000000000000000000000000000000000000000, [true, true, true, true, true, true, true, true, (!decide (z ≤ Int.ofNat 1099511627776)) == false, decide (z ≥ Int.ofNat 0) == true, true, true], [LoopV Tryd.prog (loopAt Tryd.prog 101 0) [0, 1, 3] ofI [some (.c (AC.yld 1018)), some (.c (.ptr 1013 0 0)), some (.c (.v (.int .i64 (IntKind.wrap .i64 (↑n - Int.ofNat 1)))))] [some (ABlk.mk false false 59 6 (Cs.arr n fun k => List.map AC.v ((fun i => [Value.int .i64 (Entry.frm (f i)), Value.int .i64 (Entry.rounds (f i)), Value.int .u8 (Payload.kind (Entry.p (f i))), Value.int .u8 (Payload.st (Entry.p (f i))), Value.int .u32 (Payload.seq (Entry.p (f i))), Value.int .u32 (Payload.val (Entry.p (f i)))]) k))), some (ABlk.mk true false 2 0 (Cs.lit [.v (.int .i64 z)])), some (ABlk.mk true false 62 0 (Cs.lit [.v (.bool false), .v (.int .i64 (Int.ofNat 0)), .v (.int .u8 (Int.ofNat 0)), .v (.int .u8 (Int.ofNat 0)), .v (.int .u32 (Int.ofNat 0)), .v (.int .u32 (Int.ofNat 0))])), some (ABlk.mk true false 53 0 (Cs.lit [AC.sl 0 0 0 n none])), some (ABlk.mk false false 0 0 (Cs.obj (AObj.dfr true))), some (ABlk.mk false false 0 0 (Cs.obj (AObj.loop LoopState.ready none [.c (.sl 0 0 0 n none), .c (.v (.int .i64 z)), .c (AC.v (Value.tuple (Array.mk []))), .c (.ptr 1000 0 0), .c (.ptr 1001 0 0), .c (AC.v (Value.tuple (Array.mk []))), .c (AC.v (Value.tuple (Array.mk []))), .c (.v (.int .i64 z)), .c (.v (.bool (decide (z ≤ Int.ofNat 1099511627776)))), .c (.v (.bool false)), .c (AC.v (Value.tuple (Array.mk []))), .c (.sl 0 0 0 n none), .c (AC.fn 101 [(1013, 0, 0)]), .c (AC.v (Value.tuple (Array.mk []))), .c (AC.v (Value.tuple (Array.mk []))), .c (AC.v (Value.tuple (Array.mk []))), .c (AC.v (Value.tuple (Array.mk []))), .c (AC.v (Value.tuple (Array.mk []))), .c (AC.v (Value.tuple (Array.mk []))), .c (AC.v (Value.tuple (Array.mk []))), .c (AC.v (Value.tuple (Array.mk []))), .c (AC.v (Value.tuple (Array.mk []))), .c (AC.v (Value.tuple (Array.mk [])))] (Array.mk [13, 14]) (rfA Tryd.prog 25 0) (rfB Tryd.prog 25 0) 1017)))] 19 1023 (mkFr 19 []) (List.zip ofI (ofBk Tryd.prog n f z s LoopState.done (some Code.ret))) 100000000000000000000000000000000000000000000000000 Exit.ret none])))) ∧ ((decide (z ≥ Int.ofNat 0)) = false → Q (.agg [.v (.bool false), .v (.int .i64 (Int.ofNat 0)), .v (.int .u8 (Int.ofNat 0)), .v (.int .u8 (Int.ofNat 0)), .v (.int .u32 (Int.ofNat 0)), .v (.int .u32 (Int.ofNat 0))], [], 1012, [true, true, true, true, true, true, true, true, decide (z ≥ Int.ofNat 0) == false, true, true], [])))) :
    ∃ p r, ofE Tryd.prog n f z p [some (ofS1 Tryd.prog n f z s)] = some r ∧ Q r :=
  two H
  (fun g1 => two g1
    (fun g2 => ⟨pD 3 10, _, by kernel_rfl, g2⟩)
    (fun g2 => ⟨pD 3 19, _, by kernel_rfl, g2⟩))
  (fun g1 => ⟨pD 3 2, _, by kernel_rfl, g1⟩)
theorem ofr0 (n : Nat) (f : Nat → Entry) (z : Int) (Q : VF → Prop) (H : (((decide (z ≥ Int.ofNat 0)) = true → (((!decide (z ≤ Int.ofNat 1099511627776)) = true → Q (.agg [.v (.bool false), .v (.int .i64 (Int.ofNat 0)), .v (.int .u8 (Int.ofNat 0)), .v (.int .u8 (Int.ofNat 0)), .v (.int .u32 (Int.ofNat 0)), .v (.int .u32 (Int.ofNat 0))], [], 1014, [true, true, true, true, true, true, true, true, (!decide (z ≤ Int.ofNat 1099511627776)) == true, decide (z ≥ Int.ofNat 0) == true, true, true], [])) ∧ ((!decide (z ≤ Int.ofNat 1099511627776)) = false → Q (.agg [.v (.bool false), .v (.int .i64 (Int.ofNat 0)), .v (.int .u8 (Int.ofNat 0)), .v (.int .u8 (Int.ofNat 0)), .v (.int .u32 (Int.ofNat 0)), .v (.int .u32 (Int.ofNat 0))], [], 100000000000000000000000000000000000000000000000002, [true, true, true, true, true, true, true, true, true, (!decide (z ≤ Int.ofNat 1099511627776)) == false, decide (z ≥ Int.ofNat 0) == true, true, true], [LoopV Tryd.prog (loopAt Tryd.prog 101 0) [0, 1, 3] ofI [some (.c (AC.yld 1018)), some (.c (.ptr 1013 0 0)), some (.c (.v (.int .i64 (IntKind.wrap .i64 (↑n - Int.ofNat 1)))))] [some (ABlk.mk false false 59 6 (Cs.arr n fun k => List.map AC.v ((fun i => [Value.int .i64 (Entry.frm (f i)), Value.int .i64 (Entry.rounds (f i)), Value.int .u8 (Payload.kind (Entry.p (f i))), Value.int .u8 (Payload.st (Entry.p (f i))), Value.int .u32 (Payload.seq (Entry.p (f i))), Value.int .u32 (Payload.val (Entry.p (f i)))]) k))), some (ABlk.mk true false 2 0 (Cs.lit [.v (.int .i64 z)])), some (ABlk.mk true false 62 0 (Cs.lit [.v (.bool false), .v (.int .i64 (Int.ofNat 0)), .v (.int .u8 (Int.ofNat 0)), .v (.int .u8 (Int.ofNat 0)), .v (.int .u32 (Int.ofNat 0)), .v (.int .u32 (Int.ofNat 0))])), some (ABlk.mk true false 53 0 (Cs.lit [AC.sl 0 0 0 n none])), some (ABlk.mk false false 0 0 (Cs.obj (AObj.dfr true))), some (ABlk.mk false false 0 0 (Cs.obj (AObj.loop LoopState.ready none [.c (.sl 0 0 0 n none), .c (.v (.int .i64 z)), .c (AC.v (Value.tuple (Array.mk []))), .c (.ptr 1000 0 0), .c (.ptr 1001 0 0), .c (AC.v (Value.tuple (Array.mk []))), .c (AC.v (Value.tuple (Array.mk []))), .c (.v (.int .i64 z)), .c (.v (.bool (decide (z ≤ Int.ofNat 1099511627776)))), .c (.v (.bool false)), .c (AC.v (Value.tuple (Array.mk []))), .c (.sl 0 0 0 n none), .c (AC.fn 101 [(1013, 0, 0)]), .c (AC.v (Value.tuple (Array.mk []))), .c (AC.v (Value.tuple (Array.mk []))), .c (AC.v (Value.tuple (Array.mk []))), .c (AC.v (Value.tuple (Array.mk []))), .c (AC.v (Value.tuple (Array.mk []))), .c (AC.v (Value.tuple (Array.mk []))), .c (AC.v (Value.tuple (Array.mk []))), .c (AC.v (Value.tuple (Array.mk []))), .c (AC.v (Value.tuple (Array.mk []))), .c (AC.v (Value.tuple (Array.mk [])))] (Array.mk [13, 14]) (rfA Tryd.prog 25 0) (rfB Tryd.prog 25 0) 1017)))] 19 1023 (mkFr 19 []) (List.zip ofI (ofBk Tryd.prog n f z Said.zero LoopState.ready none)) 100000000000000000000000000000000000000000000000000 (Exit.exit 0) none])))) ∧ ((decide (z ≥ Int.ofNat 0)) = false → Q (.agg [.v (.bool false), .v (.int .i64 (Int.ofNat 0)), .v (.int .u8 (Int.ofNat 0)), .v (.int .u8 (Int.ofNat 0)), .v (.int .u32 (Int.ofNat 0)), .v (.int .u32 (Int.ofNat 0))], [], 1012, [true, true, true, true, true, true, true, true, decide (z ≥ Int.ofNat 0) == false, true, true], [])))) :
    ∃ p r, ofE Tryd.prog n f z p [some (ofS0 Tryd.prog n f z)] = some r ∧ Q r :=
  two H
  (fun g1 => two g1
    (fun g2 => ⟨pD 3 10, _, by kernel_rfl, g2⟩)
    (fun g2 => ⟨pD 3 19, _, by kernel_rfl, g2⟩))
  (fun g1 => ⟨pD 3 2, _, by kernel_rfl, g1⟩)
abbrev oqV (n : Nat) (z : Int) (k : Nat) : List AV := [.c (.sl 0 0 0 n none), i64 z, .c (.ptr 1000 0 0), .c (.ptr 1002 0 0), i64 (Int.ofNat k)]
abbrev oqBk (n : Nat) (f : Nat → Entry) (s : Said) : List ABlk := [enB n f, saidB Said.zero, saidB s]
def oqL (P : Program) (n : Nat) (f : Nat → Entry) (z : Int) (s : Said) (k : Nat) (path : List Dec) : Option VC :=
  view ([0, 1, 4, 5, 6] ++ []) [0, 1000, 1002] (fC (EOf P) 100 (loopAt P 26 0) 1000000000000000000000000000000000000000000 10000000000000000000000000000000000000000 (stH 36 [0, 1, 4, 5, 6] [0, 1000, 1002] (oqV n z k) (oqBk n f s) path []))
theorem oql (n : Nat) (f : Nat → Entry) (z : Int) (s : Said) (k : Nat) (Q : VC → Prop) (H : (((decide (Int.ofNat k < ↑n)) = true → (((decide (z ≥ Int.ofNat 0)) = true → (((decide (z ≤ Int.ofNat 1099511627776)) = true → (((offL [.v (.int .i64 (Entry.frm (f (0 + Int.toNat (Int.ofNat k))))), .v (.int .i64 (Entry.rounds (f (0 + Int.toNat (Int.ofNat k))))), .v (.int .u8 (Payload.kind (Entry.p (f (0 + Int.toNat (Int.ofNat k)))))), .v (.int .u8 (Payload.st (Entry.p (f (0 + Int.toNat (Int.ofNat k)))))), .v (.int .u32 (Payload.seq (Entry.p (f (0 + Int.toNat (Int.ofNat k)))))), .v (.int .u32 (Payload.val (Entry.p (f (0 + Int.toNat (Int.ofNat k))))))] z) = true → Q (Exit.normal, [some (lkA (List.zip [0, 1, 4, 5, 6] (oqV n z k)) 0), some (lkA (List.zip [0, 1, 4, 5, 6] (oqV n z k)) (0 + 1)), some (lkA (List.zip [0, 1, 4, 5, 6] (oqV n z k)) (0 + 1 + 1 + 1 + 1)), some (lkA (List.zip [0, 1, 4, 5, 6] (oqV n z k)) (0 + 1 + 1 + 1 + 1 + 1)), some (.c (.v (.int .i64 (IntKind.wrap .i64 (Int.ofNat k + Int.ofNat 1)))))], [some (ABlk.mk false false 59 6 (Cs.arr n fun k => List.map AC.v ((fun i => [Value.int .i64 (Entry.frm (f i)), Value.int .i64 (Entry.rounds (f i)), Value.int .u8 (Payload.kind (Entry.p (f i))), Value.int .u8 (Payload.st (Entry.p (f i))), Value.int .u32 (Payload.seq (Entry.p (f i))), Value.int .u32 (Payload.val (Entry.p (f i)))]) k))), some (ABlk.mk true false 62 0 (Cs.lit [.v (.bool false), .v (.int .i64 (Int.ofNat 0)), .v (.int .u8 (Int.ofNat 0)), .v (.int .u8 (Int.ofNat 0)), .v (.int .u32 (Int.ofNat 0)), .v (.int .u32 (Int.ofNat 0))])), some (ABlk.mk true false 62 0 (Cs.lit [.v (.bool true), .v (.int .i64 z), .v (.int .u8 (Payload.kind (Entry.p (f (0 + Int.toNat (Int.ofNat k)))))), .v (.int .u8 (Payload.st (Entry.p (f (0 + Int.toNat (Int.ofNat k)))))), .v (.int .u32 (Payload.seq (Entry.p (f (0 + Int.toNat (Int.ofNat k)))))), .v (.int .u32 (Payload.val (Entry.p (f (0 + Int.toNat (Int.ofNat k))))))]))], 36, 1000000000000000000000000000000000000000028, [true, ABlk.inb (ABlk.mk false false 59 6 (Cs.arr n fun k => List.map AC.v ((fun i => [Value.int .i64 (Entry.frm (f i)), Value.int .i64 (Entry.rounds (f i)), Value.int .u8 (Payload.kind (Entry.p (f i))), Value.int .u8 (Payload.st (Entry.p (f i))), Value.int .u32 (Payload.seq (Entry.p (f i))), Value.int .u32 (Payload.val (Entry.p (f i)))]) k))) (0 + Int.toNat (Int.ofNat k)) 6, true, true, true, true, decide (Int.ofNat 0 ≤ Int.ofNat k ∧ Int.ofNat k < ↑n), offL [.v (.int .i64 (Entry.frm (f (0 + Int.toNat (Int.ofNat k))))), .v (.int .i64 (Entry.rounds (f (0 + Int.toNat (Int.ofNat k))))), .v (.int .u8 (Payload.kind (Entry.p (f (0 + Int.toNat (Int.ofNat k)))))), .v (.int .u8 (Payload.st (Entry.p (f (0 + Int.toNat (Int.ofNat k)))))), .v (.int .u32 (Payload.seq (Entry.p (f (0 + Int.toNat (Int.ofNat k)))))), .v (.int .u32 (Payload.val (Entry.p (f (0 + Int.toNat (Int.ofNat k))))))] z == true, true, ofsP [.agg [.v (.int .i64 (Entry.frm (f (0 + Int.toNat (Int.ofNat k))))), .v (.int .i64 (Entry.rounds (f (0 + Int.toNat (Int.ofNat k))))), .v (.int .u8 (Payload.kind (Entry.p (f (0 + Int.toNat (Int.ofNat k)))))), .v (.int .u8 (Payload.st (Entry.p (f (0 + Int.toNat (Int.ofNat k)))))), .v (.int .u32 (Payload.seq (Entry.p (f (0 + Int.toNat (Int.ofNat k)))))), .v (.int .u32 (Payload.val (Entry.p (f (0 + Int.toNat (Int.ofNat k))))))], .c (.v (.int .i64 z))], ABlk.inb (ABlk.mk false false 59 6 (Cs.arr n fun k => List.map AC.v ((fun i => [Value.int .i64 (Entry.frm (f i)), Value.int .i64 (Entry.rounds (f i)), Value.int .u8 (Payload.kind (Entry.p (f i))), Value.int .u8 (Payload.st (Entry.p (f i))), Value.int .u32 (Payload.seq (Entry.p (f i))), Value.int .u32 (Payload.val (Entry.p (f i)))]) k))) (0 + Int.toNat (Int.ofNat k)) 6, true, true, true, true, true, true, decide (Int.ofNat 0 ≤ Int.ofNat k ∧ Int.ofNat k < ↑n), decide (z ≤ Int.ofNat 1099511627776) == true, decide (z ≥ Int.ofNat 0) == true, decide (Int.ofNat k < ↑n) == true], [])) ∧ ((offL [.v (.int .i64 (Entry.frm (f (0 + Int.toNat (Int.ofNat k))))), .v (.int .i64 (Entry.rounds (f (0 + Int.toNat (Int.ofNat k))))), .v (.int .u8 (Payload.kind (Entry.p (f (0 + Int.toNat (Int.ofNat k)))))), .v (.int .u8 (Payload.st (Entry.p (f (0 + Int.toNat (Int.ofNat k)))))), .v (.int .u32 (Payload.seq (Entry.p (f (0 + Int.toNat (Int.ofNat k)))))), .v (.int .u32 (Payload.val (Entry.p (f (0 + Int.toNat (Int.ofNat k))))))] z) = false → Q (Exit.normal, [some (lkA (List.zip [0, 1, 4, 5, 6] (oqV n z k)) 0), some (lkA (List.zip [0, 1, 4, 5, 6] (oqV n z k)) (0 + 1)), some (lkA (List.zip [0, 1, 4, 5, 6] (oqV n z k)) (0 + 1 + 1 + 1 + 1)), some (lkA (List.zip [0, 1, 4, 5, 6] (oqV n z k)) (0 + 1 + 1 + 1 + 1 + 1)), some (.c (.v (.int .i64 (IntKind.wrap .i64 (Int.ofNat k + Int.ofNat 1)))))], [some (ABlk.mk false false 59 6 (Cs.arr n fun k => List.map AC.v ((fun i => [Value.int .i64 (Entry.frm (f i)), Value.int .i64 (Entry.rounds (f i)), Value.int .u8 (Payload.kind (Entry.p (f i))), Value.int .u8 (Payload.st (Entry.p (f i))), Value.int .u32 (Payload.seq (Entry.p (f i))), Value.int .u32 (Payload.val (Entry.p (f i)))]) k))), some (ABlk.mk true false 62 0 (Cs.lit [.v (.bool false), .v (.int .i64 (Int.ofNat 0)), .v (.int .u8 (Int.ofNat 0)), .v (.int .u8 (Int.ofNat 0)), .v (.int .u32 (Int.ofNat 0)), .v (.int .u32 (Int.ofNat 0))])), some (ABlk.mk true false 62 0 (Cs.lit [.v (.bool (Said.is s)), .v (.int .i64 (Said.at_ s)), .v (.int .u8 (Payload.kind (Said.p s))), .v (.int .u8 (Payload.st (Said.p s))), .v (.int .u32 (Payload.seq (Said.p s))), .v (.int .u32 (Payload.val (Said.p s)))]))], 36, 1000000000000000000000000000000000000000020, [offL [.v (.int .i64 (Entry.frm (f (0 + Int.toNat (Int.ofNat k))))), .v (.int .i64 (Entry.rounds (f (0 + Int.toNat (Int.ofNat k))))), .v (.int .u8 (Payload.kind (Entry.p (f (0 + Int.toNat (Int.ofNat k)))))), .v (.int .u8 (Payload.st (Entry.p (f (0 + Int.toNat (Int.ofNat k)))))), .v (.int .u32 (Payload.seq (Entry.p (f (0 + Int.toNat (Int.ofNat k)))))), .v (.int .u32 (Payload.val (Entry.p (f (0 + Int.toNat (Int.ofNat k))))))] z == false, true, ofsP [.agg [.v (.int .i64 (Entry.frm (f (0 + Int.toNat (Int.ofNat k))))), .v (.int .i64 (Entry.rounds (f (0 + Int.toNat (Int.ofNat k))))), .v (.int .u8 (Payload.kind (Entry.p (f (0 + Int.toNat (Int.ofNat k)))))), .v (.int .u8 (Payload.st (Entry.p (f (0 + Int.toNat (Int.ofNat k)))))), .v (.int .u32 (Payload.seq (Entry.p (f (0 + Int.toNat (Int.ofNat k)))))), .v (.int .u32 (Payload.val (Entry.p (f (0 + Int.toNat (Int.ofNat k))))))], .c (.v (.int .i64 z))], ABlk.inb (ABlk.mk false false 59 6 (Cs.arr n fun k => List.map AC.v ((fun i => [Value.int .i64 (Entry.frm (f i)), Value.int .i64 (Entry.rounds (f i)), Value.int .u8 (Payload.kind (Entry.p (f i))), Value.int .u8 (Payload.st (Entry.p (f i))), Value.int .u32 (Payload.seq (Entry.p (f i))), Value.int .u32 (Payload.val (Entry.p (f i)))]) k))) (0 + Int.toNat (Int.ofNat k)) 6, true, true, true, true, true, true, decide (Int.ofNat 0 ≤ Int.ofNat k ∧ Int.ofNat k < ↑n), decide (z ≤ Int.ofNat 1099511627776) == true, decide (z ≥ Int.ofNat 0) == true, decide (Int.ofNat k < ↑n) == true], [])))) ∧ ((decide (z ≤ Int.ofNat 1099511627776)) = false → Q (Exit.exit 0, [some (lkA (List.zip [0, 1, 4, 5, 6] (oqV n z k)) 0), some (lkA (List.zip [0, 1, 4, 5, 6] (oqV n z k)) (0 + 1)), some (lkA (List.zip [0, 1, 4, 5, 6] (oqV n z k)) (0 + 1 + 1 + 1 + 1)), some (lkA (List.zip [0, 1, 4, 5, 6] (oqV n z k)) (0 + 1 + 1 + 1 + 1 + 1)), some (lkA (List.zip [0, 1, 4, 5, 6] (oqV n z k)) (0 + 1 + 1 + 1 + 1 + 1 + 1))], [some (ABlk.mk false false 59 6 (Cs.arr n fun k => List.map AC.v ((fun i => [Value.int .i64 (Entry.frm (f i)), Value.int .i64 (Entry.rounds (f i)), Value.int .u8 (Payload.kind (Entry.p (f i))), Value.int .u8 (Payload.st (Entry.p (f i))), Value.int .u32 (Payload.seq (Entry.p (f i))), Value.int .u32 (Payload.val (Entry.p (f i)))]) k))), some (ABlk.mk true false 62 0 (Cs.lit [.v (.bool false), .v (.int .i64 (Int.ofNat 0)), .v (.int .u8 (Int.ofNat 0)), .v (.int .u8 (Int.ofNat 0)), .v (.int .u32 (Int.ofNat 0)), .v (.int .u32 (Int.ofNat 0))])), some (ABlk.mk true false 62 0 (Cs.lit [.v (.bool (Said.is s)), .v (.int .i64 (Said.at_ s)), .v (.int .u8 (Payload.kind (Said.p s))), .v (.int .u8 (Payload.st (Said.p s))), .v (.int .u32 (Payload.seq (Said.p s))), .v (.int .u32 (Payload.val (Said.p s)))]))], 36, 1000000000000000000000000000000000000000012, [decide (z ≤ Int.ofNat 1099511627776) == false, decide (z ≥ Int.ofNat 0) == true, decide (Int.ofNat k < ↑n) == true], [])))) ∧ ((decide (z ≥ Int.ofNat 0)) = false → Q (Exit.exit 0, [some (lkA (List.zip [0, 1, 4, 5, 6] (oqV n z k)) 0), some (lkA (List.zip [0, 1, 4, 5, 6] (oqV n z k)) (0 + 1)), some (lkA (List.zip [0, 1, 4, 5, 6] (oqV n z k)) (0 + 1 + 1 + 1 + 1)), some (lkA (List.zip [0, 1, 4, 5, 6] (oqV n z k)) (0 + 1 + 1 + 1 + 1 + 1)), some (lkA (List.zip [0, 1, 4, 5, 6] (oqV n z k)) (0 + 1 + 1 + 1 + 1 + 1 + 1))], [some (ABlk.mk false false 59 6 (Cs.arr n fun k => List.map AC.v ((fun i => [Value.int .i64 (Entry.frm (f i)), Value.int .i64 (Entry.rounds (f i)), Value.int .u8 (Payload.kind (Entry.p (f i))), Value.int .u8 (Payload.st (Entry.p (f i))), Value.int .u32 (Payload.seq (Entry.p (f i))), Value.int .u32 (Payload.val (Entry.p (f i)))]) k))), some (ABlk.mk true false 62 0 (Cs.lit [.v (.bool false), .v (.int .i64 (Int.ofNat 0)), .v (.int .u8 (Int.ofNat 0)), .v (.int .u8 (Int.ofNat 0)), .v (.int .u32 (Int.ofNat 0)), .v (.int .u32 (Int.ofNat 0))])), some (ABlk.mk true false 62 0 (Cs.lit [.v (.bool (Said.is s)), .v (.int .i64 (Said.at_ s)), .v (.int .u8 (Payload.kind (Said.p s))), .v (.int .u8 (Payload.st (Said.p s))), .v (.int .u32 (Payload.seq (Said.p s))), .v (.int .u32 (Payload.val (Said.p s)))]))], 36, 1000000000000000000000000000000000000000010, [decide (z ≥ Int.ofNat 0) == false, decide (Int.ofNat k < ↑n) == true], [])))) ∧ ((decide (Int.ofNat k < ↑n)) = false → Q (Exit.exit 0, [some (lkA (List.zip [0, 1, 4, 5, 6] (oqV n z k)) 0), some (lkA (List.zip [0, 1, 4, 5, 6] (oqV n z k)) (0 + 1)), some (lkA (List.zip [0, 1, 4, 5, 6] (oqV n z k)) (0 + 1 + 1 + 1 + 1)), some (lkA (List.zip [0, 1, 4, 5, 6] (oqV n z k)) (0 + 1 + 1 + 1 + 1 + 1)), some (lkA (List.zip [0, 1, 4, 5, 6] (oqV n z k)) (0 + 1 + 1 + 1 + 1 + 1 + 1))], [some (ABlk.mk false false 59 6 (Cs.arr n fun k => List.map AC.v ((fun i => [Value.int .i64 (Entry.frm (f i)), Value.int .i64 (Entry.rounds (f i)), Value.int .u8 (Payload.kind (Entry.p (f i))), Value.int .u8 (Payload.st (Entry.p (f i))), Value.int .u32 (Payload.seq (Entry.p (f i))), Value.int .u32 (Payload.val (Entry.p (f i)))]) k))), some (ABlk.mk true false 62 0 (Cs.lit [.v (.bool false), .v (.int .i64 (Int.ofNat 0)), .v (.int .u8 (Int.ofNat 0)), .v (.int .u8 (Int.ofNat 0)), .v (.int .u32 (Int.ofNat 0)), .v (.int .u32 (Int.ofNat 0))])), some (ABlk.mk true false 62 0 (Cs.lit [.v (.bool (Said.is s)), .v (.int .i64 (Said.at_ s)), .v (.int .u8 (Payload.kind (Said.p s))), .v (.int .u8 (Payload.st (Said.p s))), .v (.int .u32 (Payload.seq (Said.p s))), .v (.int .u32 (Payload.val (Said.p s)))]))], 36, 1000000000000000000000000000000000000000008, [decide (Int.ofNat k < ↑n) == false], [])))) :
    ∃ p r, oqL Tryd.prog n f z s k p = some r ∧ Q r :=
  two H
  (fun g1 => two g1
    (fun g2 => two g2
      (fun g3 => two g3
        (fun g4 => ⟨pD 6 334, _, by kernel_rfl, g4⟩)
        (fun g4 => ⟨pD 6 577, _, by kernel_rfl, g4⟩))
      (fun g3 => ⟨pD 5 172, _, by kernel_rfl, g3⟩))
    (fun g2 => ⟨pD 5 19, _, by kernel_rfl, g2⟩))
  (fun g1 => ⟨pD 5 2, _, by kernel_rfl, g1⟩)
abbrev oqS (n : Nat) (f : Nat → Entry) (s : Said) : LSum := ⟨[0, 1, 4, 5, 6], [0, 1000, 1002], mkFr 36 [(4, .c (.ptr 1000 0 0)), (5, .c (.ptr 1002 0 0))], [(1000, saidB Said.zero), (1002, saidB s)], 100000000000000000000000000000000000000000000000000, .exit 0⟩
def oqE (P : Program) (n : Nat) (f : Nat → Entry) (z : Int) (path : List Dec) (lp : List (Option LSum)) : Option VF := viewF [] (fCallF (EOf P) (fC (EOf P) 300) 26 [.c (.sl 0 0 0 n none), i64 z] 1000 10000000000000000000000000000000000000000 (stA [(0, enB n f)] path lp))
theorem oqr (n : Nat) (f : Nat → Entry) (z : Int) (s : Said) (Q : VF → Prop) (H : Q (.agg [.v (.bool (Said.is s)), .v (.int .i64 (Said.at_ s)), .v (.int .u8 (Payload.kind (Said.p s))), .v (.int .u8 (Payload.st (Said.p s))), .v (.int .u32 (Payload.seq (Said.p s))), .v (.int .u32 (Payload.val (Said.p s)))], [], 100000000000000000000000000000000000000000000000002, [true, true, true, true, true, true, true, true, true, true, true, true, true, true, true, true], [LoopV Tryd.prog (loopAt Tryd.prog 26 0) [0, 1, 4, 5, 6] [0, 1000, 1002] [some (.c (.sl 0 0 0 n none)), some (.c (.v (.int .i64 z))), some (.c (.ptr 1000 0 0)), some (.c (.ptr 1002 0 0)), some (.c (.v (.int .i64 (Int.ofNat 0))))] [some (ABlk.mk false false 59 6 (Cs.arr n fun k => List.map AC.v ((fun i => [Value.int .i64 (Entry.frm (f i)), Value.int .i64 (Entry.rounds (f i)), Value.int .u8 (Payload.kind (Entry.p (f i))), Value.int .u8 (Payload.st (Entry.p (f i))), Value.int .u32 (Payload.seq (Entry.p (f i))), Value.int .u32 (Payload.val (Entry.p (f i)))]) k))), some (ABlk.mk true false 62 0 (Cs.lit [.v (.bool false), .v (.int .i64 (Int.ofNat 0)), .v (.int .u8 (Int.ofNat 0)), .v (.int .u8 (Int.ofNat 0)), .v (.int .u32 (Int.ofNat 0)), .v (.int .u32 (Int.ofNat 0))])), some (ABlk.mk true false 62 0 (Cs.lit [.v (.bool false), .v (.int .i64 (Int.ofNat 0)), .v (.int .u8 (Int.ofNat 0)), .v (.int .u8 (Int.ofNat 0)), .v (.int .u32 (Int.ofNat 0)), .v (.int .u32 (Int.ofNat 0))]))] 36 1005 (mkFr 36 [(4, .c (.ptr 1000 0 0)), (5, .c (.ptr 1002 0 0))]) [(1000, saidB Said.zero), (1002, saidB s)] 100000000000000000000000000000000000000000000000000 (Exit.exit 0) none])) :
    ∃ p r, oqE Tryd.prog n f z p [some (oqS n f s)] = some r ∧ Q r :=
  ⟨pD 0 0, _, by kernel_rfl, H⟩
end Go.Proofs.YthekiiagacnhkaaDoor
end
/- hosts.Offer: its contract. -/
section
namespace Go.Proofs.YthekiiagacnhkaaDoor
open Go.RowKit

theorem offL_c (e : Entry) (z : Int) : offL [.v (.int .i64 e.frm), .v (.int .i64 e.rounds), .v (.int .u8 e.p.kind), .v (.int .u8 e.p.st), .v (.int .u32 e.p.seq), .v (.int .u32 e.p.val)] z = offB e z := rfl
theorem ofsP_c {e : Entry} {z : Int} (h1 : entB e = true) (h2 : rndOk z = true) : ofsP [.agg [.v (.int .i64 e.frm), .v (.int .i64 e.rounds), .v (.int .u8 e.p.kind), .v (.int .u8 e.p.st), .v (.int .u32 e.p.seq), .v (.int .u32 e.p.val)], .c (.v (.int .i64 z))] = true := by
  show (true && (entB e && rndOk z)) = true
  rw [h1, h2]; rfl
theorem ofBk_low {P : Program} {n : Nat} {f : Nat → Entry} {z : Int} {s : Said} {st : LoopState} {pd : Option Code} {N : Nat} (hN : 1019 ≤ N) : ∀ b ∈ ofBk P n f z s st pd, lowB N b := by
  intro b hb
  have hc : ∀ i, i < 1019 → Nat.blt i N = true := fun i h => by rw [Nat.blt_eq]; omega
  simp only [List.mem_cons, List.not_mem_nil, or_false] at hb
  rcases hb with rfl | rfl | rfl | rfl | rfl | rfl
  · exact rBlk_low
  · exact low_lit rfl
  · exact low_lit rfl
  · exact low_lit (by simp [lowC, hc 0 (by omega)])
  · exact low_obj rfl
  · exact low_obj (by simp [lowO, lowT, lowV, lowC, i64, bo, hc 0 (by omega), hc 1000 (by omega), hc 1001 (by omega), hc 1013 (by omega), hc 1017 (by omega)])
set_option maxRecDepth 100000 in
theorem of_ob (n : Nat) (f : Nat → Entry) (z : Int) (hn : n ≤ 1000000) (he : ∀ i, i < n → entB (f i) = true) (hz : rndOk z = true) (N : Nat) (hN : 1019 ≤ N) (hN2 : N ≤ 1000000000000000000000000000000000000000000) (hk : ofI.all (keptB N 100000000000000000000000000000000000000000000000000) = true) (j : Nat) (hj : j ≤ n) (hmin : ∀ k, k < j → offB (f (n - 1 - k)) z = false) (hyes : j < n → offB (f (n - 1 - j)) z = true) {e : Exit} {mF : AMem}
    (hF : (j < n → e = .ret ∧ mF = ofI.zip (ofBk Tryd.prog n f z ⟨true, z, (f (n - 1 - j)).p⟩ .done (some .ret))) ∧ (j = n → e = .exit 0 ∧ mF = ofI.zip (ofBk Tryd.prog n f z Said.zero .ready none))) :
    LoopV Tryd.prog (loopAt Tryd.prog 101 0) [0, 1, 3] ofI ((ofW ((n : Int) - 1)).map some) ((ofBk Tryd.prog n f z Said.zero .ready none).map some) 19 N (mkFr 19 []) mF 100000000000000000000000000000000000000000000000000 e none := by
  have e0 : ofW ((n : Int) - 1) = ofW ((n : Int) - 1 - ((0 : Nat) : Int)) := by simp
  have ei : ∀ k, k < n → 0 + Int.toNat ((n : Int) - 1 - (k : Int)) = n - 1 - k := fun k hk => by omega
  have hc : ∀ i, i < 1019 → Nat.blt i N = true := fun i h => by rw [Nat.blt_eq]; omega
  rw [e0]
  refine scan_ob hEOf (fuel := 100) (str := 10000000000000000000000000000000000000000) (nh := 1000000000000000000000000000000000000000000) [0, 1, 3] [] ofI (fun k => ofW ((n : Int) - 1 - (k : Int))) (ofBk Tryd.prog n f z Said.zero .ready none) j hN2 (by decide) (by unfold lim; omega) ?_ (fun _ => ⟨rfl, rfl⟩) hk ?_ (ofBk_low hN) ?_ ?_
  · rcases Nat.lt_or_ge j n with h | h
    · rw [(hF.1 h).1]; simp
    · rw [(hF.2 (by omega)).1]; simp
  · intro k _
    simp [okV, lowV, lowC, notAny, i64, hc 1018 (by omega), hc 1013 (by omega)]
  · intro k hkj
    have hlt : k < n := by omega
    have hi : (0 : Int) ≤ (n : Int) - 1 - (k : Int) := by omega
    have hw : IntKind.wrap .i64 ((n : Int) - 1 - (k : Int) - Int.ofNat 1) = (n : Int) - 1 - ((k + 1 : Nat) : Int) := by rw [wrap_nat _ (by simp; omega) (by simp; omega)]; simp; omega
    refine ofl n f z ((n : Int) - 1 - (k : Int)) _ ⟨fun c1 => ⟨fun c2 => ?_, fun c2 => ?_⟩, fun c1 => ?_⟩
    · rw [offL_c, ei k hlt, hmin k hkj] at c2; cases c2
    · refine ⟨⟨?_, rfl, by dsimp only; omega, rfl⟩, rfl, ?_, by exact BL.refl (ofBk Tryd.prog n f z Said.zero .ready none)⟩
      · have h1 := ofsP_c (he _ (show n - 1 - k < n by omega)) hz
        rw [offL_c] at c2
        simp only [allT, List.forall_mem_cons, offL_c, c2]
        simp only [ei k hlt, h1]
        simp [inb_arr, inb_lit]
        omega
      · dsimp only; rw [hw]; rfl
    · simp at c1; omega
  · rcases Nat.lt_or_ge j n with hlt | hge
    · rw [(hF.1 hlt).1, (hF.1 hlt).2]
      refine ofl n f z ((n : Int) - 1 - (j : Int)) _ ⟨fun c1 => ⟨fun c2 => ?_, fun c2 => ?_⟩, fun c1 => ?_⟩
      · refine ⟨⟨?_, rfl, by dsimp only; omega, rfl⟩, rfl, (fun _ h => by cases h), mf_all hk (ofBk_low hN) ?_⟩
        · have h1 := ofsP_c (he _ (show n - 1 - j < n by omega)) hz
          rw [offL_c] at c2
          simp only [allT, List.forall_mem_cons, offL_c, c2]
          simp only [ei j hlt, h1]
          simp [inb_arr, inb_lit]
          omega
        · dsimp only
          rw [ei j hlt]
          rfl
      · rw [offL_c, ei j hlt, hyes hlt] at c2; cases c2
      · simp at c1; omega
    · have hjn : j = n := by omega
      rw [(hF.2 hjn).1, (hF.2 hjn).2]
      refine ofl n f z ((n : Int) - 1 - (j : Int)) _ ⟨fun c1 => ?_, fun c1 => ?_⟩
      · exfalso
        simp at c1
        omega
      · exact ⟨⟨by simp only [allT, List.forall_mem_cons, c1]; simp, rfl, by dsimp only; omega, rfl⟩, rfl, (fun _ h => by cases h), mf_all hk (ofBk_low hN) rfl⟩
def ofG : LstS Entry → AV
  | ⟨n, f, [.c (.v (.int .i64 z))]⟩ => saidA (ofS n f z)
  | _ => i64 0
def ofPre : LstS Entry → Bool
  | ⟨n, f, [.c (.v (.int .i64 _))]⟩ => decide (n ≤ 1000000) && (List.range n).all fun i => entB (f i)
  | _ => false
theorem ofS_none {n : Nat} {f : Nat → Entry} {z : Int} (h : ofJ n f z = none) : ofS n f z = Said.zero := by unfold ofS; rw [h]
theorem ofS_some {n j : Nat} {f : Nat → Entry} {z : Int} (h : ofJ n f z = some j) : ofS n f z = ⟨true, z, (f j).p⟩ := by unfold ofS; rw [h]
def ctOffer (ty : Nat) : CtF := ctRd (lstRd entP ty) ofG ofPre
set_option maxRecDepth 100000 in
theorem ct_offer : CtOk Tryd.prog 25 (ctOffer 59) := by
  refine ctRd_ofE (E := EOf Tryd.prog) hEOf (lstRd entP 59) (fuel := 300) (str := 10000000000000000000000000000000000000000) ⟨_, _, Tryd.func25, rfl⟩ (fun s => by unfold ofG; split <;> rfl) fun s hs => ?_
  unfold ofPre at hs
  split at hs
  · rename_i n f z
    simp only [Bool.and_eq_true, decide_eq_true_eq] at hs
    obtain ⟨hn, he⟩ := hs
    have he : ∀ i, i < n → entB (f i) = true := fun i hi => List.all_eq_true.1 he i (by simpa using hi)
    have w1 : 1 ≤ n → IntKind.wrap .i64 ((n : Int) - Int.ofNat 1) = (n : Int) - 1 := fun _ => by rw [wrap_nat _ (by simp; omega) (by simp; omega)]; simp
    have w0 : IntKind.wrap .i64 ((n : Int) - Int.ofNat 1) = (n : Int) - 1 := by rw [wrap_nat _ (by simp; omega) (by simp; omega)]; simp
    by_cases hz : rndOk z = true
    · have hz' := rnd_in hz
      obtain ⟨j, hj, hmin, hyes⟩ := first_stop n fun k => offB (f (n - 1 - k)) z
      rcases Nat.lt_or_ge j n with hlt | hge
      · have hJ : ofJ n f z = some (n - 1 - j) := by
          unfold ofJ
          rw [hz]
          exact lastOf_at (q := fun i => offB (f i) z) (by omega) (hyes hlt) fun i h1 h2 => by
            have := hmin (n - 1 - i) (by omega)
            rwa [show n - 1 - (n - 1 - i) = i by omega] at this
        show ∃ p lp r, ofE Tryd.prog n f z p lp = some r ∧ GoodF (saidA (ofS n f z)) r
        rw [ofS_some hJ]
        refine (?_ : (∃ p q, ofE Tryd.prog n f z p [some (ofS1 Tryd.prog n f z ⟨true, z, (f (n - 1 - j)).p⟩)] = some q ∧ GoodF (saidA ⟨true, z, (f (n - 1 - j)).p⟩) q) → _) (ofr1 n f z ⟨true, z, (f (n - 1 - j)).p⟩ _ ?_)
        · rintro ⟨p, q, h1, h2⟩
          exact ⟨p, _, q, h1, h2⟩
        · simp only [w0]
          refine ⟨fun c1 => ⟨fun c2 => ?_, fun c2 => ⟨rfl, (by first | (unfold lim; omega) | (dsimp only; unfold lim; omega)), ?_, fun q hq => ?_⟩⟩, fun c1 => ?_⟩
          · simp at c2; omega
          · simp only [allT, List.forall_mem_cons, c1, c2]
            simp
          · rw [List.mem_singleton.1 hq]
            exact of_ob n f z hn he hz _ (by omega) (by omega) (by kernel_rfl) j hj hmin hyes ⟨fun _ => ⟨rfl, rfl⟩, fun h => by omega⟩
          · simp at c1; omega
      · obtain rfl : j = n := by omega
        have hJ : ofJ j f z = none := by
          unfold ofJ
          rw [hz]
          exact lastOf_none (q := fun i => offB (f i) z) fun i hi => by
            have := hmin (j - 1 - i) (by omega)
            rwa [show j - 1 - (j - 1 - i) = i by omega] at this
        show ∃ p lp r, ofE Tryd.prog j f z p lp = some r ∧ GoodF (saidA (ofS j f z)) r
        rw [ofS_none hJ]
        refine (?_ : (∃ p q, ofE Tryd.prog j f z p [some (ofS0 Tryd.prog j f z)] = some q ∧ GoodF (saidA Said.zero) q) → _) (ofr0 j f z _ ?_)
        · rintro ⟨p, q, h1, h2⟩
          exact ⟨p, _, q, h1, h2⟩
        · simp only [w0]
          refine ⟨fun c1 => ⟨fun c2 => ?_, fun c2 => ⟨rfl, (by first | (unfold lim; omega) | (dsimp only; unfold lim; omega)), ?_, fun q hq => ?_⟩⟩, fun c1 => ?_⟩
          · simp at c2; omega
          · simp only [allT, List.forall_mem_cons, c1, c2]
            simp
          · rw [List.mem_singleton.1 hq]
            exact of_ob j f z hn he hz _ (by omega) (by omega) (by kernel_rfl) j hj hmin (fun h => by omega) ⟨fun h => by omega, fun _ => ⟨rfl, rfl⟩⟩
          · simp at c1; omega
    · have hJ : ofJ n f z = none := by
        unfold ofJ
        rw [Bool.eq_false_iff.2 hz]
      have hz' : ¬ (0 ≤ z ∧ z ≤ 1099511627776) := fun h => hz (by unfold rndOk; simp [h])
      show ∃ p lp r, ofE Tryd.prog n f z p lp = some r ∧ GoodF (saidA (ofS n f z)) r
      rw [ofS_none hJ]
      refine (?_ : (∃ p q, ofE Tryd.prog n f z p [some (ofS0 Tryd.prog n f z)] = some q ∧ GoodF (saidA Said.zero) q) → _) (ofr0 n f z _ ?_)
      · rintro ⟨p, q, h1, h2⟩
        exact ⟨p, _, q, h1, h2⟩
      · refine ⟨fun c1 => ⟨fun c2 => ⟨rfl, (by first | (unfold lim; omega) | (dsimp only; unfold lim; omega)), ?_, by simp⟩, fun c2 => ?_⟩, fun c1 => ⟨rfl, (by first | (unfold lim; omega) | (dsimp only; unfold lim; omega)), ?_, by simp⟩⟩
        · simp only [allT, List.forall_mem_cons, c1, c2]
          simp
        · simp at c1 c2; omega
        · simp only [allT, List.forall_mem_cons, c1]
          simp
  · cases hs
end Go.Proofs.YthekiiagacnhkaaDoor
end
/- sennitref19.Offer: its contract. -/
section
namespace Go.Proofs.YthekiiagacnhkaaDoor
open Go.RowKit

theorem of_w1 (k : Nat) (h : k ≤ 1000000) : IntKind.wrap IntKind.i64 (Int.ofNat k + Int.ofNat 1) = Int.ofNat (k + 1) := by rw [wrap_nat _ (by simp; omega) (by simp; omega)]; simp
theorem ofS_off {n : Nat} {f : Nat → Entry} {z : Int} (h : rndOk z = false) : ofS n f z = Said.zero := ofS_none (by unfold ofJ; rw [h])
theorem ofS_0 (f : Nat → Entry) (z : Int) : ofS 0 f z = Said.zero := ofS_none (by unfold ofJ; cases rndOk z <;> rfl)
theorem ofS_yes {k : Nat} {f : Nat → Entry} {z : Int} (hz : rndOk z = true) (h : offB (f k) z = true) : ofS (k + 1) f z = ⟨true, z, (f k).p⟩ := ofS_some (by unfold ofJ; rw [hz]; exact lastOf_yes (q := fun i => offB (f i) z) h)
theorem ofS_no {k : Nat} {f : Nat → Entry} {z : Int} (hz : rndOk z = true) (h : offB (f k) z = false) : ofS (k + 1) f z = ofS k f z := by
  unfold ofS ofJ
  rw [hz]
  simp only [lastOf_no (q := fun i => offB (f i) z) h]
theorem oqBk_low {n : Nat} {f : Nat → Entry} {s : Said} {N : Nat} : ∀ b ∈ oqBk n f s, lowB N b := by
  intro b hb
  simp only [List.mem_cons, List.not_mem_nil, or_false] at hb
  rcases hb with rfl | rfl | rfl
  · exact rBlk_low
  · exact low_lit rfl
  · exact low_lit rfl
set_option maxRecDepth 100000 in
theorem oq_ob (n : Nat) (f : Nat → Entry) (z : Int) (hn : n ≤ 1000000) (he : ∀ i, i < n → entB (f i) = true) :
    LoopV Tryd.prog (loopAt Tryd.prog 26 0) [0, 1, 4, 5, 6] [0, 1000, 1002] ((oqV n z 0).map some) ((oqBk n f Said.zero).map some) 36 1005 (mkFr 36 [(4, .c (.ptr 1000 0 0)), (5, .c (.ptr 1002 0 0))]) [(1000, saidB Said.zero), (1002, saidB (ofS n f z))] 100000000000000000000000000000000000000000000000000 (.exit 0) none := by
  refine loop_viewE hEOf (fuel := 100) (str := 10000000000000000000000000000000000000000) (nh := 1000000000000000000000000000000000000000000) (n := 1005) (n' := 100000000000000000000000000000000000000000000000000) (S := Nat) (fun k => k ≤ n ∧ (rndOk z = false → k = 0)) (fun k => n - k) [0, 1, 4, 5, 6] [] [0, 1000, 1002] (oqV n z) (fun k => oqBk n f (ofS k f z)) (by decide) (by decide) (by unfold lim; omega) (s0 := 0) ⟨Nat.zero_le _, fun _ => rfl⟩ (fun _ => ⟨rfl, rfl⟩) (by kernel_rfl) (by rw [ofS_0]; exact BL.refl (oqBk n f Said.zero)) (fun k _ => ⟨rfl, oqBk_low⟩) ?_
  rintro k ⟨hk, hk0⟩
  have ek : 0 + Int.toNat (Int.ofNat k) = k := by simp
  have hfin : ∀ (r : VC) (s : Said), s = ofS n f z → allT r.2.2.2.2.2.1 → r.2.2.2.2.2.2 = [] → r.2.2.2.2.1 ≤ 100000000000000000000000000000000000000000000000000 → r.2.2.2.1 = 36 → r.1 = .exit 0 → r.2.1 = (oqV n z k).map some → r.2.2.1 = (oqBk n f s).map some → StepV 1005 100000000000000000000000000000000000000000000000000 36 [0, 1, 4, 5, 6] [] [0, 1000, 1002] (fun k => k ≤ n ∧ (rndOk z = false → k = 0)) (fun k => n - k) (oqV n z) (fun k => oqBk n f (ofS k f z)) (.exit 0) [(4, .c (.ptr 1000 0 0)), (5, .c (.ptr 1002 0 0))] [(1000, saidB Said.zero), (1002, saidB (ofS n f z))] k r := by
    rintro ⟨e, l, b, len, n1, ob, po⟩ s rfl h1 h2 h3 h4 h5 h6 h7
    simp only at h1 h2 h3 h4 h5 h6 h7
    subst h6
    subst h7
    refine ⟨h1, h2, h3, h4, .inr ⟨by rw [h5]; simp, h5, fun q hq => ?_, fun p hp => ?_⟩⟩
    · simp only [List.mem_cons, List.not_mem_nil, or_false] at hq
      rcases hq with rfl | rfl
      · exact ⟨rfl, by simp⟩
      · exact ⟨rfl, by simp⟩
    · simp only [List.mem_cons, List.not_mem_nil, or_false] at hp
      rcases hp with rfl | rfl
      · exact ⟨by kernel_rfl, low_lit rfl, _, List.mem_cons_of_mem _ (List.mem_cons_self ..), BEq.refl _⟩
      · exact ⟨by kernel_rfl, low_lit rfl, _, List.mem_cons_of_mem _ (List.mem_cons_of_mem _ (List.mem_cons_self ..)), BEq.refl _⟩
  refine (?_ : (∃ p r, oqL Tryd.prog n f z (ofS k f z) k p = some r ∧ _) → _) (oql n f z (ofS k f z) k (StepV 1005 100000000000000000000000000000000000000000000000000 36 [0, 1, 4, 5, 6] [] [0, 1000, 1002] (fun k => k ≤ n ∧ (rndOk z = false → k = 0)) (fun k => n - k) (oqV n z) (fun k => oqBk n f (ofS k f z)) (.exit 0) [(4, .c (.ptr 1000 0 0)), (5, .c (.ptr 1002 0 0))] [(1000, saidB Said.zero), (1002, saidB (ofS n f z))] k) ?_)
  · rintro ⟨p, r, h1, h2⟩
    exact ⟨p, [], r, h1, h2⟩
  · have hbad : ∀ {x : Bool}, (decide (z ≥ Int.ofNat 0) = false ∨ decide (z ≤ Int.ofNat 1099511627776) = false) → rndOk z = false := by
      intro _ h
      rw [Bool.eq_false_iff]
      intro hz
      have := rnd_in hz
      rcases h with h | h <;> (simp at h; omega)
    refine ⟨fun c1 => ⟨fun c2 => ⟨fun c3 => ⟨fun c4 => ?_, fun c4 => ?_⟩, fun c3 => ?_⟩, fun c2 => ?_⟩, fun c1 => ?_⟩
    · have hlt : k < n := by simp at c1; omega
      have hz : rndOk z = true := by unfold rndOk; simp at c2 c3; simp [c2, c3]
      have hw := of_w1 k (by omega)
      have h1 := ofsP_c (he k hlt) hz
      rw [offL_c, ek] at c4
      refine ⟨?_, rfl, by dsimp only; omega, rfl, .inl ⟨rfl, k + 1, ⟨by omega, fun h => by rw [hz] at h; cases h⟩, by show n - (k + 1) < n - k; omega, by dsimp only; rw [hw]; rfl, ?_⟩⟩
      · simp only [allT, List.forall_mem_cons, offL_c, ek, c1, c2, c3, c4, h1]
        simp [inb_arr, inb_lit]
        omega
      · show BL (oqBk n f (ofS (k + 1) f z)) _
        rw [ofS_yes hz c4]
        dsimp only
        simp only [ek]
        exact BL.refl (oqBk n f ⟨true, z, (f k).p⟩)
    · have hlt : k < n := by simp at c1; omega
      have hz : rndOk z = true := by unfold rndOk; simp at c2 c3; simp [c2, c3]
      have hw := of_w1 k (by omega)
      have h1 := ofsP_c (he k hlt) hz
      rw [offL_c, ek] at c4
      refine ⟨?_, rfl, by dsimp only; omega, rfl, .inl ⟨rfl, k + 1, ⟨by omega, fun h => by rw [hz] at h; cases h⟩, by show n - (k + 1) < n - k; omega, by dsimp only; rw [hw]; rfl, ?_⟩⟩
      · simp only [allT, List.forall_mem_cons, offL_c, ek, c1, c2, c3, c4, h1]
        simp [inb_arr, inb_lit]
        omega
      · show BL (oqBk n f (ofS (k + 1) f z)) _
        rw [ofS_no hz c4]
        exact BL.refl (oqBk n f (ofS k f z))
    · have hz := hbad (x := true) (.inr c3)
      refine hfin _ (ofS k f z) (by rw [ofS_off hz, ofS_off hz]) ?_ rfl (by dsimp only; omega) rfl rfl rfl rfl
      simp only [allT, List.forall_mem_cons, c1, c2, c3]
      simp
    · have hz := hbad (x := true) (.inl c2)
      refine hfin _ (ofS k f z) (by rw [ofS_off hz, ofS_off hz]) ?_ rfl (by dsimp only; omega) rfl rfl rfl rfl
      simp only [allT, List.forall_mem_cons, c1, c2]
      simp
    · have hge : k = n := by simp at c1; omega
      subst hge
      refine hfin _ (ofS k f z) rfl ?_ rfl (by dsimp only; omega) rfl rfl rfl rfl
      simp only [allT, List.forall_mem_cons, c1]
      simp
set_option maxRecDepth 100000 in
theorem ct_roffer : CtOk Tryd.prog 26 (ctOffer 59) := by
  refine ctRd_ofE (E := EOf Tryd.prog) hEOf (lstRd entP 59) (fuel := 300) (str := 10000000000000000000000000000000000000000) ⟨_, _, Tryd.func26, rfl⟩ (fun s => by unfold ofG; split <;> rfl) fun s hs => ?_
  unfold ofPre at hs
  split at hs
  · rename_i n f z
    simp only [Bool.and_eq_true, decide_eq_true_eq] at hs
    obtain ⟨hn, he⟩ := hs
    have he : ∀ i, i < n → entB (f i) = true := fun i hi => List.all_eq_true.1 he i (by simpa using hi)
    show ∃ p lp r, oqE Tryd.prog n f z p lp = some r ∧ GoodF (saidA (ofS n f z)) r
    refine (?_ : (∃ p q, oqE Tryd.prog n f z p [some (oqS n f (ofS n f z))] = some q ∧ GoodF (saidA (ofS n f z)) q) → _) (oqr n f z (ofS n f z) _ ?_)
    · rintro ⟨p, q, h1, h2⟩
      exact ⟨p, _, q, h1, h2⟩
    · refine ⟨rfl, (by first | (unfold lim; omega) | (dsimp only; unfold lim; omega)), by simp [allT], fun q hq => ?_⟩
      rw [List.mem_singleton.1 hq]
      exact oq_ob n f z hn he
  · cases hs
end Go.Proofs.YthekiiagacnhkaaDoor
end
/- The variables that are laid, as the evaluator has them. -/
section
namespace Go.Proofs.YthekiiagacnhkaaDoor
open Go.RowKit

def signB : ABlk := ⟨false, false, 163, 0, .lit [.v (.int .i64 1), .v (.int .i64 (-1))]⟩
def mS : AMem := [(gid 0, signB)]
end Go.Proofs.YthekiiagacnhkaaDoor
end
/- The examples of layer 19 as the evaluator runs them. -/
section
namespace Go.Proofs.YthekiiagacnhkaaDoor
open Go.RowKit
def lv19 (P : Program) : Option VF := viewF [] (fCallF (E1 P) (fC (E1 P) 300) 24 [] 10 10000000000000000000000000000000000000000 (stC mS))
theorem lv19_run  : lv19 Tryd.prog =
    some (.c (.v (.bool true)), [], 2320000000000000000000000000000000000001550, [], []) := by kernel_rfl
end Go.Proofs.YthekiiagacnhkaaDoor
end
/- HostsOffer as the evaluator runs it (first looks). -/
section
namespace Go.Proofs.YthekiiagacnhkaaDoor
open Go.RowKit

def ctsOg : List (FuncId × CtF) := [(25, ctOffer 59), (26, ctOffer 59), (24, ctTG mS)]
theorem ctsOg_ok : ∀ f g, (f, g) ∈ ctsOg → CtOk Tryd.prog f g := by
  intro f g h
  simp only [ctsOg, List.mem_cons, Prod.mk.injEq, List.not_mem_nil, or_false] at h
  rcases h with ⟨rfl, rfl⟩ | ⟨rfl, rfl⟩ | ⟨rfl, rfl⟩
  · exact ct_offer
  · exact ct_roffer
  · exact ctTG_of (E := E1 Tryd.prog) hE1 ⟨_, _, Tryd.func24, rfl⟩ (by kernel_rfl) (by unfold lim; omega) lv19_run
def EOg (P : Program) : Env := ⟨P, ctsOg⟩
theorem hEOg : EnvOk (EOg Tryd.prog) := envOk ctsOg_ok (by kernel_rfl) (by kernel_rfl)
end Go.Proofs.YthekiiagacnhkaaDoor
end
/- What is offered: of lists that are the same as far as they reach, of longer ones: plain facts. No Go text is in sight. -/
section
namespace Go.Proofs.YthekiiagacnhkaaDoor
open Go.RowKit

theorem ofJ_congr {n : Nat} {f g : Nat → Entry} {z : Int} (h : ∀ i, i < n → f i = g i) : ofJ n f z = ofJ n g z := by
  unfold ofJ
  rw [lastOf_congr (q := fun i => offB (f i) z) (r := fun i => offB (g i) z) fun i hi => by rw [h i hi]]
theorem ofJ_lt {n : Nat} {f : Nat → Entry} {z : Int} {j : Nat} (h : ofJ n f z = some j) : j < n ∧ offB (f j) z = true ∧ rndOk z = true := by
  unfold ofJ at h
  cases hz : rndOk z with
  | false => rw [hz] at h; cases h
  | true =>
    rw [hz] at h
    rcases lastOf_cases (fun i => offB (f i) z) n with ⟨h1, _⟩ | ⟨i, h1, h2, h3, _⟩
    · simp only [h1] at h; cases h
    · simp only [h1] at h; cases h; exact ⟨h2, h3, rfl⟩
theorem ofS_congr {n : Nat} {f g : Nat → Entry} {z : Int} (h : ∀ i, i < n → f i = g i) : ofS n f z = ofS n g z := by
  cases e : ofJ n f z with
  | none => rw [ofS_none e, ofS_none ((ofJ_congr h).symm.trans e)]
  | some j => rw [ofS_some e, ofS_some ((ofJ_congr h).symm.trans e), h j (ofJ_lt e).1]
/-- is what is offered told by one of the entries? -/
theorem ofS_is {n : Nat} {f : Nat → Entry} {z : Int} (h : (ofS n f z).is = true) : ∃ j, j < n ∧ ofS n f z = ⟨true, z, (f j).p⟩ ∧ offB (f j) z = true := by
  cases e : ofJ n f z with
  | none => rw [ofS_none e] at h; cases h
  | some j => exact ⟨j, (ofJ_lt e).1, ofS_some e, (ofJ_lt e).2.1⟩
def lsF (n : Nat) (f : Nat → Entry) (r z0 z1 : Int) (i : Nat) : Entry :=
  if i < n then f i else if i = n then ⟨r + 1, 9, ⟨1, 0, 77, 0⟩⟩ else if i = n + 1 then ⟨r, 0, ⟨1, 0, 77, 0⟩⟩ else if i = n + 2 then ⟨r, 3, ⟨0, 0, 0, 0⟩⟩ else ⟨r - z0, z1 + 1, ⟨1, 0, 77, 0⟩⟩
theorem ls_more {n : Nat} {f : Nat → Entry} {r z0 z1 : Int} (hr : rndOk r = true) : ofS (n + 3) (lsF n f r z0 z1) r = ofS n f r := by
  have h0 : lsF n f r z0 z1 n = ⟨r + 1, 9, ⟨1, 0, 77, 0⟩⟩ := by unfold lsF; rw [if_neg (by omega), if_pos rfl]
  have h1 : lsF n f r z0 z1 (n + 1) = ⟨r, 0, ⟨1, 0, 77, 0⟩⟩ := by unfold lsF; rw [if_neg (by omega), if_neg (by omega), if_pos rfl]
  have h2 : lsF n f r z0 z1 (n + 2) = ⟨r, 3, ⟨0, 0, 0, 0⟩⟩ := by unfold lsF; rw [if_neg (by omega), if_neg (by omega), if_neg (by omega), if_pos rfl]
  rw [ofS_no (k := n + 2) hr (by rw [h2]; simp [offB]), ofS_no (k := n + 1) hr (by rw [h1]; simp [offB]), ofS_no (k := n) hr (by rw [h0]; simp [offB]; omega)]
  exact ofS_congr fun i hi => by unfold lsF; rw [if_pos hi]
theorem ls_last {n : Nat} {f : Nat → Entry} {r z0 z1 : Int} (hr : rndOk r = true) (h0 : 0 ≤ z0) (h1 : 0 ≤ z1) : ofS (n + 4) (lsF n f r z0 z1) r = if z0 ≤ z1 then ⟨true, r, ⟨1, 0, 77, 0⟩⟩ else ofS n f r := by
  have h3 : lsF n f r z0 z1 (n + 3) = ⟨r - z0, z1 + 1, ⟨1, 0, 77, 0⟩⟩ := by unfold lsF; rw [if_neg (by omega), if_neg (by omega), if_neg (by omega), if_neg (by omega)]
  have hb : offB (lsF n f r z0 z1 (n + 3)) r = decide (z0 ≤ z1) := by
    rw [h3, Bool.eq_iff_iff, offB_iff]
    simp only [decide_eq_true_eq]
    constructor
    · rintro ⟨_, _, _, h⟩; omega
    · intro h; refine ⟨by simp, ?_, ?_, ?_⟩ <;> omega
  by_cases h : z0 ≤ z1
  · rw [if_pos h, ofS_yes (k := n + 3) hr (by rw [hb]; exact decide_eq_true h), h3]
  · rw [if_neg h, ofS_no (k := n + 3) hr (by rw [hb]; exact decide_eq_false h), ls_more hr]
end Go.Proofs.YthekiiagacnhkaaDoor
end
/- HostsOffer: the sums of its loops. -/
section
namespace Go.Proofs.YthekiiagacnhkaaDoor
open Go.RowKit

theorem eqF_og : ∀ (ks : List (Option IntKind)) (xs : List AC), eqF ks xs xs = true
  | none :: ks, x :: xs => by simp [eqF, eqF_og ks xs]
  | some _ :: ks, x :: xs => by simp [eqF, eqF_og ks xs]
  | [], _ => by simp [eqF]
  | none :: _, [] => by simp [eqF]
  | some _ :: _, [] => by simp [eqF]
end Go.Proofs.YthekiiagacnhkaaDoor
end
/- HostsLast as the evaluator runs it. -/
section
namespace Go.Proofs.YthekiiagacnhkaaDoor
open Go.RowKit

abbrev rZ (z : Int) : Int := Int.tmod (IntKind.wrap .i64 z) (Int.ofNat 1000001)
abbrev olI : List Nat := [gid 0, 0, 10, 21]
abbrev olBk (n : Nat) (f : Nat → Entry) (a b : Int) (s : Said) : List ABlk := [signB, rBlk 59 6 n fun i => (f i).cells, ⟨true, false, 79, 0, .lit [.v (.int .u8 a), .v (.int .u8 b)]⟩, saidB s]
abbrev olV (n : Nat) (r : Int) (y : Bool) (k : Nat) : List AV := [.c (.sl 0 0 0 n none), .c (.ptr 10 0 0), i64 r, .c (.ptr 21 0 0), bo y, i64 (Int.ofNat k)]
abbrev olH : List Nat := [0, 5, 7, 8, 9, 10]
def olR (P : Program) (n : Nat) (f : Nat → Entry) (a b q : Int) (s : Said) (y : Bool) (k : Nat) (path : List Dec) : Option VC :=
  view (olH ++ []) olI (fC (EOg P) 100 (loopAt P 9 0) 1000000000000000000000000000000000000000000 10000000000000000000000000000000000000000 (stH 138 olH olI (olV n q y k) (olBk n f a b s) path []))
theorem oll (n : Nat) (f : Nat → Entry) (a b q : Int) (s : Said) (y : Bool) (k : Nat) (Q : VC → Prop) (H : let zz3 := (ABlk.mk false false 59 6 (Cs.arr n fun k => List.map AC.v ((fun i => Entry.cells (f i)) k))); let zz0 := [some (ABlk.mk false false 163 0 (Cs.lit [AC.v (Value.int IntKind.i64 (Int.ofNat 1)), AC.v (Value.int IntKind.i64 (Int.negSucc 0))])), some zz3, some (ABlk.mk true false 79 0 (Cs.lit [AC.v (Value.int IntKind.u8 a), AC.v (Value.int IntKind.u8 b)])), some (ABlk.mk true false 62 0 (Cs.lit [AC.v (Value.bool (Said.is s)), AC.v (Value.int IntKind.i64 (Said.at_ s)), AC.v (Value.int IntKind.u8 (Payload.kind (Said.p s))), AC.v (Value.int IntKind.u8 (Payload.st (Said.p s))), AC.v (Value.int IntKind.u32 (Payload.seq (Said.p s))), AC.v (Value.int IntKind.u32 (Payload.val (Said.p s)))]))]; let zz1 := [AC.v (Value.int IntKind.u8 (Payload.kind (Entry.p (f (0 + Int.toNat (Int.ofNat k)))))), AC.v (Value.int IntKind.u8 (Payload.st (Entry.p (f (0 + Int.toNat (Int.ofNat k)))))), AC.v (Value.int IntKind.u32 (Payload.seq (Entry.p (f (0 + Int.toNat (Int.ofNat k)))))), AC.v (Value.int IntKind.u32 (Payload.val (Entry.p (f (0 + Int.toNat (Int.ofNat k))))))]; let zz2 := [AC.v (Value.int IntKind.u8 (Payload.kind (Said.p s))), AC.v (Value.int IntKind.u8 (Payload.st (Said.p s))), AC.v (Value.int IntKind.u32 (Payload.seq (Said.p s))), AC.v (Value.int IntKind.u32 (Payload.val (Said.p s)))]; let zz6 := (AV.c (AC.v (Value.int IntKind.i64 (IntKind.wrap IntKind.i64 (Int.ofNat k + Int.ofNat 1))))); let zz4 := [some (lkA (List.zip olH (olV n q y k)) 0), some (lkA (List.zip olH (olV n q y k)) 5), some (lkA (List.zip olH (olV n q y k)) 7), some (lkA (List.zip olH (olV n q y k)) 8), some (AV.c (AC.v (Value.bool false))), some zz6]; let zz5 := [some IntKind.u8, some IntKind.u8, some IntKind.u32, some IntKind.u32]; (((decide (Int.ofNat k < ↑n)) = true → (((y) = true → Q (Exit.normal, [some (lkA (List.zip olH (olV n q y k)) 0), some (lkA (List.zip olH (olV n q y k)) 5), some (lkA (List.zip olH (olV n q y k)) 7), some (lkA (List.zip olH (olV n q y k)) 8), some (.c (.v (.bool true))), some zz6], zz0, 138, 1290000000000000000000000000000000000000007, [y == true, decide (Int.ofNat k < ↑n) == true], [])) ∧ ((y) = false → (((eqF zz5 zz1 zz2) = true → (((decide (Entry.frm (f (0 + Int.toNat (Int.ofNat k))) ≤ q)) = true → Q (Exit.normal, [some (lkA (List.zip olH (olV n q y k)) 0), some (lkA (List.zip olH (olV n q y k)) 5), some (lkA (List.zip olH (olV n q y k)) 7), some (lkA (List.zip olH (olV n q y k)) 8), some (.c (.v (.bool (decide (Entry.rounds (f (0 + Int.toNat (Int.ofNat k))) > Int.ofNat 0))))), some zz6], zz0, 138, 1290000000000000000000000000000000000000007, [ABlk.inb zz3 (0 + Int.toNat (Int.ofNat k)) 2, true, decide (Int.ofNat 0 ≤ Int.ofNat k ∧ Int.ofNat k < ↑n), decide (Entry.frm (f (0 + Int.toNat (Int.ofNat k))) ≤ q) == true, ABlk.inb zz3 (0 + Int.toNat (Int.ofNat k)) 1, true, decide (Int.ofNat 0 ≤ Int.ofNat k ∧ Int.ofNat k < ↑n), eqF zz5 zz1 zz2 == true, true, true, true, true, true, true, true, true, true, true, true, true, true, ABlk.inb zz3 (0 + Int.toNat (Int.ofNat k)) 6, true, true, true, true, decide (Int.ofNat 0 ≤ Int.ofNat k ∧ Int.ofNat k < ↑n), y == false, decide (Int.ofNat k < ↑n) == true], [])) ∧ ((decide (Entry.frm (f (0 + Int.toNat (Int.ofNat k))) ≤ q)) = false → Q (Exit.normal, zz4, zz0, 138, 1290000000000000000000000000000000000000007, [decide (Entry.frm (f (0 + Int.toNat (Int.ofNat k))) ≤ q) == false, ABlk.inb zz3 (0 + Int.toNat (Int.ofNat k)) 1, true, decide (Int.ofNat 0 ≤ Int.ofNat k ∧ Int.ofNat k < ↑n), eqF zz5 zz1 zz2 == true, true, true, true, true, true, true, true, true, true, true, true, true, true, ABlk.inb zz3 (0 + Int.toNat (Int.ofNat k)) 6, true, true, true, true, decide (Int.ofNat 0 ≤ Int.ofNat k ∧ Int.ofNat k < ↑n), y == false, decide (Int.ofNat k < ↑n) == true], [])))) ∧ ((eqF zz5 zz1 zz2) = false → Q (Exit.normal, zz4, zz0, 138, 1290000000000000000000000000000000000000007, [eqF zz5 zz1 zz2 == false, true, true, true, true, true, true, true, true, true, true, true, true, true, ABlk.inb zz3 (0 + Int.toNat (Int.ofNat k)) 6, true, true, true, true, decide (Int.ofNat 0 ≤ Int.ofNat k ∧ Int.ofNat k < ↑n), y == false, decide (Int.ofNat k < ↑n) == true], [])))))) ∧ ((decide (Int.ofNat k < ↑n)) = false → Q (Exit.exit 0, [some (lkA (List.zip olH (olV n q y k)) 0), some (lkA (List.zip olH (olV n q y k)) 5), some (lkA (List.zip olH (olV n q y k)) 7), some (lkA (List.zip olH (olV n q y k)) 8), some (lkA (List.zip olH (olV n q y k)) 9), some (lkA (List.zip olH (olV n q y k)) 10)], zz0, 138, 1000000000000000000000000000000000000000004, [decide (Int.ofNat k < ↑n) == false], [])))) :
    ∃ p r, olR Tryd.prog n f a b q s y k p = some r ∧ Q r :=
  two H
  (fun g1 => two g1
    (fun g2 => ⟨pD 13 4, _, by kernel_rfl, g2⟩)
    (fun g2 => two g2
      (fun g3 => two g3
        (fun g4 => ⟨pD 26 1162320523, _, by kernel_rfl, g4⟩)
        (fun g4 => ⟨pD 26 2324581990, _, by kernel_rfl, g4⟩))
      (fun g3 => ⟨pD 26 118105, _, by kernel_rfl, g3⟩)))
  (fun g1 => ⟨pD 1 2, _, by kernel_rfl, g1⟩)
abbrev olO (n : Nat) (r : Int) (y : Bool) : List (Nat × AV) := [(0, .c (.sl 0 0 0 n none)), (5, .c (.ptr 10 0 0)), (7, i64 r), (8, .c (.ptr 21 0 0)), (9, bo y)]
abbrev olS (n : Nat) (f : Nat → Entry) (a b r : Int) (s : Said) (y : Bool) : LSum := ⟨olH, olI, mkFr 138 (olO n r y), olI.zip (olBk n f a b s), 100000000000000000000000000000000000000000000000000, .exit 0⟩
def olE (P : Program) (n : Nat) (f : Nat → Entry) (z a b : Int) (path : List Dec) (lp : List (Option LSum)) : Option VF := viewF [] (fCallF (EOg P) (fC (EOg P) 300) 9 [.c (.sl 0 0 0 n none), .c (.v (.int .u32 z)), .agg [.v (.int .u8 a), .v (.int .u8 b)]] 10 10000000000000000000000000000000000000000 (stA (mS ++ [(0, rBlk 59 6 n fun i => (f i).cells)]) path lp))
theorem olT (n : Nat) (f : Nat → Entry) (z a b : Int) (y : Bool) (Q : VF → Prop) (H : let zz0 := (ABlk.mk true false 59 0 (Cs.lit [AC.v (Value.int IntKind.i64 (IntKind.wrap IntKind.i64 (rZ z + Int.ofNat 1))), AC.v (Value.int IntKind.i64 (Int.ofNat 9)), AC.v (Value.int IntKind.u8 (Int.ofNat 1)), AC.v (Value.int IntKind.u8 (Int.ofNat 0)), AC.v (Value.int IntKind.u32 (Int.ofNat 77)), AC.v (Value.int IntKind.u32 (Int.ofNat 0)), AC.v (Value.int IntKind.i64 (rZ z)), AC.v (Value.int IntKind.i64 (Int.ofNat 0)), AC.v (Value.int IntKind.u8 (Int.ofNat 1)), AC.v (Value.int IntKind.u8 (Int.ofNat 0)), AC.v (Value.int IntKind.u32 (Int.ofNat 77)), AC.v (Value.int IntKind.u32 (Int.ofNat 0)), AC.v (Value.int IntKind.i64 (rZ z)), AC.v (Value.int IntKind.i64 (Int.ofNat 3)), AC.v (Value.int IntKind.u8 (Int.ofNat 0)), AC.v (Value.int IntKind.u8 (Int.ofNat 0)), AC.v (Value.int IntKind.u32 (Int.ofNat 0)), AC.v (Value.int IntKind.u32 (Int.ofNat 0))])); let zz13 := (Int.tmod (IntKind.wrap IntKind.i64 z) (Int.ofNat 1000001)); let zz1 := (ABlk.mk true false 59 0 (Cs.lit [AC.v (Value.int IntKind.i64 (IntKind.wrap IntKind.i64 (Int.tmod (IntKind.wrap IntKind.i64 z) (Int.ofNat 1000001) + Int.ofNat 1))), AC.v (Value.int IntKind.i64 (Int.ofNat 9)), AC.v (Value.int IntKind.u8 (Int.ofNat 1)), AC.v (Value.int IntKind.u8 (Int.ofNat 0)), AC.v (Value.int IntKind.u32 (Int.ofNat 77)), AC.v (Value.int IntKind.u32 (Int.ofNat 0)), AC.v (Value.int IntKind.i64 zz13), AC.v (Value.int IntKind.i64 (Int.ofNat 0)), AC.v (Value.int IntKind.u8 (Int.ofNat 1)), AC.v (Value.int IntKind.u8 (Int.ofNat 0)), AC.v (Value.int IntKind.u32 (Int.ofNat 77)), AC.v (Value.int IntKind.u32 (Int.ofNat 0)), AC.v (Value.int IntKind.i64 zz13), AC.v (Value.int IntKind.i64 (Int.ofNat 3)), AC.v (Value.int IntKind.u8 (Int.ofNat 0)), AC.v (Value.int IntKind.u8 (Int.ofNat 0)), AC.v (Value.int IntKind.u32 (Int.ofNat 0)), AC.v (Value.int IntKind.u32 (Int.ofNat 0))])); let zz10 := (ABlk.mk false false 59 6 (Cs.arr n fun k => List.map AC.v ((fun i => Entry.cells (f i)) k))); let zz8 := (ABlk.mk true false 59 0 (Cs.lit [AC.v (Value.int IntKind.i64 (IntKind.wrap IntKind.i64 (rZ z - IntKind.wrap IntKind.i64 a))), AC.v (Value.int IntKind.i64 (IntKind.wrap IntKind.i64 (IntKind.wrap IntKind.i64 b + Int.ofNat 1))), AC.v (Value.int IntKind.u8 (Int.ofNat 1)), AC.v (Value.int IntKind.u8 (Int.ofNat 0)), AC.v (Value.int IntKind.u32 (Int.ofNat 77)), AC.v (Value.int IntKind.u32 (Int.ofNat 0))])); let zz21 := (ofS (0 + n + 3 + 1) (fun k => Prs.of entP ((fun i => if i < 0 + n + 3 then if i < 0 + n then if i < 0 then [] else elt zz10 0 0 6 (i - 0) else elt zz0 0 0 6 (i - (0 + n)) else elt zz8 0 0 6 (i - (0 + n + 3))) k)) (rZ z)); let zz2 := [AC.v (Value.bool (Said.is zz21)), AC.v (Value.int IntKind.i64 (Said.at_ zz21)), AC.v (Value.int IntKind.u8 (Payload.kind (Said.p zz21))), AC.v (Value.int IntKind.u8 (Payload.st (Said.p zz21))), AC.v (Value.int IntKind.u32 (Payload.seq (Said.p zz21))), AC.v (Value.int IntKind.u32 (Payload.val (Said.p zz21)))]; let zz14 := (ABlk.mk true false 59 0 (Cs.lit [AC.v (Value.int IntKind.i64 (IntKind.wrap IntKind.i64 (Int.tmod (IntKind.wrap IntKind.i64 z) (Int.ofNat 1000001) - IntKind.wrap IntKind.i64 a))), AC.v (Value.int IntKind.i64 (IntKind.wrap IntKind.i64 (IntKind.wrap IntKind.i64 b + Int.ofNat 1))), AC.v (Value.int IntKind.u8 (Int.ofNat 1)), AC.v (Value.int IntKind.u8 (Int.ofNat 0)), AC.v (Value.int IntKind.u32 (Int.ofNat 77)), AC.v (Value.int IntKind.u32 (Int.ofNat 0))])); let zz3 := (ofS (0 + n + 3 + 1) (fun k => Prs.of entP ((fun i => if i < 0 + n + 3 then if i < 0 + n then if i < 0 then [] else elt zz10 0 0 6 (i - 0) else elt zz1 0 0 6 (i - (0 + n)) else elt zz14 0 0 6 (i - (0 + n + 3))) k)) zz13); let zz16 := (ofS n (fun k => Prs.of entP ((fun k => List.map AC.v ((fun i => Entry.cells (f i)) k)) k)) zz13); let zz4 := [AC.v (Value.bool (Said.is zz16)), AC.v (Value.int IntKind.i64 (Said.at_ zz16)), AC.v (Value.int IntKind.u8 (Payload.kind (Said.p zz16))), AC.v (Value.int IntKind.u8 (Payload.st (Said.p zz16))), AC.v (Value.int IntKind.u32 (Payload.seq (Said.p zz16))), AC.v (Value.int IntKind.u32 (Payload.val (Said.p zz16)))]; let zz24 := (ofS (0 + n + 3) (fun k => Prs.of entP ((fun i => if i < 0 + n then if i < 0 then [] else elt zz10 0 0 6 (i - 0) else elt zz0 0 0 6 (i - (0 + n))) k)) (rZ z)); let zz5 := [AC.v (Value.bool (Said.is zz24)), AC.v (Value.int IntKind.i64 (Said.at_ zz24)), AC.v (Value.int IntKind.u8 (Payload.kind (Said.p zz24))), AC.v (Value.int IntKind.u8 (Payload.st (Said.p zz24))), AC.v (Value.int IntKind.u32 (Payload.seq (Said.p zz24))), AC.v (Value.int IntKind.u32 (Payload.val (Said.p zz24)))]; let zz25 := (ofS (0 + n + 3) (fun k => Prs.of entP ((fun i => if i < 0 + n then if i < 0 then [] else elt zz10 0 0 6 (i - 0) else elt zz1 0 0 6 (i - (0 + n))) k)) zz13); let zz6 := [AC.v (Value.bool (Said.is zz25)), AC.v (Value.int IntKind.i64 (Said.at_ zz25)), AC.v (Value.int IntKind.u8 (Payload.kind (Said.p zz25))), AC.v (Value.int IntKind.u8 (Payload.st (Said.p zz25))), AC.v (Value.int IntKind.u32 (Payload.seq (Said.p zz25))), AC.v (Value.int IntKind.u32 (Payload.val (Said.p zz25)))]; let zz7 := [LoopV Tryd.prog (loopAt Tryd.prog 9 0) olH olI [some (AV.c (AC.sl 0 0 0 n none)), some (AV.c (AC.ptr 10 0 0)), some (AV.c (AC.v (Value.int IntKind.i64 zz13))), some (AV.c (AC.ptr 21 0 0)), some (AV.c (AC.v (Value.bool false))), some (AV.c (AC.v (Value.int IntKind.i64 (Int.ofNat 0))))] [some (ABlk.mk false false 163 0 (Cs.lit [AC.v (Value.int IntKind.i64 (Int.ofNat 1)), AC.v (Value.int IntKind.i64 (Int.negSucc 0))])), some zz10, some (ABlk.mk true false 79 0 (Cs.lit [AC.v (Value.int IntKind.u8 a), AC.v (Value.int IntKind.u8 b)])), some (ABlk.mk true false 62 0 (Cs.lit zz4))] 138 27 (mkFr 138 (olO n (rZ z) y)) (List.zip olI (olBk n f a b (ofS n f (rZ z)))) 100000000000000000000000000000000000000000000000000 (Exit.exit 0) none]; let zz9 := [AC.v (Value.bool (Said.is (ofS n f (rZ z)))), AC.v (Value.int IntKind.i64 (Said.at_ (ofS n f (rZ z)))), AC.v (Value.int IntKind.u8 (Payload.kind (Said.p (ofS n f (rZ z))))), AC.v (Value.int IntKind.u8 (Payload.st (Said.p (ofS n f (rZ z))))), AC.v (Value.int IntKind.u32 (Payload.seq (Said.p (ofS n f (rZ z))))), AC.v (Value.int IntKind.u32 (Payload.val (Said.p (ofS n f (rZ z)))))]; let zz11 := [AC.v (Value.bool true), AC.v (Value.int IntKind.i64 (rZ z)), AC.v (Value.int IntKind.u8 (Int.ofNat 1)), AC.v (Value.int IntKind.u8 (Int.ofNat 0)), AC.v (Value.int IntKind.u32 (Int.ofNat 77)), AC.v (Value.int IntKind.u32 (Int.ofNat 0))]; let zz12 := [none, some IntKind.i64, some IntKind.u8, some IntKind.u8, some IntKind.u32, some IntKind.u32]; let zz15 := [AC.v (Value.bool true), AC.v (Value.int IntKind.i64 zz13), AC.v (Value.int IntKind.u8 (Int.ofNat 1)), AC.v (Value.int IntKind.u8 (Int.ofNat 0)), AC.v (Value.int IntKind.u32 (Int.ofNat 77)), AC.v (Value.int IntKind.u32 (Int.ofNat 0))]; let zz17 := (LstS.mk n (fun k => Prs.of entP ((fun k => List.map AC.v ((fun i => Entry.cells (f i)) k)) k)) [AV.c (AC.v (Value.int IntKind.i64 zz13))]); let zz18 := [AC.v (Value.bool (Said.is zz3)), AC.v (Value.int IntKind.i64 (Said.at_ zz3)), AC.v (Value.int IntKind.u8 (Payload.kind (Said.p zz3))), AC.v (Value.int IntKind.u8 (Payload.st (Said.p zz3))), AC.v (Value.int IntKind.u32 (Payload.seq (Said.p zz3))), AC.v (Value.int IntKind.u32 (Payload.val (Said.p zz3)))]; let zz19 := (LstS.mk (0 + n + 3 + 1) (fun k => Prs.of entP ((fun i => if i < 0 + n + 3 then if i < 0 + n then if i < 0 then [] else elt zz10 0 0 6 (i - 0) else elt zz0 0 0 6 (i - (0 + n)) else elt zz8 0 0 6 (i - (0 + n + 3))) k)) [AV.c (AC.v (Value.int IntKind.i64 (rZ z)))]); let zz20 := (LstS.mk (0 + n + 3) (fun k => Prs.of entP ((fun i => if i < 0 + n then if i < 0 then [] else elt zz10 0 0 6 (i - 0) else elt zz0 0 0 6 (i - (0 + n))) k)) [AV.c (AC.v (Value.int IntKind.i64 (rZ z)))]); let zz22 := (LstS.mk (0 + n + 3) (fun k => Prs.of entP ((fun i => if i < 0 + n then if i < 0 then [] else elt zz10 0 0 6 (i - 0) else elt zz1 0 0 6 (i - (0 + n))) k)) [AV.c (AC.v (Value.int IntKind.i64 zz13))]); let zz23 := (LstS.mk (0 + n + 3 + 1) (fun k => Prs.of entP ((fun i => if i < 0 + n + 3 then if i < 0 + n then if i < 0 then [] else elt zz10 0 0 6 (i - 0) else elt zz1 0 0 6 (i - (0 + n)) else elt zz14 0 0 6 (i - (0 + n + 3))) k)) [AV.c (AC.v (Value.int IntKind.i64 zz13))]); let zz26 := (Payload.kind (Said.p (ofS n f (rZ z))) != Int.ofNat 1); let zz27 := (Payload.kind (Said.p (ofS n f (rZ z))) != Int.ofNat 2); (((decide (↑n > Int.ofNat 200)) = true → Q (.c (.v (.bool true)), [], 16, [decide (↑n > Int.ofNat 200) == true], [])) ∧ ((decide (↑n > Int.ofNat 200)) = false → (((Said.is zz16) = true → (((!y) = true → Q (.c (.v (.bool false)), [], 100000000000000000000000000000000000000000000000007, [(!y) == true, Said.is zz16 == true, true, true, true, decide (n ≤ n) && (true && List.all (List.range n) fun k => Prs.is entP ((fun k => List.map AC.v ((fun i => Entry.cells (f i)) k)) k)), ofPre zz17, true, decide (↑n > Int.ofNat 200) == false], zz7)) ∧ ((!y) = false → (((Said.at_ (ofS n f (rZ z)) != rZ z) = true → Q (.c (.v (.bool false)), [], 100000000000000000000000000000000000000000000000011, [(Said.at_ (ofS n f (rZ z)) != rZ z) == true, true, true, (!y) == false, Said.is zz16 == true, true, true, true, decide (n ≤ n) && (true && List.all (List.range n) fun k => Prs.is entP ((fun k => List.map AC.v ((fun i => Entry.cells (f i)) k)) k)), ofPre zz17, true, decide (↑n > Int.ofNat 200) == false], zz7)) ∧ ((Said.at_ (ofS n f (rZ z)) != rZ z) = false → ((zz26 = true → ((zz27 = true → Q (.c (.v (.bool false)), [], 100000000000000000000000000000000000000000000000021, [zz27 == true, true, true, zz26 == true, true, true, (Said.at_ (ofS n f (rZ z)) != rZ z) == false, true, true, (!y) == false, Said.is zz16 == true, true, true, true, decide (n ≤ n) && (true && List.all (List.range n) fun k => Prs.is entP ((fun k => List.map AC.v ((fun i => Entry.cells (f i)) k)) k)), ofPre zz17, true, decide (↑n > Int.ofNat 200) == false], zz7)) ∧ (zz27 = false → (((!eqF zz12 zz5 zz9) = true → Q (.c (.v (.bool false)), [], 100000000190000000000000000000000000000000000000024, [(!eqF zz12 zz5 zz9) == true, true, true, true, true, true, true, true, true, true, true, true, true, true, true, true, true, true, true, true, decide (0 + n + 3 ≤ 0 + n + 3) && (true && List.all (List.range (0 + n + 3)) fun k => Prs.is entP ((fun i => if i < 0 + n then if i < 0 then [] else elt zz10 0 0 6 (i - 0) else elt zz0 0 0 6 (i - (0 + n))) k)), ofPre zz20, true, true, decide (0 + n ≤ 0 + n), decide ((0 + n + 3) * 32 ≤ 140737488355328), true, true, true, true, true, true, true, true, true, true, decide (0 + n ≤ n), decide (n * 32 ≤ 140737488355328), true, zz27 == false, true, true, zz26 == true, true, true, (Said.at_ (ofS n f (rZ z)) != rZ z) == false, true, true, (!y) == false, Said.is zz16 == true, true, true, true, decide (n ≤ n) && (true && List.all (List.range n) fun k => Prs.is entP ((fun k => List.map AC.v ((fun i => Entry.cells (f i)) k)) k)), ofPre zz17, true, decide (↑n > Int.ofNat 200) == false], zz7)) ∧ ((!eqF zz12 zz5 zz9) = false → (((decide (a ≤ b)) = true → (((eqF zz12 zz2 zz11 == true) = true → Q (.c (.v (.bool true)), [], 100000000390000000000000000000000000000000000000044, [(eqF zz12 zz2 zz11 == true) == true, decide (a ≤ b) == true, true, true, true, true, true, true, true, true, true, true, true, true, true, true, true, true, true, decide (0 + n + 3 + 1 ≤ 0 + n + 3 + 1) && (true && List.all (List.range (0 + n + 3 + 1)) fun k => Prs.is entP ((fun i => if i < 0 + n + 3 then if i < 0 + n then if i < 0 then [] else elt zz10 0 0 6 (i - 0) else elt zz0 0 0 6 (i - (0 + n)) else elt zz8 0 0 6 (i - (0 + n + 3))) k)), ofPre zz19, true, true, true, true, true, true, true, true, decide (0 + n + 3 ≤ 0 + n + 3), decide ((0 + n + 3 + 1) * 32 ≤ 140737488355328), true, true, true, true, true, true, true, true, true, true, true, (!eqF zz12 zz5 zz9) == false, true, true, true, true, true, true, true, true, true, true, true, true, true, true, true, true, true, true, true, decide (0 + n + 3 ≤ 0 + n + 3) && (true && List.all (List.range (0 + n + 3)) fun k => Prs.is entP ((fun i => if i < 0 + n then if i < 0 then [] else elt zz10 0 0 6 (i - 0) else elt zz0 0 0 6 (i - (0 + n))) k)), ofPre zz20, true, true, decide (0 + n ≤ 0 + n), decide ((0 + n + 3) * 32 ≤ 140737488355328), true, true, true, true, true, true, true, true, true, true, decide (0 + n ≤ n), decide (n * 32 ≤ 140737488355328), true, zz27 == false, true, true, zz26 == true, true, true, (Said.at_ (ofS n f (rZ z)) != rZ z) == false, true, true, (!y) == false, Said.is zz16 == true, true, true, true, decide (n ≤ n) && (true && List.all (List.range n) fun k => Prs.is entP ((fun k => List.map AC.v ((fun i => Entry.cells (f i)) k)) k)), ofPre zz17, true, decide (↑n > Int.ofNat 200) == false], zz7)) ∧ ((eqF zz12 zz2 zz11 == true) = false → Q (.c (.v (.bool false)), [], 100000000390000000000000000000000000000000000000044, [(eqF zz12 zz2 zz11 == true) == false, decide (a ≤ b) == true, true, true, true, true, true, true, true, true, true, true, true, true, true, true, true, true, true, decide (0 + n + 3 + 1 ≤ 0 + n + 3 + 1) && (true && List.all (List.range (0 + n + 3 + 1)) fun k => Prs.is entP ((fun i => if i < 0 + n + 3 then if i < 0 + n then if i < 0 then [] else elt zz10 0 0 6 (i - 0) else elt zz0 0 0 6 (i - (0 + n)) else elt zz8 0 0 6 (i - (0 + n + 3))) k)), ofPre zz19, true, true, true, true, true, true, true, true, decide (0 + n + 3 ≤ 0 + n + 3), decide ((0 + n + 3 + 1) * 32 ≤ 140737488355328), true, true, true, true, true, true, true, true, true, true, true, (!eqF zz12 zz5 zz9) == false, true, true, true, true, true, true, true, true, true, true, true, true, true, true, true, true, true, true, true, decide (0 + n + 3 ≤ 0 + n + 3) && (true && List.all (List.range (0 + n + 3)) fun k => Prs.is entP ((fun i => if i < 0 + n then if i < 0 then [] else elt zz10 0 0 6 (i - 0) else elt zz0 0 0 6 (i - (0 + n))) k)), ofPre zz20, true, true, decide (0 + n ≤ 0 + n), decide ((0 + n + 3) * 32 ≤ 140737488355328), true, true, true, true, true, true, true, true, true, true, decide (0 + n ≤ n), decide (n * 32 ≤ 140737488355328), true, zz27 == false, true, true, zz26 == true, true, true, (Said.at_ (ofS n f (rZ z)) != rZ z) == false, true, true, (!y) == false, Said.is zz16 == true, true, true, true, decide (n ≤ n) && (true && List.all (List.range n) fun k => Prs.is entP ((fun k => List.map AC.v ((fun i => Entry.cells (f i)) k)) k)), ofPre zz17, true, decide (↑n > Int.ofNat 200) == false], zz7)))) ∧ ((decide (a ≤ b)) = false → (((eqF zz12 zz2 zz11 == eqF zz12 zz9 zz11) = true → Q (.c (.v (.bool true)), [], 100000000390000000000000000000000000000000000000044, [(eqF zz12 zz2 zz11 == eqF zz12 zz9 zz11) == true, true, true, true, true, true, true, true, true, true, true, true, true, true, true, true, true, true, true, true, true, true, true, true, true, decide (a ≤ b) == false, true, true, true, true, true, true, true, true, true, true, true, true, true, true, true, true, true, decide (0 + n + 3 + 1 ≤ 0 + n + 3 + 1) && (true && List.all (List.range (0 + n + 3 + 1)) fun k => Prs.is entP ((fun i => if i < 0 + n + 3 then if i < 0 + n then if i < 0 then [] else elt zz10 0 0 6 (i - 0) else elt zz0 0 0 6 (i - (0 + n)) else elt zz8 0 0 6 (i - (0 + n + 3))) k)), ofPre zz19, true, true, true, true, true, true, true, true, decide (0 + n + 3 ≤ 0 + n + 3), decide ((0 + n + 3 + 1) * 32 ≤ 140737488355328), true, true, true, true, true, true, true, true, true, true, true, (!eqF zz12 zz5 zz9) == false, true, true, true, true, true, true, true, true, true, true, true, true, true, true, true, true, true, true, true, decide (0 + n + 3 ≤ 0 + n + 3) && (true && List.all (List.range (0 + n + 3)) fun k => Prs.is entP ((fun i => if i < 0 + n then if i < 0 then [] else elt zz10 0 0 6 (i - 0) else elt zz0 0 0 6 (i - (0 + n))) k)), ofPre zz20, true, true, decide (0 + n ≤ 0 + n), decide ((0 + n + 3) * 32 ≤ 140737488355328), true, true, true, true, true, true, true, true, true, true, decide (0 + n ≤ n), decide (n * 32 ≤ 140737488355328), true, zz27 == false, true, true, zz26 == true, true, true, (Said.at_ (ofS n f (rZ z)) != rZ z) == false, true, true, (!y) == false, Said.is zz16 == true, true, true, true, decide (n ≤ n) && (true && List.all (List.range n) fun k => Prs.is entP ((fun k => List.map AC.v ((fun i => Entry.cells (f i)) k)) k)), ofPre zz17, true, decide (↑n > Int.ofNat 200) == false], zz7)) ∧ ((eqF zz12 zz2 zz11 == eqF zz12 zz9 zz11) = false → Q (.c (.v (.bool false)), [], 100000000390000000000000000000000000000000000000044, [(eqF zz12 zz2 zz11 == eqF zz12 zz9 zz11) == false, true, true, true, true, true, true, true, true, true, true, true, true, true, true, true, true, true, true, true, true, true, true, true, true, decide (a ≤ b) == false, true, true, true, true, true, true, true, true, true, true, true, true, true, true, true, true, true, decide (0 + n + 3 + 1 ≤ 0 + n + 3 + 1) && (true && List.all (List.range (0 + n + 3 + 1)) fun k => Prs.is entP ((fun i => if i < 0 + n + 3 then if i < 0 + n then if i < 0 then [] else elt zz10 0 0 6 (i - 0) else elt zz0 0 0 6 (i - (0 + n)) else elt zz8 0 0 6 (i - (0 + n + 3))) k)), ofPre zz19, true, true, true, true, true, true, true, true, decide (0 + n + 3 ≤ 0 + n + 3), decide ((0 + n + 3 + 1) * 32 ≤ 140737488355328), true, true, true, true, true, true, true, true, true, true, true, (!eqF zz12 zz5 zz9) == false, true, true, true, true, true, true, true, true, true, true, true, true, true, true, true, true, true, true, true, decide (0 + n + 3 ≤ 0 + n + 3) && (true && List.all (List.range (0 + n + 3)) fun k => Prs.is entP ((fun i => if i < 0 + n then if i < 0 then [] else elt zz10 0 0 6 (i - 0) else elt zz0 0 0 6 (i - (0 + n))) k)), ofPre zz20, true, true, decide (0 + n ≤ 0 + n), decide ((0 + n + 3) * 32 ≤ 140737488355328), true, true, true, true, true, true, true, true, true, true, decide (0 + n ≤ n), decide (n * 32 ≤ 140737488355328), true, zz27 == false, true, true, zz26 == true, true, true, (Said.at_ (ofS n f (rZ z)) != rZ z) == false, true, true, (!y) == false, Said.is zz16 == true, true, true, true, decide (n ≤ n) && (true && List.all (List.range n) fun k => Prs.is entP ((fun k => List.map AC.v ((fun i => Entry.cells (f i)) k)) k)), ofPre zz17, true, decide (↑n > Int.ofNat 200) == false], zz7)))))))))) ∧ (zz26 = false → (((!eqF zz12 zz5 zz9) = true → Q (.c (.v (.bool false)), [], 100000000190000000000000000000000000000000000000020, [(!eqF zz12 zz5 zz9) == true, true, true, true, true, true, true, true, true, true, true, true, true, true, true, true, true, true, true, true, decide (0 + n + 3 ≤ 0 + n + 3) && (true && List.all (List.range (0 + n + 3)) fun k => Prs.is entP ((fun i => if i < 0 + n then if i < 0 then [] else elt zz10 0 0 6 (i - 0) else elt zz0 0 0 6 (i - (0 + n))) k)), ofPre zz20, true, true, decide (0 + n ≤ 0 + n), decide ((0 + n + 3) * 32 ≤ 140737488355328), true, true, true, true, true, true, true, true, true, true, decide (0 + n ≤ n), decide (n * 32 ≤ 140737488355328), true, zz26 == false, true, true, (Said.at_ (ofS n f (rZ z)) != rZ z) == false, true, true, (!y) == false, Said.is zz16 == true, true, true, true, decide (n ≤ n) && (true && List.all (List.range n) fun k => Prs.is entP ((fun k => List.map AC.v ((fun i => Entry.cells (f i)) k)) k)), ofPre zz17, true, decide (↑n > Int.ofNat 200) == false], zz7)) ∧ ((!eqF zz12 zz5 zz9) = false → (((decide (a ≤ b)) = true → (((eqF zz12 zz2 zz11 == true) = true → Q (.c (.v (.bool true)), [], 100000000390000000000000000000000000000000000000040, [(eqF zz12 zz2 zz11 == true) == true, decide (a ≤ b) == true, true, true, true, true, true, true, true, true, true, true, true, true, true, true, true, true, true, decide (0 + n + 3 + 1 ≤ 0 + n + 3 + 1) && (true && List.all (List.range (0 + n + 3 + 1)) fun k => Prs.is entP ((fun i => if i < 0 + n + 3 then if i < 0 + n then if i < 0 then [] else elt zz10 0 0 6 (i - 0) else elt zz0 0 0 6 (i - (0 + n)) else elt zz8 0 0 6 (i - (0 + n + 3))) k)), ofPre zz19, true, true, true, true, true, true, true, true, decide (0 + n + 3 ≤ 0 + n + 3), decide ((0 + n + 3 + 1) * 32 ≤ 140737488355328), true, true, true, true, true, true, true, true, true, true, true, (!eqF zz12 zz5 zz9) == false, true, true, true, true, true, true, true, true, true, true, true, true, true, true, true, true, true, true, true, decide (0 + n + 3 ≤ 0 + n + 3) && (true && List.all (List.range (0 + n + 3)) fun k => Prs.is entP ((fun i => if i < 0 + n then if i < 0 then [] else elt zz10 0 0 6 (i - 0) else elt zz0 0 0 6 (i - (0 + n))) k)), ofPre zz20, true, true, decide (0 + n ≤ 0 + n), decide ((0 + n + 3) * 32 ≤ 140737488355328), true, true, true, true, true, true, true, true, true, true, decide (0 + n ≤ n), decide (n * 32 ≤ 140737488355328), true, zz26 == false, true, true, (Said.at_ (ofS n f (rZ z)) != rZ z) == false, true, true, (!y) == false, Said.is zz16 == true, true, true, true, decide (n ≤ n) && (true && List.all (List.range n) fun k => Prs.is entP ((fun k => List.map AC.v ((fun i => Entry.cells (f i)) k)) k)), ofPre zz17, true, decide (↑n > Int.ofNat 200) == false], zz7)) ∧ ((eqF zz12 zz2 zz11 == true) = false → Q (.c (.v (.bool false)), [], 100000000390000000000000000000000000000000000000040, [(eqF zz12 zz2 zz11 == true) == false, decide (a ≤ b) == true, true, true, true, true, true, true, true, true, true, true, true, true, true, true, true, true, true, decide (0 + n + 3 + 1 ≤ 0 + n + 3 + 1) && (true && List.all (List.range (0 + n + 3 + 1)) fun k => Prs.is entP ((fun i => if i < 0 + n + 3 then if i < 0 + n then if i < 0 then [] else elt zz10 0 0 6 (i - 0) else elt zz0 0 0 6 (i - (0 + n)) else elt zz8 0 0 6 (i - (0 + n + 3))) k)), ofPre zz19, true, true, true, true, true, true, true, true, decide (0 + n + 3 ≤ 0 + n + 3), decide ((0 + n + 3 + 1) * 32 ≤ 140737488355328), true, true, true, true, true, true, true, true, true, true, true, (!eqF zz12 zz5 zz9) == false, true, true, true, true, true, true, true, true, true, true, true, true, true, true, true, true, true, true, true, decide (0 + n + 3 ≤ 0 + n + 3) && (true && List.all (List.range (0 + n + 3)) fun k => Prs.is entP ((fun i => if i < 0 + n then if i < 0 then [] else elt zz10 0 0 6 (i - 0) else elt zz0 0 0 6 (i - (0 + n))) k)), ofPre zz20, true, true, decide (0 + n ≤ 0 + n), decide ((0 + n + 3) * 32 ≤ 140737488355328), true, true, true, true, true, true, true, true, true, true, decide (0 + n ≤ n), decide (n * 32 ≤ 140737488355328), true, zz26 == false, true, true, (Said.at_ (ofS n f (rZ z)) != rZ z) == false, true, true, (!y) == false, Said.is zz16 == true, true, true, true, decide (n ≤ n) && (true && List.all (List.range n) fun k => Prs.is entP ((fun k => List.map AC.v ((fun i => Entry.cells (f i)) k)) k)), ofPre zz17, true, decide (↑n > Int.ofNat 200) == false], zz7)))) ∧ ((decide (a ≤ b)) = false → (((eqF zz12 zz2 zz11 == eqF zz12 zz9 zz11) = true → Q (.c (.v (.bool true)), [], 100000000390000000000000000000000000000000000000040, [(eqF zz12 zz2 zz11 == eqF zz12 zz9 zz11) == true, true, true, true, true, true, true, true, true, true, true, true, true, true, true, true, true, true, true, true, true, true, true, true, true, decide (a ≤ b) == false, true, true, true, true, true, true, true, true, true, true, true, true, true, true, true, true, true, decide (0 + n + 3 + 1 ≤ 0 + n + 3 + 1) && (true && List.all (List.range (0 + n + 3 + 1)) fun k => Prs.is entP ((fun i => if i < 0 + n + 3 then if i < 0 + n then if i < 0 then [] else elt zz10 0 0 6 (i - 0) else elt zz0 0 0 6 (i - (0 + n)) else elt zz8 0 0 6 (i - (0 + n + 3))) k)), ofPre zz19, true, true, true, true, true, true, true, true, decide (0 + n + 3 ≤ 0 + n + 3), decide ((0 + n + 3 + 1) * 32 ≤ 140737488355328), true, true, true, true, true, true, true, true, true, true, true, (!eqF zz12 zz5 zz9) == false, true, true, true, true, true, true, true, true, true, true, true, true, true, true, true, true, true, true, true, decide (0 + n + 3 ≤ 0 + n + 3) && (true && List.all (List.range (0 + n + 3)) fun k => Prs.is entP ((fun i => if i < 0 + n then if i < 0 then [] else elt zz10 0 0 6 (i - 0) else elt zz0 0 0 6 (i - (0 + n))) k)), ofPre zz20, true, true, decide (0 + n ≤ 0 + n), decide ((0 + n + 3) * 32 ≤ 140737488355328), true, true, true, true, true, true, true, true, true, true, decide (0 + n ≤ n), decide (n * 32 ≤ 140737488355328), true, zz26 == false, true, true, (Said.at_ (ofS n f (rZ z)) != rZ z) == false, true, true, (!y) == false, Said.is zz16 == true, true, true, true, decide (n ≤ n) && (true && List.all (List.range n) fun k => Prs.is entP ((fun k => List.map AC.v ((fun i => Entry.cells (f i)) k)) k)), ofPre zz17, true, decide (↑n > Int.ofNat 200) == false], zz7)) ∧ ((eqF zz12 zz2 zz11 == eqF zz12 zz9 zz11) = false → Q (.c (.v (.bool false)), [], 100000000390000000000000000000000000000000000000040, [(eqF zz12 zz2 zz11 == eqF zz12 zz9 zz11) == false, true, true, true, true, true, true, true, true, true, true, true, true, true, true, true, true, true, true, true, true, true, true, true, true, decide (a ≤ b) == false, true, true, true, true, true, true, true, true, true, true, true, true, true, true, true, true, true, decide (0 + n + 3 + 1 ≤ 0 + n + 3 + 1) && (true && List.all (List.range (0 + n + 3 + 1)) fun k => Prs.is entP ((fun i => if i < 0 + n + 3 then if i < 0 + n then if i < 0 then [] else elt zz10 0 0 6 (i - 0) else elt zz0 0 0 6 (i - (0 + n)) else elt zz8 0 0 6 (i - (0 + n + 3))) k)), ofPre zz19, true, true, true, true, true, true, true, true, decide (0 + n + 3 ≤ 0 + n + 3), decide ((0 + n + 3 + 1) * 32 ≤ 140737488355328), true, true, true, true, true, true, true, true, true, true, true, (!eqF zz12 zz5 zz9) == false, true, true, true, true, true, true, true, true, true, true, true, true, true, true, true, true, true, true, true, decide (0 + n + 3 ≤ 0 + n + 3) && (true && List.all (List.range (0 + n + 3)) fun k => Prs.is entP ((fun i => if i < 0 + n then if i < 0 then [] else elt zz10 0 0 6 (i - 0) else elt zz0 0 0 6 (i - (0 + n))) k)), ofPre zz20, true, true, decide (0 + n ≤ 0 + n), decide ((0 + n + 3) * 32 ≤ 140737488355328), true, true, true, true, true, true, true, true, true, true, decide (0 + n ≤ n), decide (n * 32 ≤ 140737488355328), true, zz26 == false, true, true, (Said.at_ (ofS n f (rZ z)) != rZ z) == false, true, true, (!y) == false, Said.is zz16 == true, true, true, true, decide (n ≤ n) && (true && List.all (List.range n) fun k => Prs.is entP ((fun k => List.map AC.v ((fun i => Entry.cells (f i)) k)) k)), ofPre zz17, true, decide (↑n > Int.ofNat 200) == false], zz7)))))))))))))) ∧ ((Said.is zz16) = false → (((!eqF zz12 zz6 zz4) = true → Q (.c (.v (.bool false)), [], 190000000000000000000000000000000000000029, [(!eqF zz12 zz6 zz4) == true, true, true, true, true, true, true, true, true, true, true, true, true, true, true, true, true, true, true, true, decide (0 + n + 3 ≤ 0 + n + 3) && (true && List.all (List.range (0 + n + 3)) fun k => Prs.is entP ((fun i => if i < 0 + n then if i < 0 then [] else elt zz10 0 0 6 (i - 0) else elt zz1 0 0 6 (i - (0 + n))) k)), ofPre zz22, true, true, decide (0 + n ≤ 0 + n), decide ((0 + n + 3) * 32 ≤ 140737488355328), true, true, true, true, true, true, true, true, true, true, decide (0 + n ≤ n), decide (n * 32 ≤ 140737488355328), true, Said.is zz16 == false, true, true, true, decide (n ≤ n) && (true && List.all (List.range n) fun k => Prs.is entP ((fun k => List.map AC.v ((fun i => Entry.cells (f i)) k)) k)), ofPre zz17, true, decide (↑n > Int.ofNat 200) == false], [])) ∧ ((!eqF zz12 zz6 zz4) = false → (((decide (a ≤ b)) = true → (((eqF zz12 zz18 zz15 == true) = true → Q (.c (.v (.bool true)), [], 390000000000000000000000000000000000000049, [(eqF zz12 zz18 zz15 == true) == true, decide (a ≤ b) == true, true, true, true, true, true, true, true, true, true, true, true, true, true, true, true, true, true, decide (0 + n + 3 + 1 ≤ 0 + n + 3 + 1) && (true && List.all (List.range (0 + n + 3 + 1)) fun k => Prs.is entP ((fun i => if i < 0 + n + 3 then if i < 0 + n then if i < 0 then [] else elt zz10 0 0 6 (i - 0) else elt zz1 0 0 6 (i - (0 + n)) else elt zz14 0 0 6 (i - (0 + n + 3))) k)), ofPre zz23, true, true, true, true, true, true, true, true, decide (0 + n + 3 ≤ 0 + n + 3), decide ((0 + n + 3 + 1) * 32 ≤ 140737488355328), true, true, true, true, true, true, true, true, true, true, true, (!eqF zz12 zz6 zz4) == false, true, true, true, true, true, true, true, true, true, true, true, true, true, true, true, true, true, true, true, decide (0 + n + 3 ≤ 0 + n + 3) && (true && List.all (List.range (0 + n + 3)) fun k => Prs.is entP ((fun i => if i < 0 + n then if i < 0 then [] else elt zz10 0 0 6 (i - 0) else elt zz1 0 0 6 (i - (0 + n))) k)), ofPre zz22, true, true, decide (0 + n ≤ 0 + n), decide ((0 + n + 3) * 32 ≤ 140737488355328), true, true, true, true, true, true, true, true, true, true, decide (0 + n ≤ n), decide (n * 32 ≤ 140737488355328), true, Said.is zz16 == false, true, true, true, decide (n ≤ n) && (true && List.all (List.range n) fun k => Prs.is entP ((fun k => List.map AC.v ((fun i => Entry.cells (f i)) k)) k)), ofPre zz17, true, decide (↑n > Int.ofNat 200) == false], [])) ∧ ((eqF zz12 zz18 zz15 == true) = false → Q (.c (.v (.bool false)), [], 390000000000000000000000000000000000000049, [(eqF zz12 zz18 zz15 == true) == false, decide (a ≤ b) == true, true, true, true, true, true, true, true, true, true, true, true, true, true, true, true, true, true, decide (0 + n + 3 + 1 ≤ 0 + n + 3 + 1) && (true && List.all (List.range (0 + n + 3 + 1)) fun k => Prs.is entP ((fun i => if i < 0 + n + 3 then if i < 0 + n then if i < 0 then [] else elt zz10 0 0 6 (i - 0) else elt zz1 0 0 6 (i - (0 + n)) else elt zz14 0 0 6 (i - (0 + n + 3))) k)), ofPre zz23, true, true, true, true, true, true, true, true, decide (0 + n + 3 ≤ 0 + n + 3), decide ((0 + n + 3 + 1) * 32 ≤ 140737488355328), true, true, true, true, true, true, true, true, true, true, true, (!eqF zz12 zz6 zz4) == false, true, true, true, true, true, true, true, true, true, true, true, true, true, true, true, true, true, true, true, decide (0 + n + 3 ≤ 0 + n + 3) && (true && List.all (List.range (0 + n + 3)) fun k => Prs.is entP ((fun i => if i < 0 + n then if i < 0 then [] else elt zz10 0 0 6 (i - 0) else elt zz1 0 0 6 (i - (0 + n))) k)), ofPre zz22, true, true, decide (0 + n ≤ 0 + n), decide ((0 + n + 3) * 32 ≤ 140737488355328), true, true, true, true, true, true, true, true, true, true, decide (0 + n ≤ n), decide (n * 32 ≤ 140737488355328), true, Said.is zz16 == false, true, true, true, decide (n ≤ n) && (true && List.all (List.range n) fun k => Prs.is entP ((fun k => List.map AC.v ((fun i => Entry.cells (f i)) k)) k)), ofPre zz17, true, decide (↑n > Int.ofNat 200) == false], [])))) ∧ ((decide (a ≤ b)) = false → (((eqF zz12 zz18 zz15 == eqF zz12 zz4 zz15) = true → Q (.c (.v (.bool true)), [], 390000000000000000000000000000000000000049, [(eqF zz12 zz18 zz15 == eqF zz12 zz4 zz15) == true, true, true, true, true, true, true, true, true, true, true, true, true, true, true, true, true, true, true, true, true, true, true, true, true, decide (a ≤ b) == false, true, true, true, true, true, true, true, true, true, true, true, true, true, true, true, true, true, decide (0 + n + 3 + 1 ≤ 0 + n + 3 + 1) && (true && List.all (List.range (0 + n + 3 + 1)) fun k => Prs.is entP ((fun i => if i < 0 + n + 3 then if i < 0 + n then if i < 0 then [] else elt zz10 0 0 6 (i - 0) else elt zz1 0 0 6 (i - (0 + n)) else elt zz14 0 0 6 (i - (0 + n + 3))) k)), ofPre zz23, true, true, true, true, true, true, true, true, decide (0 + n + 3 ≤ 0 + n + 3), decide ((0 + n + 3 + 1) * 32 ≤ 140737488355328), true, true, true, true, true, true, true, true, true, true, true, (!eqF zz12 zz6 zz4) == false, true, true, true, true, true, true, true, true, true, true, true, true, true, true, true, true, true, true, true, decide (0 + n + 3 ≤ 0 + n + 3) && (true && List.all (List.range (0 + n + 3)) fun k => Prs.is entP ((fun i => if i < 0 + n then if i < 0 then [] else elt zz10 0 0 6 (i - 0) else elt zz1 0 0 6 (i - (0 + n))) k)), ofPre zz22, true, true, decide (0 + n ≤ 0 + n), decide ((0 + n + 3) * 32 ≤ 140737488355328), true, true, true, true, true, true, true, true, true, true, decide (0 + n ≤ n), decide (n * 32 ≤ 140737488355328), true, Said.is zz16 == false, true, true, true, decide (n ≤ n) && (true && List.all (List.range n) fun k => Prs.is entP ((fun k => List.map AC.v ((fun i => Entry.cells (f i)) k)) k)), ofPre zz17, true, decide (↑n > Int.ofNat 200) == false], [])) ∧ ((eqF zz12 zz18 zz15 == eqF zz12 zz4 zz15) = false → Q (.c (.v (.bool false)), [], 390000000000000000000000000000000000000049, [(eqF zz12 zz18 zz15 == eqF zz12 zz4 zz15) == false, true, true, true, true, true, true, true, true, true, true, true, true, true, true, true, true, true, true, true, true, true, true, true, true, decide (a ≤ b) == false, true, true, true, true, true, true, true, true, true, true, true, true, true, true, true, true, true, decide (0 + n + 3 + 1 ≤ 0 + n + 3 + 1) && (true && List.all (List.range (0 + n + 3 + 1)) fun k => Prs.is entP ((fun i => if i < 0 + n + 3 then if i < 0 + n then if i < 0 then [] else elt zz10 0 0 6 (i - 0) else elt zz1 0 0 6 (i - (0 + n)) else elt zz14 0 0 6 (i - (0 + n + 3))) k)), ofPre zz23, true, true, true, true, true, true, true, true, decide (0 + n + 3 ≤ 0 + n + 3), decide ((0 + n + 3 + 1) * 32 ≤ 140737488355328), true, true, true, true, true, true, true, true, true, true, true, (!eqF zz12 zz6 zz4) == false, true, true, true, true, true, true, true, true, true, true, true, true, true, true, true, true, true, true, true, decide (0 + n + 3 ≤ 0 + n + 3) && (true && List.all (List.range (0 + n + 3)) fun k => Prs.is entP ((fun i => if i < 0 + n then if i < 0 then [] else elt zz10 0 0 6 (i - 0) else elt zz1 0 0 6 (i - (0 + n))) k)), ofPre zz22, true, true, decide (0 + n ≤ 0 + n), decide ((0 + n + 3) * 32 ≤ 140737488355328), true, true, true, true, true, true, true, true, true, true, decide (0 + n ≤ n), decide (n * 32 ≤ 140737488355328), true, Said.is zz16 == false, true, true, true, decide (n ≤ n) && (true && List.all (List.range n) fun k => Prs.is entP ((fun k => List.map AC.v ((fun i => Entry.cells (f i)) k)) k)), ofPre zz17, true, decide (↑n > Int.ofNat 200) == false], [])))))))))))) :
    ∃ p r, olE Tryd.prog n f z a b p [some (olS n f a b (rZ z) (ofS n f (rZ z)) y)] = some r ∧ Q r :=
  two H
  (fun g1 => ⟨pD 1 1, _, by kernel_rfl, g1⟩)
  (fun g1 => two g1
    (fun g2 => two g2
      (fun g3 => ⟨pD 13 14, _, by kernel_rfl, g3⟩)
      (fun g3 => two g3
        (fun g4 => ⟨pD 13 752, _, by kernel_rfl, g4⟩)
        (fun g4 => two g4
          (fun g5 => two g5
            (fun g6 => ⟨pD 17 43225349, _, by kernel_rfl, g6⟩)
            (fun g6 => two g6
              (fun g7 => ⟨pD 18 215412233, _, by kernel_rfl, g7⟩)
              (fun g7 => two g7
                (fun g8 => two g8
                  (fun g9 => ⟨pD 24 94875151712, _, by kernel_rfl, g9⟩)
                  (fun g9 => ⟨pD 24 189018330539, _, by kernel_rfl, g9⟩))
                (fun g8 => two g8
                  (fun g9 => ⟨pD 24 95262572201, _, by kernel_rfl, g9⟩)
                  (fun g9 => ⟨pD 24 189405751028, _, by kernel_rfl, g9⟩)))))
          (fun g5 => two g5
            (fun g6 => ⟨pD 18 129495938, _, by kernel_rfl, g6⟩)
            (fun g6 => two g6
              (fun g7 => two g7
                (fun g8 => ⟨pD 24 94789235417, _, by kernel_rfl, g8⟩)
                (fun g8 => ⟨pD 24 188932414244, _, by kernel_rfl, g8⟩))
              (fun g7 => two g7
                (fun g8 => ⟨pD 24 95176655906, _, by kernel_rfl, g8⟩)
                (fun g8 => ⟨pD 24 189319834733, _, by kernel_rfl, g8⟩)))))))
    (fun g2 => two g2
      (fun g3 => ⟨pD 3 17, _, by kernel_rfl, g3⟩)
      (fun g3 => two g3
        (fun g4 => two g4
          (fun g5 => ⟨pD 9 6614, _, by kernel_rfl, g5⟩)
          (fun g5 => ⟨pD 9 13175, _, by kernel_rfl, g5⟩))
        (fun g4 => two g4
          (fun g5 => ⟨pD 9 6641, _, by kernel_rfl, g5⟩)
          (fun g5 => ⟨pD 9 13202, _, by kernel_rfl, g5⟩)))))
end Go.Proofs.YthekiiagacnhkaaDoor
end
/- HostsLast: the sum of its loop. -/
section
namespace Go.Proofs.YthekiiagacnhkaaDoor
open Go.RowKit

def hitB (s : Said) (q : Int) (e : Entry) : Bool := eqF [some .u8, some .u8, some .u32, some .u32] [.v (.int .u8 e.p.kind), .v (.int .u8 e.p.st), .v (.int .u32 e.p.seq), .v (.int .u32 e.p.val)] [.v (.int .u8 s.p.kind), .v (.int .u8 s.p.st), .v (.int .u32 s.p.seq), .v (.int .u32 s.p.val)] && (decide (e.frm ≤ q) && decide (e.rounds > Int.ofNat 0))
def frB (f : Nat → Entry) (s : Said) (q : Int) (k : Nat) : Bool := (List.range k).any fun i => hitB s q (f i)
theorem frB_succ (f : Nat → Entry) (s : Said) (q : Int) (k : Nat) : frB f s q (k + 1) = (frB f s q k || hitB s q (f k)) := by
  unfold frB
  rw [List.range_succ, List.any_append]
  simp
theorem olBk_low {N n : Nat} {f : Nat → Entry} {a b : Int} {s : Said} : ∀ x ∈ olBk n f a b s, lowB N x := by
  intro x hx
  simp only [List.mem_cons, List.not_mem_nil, or_false] at hx
  rcases hx with rfl | rfl | rfl | rfl
  · exact low_lit rfl
  · exact rBlk_low
  · exact low_lit rfl
  · exact low_lit rfl
theorem ol_sum (n : Nat) (f : Nat → Entry) (a b q : Int) (s : Said) (hn : n ≤ 200) :
    LoopV Tryd.prog (loopAt Tryd.prog 9 0) olH olI ((olV n q (frB f s q 0) 0).map some) ((olBk n f a b s).map some) 138 27 (mkFr 138 (olO n q (frB f s q n))) (olI.zip (olBk n f a b s)) 100000000000000000000000000000000000000000000000000 (.exit 0) none := by
  have e0 : ∀ k : Nat, 0 + Int.toNat (Int.ofNat k) = k := fun k => by simp
  have hw : ∀ k, k < n → IntKind.wrap IntKind.i64 (Int.ofNat k + Int.ofNat 1) = Int.ofNat (k + 1) := fun k hk => by rw [wrap_nat _ (by simp; omega) (by simp; omega)]; rfl
  refine scan_ob hEOg (fuel := 100) (str := 10000000000000000000000000000000000000000) (nh := 1000000000000000000000000000000000000000000) (n' := 100000000000000000000000000000000000000000000000000) olH [] olI (fun k => olV n q (frB f s q k) k) (olBk n f a b s) n (by decide) (by decide) (by unfold lim; omega) (by simp) (fun _ => ⟨rfl, rfl⟩) (by kernel_rfl) (fun _ _ => rfl) olBk_low ?_ ?_
  · intro k hk
    refine oll n f a b q s (frB f s q k) k _ ⟨fun c1 => ⟨fun c2 => ?_, fun c2 => ⟨fun c3 => ⟨fun c4 => ?_, fun c4 => ?_⟩, fun c3 => ?_⟩⟩, fun c1 => ?_⟩
    · refine ⟨⟨?_, rfl, by dsimp only; omega, rfl⟩, rfl, ?_, BL.refl (olBk n f a b s)⟩
      · simp only [allT, List.forall_mem_cons, c1, c2]
        simp
      · dsimp only; rw [hw k hk, frB_succ, c2]; rfl
    · refine ⟨⟨?_, rfl, by dsimp only; omega, rfl⟩, rfl, ?_, BL.refl (olBk n f a b s)⟩
      · simp only [allT, List.forall_mem_cons, c1, c2, c3, c4]
        simp only [e0]
        simp [inb_arr, hk]
      · have h3 : hitB s q (f k) = decide ((f k).rounds > Int.ofNat 0) := by
          simp only [e0] at c3 c4
          unfold hitB
          rw [c3, c4]; rfl
        dsimp only; rw [hw k hk, frB_succ, c2, h3]; simp only [e0]; rfl
    · refine ⟨⟨?_, rfl, by dsimp only; omega, rfl⟩, rfl, ?_, BL.refl (olBk n f a b s)⟩
      · simp only [allT, List.forall_mem_cons, c1, c2, c3, c4]
        simp only [e0]
        simp [inb_arr, hk]
      · have h3 : hitB s q (f k) = false := by
          simp only [e0] at c3 c4
          unfold hitB
          rw [c3, c4]; rfl
        dsimp only; rw [hw k hk, frB_succ, c2, h3]; rfl
    · refine ⟨⟨?_, rfl, by dsimp only; omega, rfl⟩, rfl, ?_, BL.refl (olBk n f a b s)⟩
      · simp only [allT, List.forall_mem_cons, c1, c2, c3]
        simp only [e0]
        simp [inb_arr, hk]
      · have h3 : hitB s q (f k) = false := by
          simp only [e0] at c3
          unfold hitB
          rw [c3]; rfl
        dsimp only; rw [hw k hk, frB_succ, c2, h3]; rfl
    · simp at c1; omega
  · refine oll n f a b q s (frB f s q n) n _ ⟨fun c1 => ?_, fun c1 => ?_⟩
    · simp at c1
    · refine ⟨⟨by simp only [allT, List.forall_mem_cons, c1]; simp, rfl, by dsimp only; omega, rfl⟩, rfl, fun p hp => ?_, mf_all (by kernel_rfl) olBk_low rfl⟩
      simp only [List.mem_cons, List.not_mem_nil, or_false] at hp
      rcases hp with rfl | rfl | rfl | rfl | rfl
      · exact ⟨rfl, .head _⟩
      · exact ⟨rfl, .tail _ (.head _)⟩
      · exact ⟨rfl, .tail _ (.tail _ (.head _))⟩
      · exact ⟨rfl, .tail _ (.tail _ (.tail _ (.head _)))⟩
      · exact ⟨rfl, .tail _ (.tail _ (.tail _ (.tail _ (.head _))))⟩
end Go.Proofs.YthekiiagacnhkaaDoor
end
/- HostsLast: what its run answers. -/
section
namespace Go.Proofs.YthekiiagacnhkaaDoor
open Go.RowKit

abbrev lB (n : Nat) (f : Nat → Entry) : ABlk := rBlk 59 6 n fun i => (f i).cells
def zAB (r : Int) : ABlk := ⟨true, false, 59, 0, .lit [.v (.int .i64 (IntKind.wrap .i64 (r + Int.ofNat 1))), .v (.int .i64 (Int.ofNat 9)), .v (.int .u8 (Int.ofNat 1)), .v (.int .u8 (Int.ofNat 0)), .v (.int .u32 (Int.ofNat 77)), .v (.int .u32 (Int.ofNat 0)), .v (.int .i64 r), .v (.int .i64 (Int.ofNat 0)), .v (.int .u8 (Int.ofNat 1)), .v (.int .u8 (Int.ofNat 0)), .v (.int .u32 (Int.ofNat 77)), .v (.int .u32 (Int.ofNat 0)), .v (.int .i64 r), .v (.int .i64 (Int.ofNat 3)), .v (.int .u8 (Int.ofNat 0)), .v (.int .u8 (Int.ofNat 0)), .v (.int .u32 (Int.ofNat 0)), .v (.int .u32 (Int.ofNat 0))]⟩
def zCB (r a b : Int) : ABlk := ⟨true, false, 59, 0, .lit [.v (.int .i64 (IntKind.wrap .i64 (r - IntKind.wrap .i64 a))), .v (.int .i64 (IntKind.wrap .i64 (IntKind.wrap .i64 b + Int.ofNat 1))), .v (.int .u8 (Int.ofNat 1)), .v (.int .u8 (Int.ofNat 0)), .v (.int .u32 (Int.ofNat 77)), .v (.int .u32 (Int.ofNat 0))]⟩
def l3 (n : Nat) (f : Nat → Entry) (r : Int) : Nat → List AC := fun i => if i < 0 + n then if i < 0 then [] else elt (lB n f) 0 0 6 (i - 0) else elt (zAB r) 0 0 6 (i - (0 + n))
def l4 (n : Nat) (f : Nat → Entry) (r a b : Int) : Nat → List AC := fun i => if i < 0 + n + 3 then if i < 0 + n then if i < 0 then [] else elt (lB n f) 0 0 6 (i - 0) else elt (zAB r) 0 0 6 (i - (0 + n)) else elt (zCB r a b) 0 0 6 (i - (0 + n + 3))
theorem l3_of {n : Nat} {f : Nat → Entry} {r : Int} (a b : Int) (h0 : 0 ≤ r) (h1 : r ≤ 1000000) {i : Nat} (hi : i < n + 3) : entP.of (l3 n f r i) = lsF n f r a b i ∧ entP.is (l3 n f r i) = true := by
  have w : IntKind.wrap .i64 (r + Int.ofNat 1) = r + 1 := by rw [wrap_nat _ (by simp; omega) (by simp; omega)]; rfl
  by_cases c : i < n
  · have e : l3 n f r i = (f i).cells.map .v := by
      unfold l3
      rw [if_pos (by omega), if_neg (by omega)]
      simp [elt, rBlk]
    rw [e]
    unfold lsF
    rw [if_pos c]
    exact ⟨rfl, rfl⟩
  · have e : l3 n f r i = elt (zAB r) 0 0 6 (i - n) := by
      unfold l3
      rw [if_neg (by omega), Nat.zero_add]
    rw [e]
    unfold lsF zAB
    rw [w]
    rcases (show i = n ∨ i = n + 1 ∨ i = n + 2 by omega) with rfl | rfl | rfl
    · rw [if_neg (by omega), if_pos rfl, Nat.sub_self]; exact ⟨rfl, rfl⟩
    · rw [if_neg (by omega), if_neg (by omega), if_pos rfl, show n + 1 - n = 1 by omega]; exact ⟨rfl, rfl⟩
    · rw [if_neg (by omega), if_neg (by omega), if_neg (by omega), if_pos rfl, show n + 2 - n = 2 by omega]; exact ⟨rfl, rfl⟩
theorem l4_of {n : Nat} {f : Nat → Entry} {r a b : Int} (h0 : 0 ≤ r) (h1 : r ≤ 1000000) (a0 : 0 ≤ a) (a1 : a ≤ 255) (b0 : 0 ≤ b) (b1 : b ≤ 255) {i : Nat} (hi : i < n + 4) : entP.of (l4 n f r a b i) = lsF n f r a b i ∧ entP.is (l4 n f r a b i) = true := by
  have w1 : IntKind.wrap .i64 a = a := wrap_nat _ (by omega) (by omega)
  have w2 : IntKind.wrap .i64 b = b := wrap_nat _ (by omega) (by omega)
  have w3 : IntKind.wrap .i64 (r - a) = r - a := wrap_nat _ (by omega) (by omega)
  have w4 : IntKind.wrap .i64 (b + Int.ofNat 1) = b + 1 := by rw [wrap_nat _ (by simp; omega) (by simp; omega)]; rfl
  by_cases c : i < n + 3
  · have e : l4 n f r a b i = l3 n f r i := by
      unfold l4 l3
      rw [if_pos (by omega)]
    rw [e]
    exact l3_of a b h0 h1 c
  · obtain rfl : i = n + 3 := by omega
    have e : l4 n f r a b (n + 3) = elt (zCB r a b) 0 0 6 0 := by
      unfold l4
      rw [if_neg (by omega), show n + 3 - (0 + n + 3) = 0 by omega]
    rw [e]
    unfold lsF zCB
    rw [w1, w2, w3, w4, if_neg (by omega), if_neg (by omega), if_neg (by omega), if_neg (by omega)]
    exact ⟨rfl, rfl⟩
theorem lsF_in {n : Nat} {f : Nat → Entry} {r a b : Int} (h0 : 0 ≤ r) (h1 : r ≤ 1000000) (a0 : 0 ≤ a) (a1 : a ≤ 255) (b0 : 0 ≤ b) (b1 : b ≤ 255) (hf : ∀ i, entB (f i) = true) (i : Nat) : entB (lsF n f r a b i) = true := by
  unfold lsF
  split
  · exact hf i
  · split
    · simp [entB]; omega
    · split
      · simp [entB]; omega
      · split
        · simp [entB]; omega
        · simp [entB]; omega
theorem rZ_in {z : Int} (h0 : 0 ≤ z) (h1 : z ≤ 4294967295) : 0 ≤ rZ z ∧ rZ z ≤ 1000000 := by
  unfold rZ
  rw [wrap_nat z (by omega) (by omega)]
  have e1 : 0 ≤ Int.tmod z (Int.ofNat 1000001) := Int.tmod_nonneg _ h0
  have e2 : Int.tmod z (Int.ofNat 1000001) < 1000001 := Int.tmod_lt_of_pos _ (by simp)
  omega
end Go.Proofs.YthekiiagacnhkaaDoor
end
/- HostsLast: what its run answers. -/
section
namespace Go.Proofs.YthekiiagacnhkaaDoor
open Go.RowKit

abbrev sK : List (Option IntKind) := [none, some .i64, some .u8, some .u8, some .u32, some .u32]
def sC (s : Said) : List AC := [.v (.bool s.is), .v (.int .i64 s.at_), .v (.int .u8 s.p.kind), .v (.int .u8 s.p.st), .v (.int .u32 s.p.seq), .v (.int .u32 s.p.val)]
def xC (r : Int) : List AC := [.v (.bool true), .v (.int .i64 r), .v (.int .u8 (Int.ofNat 1)), .v (.int .u8 (Int.ofNat 0)), .v (.int .u32 (Int.ofNat 77)), .v (.int .u32 (Int.ofNat 0))]
theorem no_tf {p : Prop} {b : Bool} (h1 : b = true) (h2 : b = false) : p := by rw [h1] at h2; cases h2
theorem tt_of {b : Bool} (h : b = true) : (b == true) = true := by rw [h]; rfl
theorem ff_of {b : Bool} (h : b = false) : (b == false) = true := by rw [h]; rfl
structure OlF (n : Nat) (f : Nat → Entry) (r a b : Int) : Prop where
  s3 : ofS (0 + n + 3) (fun k => entP.of (l3 n f r k)) r = ofS n f r
  s4 : ofS (0 + n + 3 + 1) (fun k => entP.of (l4 n f r a b k)) r = if a ≤ b then ⟨true, r, ⟨1, 0, 77, 0⟩⟩ else ofS n f r
  p0 : ofPre ⟨n, fun k => entP.of ((f k).cells.map .v), [.c (.v (.int .i64 r))]⟩ = true
  p3 : ofPre ⟨0 + n + 3, fun k => entP.of (l3 n f r k), [.c (.v (.int .i64 r))]⟩ = true
  p4 : ofPre ⟨0 + n + 3 + 1, fun k => entP.of (l4 n f r a b k), [.c (.v (.int .i64 r))]⟩ = true
  q0 : (decide (n ≤ n) && (true && (List.range n).all fun k => entP.is ((f k).cells.map .v))) = true
  q3 : (decide (0 + n + 3 ≤ 0 + n + 3) && (true && (List.range (0 + n + 3)).all fun k => entP.is (l3 n f r k))) = true
  q4 : (decide (0 + n + 3 + 1 ≤ 0 + n + 3 + 1) && (true && (List.range (0 + n + 3 + 1)).all fun k => entP.is (l4 n f r a b k))) = true
theorem olF (n : Nat) (f : Nat → Entry) (r a b : Int) (hn : n ≤ 200) (h0 : 0 ≤ r) (h1 : r ≤ 1000000) (a0 : 0 ≤ a) (a1 : a ≤ 255) (b0 : 0 ≤ b) (b1 : b ≤ 255) (hf : ∀ i, entB (f i) = true) : OlF n f r a b := by
  have hr : rndOk r = true := by simp [rndOk]; omega
  have z : 0 + n = n := Nat.zero_add n
  have e3 : ∀ i, i < n + 3 → entP.of (l3 n f r i) = lsF n f r a b i := fun i hi => (l3_of a b h0 h1 hi).1
  have e4 : ∀ i, i < n + 4 → entP.of (l4 n f r a b i) = lsF n f r a b i := fun i hi => (l4_of h0 h1 a0 a1 b0 b1 hi).1
  have hl := lsF_in (n := n) h0 h1 a0 a1 b0 b1 hf
  refine ⟨?_, ?_, ?_, ?_, ?_, ?_, ?_, ?_⟩
  · rw [z, ofS_congr e3, ls_more hr]
  · rw [z, show n + 3 + 1 = n + 4 from rfl, ofS_congr e4, ls_last hr a0 b0]
  · show (decide (n ≤ 1000000) && (List.range n).all fun i => entB (f i)) = true
    rw [decide_eq_true (by omega), Bool.true_and]
    exact List.all_eq_true.2 fun i _ => hf i
  · show (decide (0 + n + 3 ≤ 1000000) && (List.range (0 + n + 3)).all fun i => entB (entP.of (l3 n f r i))) = true
    rw [decide_eq_true (by omega), Bool.true_and]
    exact List.all_eq_true.2 fun i hi => by rw [e3 i (by have := List.mem_range.1 hi; omega)]; exact hl i
  · show (decide (0 + n + 3 + 1 ≤ 1000000) && (List.range (0 + n + 3 + 1)).all fun i => entB (entP.of (l4 n f r a b i))) = true
    rw [decide_eq_true (by omega), Bool.true_and]
    exact List.all_eq_true.2 fun i hi => by rw [e4 i (by have := List.mem_range.1 hi; omega)]; exact hl i
  · rw [decide_eq_true (Nat.le_refl n), Bool.true_and, Bool.true_and]
    exact List.all_eq_true.2 fun i _ => rfl
  · rw [decide_eq_true (Nat.le_refl _), Bool.true_and, Bool.true_and]
    exact List.all_eq_true.2 fun i hi => (l3_of a b h0 h1 (by have := List.mem_range.1 hi; omega)).2
  · rw [decide_eq_true (Nat.le_refl _), Bool.true_and, Bool.true_and]
    exact List.all_eq_true.2 fun i hi => (l4_of h0 h1 a0 a1 b0 b1 (by have := List.mem_range.1 hi; omega)).2
theorem hit_fr {n : Nat} {f : Nat → Entry} {r : Int} (h : (ofS n f r).is = true) : frB f (ofS n f r) r n = true ∧ (ofS n f r).at_ = r ∧ ((ofS n f r).p.kind = 1 ∨ (ofS n f r).p.kind = 2) := by
  obtain ⟨j, hj, e, ho⟩ := ofS_is h
  obtain ⟨k1, k2, k3, k4⟩ := (offB_iff _ _).1 ho
  rw [e]
  refine ⟨?_, rfl, k1⟩
  unfold frB
  refine List.any_eq_true.2 ⟨j, by simpa using hj, ?_⟩
  unfold hitB
  rw [eqF_og, Bool.true_and, decide_eq_true k2, Bool.true_and]
  exact decide_eq_true k3
theorem x1 {n : Nat} {f : Nat → Entry} {r a b : Int} (F : OlF n f r a b) : (!eqF sK (sC (ofS (0 + n + 3) (fun k => entP.of (l3 n f r k)) r)) (sC (ofS n f r))) = false := by
  rw [F.s3, eqF_og]; rfl
theorem x2 {n : Nat} {f : Nat → Entry} {r a b : Int} (F : OlF n f r a b) (h : decide (a ≤ b) = true) : (eqF sK (sC (ofS (0 + n + 3 + 1) (fun k => entP.of (l4 n f r a b k)) r)) (xC r) == true) = true := by
  rw [F.s4, if_pos (of_decide_eq_true h)]
  show (eqF sK (xC r) (xC r) == true) = true
  rw [eqF_og]; rfl
theorem x3 {n : Nat} {f : Nat → Entry} {r a b : Int} (F : OlF n f r a b) (h : decide (a ≤ b) = false) : (eqF sK (sC (ofS (0 + n + 3 + 1) (fun k => entP.of (l4 n f r a b k)) r)) (xC r) == eqF sK (sC (ofS n f r)) (xC r)) = true := by
  rw [F.s4, if_neg (of_decide_eq_false h)]
  simp
end Go.Proofs.YthekiiagacnhkaaDoor
end
/- HostsLast: its run. -/
section
namespace Go.Proofs.YthekiiagacnhkaaDoor
open Go.RowKit

set_option maxRecDepth 1000000 in
set_option maxHeartbeats 2000000 in
theorem ol_run (n : Nat) (f : Nat → Entry) (z a b : Int) (hf : ∀ i, entB (f i) = true) (z0 : 0 ≤ z) (z1 : z ≤ 4294967295) (a0 : 0 ≤ a) (a1 : a ≤ 255) (b0 : 0 ≤ b) (b1 : b ≤ 255) : ∃ p lp r, olE Tryd.prog n f z a b p lp = some r ∧ GoodF (bo true) r := by
  obtain ⟨r0, r1⟩ := rZ_in z0 z1
  have hF : n ≤ 200 → OlF n f (rZ z) a b := fun hn => olF n f (rZ z) a b hn r0 r1 a0 a1 b0 b1 hf
  have hN : decide ((n : Int) > Int.ofNat 200) = false → n ≤ 200 := fun h => by simp at h; omega
  have hs : n ≤ 200 → _ := fun hn => ol_sum n f a b (rZ z) (ofS n f (rZ z)) hn
  have h1 : (ofS n f (rZ z)).is = true → frB f (ofS n f (rZ z)) (rZ z) n = true := fun h => (hit_fr h).1
  have h2 : (ofS n f (rZ z)).is = true → ((ofS n f (rZ z)).at_ != rZ z) = false := fun h => by rw [(hit_fr h).2.1]; simp
  have h3 : (ofS n f (rZ z)).is = true → ((ofS n f (rZ z)).p.kind != Int.ofNat 1) = true → ((ofS n f (rZ z)).p.kind != Int.ofNat 2) = false := fun h g => by
    rcases (hit_fr h).2.2 with e | e
    · rw [e] at g; simp at g
    · rw [e]; simp
  refine (?_ : (∃ p r, olE Tryd.prog n f z a b p [some (olS n f a b (rZ z) (ofS n f (rZ z)) (frB f (ofS n f (rZ z)) (rZ z) n))] = some r ∧ GoodF (bo true) r) → _) (olT n f z a b (frB f (ofS n f (rZ z)) (rZ z) n) _ ?_)
  · rintro ⟨p, r, g1, g2⟩
    exact ⟨p, _, r, g1, g2⟩
  · refine ⟨fun c1 => ?_, fun c1 => ⟨fun c2 => ⟨fun c3 => ?_, fun c3 => ⟨fun c4 => ?_, fun c4 => ⟨fun c5 => ⟨fun c6 => ?_, fun c6 => ⟨fun d1 => ?_, fun d1 => ⟨fun d2 => ⟨fun d3 => ?_, fun d3 => ?_⟩, fun d2 => ⟨fun d3 => ?_, fun d3 => ?_⟩⟩⟩⟩, fun c5 => ⟨fun d1 => ?_, fun d1 => ⟨fun d2 => ⟨fun d3 => ?_, fun d3 => ?_⟩, fun d2 => ⟨fun d3 => ?_, fun d3 => ?_⟩⟩⟩⟩⟩⟩, fun c2 => ⟨fun d1 => ?_, fun d1 => ⟨fun d2 => ⟨fun d3 => ?_, fun d3 => ?_⟩, fun d2 => ⟨fun d3 => ?_, fun d3 => ?_⟩⟩⟩⟩⟩
    · exact ⟨rfl, (by first | (unfold lim; omega) | (dsimp only; unfold lim; omega)), by simp only [allT, List.forall_mem_cons, c1]; simp, by simp⟩
    · have := h1 c2
      rw [this] at c3; cases c3
    · exact no_tf c4 (h2 c2)
    · exact no_tf c6 (h3 c2 c5)
    all_goals first
      | exact no_tf d1 (x1 (hF (hN c1)))
      | exact no_tf (x2 (hF (hN c1)) d2) d3
      | exact no_tf (x3 (hF (hN c1)) d2) d3
      | (have hn := hN c1
         have F := hF hn
         refine ⟨rfl, (by first | (unfold lim; omega) | (dsimp only; unfold lim; omega)), ?_, fun q hq => ?_⟩
         · simp only [allT, List.forall_mem_cons]
           repeat' (first | apply And.intro | fail)
           all_goals first
             | exact trivial
             | rfl
             | exact tt_of d3 | exact tt_of d2 | exact ff_of d2 | exact ff_of d1 | exact ff_of c6 | exact tt_of c5 | exact ff_of c5 | exact ff_of c4 | exact ff_of c3 | exact tt_of c2 | exact ff_of c2 | exact ff_of c1
             | exact F.p0 | exact F.p3 | exact F.p4 | exact F.q0 | exact F.q3 | exact F.q4
             | exact decide_eq_true (by omega)
             | (intro x hx; cases hx; done)
         · first
             | (cases hq; done)
             | (rw [List.mem_singleton.1 hq]; exact hs hn))
end Go.Proofs.YthekiiagacnhkaaDoor
end
