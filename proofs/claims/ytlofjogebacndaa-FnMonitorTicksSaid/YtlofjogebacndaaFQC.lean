/- Functions: clients. No condition but each theorem's own. -/
import Derived.Test.YtlofjogebacndaaFQT
namespace Go.Proofs.YtlofjogebacndaaW.V
open Go Go.Proofs
set_option linter.unusedSimpArgs false
set_option linter.unusedVariables false
set_option maxRecDepth 8000
set_option maxHeartbeats 4000000

set_option synthInstance.maxSize 1000

def ackB (many : Int) (l : List Int) (i : Nat) : Bool := match l[i]? with
  | none => true
  | some x => decide (1 ≤ x ∧ x ≤ many) && match i with
    | 0 => true
    | j + 1 => match l[j]? with
      | none => true
      | some y => decide (y < x)
def acksOk (many : Int) (l : List Int) : Bool := (List.range l.length).all (ackB many l)
theorem acksOk_bad {many : Int} {l : List Int} {i : Nat} (h : i < l.length) (hb : ackB many l i = false) : acksOk many l = false :=
  List.all_eq_false.2 ⟨i, List.mem_range.2 h, by simp [hb]⟩
theorem acksOk_good {many : Int} {l : List Int} (h : ∀ i, i < l.length → ackB many l i = true) : acksOk many l = true :=
  List.all_eq_true.2 fun i hi => h i (List.mem_range.1 hi)
theorem ackB_0 {many : Int} {l : List Int} {x : Int} (hx : l[0]? = some x) : ackB many l 0 = decide (1 ≤ x ∧ x ≤ many) := by
  simp [ackB, hx]
theorem ackB_s {many : Int} {l : List Int} {i : Nat} {x y : Int} (hx : l[i + 1]? = some x) (hy : l[i]? = some y) : ackB many l (i + 1) = (decide (1 ≤ x ∧ x ≤ many) && decide (y < x)) := by
  simp [ackB, hx, hy]
theorem all_nextA {p : Nat → Bool} {i : Nat} (h : ∀ j, j < i → p j = true) (hi : p i = true) : ∀ j, j < i + 1 → p j = true := fun j hj => by
  rcases Nat.lt_or_ge j i with h4 | h4
  · exact h j h4
  · rw [show j = i by omega]; exact hi

abbrev zPoint : Point := (0, 0, 0, 0, 0)
def headOk (c : Client) : Prop := (1 ≤ c.2.1 ∧ c.2.1 ≤ 7) ∧ (1 ≤ c.1 ∧ c.1 ≤ c.2.1) ∧ ¬ 2 * c.1 ≤ c.2.1 ∧ (0 ≤ c.2.2.1 ∧ c.2.2.1 ≤ 1000000) ∧ ((1 ≤ c.2.2.2.2.2.2.1 ∧ c.2.2.2.2.2.2.1 ≤ 256) ∨ c.2.2.2.2.2.2 = zPoint)
def quietOk (c : Client) : Prop := c.2.2.2.2.1 = zPoint ∧ c.2.2.2.2.2.1.length = 0 ∧ c.2.2.2.1 ≤ c.2.2.1
def vouchOk (c : Client) : Prop := 1 ≤ c.2.2.1 ∧ (c.2.2.2.2.2.2.1 + 1 ≤ c.2.2.2.2.1.1 ∧ c.2.2.2.2.1.1 ≤ 256) ∧ (c.2.2.2.2.2.1.length : Int) < c.1
instance (c : Client) : Decidable (headOk c) := by unfold headOk; infer_instance
instance (c : Client) : Decidable (quietOk c) := by unfold quietOk; infer_instance
instance (c : Client) : Decidable (vouchOk c) := by unfold vouchOk; infer_instance
def clientM (c : Client) : Bool := decide (headOk c) && (if c.2.2.2.1 = 0 ∨ c.2.2.2.1 = 1 then decide (quietOk c) else if c.2.2.2.1 = 2 then decide (vouchOk c) && acksOk c.2.1 c.2.2.2.2.2.1 else false)
theorem clientM_no {c : Client} (h : ¬ headOk c) : clientM c = false := by
  unfold clientM; rw [decide_eq_false h]; rfl
theorem clientM_q {c : Client} (h : headOk c) (hp : c.2.2.2.1 = 0 ∨ c.2.2.2.1 = 1) : clientM c = decide (quietOk c) := by
  unfold clientM; rw [decide_eq_true h, if_pos hp, Bool.true_and]
theorem clientM_v {c : Client} (h : headOk c) (hp : c.2.2.2.1 = 2) : clientM c = (decide (vouchOk c) && acksOk c.2.1 c.2.2.2.2.2.1) := by
  unfold clientM; rw [decide_eq_true h, if_neg (by omega), if_pos hp, Bool.true_and]
theorem clientM_x {c : Client} (h : ¬ c.2.2.2.1 = 0) (h1 : ¬ c.2.2.2.1 = 1) (h2 : ¬ c.2.2.2.1 = 2) : clientM c = false := by
  unfold clientM; rw [if_neg (by omega), if_neg h2, Bool.and_false]
theorem zP (a : Int) (b c d e : UInt64) : (decide (a = 0) && (decide (b = 0) && (decide (c = 0) && (decide (d = 0) && decide (e = 0))))) = decide ((a, b, c, d, e) = zPoint) := by
  simp [zPoint, Bool.decide_and]
abbrev bxClient (c : Client) : List D := [.c (.v (.int .i64 c.1)), .c (.v (.int .i64 c.2.1)), .c (.v (.int .i64 c.2.2.1)), .c (.v (.int .i64 c.2.2.2.1)),
  .c (.v (.int .i64 c.2.2.2.2.1.1)), .c (.v (.int .u64 c.2.2.2.2.1.2.1.toNat)), .c (.v (.int .u64 c.2.2.2.2.1.2.2.1.toNat)), .c (.v (.int .u64 c.2.2.2.2.1.2.2.2.1.toNat)), .c (.v (.int .u64 c.2.2.2.2.1.2.2.2.2.toNat)),
  .c (.s (c.2.2.2.2.2.1.map (cInt .i64).enc)),
  .c (.v (.int .i64 c.2.2.2.2.2.2.1)), .c (.v (.int .u64 c.2.2.2.2.2.2.2.1.toNat)), .c (.v (.int .u64 c.2.2.2.2.2.2.2.2.1.toNat)), .c (.v (.int .u64 c.2.2.2.2.2.2.2.2.2.1.toNat)), .c (.v (.int .u64 c.2.2.2.2.2.2.2.2.2.2.toNat))]
attribute [go_sem] bxClient
abbrev MClientOk : FM := .f1 (CE.st cClient) eBool.enc clientM (fun c => c.2.2.2.2.2.1.length ≤ 1048576)
attribute [go_sem] MClientOk

def H_spec_ClientOk : Hint := { fs := [(28, M166), (73, M296)], kp := [(0, [0]), (1, [1]), (2, []), (3, [1]), (4, []), (5, [1]), (6, [1]), (7, [1]), (8, []), (9, [1]), (10, [1, 3]), (12, [1, 3]), (13, []), (11, [1, 3]), (14, [])], an := [(12, [0, 1, 0, 7, 15, 0, 32, 127, 255, 511, 1023, 2047, 4095, 8191, 16383, 8191, 40959, 131071, 262143, 8191, 532479, 8191, 3678207, 7872511, 16777215, 33554431, 67108863])] }
attribute [go_sem] H_spec_ClientOk
theorem ok_H_spec_ClientOk : H_spec_ClientOk.ok Try.prog := AllOk.okR (.cons m166 (.cons m296 .nil)) .nil mix
theorem f_spec_ClientOk (c : Client) (hl : c.2.2.2.2.2.1.length ≤ 1048576) : VFun Try.prog 26 [(CE.st cClient).enc c] [] (eBool.enc (clientM c)) [] := by
  obtain ⟨need, many, ses, ph, ⟨g, g1, g2, g3, g4⟩, acks, p, p1, p2, p3, p4⟩ := c
  dsimp only at hl
  have hn := @clientM_no (need, many, ses, ph, (g, g1, g2, g3, g4), acks, p, p1, p2, p3, p4)
  have hq := @clientM_q (need, many, ses, ph, (g, g1, g2, g3, g4), acks, p, p1, p2, p3, p4)
  have hv := @clientM_v (need, many, ses, ph, (g, g1, g2, g3, g4), acks, p, p1, p2, p3, p4)
  have hx := @clientM_x (need, many, ses, ph, (g, g1, g2, g3, g4), acks, p, p1, p2, p3, p4)
  have hz : ∀ x : UInt64, ((x.toNat : Int) = 0) = (x = 0) := fun x => u64_inj x 0
  refine VFun_pure (n := 120) (rs := [.tmp 2]) Try.func26 rfl rfl rfl rfl H_spec_ClientOk ok_H_spec_ClientOk _ _ (Nat.le_of_ble_eq_true rfl) (by kernel_rfl) ?_
  by_cases a1 : 1 ≤ many ∧ many ≤ 7
  case neg =>
    simp only [go_sem, ↓reduceIte, reduceCtorEq, Nat.reduceAdd, Nat.reduceMul, Nat.reduceEqDiff, Nat.reduceSub, Nat.reduceLT, Nat.reduceLeDiff, Nat.reduceAnd, Nat.reduceShiftRight, Nat.reduceBEq, Nat.reduceBNe, Nat.reduceBneDiff, Nat.reduceBeqDiff, Int.reduceToNat, Int.reduceLE, Int.reduceLT, Int.reduceEq, a1]
    rw [hn fun h => a1 h.1]
  by_cases a2 : 1 ≤ need ∧ need ≤ many
  case neg =>
    simp only [go_sem, ↓reduceIte, reduceCtorEq, Nat.reduceAdd, Nat.reduceMul, Nat.reduceEqDiff, Nat.reduceSub, Nat.reduceLT, Nat.reduceLeDiff, Nat.reduceAnd, Nat.reduceShiftRight, Nat.reduceBEq, Nat.reduceBNe, Nat.reduceBneDiff, Nat.reduceBeqDiff, Int.reduceToNat, Int.reduceLE, Int.reduceLT, Int.reduceEq, a1, a2]
    rw [hn fun h => a2 h.2.1]
  have w1 : IntKind.i64.wrap (2 * need) = 2 * need := by rw [wrap64] <;> omega
  by_cases a3 : 2 * need ≤ many
  · simp only [go_sem, ↓reduceIte, reduceCtorEq, Nat.reduceAdd, Nat.reduceMul, Nat.reduceEqDiff, Nat.reduceSub, Nat.reduceLT, Nat.reduceLeDiff, Nat.reduceAnd, Nat.reduceShiftRight, Nat.reduceBEq, Nat.reduceBNe, Nat.reduceBneDiff, Nat.reduceBeqDiff, Int.reduceToNat, Int.reduceLE, Int.reduceLT, Int.reduceEq, a1, a2, a3, w1]
    rw [hn fun h => h.2.2.1 a3]
  by_cases a4 : 0 ≤ ses ∧ ses ≤ 1000000
  case neg =>
    simp only [go_sem, ↓reduceIte, reduceCtorEq, Nat.reduceAdd, Nat.reduceMul, Nat.reduceEqDiff, Nat.reduceSub, Nat.reduceLT, Nat.reduceLeDiff, Nat.reduceAnd, Nat.reduceShiftRight, Nat.reduceBEq, Nat.reduceBNe, Nat.reduceBneDiff, Nat.reduceBeqDiff, Int.reduceToNat, Int.reduceLE, Int.reduceLT, Int.reduceEq, a1, a2, a3, a4, w1]
    rw [hn fun h => a4 h.2.2.2.1]
  by_cases a5 : (1 ≤ p ∧ p ≤ 256) ∨ (p, p1, p2, p3, p4) = zPoint
  case neg =>
    have hp5 : (decide (1 ≤ p ∧ p ≤ 256) || decide ((p, p1, p2, p3, p4) = zPoint)) = false := by simpa using a5
    simp only [go_sem, ↓reduceIte, reduceCtorEq, Nat.reduceAdd, Nat.reduceMul, Nat.reduceEqDiff, Nat.reduceSub, Nat.reduceLT, Nat.reduceLeDiff, Nat.reduceAnd, Nat.reduceShiftRight, Nat.reduceBEq, Nat.reduceBNe, Nat.reduceBneDiff, Nat.reduceBeqDiff, Int.reduceToNat, Int.reduceLE, Int.reduceLT, Int.reduceEq] at hp5
    simp only [go_sem, ↓reduceIte, reduceCtorEq, Nat.reduceAdd, Nat.reduceMul, Nat.reduceEqDiff, Nat.reduceSub, Nat.reduceLT, Nat.reduceLeDiff, Nat.reduceAnd, Nat.reduceShiftRight, Nat.reduceBEq, Nat.reduceBNe, Nat.reduceBneDiff, Nat.reduceBeqDiff, Int.reduceToNat, Int.reduceLE, Int.reduceLT, Int.reduceEq, a1, a2, a3, a4, w1, hp5]
    rw [hn fun h => a5 h.2.2.2.2]
  have hh : headOk (need, many, ses, ph, (g, g1, g2, g3, g4), acks, p, p1, p2, p3, p4) := ⟨a1, a2, a3, a4, a5⟩
  have hp5 : (decide (1 ≤ p ∧ p ≤ 256) || decide ((p, p1, p2, p3, p4) = zPoint)) = true := by simpa using a5
  simp only [go_sem, ↓reduceIte, reduceCtorEq, Nat.reduceAdd, Nat.reduceMul, Nat.reduceEqDiff, Nat.reduceSub, Nat.reduceLT, Nat.reduceLeDiff, Nat.reduceAnd, Nat.reduceShiftRight, Nat.reduceBEq, Nat.reduceBNe, Nat.reduceBneDiff, Nat.reduceBeqDiff, Int.reduceToNat, Int.reduceLE, Int.reduceLT, Int.reduceEq] at hp5
  by_cases b0 : ph = 0
  · subst b0
    rw [hq hh (.inl rfl)]
    simp only [go_sem, ↓reduceIte, reduceCtorEq, Nat.reduceAdd, Nat.reduceMul, Nat.reduceEqDiff, Nat.reduceSub, Nat.reduceLT, Nat.reduceLeDiff, Nat.reduceAnd, Nat.reduceShiftRight, Nat.reduceBEq, Nat.reduceBNe, Nat.reduceBneDiff, Nat.reduceBeqDiff, Int.reduceToNat, Int.reduceLE, Int.reduceLT, Int.reduceEq, a1, a2, a3, a4, w1, hp5, hz]
    unfold quietOk
    (repeat' refine ite_intro (fun _ => ?_) fun _ => ?_) <;> simp_all
  by_cases b1 : ph = 1
  · subst b1
    rw [hq hh (.inr rfl)]
    simp only [go_sem, ↓reduceIte, reduceCtorEq, Nat.reduceAdd, Nat.reduceMul, Nat.reduceEqDiff, Nat.reduceSub, Nat.reduceLT, Nat.reduceLeDiff, Nat.reduceAnd, Nat.reduceShiftRight, Nat.reduceBEq, Nat.reduceBNe, Nat.reduceBneDiff, Nat.reduceBeqDiff, Int.reduceToNat, Int.reduceLE, Int.reduceLT, Int.reduceEq, a1, a2, a3, a4, w1, hp5, hz]
    unfold quietOk
    (repeat' refine ite_intro (fun _ => ?_) fun _ => ?_) <;> simp_all
  by_cases b2 : ph = 2
  case neg =>
    rw [hx b0 b1 b2]
    simp only [go_sem, ↓reduceIte, reduceCtorEq, Nat.reduceAdd, Nat.reduceMul, Nat.reduceEqDiff, Nat.reduceSub, Nat.reduceLT, Nat.reduceLeDiff, Nat.reduceAnd, Nat.reduceShiftRight, Nat.reduceBEq, Nat.reduceBNe, Nat.reduceBneDiff, Nat.reduceBeqDiff, Int.reduceToNat, Int.reduceLE, Int.reduceLT, Int.reduceEq, a1, a2, a3, a4, w1, hp5, b0, b1, b2]
  subst b2
  rw [hv hh rfl]
  have hpb : 0 ≤ p ∧ p ≤ 256 := by
    rcases a5 with a5 | a5
    · omega
    · simp only [Prod.mk.injEq] at a5; omega
  have w2 : IntKind.i64.wrap (p + 1) = p + 1 := by rw [wrap64] <;> omega
  by_cases b3 : vouchOk (need, many, ses, 2, (g, g1, g2, g3, g4), acks, p, p1, p2, p3, p4)
  case neg =>
    rw [decide_eq_false b3, Bool.false_and]
    unfold vouchOk at b3
    dsimp only at b3
    simp only [go_sem, ↓reduceIte, reduceCtorEq, Nat.reduceAdd, Nat.reduceMul, Nat.reduceEqDiff, Nat.reduceSub, Nat.reduceLT, Nat.reduceLeDiff, Nat.reduceAnd, Nat.reduceShiftRight, Nat.reduceBEq, Nat.reduceBNe, Nat.reduceBneDiff, Nat.reduceBeqDiff, Int.reduceToNat, Int.reduceLE, Int.reduceLT, Int.reduceEq, a1, a2, a3, a4, w1, w2, hp5]
    refine ite_intro (fun c1 => ite_intro (fun c2 => ite_intro (fun c3 => trivial) fun c3 => absurd ⟨by omega, c2, by omega⟩ b3) fun _ => trivial) fun _ => trivial
  rw [decide_eq_true b3, Bool.true_and]
  obtain ⟨c1, c2, c3⟩ := b3
  dsimp only at c1 c2 c3
  have c1' : (ses < 1) = False := eq_false (by omega)
  have c3' : (need ≤ (acks.length : Int)) = False := eq_false (by omega)
  simp only [go_sem, ↓reduceIte, reduceCtorEq, Nat.reduceAdd, Nat.reduceMul, Nat.reduceEqDiff, Nat.reduceSub, Nat.reduceLT, Nat.reduceLeDiff, Nat.reduceAnd, Nat.reduceShiftRight, Nat.reduceBEq, Nat.reduceBNe, Nat.reduceBneDiff, Nat.reduceBeqDiff, Int.reduceToNat, Int.reduceLE, Int.reduceLT, Int.reduceEq, a1, a2, a3, a4, w1, w2, hp5, c1', c2, c3']
  refine LoopV.go (H := H_spec_ClientOk) ok_H_spec_ClientOk (by kernel_rfl) (fun i : Nat => ⟨[(1, .x (.o (.p (1, 100) 0 0 1))), (3, sc (.int .i64 i))], [((1, 100), .bx [bxClient (need, many, ses, 2, (g, g1, g2, g3, g4), acks, p, p1, p2, p3, p4)])], 2⟩) (fun i => acks.length - i) (fun i => i ≤ acks.length ∧ ∀ j, j < i → ackB many acks j = true) ?_ 0 ⟨Nat.zero_le _, fun j h => by omega⟩
  rintro i ⟨hi, hall⟩
  have v1 : IntKind.i64.wrap ((i : Int) + 1) = ((i + 1 : Nat) : Int) := by rw [wrap64] <;> omega
  by_cases hlt : i < acks.length
  · have d1 : ((i : Int) < (acks.length : Int)) = True := eq_true (by omega)
    obtain ⟨x, hx⟩ : ∃ r, acks[i]? = some r := ⟨_, List.getElem?_eq_getElem hlt⟩
    have hb1 := @acksOk_bad many acks i hlt
    cases i with
    | zero =>
      have e0 := ackB_0 (many := many) hx
      have hlt' : (0 < (acks.length : Int)) = True := eq_true (by omega)
      rw [e0] at hb1
      simp only [go_sem, ↓reduceIte, reduceCtorEq, Nat.reduceAdd, Nat.reduceMul, Nat.reduceEqDiff, Nat.reduceSub, Nat.reduceLT, Nat.reduceLeDiff, Nat.reduceAnd, Nat.reduceShiftRight, Nat.reduceBEq, Nat.reduceBNe, Nat.reduceBneDiff, Nat.reduceBeqDiff, Int.reduceToNat, Int.reduceLE, Int.reduceLT, Int.reduceEq, d1, v1, hx, hlt', eq_true hlt]
      refine ite_intro (fun e1 => ?_) fun e1 => ?_
      · exact ⟨1, ⟨by omega, all_nextA hall (by rw [e0]; exact decide_eq_true e1)⟩, by omega, rfl⟩
      · rw [hb1 (decide_eq_false e1)]
    | succ j =>
      obtain ⟨y, hy⟩ : ∃ r, acks[j]? = some r := ⟨_, List.getElem?_eq_getElem (by omega)⟩
      have d3 : (0 < ((j + 1 : Nat) : Int)) = True := eq_true (by omega)
      have w3 : IntKind.i64.wrap (((j + 1 : Nat) : Int) - 1) = (j : Int) := by rw [wrap64] <;> omega
      have d4 : (j < acks.length) = True := eq_true (by omega)
      have e0 := ackB_s (many := many) hx hy
      rw [e0] at hb1
      simp only [go_sem, ↓reduceIte, reduceCtorEq, Nat.reduceAdd, Nat.reduceMul, Nat.reduceEqDiff, Nat.reduceSub, Nat.reduceLT, Nat.reduceLeDiff, Nat.reduceAnd, Nat.reduceShiftRight, Nat.reduceBEq, Nat.reduceBNe, Nat.reduceBneDiff, Nat.reduceBeqDiff, Int.reduceToNat, Int.reduceLE, Int.reduceLT, Int.reduceEq, d1, d3, d4, v1, w3, hx, hy, eq_true hlt]
      refine ite_intro (fun e1 => ite_intro (fun e2 => ?_) fun e2 => ?_) fun e1 => ?_
      · rw [hb1 (by rw [decide_eq_false (by omega : ¬ y < x), Bool.and_false])]
      · exact ⟨j + 1 + 1, ⟨by omega, all_nextA hall (by rw [e0, decide_eq_true e1, decide_eq_true (by omega)]; rfl)⟩, by omega, rfl⟩
      · rw [hb1 (by rw [decide_eq_false e1]; rfl)]
  · have d1 : ((i : Int) < (acks.length : Int)) = False := eq_false (by omega)
    simp only [go_sem, ↓reduceIte, reduceCtorEq, Nat.reduceAdd, Nat.reduceMul, Nat.reduceEqDiff, Nat.reduceSub, Nat.reduceLT, Nat.reduceLeDiff, Nat.reduceAnd, Nat.reduceShiftRight, Nat.reduceBEq, Nat.reduceBNe, Nat.reduceBneDiff, Nat.reduceBeqDiff, Int.reduceToNat, Int.reduceLE, Int.reduceLT, Int.reduceEq, d1]
    rw [acksOk_good fun j hj => hall j (by omega)]
theorem ok_spec_ClientOk : MClientOk.ok Try.prog 26 := FM.f1_ok fun c h => f_spec_ClientOk c h

def H_impl_ClientOk : Hint := { fs := [(34, M166)], kp := [(0, [0]), (1, [1]), (2, []), (3, [1]), (4, [1, 45]), (5, [1, 45]), (6, [1]), (7, [1, 45]), (8, [1]), (9, [1, 72, 73, 74]), (10, [1, 72, 73, 74]), (11, [1, 3, 4, 72, 73, 74]), (12, []), (13, [1, 72, 73, 74]), (14, [1]), (15, [])], an := [], cut := [3] }
attribute [go_sem] H_impl_ClientOk
theorem ok_H_impl_ClientOk : H_impl_ClientOk.ok Try.prog := AllOk.okR (.cons m180 .nil) .nil mix
theorem f_impl_ClientOk (c : Client) (hl : c.2.2.2.2.2.1.length ≤ 1048576) : VFun Try.prog 32 [(CE.st cClient).enc c] [] (eBool.enc (clientM c)) [] := by
  obtain ⟨need, many, ses, ph, ⟨g, g1, g2, g3, g4⟩, acks, p, p1, p2, p3, p4⟩ := c
  dsimp only at hl
  have hn := @clientM_no (need, many, ses, ph, (g, g1, g2, g3, g4), acks, p, p1, p2, p3, p4)
  have hq := @clientM_q (need, many, ses, ph, (g, g1, g2, g3, g4), acks, p, p1, p2, p3, p4)
  have hv := @clientM_v (need, many, ses, ph, (g, g1, g2, g3, g4), acks, p, p1, p2, p3, p4)
  have hx := @clientM_x (need, many, ses, ph, (g, g1, g2, g3, g4), acks, p, p1, p2, p3, p4)
  have hz : ∀ x : UInt64, ((x.toNat : Int) = 0) = (x = 0) := fun x => u64_inj x 0
  refine VFun_pure (n := 120) (rs := [.tmp 2]) Try.func32 rfl rfl rfl rfl H_impl_ClientOk ok_H_impl_ClientOk _ _ (Nat.le_of_ble_eq_true rfl) (by kernel_rfl) ?_
  simp only [go_sem, ↓reduceIte, reduceCtorEq, Nat.reduceAdd, Nat.reduceMul, Nat.reduceEqDiff, Nat.reduceSub, Nat.reduceLT, Nat.reduceLeDiff, Nat.reduceAnd, Nat.reduceShiftRight, Nat.reduceBEq, Nat.reduceBNe, Nat.reduceBneDiff, Nat.reduceBeqDiff, Int.reduceToNat, Int.reduceLE, Int.reduceLT, Int.reduceEq]
  refine CutS.intro (H := H_impl_ClientOk) ok_H_impl_ClientOk (by kernel_rfl) (by kernel_rfl) (fun _ : Unit => ⟨[(1, .x (.o (.p (1, 100) 0 0 1)))], [((1, 100), .bx [bxClient (need, many, ses, ph, (g, g1, g2, g3, g4), acks, p, p1, p2, p3, p4)])], 2⟩) (fun _ => headOk (need, many, ses, ph, (g, g1, g2, g3, g4), acks, p, p1, p2, p3, p4)) ?_ ?_
  · by_cases a1 : 1 ≤ many ∧ many ≤ 7
    case neg =>
      simp only [go_sem, ↓reduceIte, reduceCtorEq, Nat.reduceAdd, Nat.reduceMul, Nat.reduceEqDiff, Nat.reduceSub, Nat.reduceLT, Nat.reduceLeDiff, Nat.reduceAnd, Nat.reduceShiftRight, Nat.reduceBEq, Nat.reduceBNe, Nat.reduceBneDiff, Nat.reduceBeqDiff, Int.reduceToNat, Int.reduceLE, Int.reduceLT, Int.reduceEq, a1]
      rw [hn fun h => a1 h.1]
    by_cases a2 : 1 ≤ need ∧ need ≤ many
    case neg =>
      simp only [go_sem, ↓reduceIte, reduceCtorEq, Nat.reduceAdd, Nat.reduceMul, Nat.reduceEqDiff, Nat.reduceSub, Nat.reduceLT, Nat.reduceLeDiff, Nat.reduceAnd, Nat.reduceShiftRight, Nat.reduceBEq, Nat.reduceBNe, Nat.reduceBneDiff, Nat.reduceBeqDiff, Int.reduceToNat, Int.reduceLE, Int.reduceLT, Int.reduceEq, a1, a2]
      rw [hn fun h => a2 h.2.1]
    have w1 : IntKind.i64.wrap (2 * need) = 2 * need := by rw [wrap64] <;> omega
    by_cases a3 : 2 * need ≤ many
    · simp only [go_sem, ↓reduceIte, reduceCtorEq, Nat.reduceAdd, Nat.reduceMul, Nat.reduceEqDiff, Nat.reduceSub, Nat.reduceLT, Nat.reduceLeDiff, Nat.reduceAnd, Nat.reduceShiftRight, Nat.reduceBEq, Nat.reduceBNe, Nat.reduceBneDiff, Nat.reduceBeqDiff, Int.reduceToNat, Int.reduceLE, Int.reduceLT, Int.reduceEq, a1, a2, a3, w1]
      rw [hn fun h => h.2.2.1 a3]
    by_cases a4 : 0 ≤ ses ∧ ses ≤ 1000000
    case neg =>
      simp only [go_sem, ↓reduceIte, reduceCtorEq, Nat.reduceAdd, Nat.reduceMul, Nat.reduceEqDiff, Nat.reduceSub, Nat.reduceLT, Nat.reduceLeDiff, Nat.reduceAnd, Nat.reduceShiftRight, Nat.reduceBEq, Nat.reduceBNe, Nat.reduceBneDiff, Nat.reduceBeqDiff, Int.reduceToNat, Int.reduceLE, Int.reduceLT, Int.reduceEq, a1, a2, a3, a4, w1]
      rw [hn fun h => a4 h.2.2.2.1]
    by_cases a7 : (p, p1, p2, p3, p4) = zPoint
    · have hz0 := zP p p1 p2 p3 p4
      rw [decide_eq_true a7] at hz0
      simp only [go_sem, ↓reduceIte, reduceCtorEq, Nat.reduceAdd, Nat.reduceMul, Nat.reduceEqDiff, Nat.reduceSub, Nat.reduceLT, Nat.reduceLeDiff, Nat.reduceAnd, Nat.reduceShiftRight, Nat.reduceBEq, Nat.reduceBNe, Nat.reduceBneDiff, Nat.reduceBeqDiff, Int.reduceToNat, Int.reduceLE, Int.reduceLT, Int.reduceEq, a1, a2, a3, a4, w1, hz, hz0]
      exact ⟨(), (⟨a1, a2, a3, a4, .inr a7⟩ : headOk (need, many, ses, ph, (g, g1, g2, g3, g4), acks, p, p1, p2, p3, p4))⟩
    · have hz0 := zP p p1 p2 p3 p4
      rw [decide_eq_false a7] at hz0
      by_cases a6 : 1 ≤ p ∧ p ≤ 256
      · simp only [go_sem, ↓reduceIte, reduceCtorEq, Nat.reduceAdd, Nat.reduceMul, Nat.reduceEqDiff, Nat.reduceSub, Nat.reduceLT, Nat.reduceLeDiff, Nat.reduceAnd, Nat.reduceShiftRight, Nat.reduceBEq, Nat.reduceBNe, Nat.reduceBneDiff, Nat.reduceBeqDiff, Int.reduceToNat, Int.reduceLE, Int.reduceLT, Int.reduceEq, a1, a2, a3, a4, w1, hz, hz0, a6]
        exact ⟨(), (⟨a1, a2, a3, a4, .inl a6⟩ : headOk (need, many, ses, ph, (g, g1, g2, g3, g4), acks, p, p1, p2, p3, p4))⟩
      · simp only [go_sem, ↓reduceIte, reduceCtorEq, Nat.reduceAdd, Nat.reduceMul, Nat.reduceEqDiff, Nat.reduceSub, Nat.reduceLT, Nat.reduceLeDiff, Nat.reduceAnd, Nat.reduceShiftRight, Nat.reduceBEq, Nat.reduceBNe, Nat.reduceBneDiff, Nat.reduceBeqDiff, Int.reduceToNat, Int.reduceLE, Int.reduceLT, Int.reduceEq, a1, a2, a3, a4, w1, hz, hz0, a6]
        rw [hn fun h => h.2.2.2.2.elim a6 a7]
  rintro - hh
  obtain ⟨a1, a2, a3, a4, a5⟩ := id hh
  dsimp only at a1 a2 a3 a4 a5
  have hpb : 0 ≤ p ∧ p ≤ 256 := by
    rcases a5 with a5 | a5
    · omega
    · simp only [Prod.mk.injEq] at a5; omega
  have w2 : IntKind.i64.wrap (p + 1) = p + 1 := by rw [wrap64] <;> omega
  have hzg := zP g g1 g2 g3 g4
  by_cases b0 : ph = 0
  · subst b0
    rw [hq hh (.inl rfl)]
    simp only [go_sem, ↓reduceIte, reduceCtorEq, Nat.reduceAdd, Nat.reduceMul, Nat.reduceEqDiff, Nat.reduceSub, Nat.reduceLT, Nat.reduceLeDiff, Nat.reduceAnd, Nat.reduceShiftRight, Nat.reduceBEq, Nat.reduceBNe, Nat.reduceBneDiff, Nat.reduceBeqDiff, Int.reduceToNat, Int.reduceLE, Int.reduceLT, Int.reduceEq, hz, hzg]
    unfold quietOk
    (repeat' refine ite_intro (fun _ => ?_) fun _ => ?_) <;> simp_all
  by_cases b1 : ph = 1
  · subst b1
    rw [hq hh (.inr rfl)]
    simp only [go_sem, ↓reduceIte, reduceCtorEq, Nat.reduceAdd, Nat.reduceMul, Nat.reduceEqDiff, Nat.reduceSub, Nat.reduceLT, Nat.reduceLeDiff, Nat.reduceAnd, Nat.reduceShiftRight, Nat.reduceBEq, Nat.reduceBNe, Nat.reduceBneDiff, Nat.reduceBeqDiff, Int.reduceToNat, Int.reduceLE, Int.reduceLT, Int.reduceEq, hz, hzg]
    unfold quietOk
    have hs : (!decide (ses = 0)) = decide (1 ≤ ses) := by by_cases e : ses = 0 <;> simp [e] <;> omega
    simp only [hs]
    (repeat' refine ite_intro (fun _ => ?_) fun _ => ?_) <;> simp_all
  by_cases b2 : ph = 2
  case neg =>
    rw [hx b0 b1 b2]
    simp only [go_sem, ↓reduceIte, reduceCtorEq, Nat.reduceAdd, Nat.reduceMul, Nat.reduceEqDiff, Nat.reduceSub, Nat.reduceLT, Nat.reduceLeDiff, Nat.reduceAnd, Nat.reduceShiftRight, Nat.reduceBEq, Nat.reduceBNe, Nat.reduceBneDiff, Nat.reduceBeqDiff, Int.reduceToNat, Int.reduceLE, Int.reduceLT, Int.reduceEq, b0, b1, b2]
  subst b2
  rw [hv hh rfl]
  simp only [go_sem, ↓reduceIte, reduceCtorEq, Nat.reduceAdd, Nat.reduceMul, Nat.reduceEqDiff, Nat.reduceSub, Nat.reduceLT, Nat.reduceLeDiff, Nat.reduceAnd, Nat.reduceShiftRight, Nat.reduceBEq, Nat.reduceBNe, Nat.reduceBneDiff, Nat.reduceBeqDiff, Int.reduceToNat, Int.reduceLE, Int.reduceLT, Int.reduceEq]
  refine LoopV.go (H := H_impl_ClientOk) ok_H_impl_ClientOk (by kernel_rfl) (fun i : Nat => ⟨[(1, .x (.o (.p (1, 100) 0 0 1))), (72, .x (.o (.c (.s (acks.map (cInt .i64).enc))))), (73, sc (.int .i64 acks.length)), (74, sc (.int .i64 i))], [((1, 100), .bx [bxClient (need, many, ses, 2, (g, g1, g2, g3, g4), acks, p, p1, p2, p3, p4)])], 2⟩) (fun i => acks.length - i) (fun i => i ≤ acks.length ∧ ∀ j, j < i → ackB many acks j = true) ?_ 0 ⟨Nat.zero_le _, fun j h => by omega⟩
  rintro i ⟨hi, hall⟩
  have v1 : IntKind.i64.wrap ((i : Int) + 1) = ((i + 1 : Nat) : Int) := by rw [wrap64] <;> omega
  by_cases hlt : i < acks.length
  · have d1 : ((i : Int) < (acks.length : Int)) = True := eq_true (by omega)
    obtain ⟨x, hx⟩ : ∃ r, acks[i]? = some r := ⟨_, List.getElem?_eq_getElem hlt⟩
    have hb1 := @acksOk_bad many acks i hlt
    cases i with
    | zero =>
      have e0 := ackB_0 (many := many) hx
      have hlt' : (0 < (acks.length : Int)) = True := eq_true (by omega)
      rw [e0] at hb1
      simp only [go_sem, ↓reduceIte, reduceCtorEq, Nat.reduceAdd, Nat.reduceMul, Nat.reduceEqDiff, Nat.reduceSub, Nat.reduceLT, Nat.reduceLeDiff, Nat.reduceAnd, Nat.reduceShiftRight, Nat.reduceBEq, Nat.reduceBNe, Nat.reduceBneDiff, Nat.reduceBeqDiff, Int.reduceToNat, Int.reduceLE, Int.reduceLT, Int.reduceEq, d1, v1, hx, hlt', eq_true hlt]
      refine ite_intro (fun e1 => ?_) fun e1 => ?_
      · exact ⟨1, ⟨by omega, all_nextA hall (by rw [e0]; exact decide_eq_true e1)⟩, by omega, rfl⟩
      · rw [hb1 (decide_eq_false e1), Bool.and_false]
    | succ j =>
      obtain ⟨y, hy⟩ : ∃ r, acks[j]? = some r := ⟨_, List.getElem?_eq_getElem (by omega)⟩
      have d3 : (0 < ((j + 1 : Nat) : Int)) = True := eq_true (by omega)
      have w3 : IntKind.i64.wrap (((j + 1 : Nat) : Int) - 1) = (j : Int) := by rw [wrap64] <;> omega
      have d4 : (j < acks.length) = True := eq_true (by omega)
      have e0 := ackB_s (many := many) hx hy
      rw [e0] at hb1
      simp only [go_sem, ↓reduceIte, reduceCtorEq, Nat.reduceAdd, Nat.reduceMul, Nat.reduceEqDiff, Nat.reduceSub, Nat.reduceLT, Nat.reduceLeDiff, Nat.reduceAnd, Nat.reduceShiftRight, Nat.reduceBEq, Nat.reduceBNe, Nat.reduceBneDiff, Nat.reduceBeqDiff, Int.reduceToNat, Int.reduceLE, Int.reduceLT, Int.reduceEq, d1, d3, d4, v1, w3, hx, hy, eq_true hlt]
      refine ite_intro (fun e1 => ite_intro (fun e2 => ?_) fun e2 => ?_) fun e1 => ?_
      · rw [hb1 (by rw [decide_eq_false (by omega : ¬ y < x), Bool.and_false]), Bool.and_false]
      · exact ⟨j + 1 + 1, ⟨by omega, all_nextA hall (by rw [e0, decide_eq_true e1, decide_eq_true (by omega)]; rfl)⟩, by omega, rfl⟩
      · rw [hb1 (by rw [decide_eq_false e1]; rfl), Bool.and_false]
  · have d1 : ((i : Int) < (acks.length : Int)) = False := eq_false (by omega)
    simp only [go_sem, ↓reduceIte, reduceCtorEq, Nat.reduceAdd, Nat.reduceMul, Nat.reduceEqDiff, Nat.reduceSub, Nat.reduceLT, Nat.reduceLeDiff, Nat.reduceAnd, Nat.reduceShiftRight, Nat.reduceBEq, Nat.reduceBNe, Nat.reduceBneDiff, Nat.reduceBeqDiff, Int.reduceToNat, Int.reduceLE, Int.reduceLT, Int.reduceEq, d1, w2]
    rw [acksOk_good fun j hj => hall j (by omega), Bool.and_true]
    refine ite_intro (fun c1 => ite_intro (fun c2 => ?_) fun c2 => ?_) fun c1 => ?_
    · by_cases c3 : (acks.length : Int) < need
      · rw [decide_eq_true c3]; exact congrArg some (decide_eq_true (show vouchOk _ from ⟨by dsimp only; omega, c2, c3⟩)).symm
      · rw [decide_eq_false c3]; exact congrArg some (decide_eq_false fun h : vouchOk _ => c3 h.2.2).symm
    · exact congrArg some (decide_eq_false fun h : vouchOk _ => c2 h.2.1).symm
    · exact congrArg some (decide_eq_false fun h : vouchOk _ => absurd h.1 (by dsimp only; omega)).symm
theorem ok_impl_ClientOk : MClientOk.ok Try.prog 32 := FM.f1_ok fun c h => f_impl_ClientOk c h

end Go.Proofs.YtlofjogebacndaaW.V

