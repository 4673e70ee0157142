/- Functions: what a log answers. No condition but each theorem's own. -/
import Derived.Test.YtfccplibbdnkpaaFGC
import Derived.Test.YtfccplibbdnkpaaFGB
namespace Go.Proofs.YtfccplibbdnkpaaW.V
open Go Go.Proofs
set_option linter.unusedSimpArgs false
set_option linter.unusedVariables false
set_option maxRecDepth 8000
set_option maxHeartbeats 4000000

set_option synthInstance.maxSize 1000

abbrev zMsg : Msg := (0, 0, 0, 0, zDig, 0, [], [])
def takeN (l : List ByteArray) (f c : Int) : List ByteArray := (l.drop f.toNat).take ((min (l.length : Int) (f + c)).toNat - f.toNat)
/-- What a log answers. -/
def ansM (l : List ByteArray) (m : Msg) : Msg × Bool :=
  if leavesOk l = true ∧ wireOkM m = true then
    (if m.1 = 1 then ((2, m.2.1, 0, (l.length : Int), rootM l, 0, [], []), true)
    else if m.1 = 4 ∧ m.2.2.1 ≤ m.2.2.2.1 ∧ m.2.2.2.1 ≤ l.length then ((5, 0, m.2.2.1, m.2.2.2.1, zDig, 0, (growM (l.take m.2.2.2.1.toNat) m.2.2.1).1, []), true)
    else if m.1 = 7 ∧ m.2.2.1 < l.length then ((8, 0, m.2.2.1, 0, zDig, 0, [], takeN l m.2.2.1 m.2.2.2.2.2.1), true)
    else (zMsg, false))
  else (zMsg, false)
theorem ansM_no {l : List ByteArray} {m : Msg} (h : ¬ (leavesOk l = true ∧ wireOkM m = true)) : ansM l m = (zMsg, false) := if_neg h
theorem ansM_1 {l : List ByteArray} {m : Msg} (h : leavesOk l = true ∧ wireOkM m = true) (h1 : m.1 = 1) : ansM l m = ((2, m.2.1, 0, (l.length : Int), rootM l, 0, [], []), true) := by
  rw [ansM, if_pos h, if_pos h1]
theorem ansM_4 {l : List ByteArray} {m : Msg} (h : leavesOk l = true ∧ wireOkM m = true) (h1 : m.1 = 4 ∧ m.2.2.1 ≤ m.2.2.2.1 ∧ m.2.2.2.1 ≤ l.length) : ansM l m = ((5, 0, m.2.2.1, m.2.2.2.1, zDig, 0, (growM (l.take m.2.2.2.1.toNat) m.2.2.1).1, []), true) := by
  rw [ansM, if_pos h, if_neg (by omega), if_pos h1]
theorem ansM_7 {l : List ByteArray} {m : Msg} (h : leavesOk l = true ∧ wireOkM m = true) (h1 : m.1 = 7 ∧ m.2.2.1 < l.length) : ansM l m = ((8, 0, m.2.2.1, 0, zDig, 0, [], takeN l m.2.2.1 m.2.2.2.2.2.1), true) := by
  rw [ansM, if_pos h, if_neg (by omega), if_neg (by omega), if_pos h1]
theorem ansM_x {l : List ByteArray} {m : Msg} (h1 : ¬ m.1 = 1) (h4 : ¬ (m.1 = 4 ∧ m.2.2.1 ≤ m.2.2.2.1 ∧ m.2.2.2.1 ≤ l.length)) (h7 : ¬ (m.1 = 7 ∧ m.2.2.1 < l.length)) : ansM l m = (zMsg, false) := by
  by_cases h : leavesOk l = true ∧ wireOkM m = true
  · rw [ansM, if_pos h, if_neg h1, if_neg h4, if_neg h7]
  · exact ansM_no h
theorem part_in {b : Bool} {n lo hi : Int} (h : partOkM b n lo hi = true) (hb : b = true) : lo ≤ n ∧ n ≤ hi := by
  rw [partOkM, if_pos hb] at h
  exact of_decide_eq_true h
theorem wire_4 {m : Msg} (h : wireOkM m = true) (h4 : m.1 = 4) : (0 ≤ m.2.2.1 ∧ m.2.2.1 ≤ 256) ∧ 0 ≤ m.2.2.2.1 ∧ m.2.2.2.1 ≤ 256 := by
  unfold wireOkM at h
  simp only [Bool.and_eq_true] at h
  obtain ⟨_, _, _, a, b, _⟩ := h
  rw [h4] at a b
  exact ⟨part_in a (by decide), part_in b (by decide)⟩
theorem wire_7 {m : Msg} (h : wireOkM m = true) (h7 : m.1 = 7) : (0 ≤ m.2.2.1 ∧ m.2.2.1 ≤ 256) ∧ 1 ≤ m.2.2.2.2.2.1 ∧ m.2.2.2.2.2.1 ≤ 8 := by
  unfold wireOkM at h
  simp only [Bool.and_eq_true] at h
  obtain ⟨_, _, _, a, _, _, b, _⟩ := h
  rw [h7] at a b
  exact ⟨part_in a (by decide), part_in b (by decide)⟩

abbrev oAns (r : Msg × Bool) : E := .t [.a [.c (.v (.int .i64 r.1.1)), .c (.v (.int .i64 r.1.2.1)), .c (.v (.int .i64 r.1.2.2.1)), .c (.v (.int .i64 r.1.2.2.2.1)),
  .c (.v (.int .u64 r.1.2.2.2.2.1.1.toNat)), .c (.v (.int .u64 r.1.2.2.2.2.1.2.1.toNat)), .c (.v (.int .u64 r.1.2.2.2.2.1.2.2.1.toNat)), .c (.v (.int .u64 r.1.2.2.2.2.1.2.2.2.toNat)),
  .c (.v (.int .i64 r.1.2.2.2.2.2.1)), .h (0, 0) 0 r.1.2.2.2.2.2.2.1.length r.1.2.2.2.2.2.2.1.length, .h (0, 1) 0 r.1.2.2.2.2.2.2.2.length r.1.2.2.2.2.2.2.2.length], .o (.c (.v (.bool r.2)))]
attribute [go_sem] oAns
abbrev ansP (l : List ByteArray) (m : Msg) : Prop := l.length ≤ 1048576 ∧ m.2.2.2.2.2.2.1.length ≤ 1048576 ∧ m.2.2.2.2.2.2.2.length ≤ 1048576
abbrev OAns : FM := .g2 (CE.st cLog) (CE.st cMsg) (fun l m => (oAns (ansM l m), rMsg (ansM l m).1)) ansP
attribute [go_sem] OAns

def H_impl_LogAnswer : Hint := { fs := [(34, MLeavesOk), (35, MWireOk), (36, MRoot), (37, OGrow), (38, OCopied_string)], kp := [(0, [0, 1]), (1, [2, 3, 4]), (2, [4]), (3, [2, 3, 4]), (4, [2, 3, 4, 6]), (5, [2, 3, 4, 6]), (6, [2, 3, 4, 6]), (7, [2, 3, 4]), (8, [3, 4, 7]), (9, [2, 3, 4, 6]), (10, [2, 3, 4, 6]), (11, [4])], an := [(5, [0, 1, 0, 0, 8, 24, 63, 127, 255]), (7, [0, 1, 0, 4, 15, 0, 32, 127, 255, 511, 511, 1023, 4095]), (10, [0, 1, 0, 4, 0, 16, 0, 0, 128, 0, 512, 1920, 4032, 8188, 16380, 32767, 65535, 131071])], own := true, ow := [(0, 9, 4), (0, 10, 1)] }
attribute [go_sem] H_impl_LogAnswer
theorem ok_H_impl_LogAnswer : H_impl_LogAnswer.ok Try.prog := AllOk.okR (.cons ok_impl_LeavesOk (.cons ok_impl_WireOk (.cons ok_rootOf (.cons ok_impl_GrowthOf (.cons ok_impl_copied_string .nil))))) .nil mix
theorem o_impl_LogAnswer (l : List ByteArray) (m : Msg) (h : ansP l m) : VFun Try.prog 11 [(CE.st cLog).enc l, (CE.st cMsg).enc m] [] (oAns (ansM l m)) (rMsg (ansM l m).1) := by
  obtain ⟨p1, p2, p3⟩ := h
  refine VFun_own (rin := []) (n := 94) (rs := [.cell 4 36, .tmp 5]) Try.func11 rfl rfl rfl rfl H_impl_LogAnswer ok_H_impl_LogAnswer (Nat.le_of_ble_eq_true rfl) (by kernel_rfl) ?_
  by_cases h0 : leavesOk l = true ∧ wireOkM m = true
  case neg =>
    rw [ansM_no h0]
    by_cases hk : leavesOk l = true
    · have hw : wireOkM m = false := by simpa [hk] using h0
      simp only [go_sem, ↓reduceIte, reduceCtorEq, Nat.reduceAdd, Nat.reduceMul, Nat.reduceEqDiff, Nat.reduceSub, Nat.reduceLT, Nat.reduceLeDiff, Nat.reduceAnd, Nat.reduceShiftRight, Nat.reduceBEq, Nat.reduceBNe, Nat.reduceBneDiff, Nat.reduceBeqDiff, Int.reduceToNat, Int.reduceLE, Int.reduceLT, Int.reduceEq, hk, hw]
      refine ⟨p1, ⟨p2, p3⟩, ?_⟩
      first | rfl | exact ⟨rfl, rfl⟩
    · have hk' : leavesOk l = false := by simpa using hk
      simp only [go_sem, ↓reduceIte, reduceCtorEq, Nat.reduceAdd, Nat.reduceMul, Nat.reduceEqDiff, Nat.reduceSub, Nat.reduceLT, Nat.reduceLeDiff, Nat.reduceAnd, Nat.reduceShiftRight, Nat.reduceBEq, Nat.reduceBNe, Nat.reduceBneDiff, Nat.reduceBeqDiff, Int.reduceToNat, Int.reduceLE, Int.reduceLT, Int.reduceEq, hk']
      refine ⟨p1, ?_⟩
      first | rfl | exact ⟨rfl, rfl⟩
  have hl := leavesOk_iff h0.1
  by_cases h1 : m.1 = 1
  · rw [ansM_1 h0 h1]
    simp only [go_sem, ↓reduceIte, reduceCtorEq, Nat.reduceAdd, Nat.reduceMul, Nat.reduceEqDiff, Nat.reduceSub, Nat.reduceLT, Nat.reduceLeDiff, Nat.reduceAnd, Nat.reduceShiftRight, Nat.reduceBEq, Nat.reduceBNe, Nat.reduceBneDiff, Nat.reduceBeqDiff, Int.reduceToNat, Int.reduceLE, Int.reduceLT, Int.reduceEq, h0, eq_true h1]
    exact ⟨p1, ⟨p2, p3⟩, hl⟩
  by_cases h4 : m.1 = 4 ∧ m.2.2.1 ≤ m.2.2.2.1 ∧ m.2.2.2.1 ≤ l.length
  · obtain ⟨b1, b2⟩ := wire_4 h0.2 h4.1
    rw [ansM_4 h0 h4]
    simp only [go_sem, ↓reduceIte, reduceCtorEq, Nat.reduceAdd, Nat.reduceMul, Nat.reduceEqDiff, Nat.reduceSub, Nat.reduceLT, Nat.reduceLeDiff, Nat.reduceAnd, Nat.reduceShiftRight, Nat.reduceBEq, Nat.reduceBNe, Nat.reduceBneDiff, Nat.reduceBeqDiff, Int.reduceToNat, Int.reduceLE, Int.reduceLT, Int.reduceEq, h0, h1, eq_true h4.1, h4.2]
    refine ⟨p1, ⟨p2, p3⟩, by omega, by rw [List.length_take]; omega, ?_⟩
    first | rfl | exact ⟨rfl, rfl⟩
  by_cases h7 : m.1 = 7 ∧ m.2.2.1 < l.length
  · obtain ⟨b1, b2⟩ := wire_7 h0.2 h7.1
    have n4 : (m.1 = 4) = False := eq_false (by omega)
    have w1 : IntKind.i64.wrap (m.2.2.1 + m.2.2.2.2.2.1) = m.2.2.1 + m.2.2.2.2.2.1 := by rw [wrap64] <;> omega
    rw [ansM_7 h0 h7]
    simp only [go_sem, ↓reduceIte, reduceCtorEq, Nat.reduceAdd, Nat.reduceMul, Nat.reduceEqDiff, Nat.reduceSub, Nat.reduceLT, Nat.reduceLeDiff, Nat.reduceAnd, Nat.reduceShiftRight, Nat.reduceBEq, Nat.reduceBNe, Nat.reduceBneDiff, Nat.reduceBeqDiff, Int.reduceToNat, Int.reduceLE, Int.reduceLT, Int.reduceEq, h0, h1, n4, eq_true h7.1, h7.2, w1]
    refine ⟨p1, ⟨p2, p3⟩, by omega, by rw [List.length_take, List.length_drop]; omega, ?_⟩
    unfold takeN
    exact ⟨rfl, rfl⟩
  rw [ansM_x h1 h4 h7]
  have key : (m.1 = 4 ∧ m.2.2.1 ≤ m.2.2.2.1 ∧ ¬ m.2.2.2.1 ≤ (l.length : Int)) ∨ (m.1 = 4 ∧ ¬ m.2.2.1 ≤ m.2.2.2.1) ∨ (¬ m.1 = 4 ∧ m.1 = 7 ∧ ¬ m.2.2.1 < (l.length : Int)) ∨ (¬ m.1 = 4 ∧ ¬ m.1 = 7) := by omega
  rcases key with ⟨a, b, c⟩ | ⟨a, b⟩ | ⟨a, b, c⟩ | ⟨a, b⟩
  · have n7 : (m.1 = 7) = False := eq_false (by omega)
    simp only [go_sem, ↓reduceIte, reduceCtorEq, Nat.reduceAdd, Nat.reduceMul, Nat.reduceEqDiff, Nat.reduceSub, Nat.reduceLT, Nat.reduceLeDiff, Nat.reduceAnd, Nat.reduceShiftRight, Nat.reduceBEq, Nat.reduceBNe, Nat.reduceBneDiff, Nat.reduceBeqDiff, Int.reduceToNat, Int.reduceLE, Int.reduceLT, Int.reduceEq, h0, h1, eq_true a, b, c, n7]
    refine ⟨p1, ⟨p2, p3⟩, ?_⟩
    first | rfl | exact ⟨rfl, rfl⟩
  · have n7 : (m.1 = 7) = False := eq_false (by omega)
    simp only [go_sem, ↓reduceIte, reduceCtorEq, Nat.reduceAdd, Nat.reduceMul, Nat.reduceEqDiff, Nat.reduceSub, Nat.reduceLT, Nat.reduceLeDiff, Nat.reduceAnd, Nat.reduceShiftRight, Nat.reduceBEq, Nat.reduceBNe, Nat.reduceBneDiff, Nat.reduceBeqDiff, Int.reduceToNat, Int.reduceLE, Int.reduceLT, Int.reduceEq, h0, h1, eq_true a, b, n7]
    refine ⟨p1, ⟨p2, p3⟩, ?_⟩
    first | rfl | exact ⟨rfl, rfl⟩
  · simp only [go_sem, ↓reduceIte, reduceCtorEq, Nat.reduceAdd, Nat.reduceMul, Nat.reduceEqDiff, Nat.reduceSub, Nat.reduceLT, Nat.reduceLeDiff, Nat.reduceAnd, Nat.reduceShiftRight, Nat.reduceBEq, Nat.reduceBNe, Nat.reduceBneDiff, Nat.reduceBeqDiff, Int.reduceToNat, Int.reduceLE, Int.reduceLT, Int.reduceEq, h0, h1, a, eq_true b, c]
    refine ⟨p1, ⟨p2, p3⟩, ?_⟩
    first | rfl | exact ⟨rfl, rfl⟩
  · simp only [go_sem, ↓reduceIte, reduceCtorEq, Nat.reduceAdd, Nat.reduceMul, Nat.reduceEqDiff, Nat.reduceSub, Nat.reduceLT, Nat.reduceLeDiff, Nat.reduceAnd, Nat.reduceShiftRight, Nat.reduceBEq, Nat.reduceBNe, Nat.reduceBneDiff, Nat.reduceBeqDiff, Int.reduceToNat, Int.reduceLE, Int.reduceLT, Int.reduceEq, h0, h1, a, b]
    refine ⟨p1, ⟨p2, p3⟩, ?_⟩
    first | rfl | exact ⟨rfl, rfl⟩
theorem ok_impl_LogAnswer : OAns.ok Try.prog 11 := FM.g2_ok o_impl_LogAnswer

def H_spec_LogAnswer : Hint := { fs := [(26, MLeavesOk), (27, MWireOk), (28, MRoot), (29, OGrow), (30, OCopied_string)], kp := [(0, [0, 1]), (1, [2, 3, 4]), (2, [2, 3, 4, 6]), (3, [4, 6]), (4, [2, 3, 4, 6]), (5, [2, 3, 4, 6, 7]), (6, [2, 3, 4, 7]), (7, [2, 3, 4, 6, 7]), (8, [2, 3, 4]), (9, [3, 4, 8]), (10, [2, 3, 4, 6, 7]), (11, [2, 3, 4, 7]), (12, [2, 3, 4, 7, 10]), (13, [2, 3, 4, 7]), (14, [2, 3, 4, 10]), (15, [4, 6])], an := [(6, [0, 1, 0, 0, 8, 24, 63, 127, 255]), (8, [0, 1, 0, 4, 15, 0, 32, 127, 255, 511, 511, 1023, 4095]), (14, [0, 1, 0, 4, 0, 16, 0, 124, 252, 511, 1023, 2047])], own := true, ow := [(0, 9, 4), (0, 10, 1)] }
attribute [go_sem] H_spec_LogAnswer
theorem ok_H_spec_LogAnswer : H_spec_LogAnswer.ok Try.prog := AllOk.okR (.cons ok_spec_LeavesOk (.cons ok_spec_WireOk (.cons ok_l2Root (.cons ok_spec_GrowthOf (.cons ok_spec_l2Leaves .nil))))) .nil mix
theorem o_spec_LogAnswer (l : List ByteArray) (m : Msg) (h : ansP l m) : VFun Try.prog 8 [(CE.st cLog).enc l, (CE.st cMsg).enc m] [] (oAns (ansM l m)) (rMsg (ansM l m).1) := by
  obtain ⟨p1, p2, p3⟩ := h
  refine VFun_own (rin := []) (n := 97) (rs := [.cell 4 36, .tmp 5]) Try.func8 rfl rfl rfl rfl H_spec_LogAnswer ok_H_spec_LogAnswer (Nat.le_of_ble_eq_true rfl) (by kernel_rfl) ?_
  by_cases h0 : leavesOk l = true ∧ wireOkM m = true
  case neg =>
    rw [ansM_no h0]
    by_cases hk : leavesOk l = true
    · have hw : wireOkM m = false := by simpa [hk] using h0
      simp only [go_sem, ↓reduceIte, reduceCtorEq, Nat.reduceAdd, Nat.reduceMul, Nat.reduceEqDiff, Nat.reduceSub, Nat.reduceLT, Nat.reduceLeDiff, Nat.reduceAnd, Nat.reduceShiftRight, Nat.reduceBEq, Nat.reduceBNe, Nat.reduceBneDiff, Nat.reduceBeqDiff, Int.reduceToNat, Int.reduceLE, Int.reduceLT, Int.reduceEq, hk, hw]
      refine ⟨p1, ⟨p2, p3⟩, ?_⟩
      first | rfl | exact ⟨rfl, rfl⟩
    · have hk' : leavesOk l = false := by simpa using hk
      simp only [go_sem, ↓reduceIte, reduceCtorEq, Nat.reduceAdd, Nat.reduceMul, Nat.reduceEqDiff, Nat.reduceSub, Nat.reduceLT, Nat.reduceLeDiff, Nat.reduceAnd, Nat.reduceShiftRight, Nat.reduceBEq, Nat.reduceBNe, Nat.reduceBneDiff, Nat.reduceBeqDiff, Int.reduceToNat, Int.reduceLE, Int.reduceLT, Int.reduceEq, hk']
      refine ⟨p1, ?_⟩
      first | rfl | exact ⟨rfl, rfl⟩
  have hl := leavesOk_iff h0.1
  by_cases h1 : m.1 = 1
  · rw [ansM_1 h0 h1]
    simp only [go_sem, ↓reduceIte, reduceCtorEq, Nat.reduceAdd, Nat.reduceMul, Nat.reduceEqDiff, Nat.reduceSub, Nat.reduceLT, Nat.reduceLeDiff, Nat.reduceAnd, Nat.reduceShiftRight, Nat.reduceBEq, Nat.reduceBNe, Nat.reduceBneDiff, Nat.reduceBeqDiff, Int.reduceToNat, Int.reduceLE, Int.reduceLT, Int.reduceEq, h0, eq_true h1]
    exact ⟨p1, ⟨p2, p3⟩, hl⟩
  by_cases h4 : m.1 = 4 ∧ m.2.2.1 ≤ m.2.2.2.1 ∧ m.2.2.2.1 ≤ l.length
  · obtain ⟨b1, b2⟩ := wire_4 h0.2 h4.1
    rw [ansM_4 h0 h4]
    simp only [go_sem, ↓reduceIte, reduceCtorEq, Nat.reduceAdd, Nat.reduceMul, Nat.reduceEqDiff, Nat.reduceSub, Nat.reduceLT, Nat.reduceLeDiff, Nat.reduceAnd, Nat.reduceShiftRight, Nat.reduceBEq, Nat.reduceBNe, Nat.reduceBneDiff, Nat.reduceBeqDiff, Int.reduceToNat, Int.reduceLE, Int.reduceLT, Int.reduceEq, h0, h1, eq_true h4.1, h4.2]
    refine ⟨p1, ⟨p2, p3⟩, by omega, by rw [List.length_take]; omega, ?_⟩
    first | rfl | exact ⟨rfl, rfl⟩
  by_cases h7 : m.1 = 7 ∧ m.2.2.1 < l.length
  · obtain ⟨b1, b2⟩ := wire_7 h0.2 h7.1
    have n4 : (m.1 = 4) = False := eq_false (by omega)
    have tk : takeN l m.2.2.1 m.2.2.2.2.2.1 = (l.drop m.2.2.1.toNat).take ((if (l.length : Int) < m.2.2.1 + m.2.2.2.2.2.1 then (l.length : Int) else m.2.2.1 + m.2.2.2.2.2.1).toNat - m.2.2.1.toNat) := by
      unfold takeN
      congr 3
      split <;> omega
    have w1 : IntKind.i64.wrap (m.2.2.1 + m.2.2.2.2.2.1) = m.2.2.1 + m.2.2.2.2.2.1 := by rw [wrap64] <;> omega
    rw [ansM_7 h0 h7, tk]
    by_cases c : (l.length : Int) < m.2.2.1 + m.2.2.2.2.2.1
    · rw [if_pos c]
      simp only [go_sem, ↓reduceIte, reduceCtorEq, Nat.reduceAdd, Nat.reduceMul, Nat.reduceEqDiff, Nat.reduceSub, Nat.reduceLT, Nat.reduceLeDiff, Nat.reduceAnd, Nat.reduceShiftRight, Nat.reduceBEq, Nat.reduceBNe, Nat.reduceBneDiff, Nat.reduceBeqDiff, Int.reduceToNat, Int.reduceLE, Int.reduceLT, Int.reduceEq, h0, h1, n4, eq_true h7.1, h7.2, w1, c]
      exact ⟨p1, ⟨p2, p3⟩, by omega, by omega, rfl⟩
    · rw [if_neg c]
      simp only [go_sem, ↓reduceIte, reduceCtorEq, Nat.reduceAdd, Nat.reduceMul, Nat.reduceEqDiff, Nat.reduceSub, Nat.reduceLT, Nat.reduceLeDiff, Nat.reduceAnd, Nat.reduceShiftRight, Nat.reduceBEq, Nat.reduceBNe, Nat.reduceBneDiff, Nat.reduceBeqDiff, Int.reduceToNat, Int.reduceLE, Int.reduceLT, Int.reduceEq, h0, h1, n4, eq_true h7.1, h7.2, w1, c]
      exact ⟨p1, ⟨p2, p3⟩, by omega, by rw [List.length_take, List.length_drop]; omega, rfl⟩
  rw [ansM_x h1 h4 h7]
  have key : (m.1 = 4 ∧ m.2.2.1 ≤ m.2.2.2.1 ∧ ¬ m.2.2.2.1 ≤ (l.length : Int)) ∨ (m.1 = 4 ∧ ¬ m.2.2.1 ≤ m.2.2.2.1) ∨ (¬ m.1 = 4 ∧ m.1 = 7 ∧ ¬ m.2.2.1 < (l.length : Int)) ∨ (¬ m.1 = 4 ∧ ¬ m.1 = 7) := by omega
  rcases key with ⟨a, b, c⟩ | ⟨a, b⟩ | ⟨a, b, c⟩ | ⟨a, b⟩
  · have n7 : (m.1 = 7) = False := eq_false (by omega)
    simp only [go_sem, ↓reduceIte, reduceCtorEq, Nat.reduceAdd, Nat.reduceMul, Nat.reduceEqDiff, Nat.reduceSub, Nat.reduceLT, Nat.reduceLeDiff, Nat.reduceAnd, Nat.reduceShiftRight, Nat.reduceBEq, Nat.reduceBNe, Nat.reduceBneDiff, Nat.reduceBeqDiff, Int.reduceToNat, Int.reduceLE, Int.reduceLT, Int.reduceEq, h0, h1, eq_true a, b, c, n7]
    refine ⟨p1, ⟨p2, p3⟩, ?_⟩
    first | rfl | exact ⟨rfl, rfl⟩
  · have n7 : (m.1 = 7) = False := eq_false (by omega)
    simp only [go_sem, ↓reduceIte, reduceCtorEq, Nat.reduceAdd, Nat.reduceMul, Nat.reduceEqDiff, Nat.reduceSub, Nat.reduceLT, Nat.reduceLeDiff, Nat.reduceAnd, Nat.reduceShiftRight, Nat.reduceBEq, Nat.reduceBNe, Nat.reduceBneDiff, Nat.reduceBeqDiff, Int.reduceToNat, Int.reduceLE, Int.reduceLT, Int.reduceEq, h0, h1, eq_true a, b, n7]
    refine ⟨p1, ⟨p2, p3⟩, ?_⟩
    first | rfl | exact ⟨rfl, rfl⟩
  · simp only [go_sem, ↓reduceIte, reduceCtorEq, Nat.reduceAdd, Nat.reduceMul, Nat.reduceEqDiff, Nat.reduceSub, Nat.reduceLT, Nat.reduceLeDiff, Nat.reduceAnd, Nat.reduceShiftRight, Nat.reduceBEq, Nat.reduceBNe, Nat.reduceBneDiff, Nat.reduceBeqDiff, Int.reduceToNat, Int.reduceLE, Int.reduceLT, Int.reduceEq, h0, h1, a, eq_true b, c]
    refine ⟨p1, ⟨p2, p3⟩, ?_⟩
    first | rfl | exact ⟨rfl, rfl⟩
  · simp only [go_sem, ↓reduceIte, reduceCtorEq, Nat.reduceAdd, Nat.reduceMul, Nat.reduceEqDiff, Nat.reduceSub, Nat.reduceLT, Nat.reduceLeDiff, Nat.reduceAnd, Nat.reduceShiftRight, Nat.reduceBEq, Nat.reduceBNe, Nat.reduceBneDiff, Nat.reduceBeqDiff, Int.reduceToNat, Int.reduceLE, Int.reduceLT, Int.reduceEq, h0, h1, a, b]
    refine ⟨p1, ⟨p2, p3⟩, ?_⟩
    first | rfl | exact ⟨rfl, rfl⟩
theorem ok_spec_LogAnswer : OAns.ok Try.prog 8 := FM.g2_ok o_spec_LogAnswer

end Go.Proofs.YtfccplibbdnkpaaW.V

