/- Functions: what is told by a client, compared and marked. No condition but each theorem's own. -/
import Derived.Test.YtlofjogebacndaaFWC
import Derived.Test.YtlofjogebacndaaFQM
namespace Go.Proofs.YtlofjogebacndaaW.V
open Go Go.Proofs
set_option linter.unusedSimpArgs false
set_option linter.unusedVariables false
set_option maxRecDepth 8000
set_option maxHeartbeats 4000000

set_option synthInstance.maxSize 1000

abbrev Alarm := Int × Int × Point × Point × Int
abbrev cAlarm : Cd Alarm := cPair (cInt .i64) (cPair (cInt .i64) (cPair cPoint (cPair cPoint (cInt .i64))))
abbrev Told := Client × List Letter × List Alarm × List Point
abbrev cTold : Cd Told := cPair cClient (cPair (cList cLetter) (cPair (cList cAlarm) (cList cPoint)))
attribute [go_sem] cAlarm cTold
instance : DecidableEq Alarm := instDecidableEqProd
instance : DecidableEq Told := instDecidableEqProd

def H_laws_eqLetter : Hint := { fs := [], kp := [(0, [0, 1]), (1, [2, 3]), (2, []), (3, [2, 3]), (4, []), (5, [2, 3]), (6, []), (7, [])], an := [] }
attribute [go_sem] H_laws_eqLetter
theorem ok_H_laws_eqLetter : H_laws_eqLetter.ok Try.prog := AllOk.okR .nil .nil mix
theorem f_eqLetter (x y : Letter) : VFun Try.prog 89 [(CE.st cLetter).enc x, (CE.st cLetter).enc y] [] (eBool.enc (decide (x = y))) [] := by
  obtain ⟨a, b, c⟩ := x
  obtain ⟨a', b', c'⟩ := y
  refine VFun_pure (n := 20) (rs := [.tmp 4]) Try.func89 rfl rfl rfl rfl H_laws_eqLetter ok_H_laws_eqLetter _ _ (Nat.le_of_ble_eq_true rfl) (by kernel_rfl) ?_
  simp only [go_sem, ↓reduceIte, reduceCtorEq, Nat.reduceAdd, Nat.reduceMul, Nat.reduceEqDiff, Nat.reduceSub, Nat.reduceLT, Nat.reduceLeDiff, Nat.reduceAnd, Nat.reduceShiftRight, Nat.reduceBEq, Nat.reduceBNe, Nat.reduceBneDiff, Nat.reduceBeqDiff, Int.reduceToNat, Int.reduceLE, Int.reduceLT, Int.reduceEq]
  by_cases h1 : a = a' <;> by_cases h2 : b = b' <;> by_cases h3 : c = c' <;> simp [h1, h2, h3]
abbrev MEqLetter : FM := .f2 (CE.st cLetter) (CE.st cLetter) eBool.enc (fun x y => decide (x = y)) (fun _ _ => True)
attribute [go_sem] MEqLetter
theorem ok_laws_eqLetter : MEqLetter.ok Try.prog 89 := FM.f2_ok fun x y _ => f_eqLetter x y

def H_laws_eqAlarm : Hint := { fs := [(37, M147)], kp := [(0, [0, 1]), (1, [2, 3]), (2, []), (3, [2, 3]), (4, []), (5, [2, 3]), (6, []), (7, [2, 3]), (8, []), (9, [2, 3]), (10, []), (11, [])], an := [] }
attribute [go_sem] H_laws_eqAlarm
theorem ok_H_laws_eqAlarm : H_laws_eqAlarm.ok Try.prog := AllOk.okR (.cons m147 .nil) .nil mix
theorem f_eqAlarm (x y : Alarm) : VFun Try.prog 90 [(CE.st cAlarm).enc x, (CE.st cAlarm).enc y] [] (eBool.enc (decide (x = y))) [] := by
  obtain ⟨a, b, c, d, e⟩ := x
  obtain ⟨a', b', c', d', e'⟩ := y
  refine VFun_pure (n := 32) (rs := [.tmp 4]) Try.func90 rfl rfl rfl rfl H_laws_eqAlarm ok_H_laws_eqAlarm _ _ (Nat.le_of_ble_eq_true rfl) (by kernel_rfl) ?_
  simp only [go_sem, ↓reduceIte, reduceCtorEq, Nat.reduceAdd, Nat.reduceMul, Nat.reduceEqDiff, Nat.reduceSub, Nat.reduceLT, Nat.reduceLeDiff, Nat.reduceAnd, Nat.reduceShiftRight, Nat.reduceBEq, Nat.reduceBNe, Nat.reduceBneDiff, Nat.reduceBeqDiff, Int.reduceToNat, Int.reduceLE, Int.reduceLT, Int.reduceEq]
  by_cases h1 : a = a' <;> by_cases h2 : b = b' <;> by_cases h3 : c = c' <;> by_cases h4 : d = d' <;> by_cases h5 : e = e' <;> simp_all
abbrev MEqAlarm : FM := .f2 (CE.st cAlarm) (CE.st cAlarm) eBool.enc (fun x y => decide (x = y)) (fun _ _ => True)
attribute [go_sem] MEqAlarm
theorem ok_laws_eqAlarm : MEqAlarm.ok Try.prog 90 := FM.f2_ok fun x y _ => f_eqAlarm x y

def H_laws_eqLetterS : Hint := { fs := [(89, MEqLetter)], kp := [(0, [0, 1]), (1, [0, 1]), (2, []), (3, [0, 1]), (4, [0, 1, 5]), (6, [0, 1, 5]), (7, []), (5, [0, 1, 5]), (8, [])], an := [(6, [0, 0, 3, 7, 0, 0, 48, 112, 255, 511])] }
attribute [go_sem] H_laws_eqLetterS
theorem ok_H_laws_eqLetterS : H_laws_eqLetterS.ok Try.prog := AllOk.okR (.cons ok_laws_eqLetter .nil) .nil mix
theorem f_eq_letters (xs ys) (hl : xs.length ≤ maxLen) : VFun Try.prog 45 [(eList cLetter).enc xs, (eList cLetter).enc ys] [] (eBool.enc (decide (xs = ys))) [] := by
  unfold maxLen at hl
  refine VFun_pure (n := 27) (rs := [.tmp 4]) Try.func45 rfl rfl rfl rfl H_laws_eqLetterS ok_H_laws_eqLetterS _ _ (Nat.le_of_ble_eq_true rfl) (by kernel_rfl) ?_
  simp only [go_sem, ↓reduceIte, reduceCtorEq, Nat.reduceAdd, Nat.reduceMul, Nat.reduceEqDiff, Nat.reduceSub, Nat.reduceLT, Nat.reduceLeDiff, Nat.reduceAnd, Nat.reduceShiftRight, Nat.reduceBEq, Nat.reduceBNe, Nat.reduceBneDiff, Nat.reduceBeqDiff, Int.reduceToNat, Int.reduceLE, Int.reduceLT, Int.reduceEq]
  refine ite_intro (fun h1 => ?_) fun h1 => ?_
  · have : xs ≠ ys := fun e => by simp [e] at h1
    simp [this]
  · have hlen : xs.length = ys.length := by simp at h1; omega
    refine LoopV.go (H := H_laws_eqLetterS) ok_H_laws_eqLetterS (by kernel_rfl) (fun i : Nat => ⟨[(0, .x (.o (.c (.s (xs.map (cLetter).enc))))), (1, .x (.o (.c (.s (ys.map (cLetter).enc))))), (5, sc (.int .i64 i))], [], 2⟩) (fun i => xs.length - i) (fun i => i ≤ xs.length ∧ ∀ j, j < i → xs[j]? = ys[j]?) ?_ 0 ⟨Nat.zero_le _, fun j h => by omega⟩
    intro i ⟨hi, hall⟩
    rcases Nat.lt_or_ge i xs.length with hlt | hge
    · have hx : xs[i]? = some xs[i] := List.getElem?_eq_getElem hlt
      have hy : ys[i]? = some (ys[i]'(by omega)) := List.getElem?_eq_getElem (by omega)
      generalize xs[i] = x at hx
      generalize ys[i]'(by omega) = y at hy
      have hw : IntKind.i64.wrap ((i : Int) + 1) = ((i + 1 : Nat) : Int) := by rw [wrap64] <;> omega
      have hlt' : ((i : Int) < (xs.length : Int)) = True := by simp; omega
      simp only [go_sem, ↓reduceIte, reduceCtorEq, Nat.reduceAdd, Nat.reduceMul, Nat.reduceEqDiff, Nat.reduceSub, Nat.reduceLT, Nat.reduceLeDiff, Nat.reduceAnd, Nat.reduceShiftRight, Nat.reduceBEq, Nat.reduceBNe, Nat.reduceBneDiff, Nat.reduceBeqDiff, Int.reduceToNat, Int.reduceLE, Int.reduceLT, Int.reduceEq, hx, hy, hw, hlt']
      refine ite_intro (fun h3 => ?_) fun h3 => ⟨i + 1, ⟨hlt, fun j hj => ?_⟩, by omega, rfl⟩
      · have : xs ≠ ys := fun e => by
          rw [e, hy] at hx
          cases hx
          simp at h3
        simp [this]
      · rcases Nat.lt_or_ge j i with h4 | h4
        · exact hall j h4
        · rw [show j = i by omega, hx, hy]
          simpa using h3
    · have hlt' : ((i : Int) < (xs.length : Int)) = False := by simp; omega
      simp only [go_sem, ↓reduceIte, reduceCtorEq, Nat.reduceAdd, Nat.reduceMul, Nat.reduceEqDiff, Nat.reduceSub, Nat.reduceLT, Nat.reduceLeDiff, Nat.reduceAnd, Nat.reduceShiftRight, Nat.reduceBEq, Nat.reduceBNe, Nat.reduceBneDiff, Nat.reduceBeqDiff, Int.reduceToNat, Int.reduceLE, Int.reduceLT, Int.reduceEq, hlt']
      have : xs = ys := List.ext_getElem? fun j => by
        rcases Nat.lt_or_ge j i with h4 | h4
        · exact hall j h4
        · rw [List.getElem?_eq_none (by omega), List.getElem?_eq_none (by omega)]
      simp [this]
abbrev MEq_letters : FM := .f2 (eList cLetter) (eList cLetter) eBool.enc (fun x y => decide (x = y)) (fun x _ => x.length ≤ maxLen)
attribute [go_sem] MEq_letters
theorem ok_laws_eqLetterS : MEq_letters.ok Try.prog 45 := FM.f2_ok fun x y h => f_eq_letters x y h

def H_laws_eqAlarmS : Hint := { fs := [(90, MEqAlarm)], kp := [(0, [0, 1]), (1, [0, 1]), (2, []), (3, [0, 1]), (4, [0, 1, 5]), (6, [0, 1, 5]), (7, []), (5, [0, 1, 5]), (8, [])], an := [(6, [0, 0, 3, 7, 0, 0, 48, 112, 255, 511])] }
attribute [go_sem] H_laws_eqAlarmS
theorem ok_H_laws_eqAlarmS : H_laws_eqAlarmS.ok Try.prog := AllOk.okR (.cons ok_laws_eqAlarm .nil) .nil mix
theorem f_eq_alarms (xs ys) (hl : xs.length ≤ maxLen) : VFun Try.prog 46 [(eList cAlarm).enc xs, (eList cAlarm).enc ys] [] (eBool.enc (decide (xs = ys))) [] := by
  unfold maxLen at hl
  refine VFun_pure (n := 27) (rs := [.tmp 4]) Try.func46 rfl rfl rfl rfl H_laws_eqAlarmS ok_H_laws_eqAlarmS _ _ (Nat.le_of_ble_eq_true rfl) (by kernel_rfl) ?_
  simp only [go_sem, ↓reduceIte, reduceCtorEq, Nat.reduceAdd, Nat.reduceMul, Nat.reduceEqDiff, Nat.reduceSub, Nat.reduceLT, Nat.reduceLeDiff, Nat.reduceAnd, Nat.reduceShiftRight, Nat.reduceBEq, Nat.reduceBNe, Nat.reduceBneDiff, Nat.reduceBeqDiff, Int.reduceToNat, Int.reduceLE, Int.reduceLT, Int.reduceEq]
  refine ite_intro (fun h1 => ?_) fun h1 => ?_
  · have : xs ≠ ys := fun e => by simp [e] at h1
    simp [this]
  · have hlen : xs.length = ys.length := by simp at h1; omega
    refine LoopV.go (H := H_laws_eqAlarmS) ok_H_laws_eqAlarmS (by kernel_rfl) (fun i : Nat => ⟨[(0, .x (.o (.c (.s (xs.map (cAlarm).enc))))), (1, .x (.o (.c (.s (ys.map (cAlarm).enc))))), (5, sc (.int .i64 i))], [], 2⟩) (fun i => xs.length - i) (fun i => i ≤ xs.length ∧ ∀ j, j < i → xs[j]? = ys[j]?) ?_ 0 ⟨Nat.zero_le _, fun j h => by omega⟩
    intro i ⟨hi, hall⟩
    rcases Nat.lt_or_ge i xs.length with hlt | hge
    · have hx : xs[i]? = some xs[i] := List.getElem?_eq_getElem hlt
      have hy : ys[i]? = some (ys[i]'(by omega)) := List.getElem?_eq_getElem (by omega)
      generalize xs[i] = x at hx
      generalize ys[i]'(by omega) = y at hy
      have hw : IntKind.i64.wrap ((i : Int) + 1) = ((i + 1 : Nat) : Int) := by rw [wrap64] <;> omega
      have hlt' : ((i : Int) < (xs.length : Int)) = True := by simp; omega
      simp only [go_sem, ↓reduceIte, reduceCtorEq, Nat.reduceAdd, Nat.reduceMul, Nat.reduceEqDiff, Nat.reduceSub, Nat.reduceLT, Nat.reduceLeDiff, Nat.reduceAnd, Nat.reduceShiftRight, Nat.reduceBEq, Nat.reduceBNe, Nat.reduceBneDiff, Nat.reduceBeqDiff, Int.reduceToNat, Int.reduceLE, Int.reduceLT, Int.reduceEq, hx, hy, hw, hlt']
      refine ite_intro (fun h3 => ?_) fun h3 => ⟨i + 1, ⟨hlt, fun j hj => ?_⟩, by omega, rfl⟩
      · have : xs ≠ ys := fun e => by
          rw [e, hy] at hx
          cases hx
          simp at h3
        simp [this]
      · rcases Nat.lt_or_ge j i with h4 | h4
        · exact hall j h4
        · rw [show j = i by omega, hx, hy]
          simpa using h3
    · have hlt' : ((i : Int) < (xs.length : Int)) = False := by simp; omega
      simp only [go_sem, ↓reduceIte, reduceCtorEq, Nat.reduceAdd, Nat.reduceMul, Nat.reduceEqDiff, Nat.reduceSub, Nat.reduceLT, Nat.reduceLeDiff, Nat.reduceAnd, Nat.reduceShiftRight, Nat.reduceBEq, Nat.reduceBNe, Nat.reduceBneDiff, Nat.reduceBeqDiff, Int.reduceToNat, Int.reduceLE, Int.reduceLT, Int.reduceEq, hlt']
      have : xs = ys := List.ext_getElem? fun j => by
        rcases Nat.lt_or_ge j i with h4 | h4
        · exact hall j h4
        · rw [List.getElem?_eq_none (by omega), List.getElem?_eq_none (by omega)]
      simp [this]
abbrev MEq_alarms : FM := .f2 (eList cAlarm) (eList cAlarm) eBool.enc (fun x y => decide (x = y)) (fun x _ => x.length ≤ maxLen)
attribute [go_sem] MEq_alarms
theorem ok_laws_eqAlarmS : MEq_alarms.ok Try.prog 46 := FM.f2_ok fun x y h => f_eq_alarms x y h

def H_laws_eqPointS : Hint := { fs := [(37, M147)], kp := [(0, [0, 1]), (1, [0, 1]), (2, []), (3, [0, 1]), (4, [0, 1, 5]), (6, [0, 1, 5]), (7, []), (5, [0, 1, 5]), (8, [])], an := [(6, [0, 0, 3, 7, 0, 0, 48, 112, 255, 511])] }
attribute [go_sem] H_laws_eqPointS
theorem ok_H_laws_eqPointS : H_laws_eqPointS.ok Try.prog := AllOk.okR (.cons m147 .nil) .nil mix
theorem f_eq_points (xs ys) (hl : xs.length ≤ maxLen) : VFun Try.prog 47 [(eList cPoint).enc xs, (eList cPoint).enc ys] [] (eBool.enc (decide (xs = ys))) [] := by
  unfold maxLen at hl
  refine VFun_pure (n := 27) (rs := [.tmp 4]) Try.func47 rfl rfl rfl rfl H_laws_eqPointS ok_H_laws_eqPointS _ _ (Nat.le_of_ble_eq_true rfl) (by kernel_rfl) ?_
  simp only [go_sem, ↓reduceIte, reduceCtorEq, Nat.reduceAdd, Nat.reduceMul, Nat.reduceEqDiff, Nat.reduceSub, Nat.reduceLT, Nat.reduceLeDiff, Nat.reduceAnd, Nat.reduceShiftRight, Nat.reduceBEq, Nat.reduceBNe, Nat.reduceBneDiff, Nat.reduceBeqDiff, Int.reduceToNat, Int.reduceLE, Int.reduceLT, Int.reduceEq]
  refine ite_intro (fun h1 => ?_) fun h1 => ?_
  · have : xs ≠ ys := fun e => by simp [e] at h1
    simp [this]
  · have hlen : xs.length = ys.length := by simp at h1; omega
    refine LoopV.go (H := H_laws_eqPointS) ok_H_laws_eqPointS (by kernel_rfl) (fun i : Nat => ⟨[(0, .x (.o (.c (.s (xs.map (cPoint).enc))))), (1, .x (.o (.c (.s (ys.map (cPoint).enc))))), (5, sc (.int .i64 i))], [], 2⟩) (fun i => xs.length - i) (fun i => i ≤ xs.length ∧ ∀ j, j < i → xs[j]? = ys[j]?) ?_ 0 ⟨Nat.zero_le _, fun j h => by omega⟩
    intro i ⟨hi, hall⟩
    rcases Nat.lt_or_ge i xs.length with hlt | hge
    · have hx : xs[i]? = some xs[i] := List.getElem?_eq_getElem hlt
      have hy : ys[i]? = some (ys[i]'(by omega)) := List.getElem?_eq_getElem (by omega)
      generalize xs[i] = x at hx
      generalize ys[i]'(by omega) = y at hy
      have hw : IntKind.i64.wrap ((i : Int) + 1) = ((i + 1 : Nat) : Int) := by rw [wrap64] <;> omega
      have hlt' : ((i : Int) < (xs.length : Int)) = True := by simp; omega
      simp only [go_sem, ↓reduceIte, reduceCtorEq, Nat.reduceAdd, Nat.reduceMul, Nat.reduceEqDiff, Nat.reduceSub, Nat.reduceLT, Nat.reduceLeDiff, Nat.reduceAnd, Nat.reduceShiftRight, Nat.reduceBEq, Nat.reduceBNe, Nat.reduceBneDiff, Nat.reduceBeqDiff, Int.reduceToNat, Int.reduceLE, Int.reduceLT, Int.reduceEq, hx, hy, hw, hlt']
      refine ite_intro (fun h3 => ?_) fun h3 => ⟨i + 1, ⟨hlt, fun j hj => ?_⟩, by omega, rfl⟩
      · have : xs ≠ ys := fun e => by
          rw [e, hy] at hx
          cases hx
          simp at h3
        simp [this]
      · rcases Nat.lt_or_ge j i with h4 | h4
        · exact hall j h4
        · rw [show j = i by omega, hx, hy]
          simpa using h3
    · have hlt' : ((i : Int) < (xs.length : Int)) = False := by simp; omega
      simp only [go_sem, ↓reduceIte, reduceCtorEq, Nat.reduceAdd, Nat.reduceMul, Nat.reduceEqDiff, Nat.reduceSub, Nat.reduceLT, Nat.reduceLeDiff, Nat.reduceAnd, Nat.reduceShiftRight, Nat.reduceBEq, Nat.reduceBNe, Nat.reduceBneDiff, Nat.reduceBeqDiff, Int.reduceToNat, Int.reduceLE, Int.reduceLT, Int.reduceEq, hlt']
      have : xs = ys := List.ext_getElem? fun j => by
        rcases Nat.lt_or_ge j i with h4 | h4
        · exact hall j h4
        · rw [List.getElem?_eq_none (by omega), List.getElem?_eq_none (by omega)]
      simp [this]
abbrev MEq_points : FM := .f2 (eList cPoint) (eList cPoint) eBool.enc (fun x y => decide (x = y)) (fun x _ => x.length ≤ maxLen)
attribute [go_sem] MEq_points
theorem ok_laws_eqPointS : MEq_points.ok Try.prog 47 := FM.f2_ok fun x y h => f_eq_points x y h

def H_laws_eqTold : Hint := { fs := [(16, M28), (45, MEq_letters), (46, MEq_alarms), (47, MEq_points)], kp := [(0, [0, 1]), (1, [2, 3]), (2, []), (3, [2, 3]), (4, []), (5, [2, 3]), (6, []), (7, [2, 3]), (8, []), (9, [])], an := [] }
attribute [go_sem] H_laws_eqTold
theorem ok_H_laws_eqTold : H_laws_eqTold.ok Try.prog := AllOk.okR (.cons m28 (.cons ok_laws_eqLetterS (.cons ok_laws_eqAlarmS (.cons ok_laws_eqPointS .nil)))) .nil mix
theorem f_eqTold (x y : Told) (h : x.1.2.2.2.2.2.1.length ≤ maxLen ∧ x.2.1.length ≤ maxLen ∧ x.2.2.1.length ≤ maxLen ∧ x.2.2.2.length ≤ maxLen) : VFun Try.prog 15 [(CE.st cTold).enc x, (CE.st cTold).enc y] [] (eBool.enc (decide (x = y))) [] := by
  obtain ⟨a, b, c, d⟩ := x
  obtain ⟨a', b', c', d'⟩ := y
  obtain ⟨l1, l2, l3, l4⟩ := h
  dsimp only at l1 l2 l3 l4
  refine VFun_pure (n := 29) (rs := [.tmp 4]) Try.func15 rfl rfl rfl rfl H_laws_eqTold ok_H_laws_eqTold _ _ (Nat.le_of_ble_eq_true rfl) (by kernel_rfl) ?_
  simp only [go_sem, ↓reduceIte, reduceCtorEq, Nat.reduceAdd, Nat.reduceMul, Nat.reduceEqDiff, Nat.reduceSub, Nat.reduceLT, Nat.reduceLeDiff, Nat.reduceAnd, Nat.reduceShiftRight, Nat.reduceBEq, Nat.reduceBNe, Nat.reduceBneDiff, Nat.reduceBeqDiff, Int.reduceToNat, Int.reduceLE, Int.reduceLT, Int.reduceEq]
  by_cases h1 : a = a' <;> by_cases h2 : b = b' <;> by_cases h3 : c = c' <;> by_cases h4 : d = d' <;> simp_all
abbrev MEqTold : FM := .f2 (CE.st cTold) (CE.st cTold) eBool.enc (fun x y => decide (x = y)) (fun x _ => x.1.2.2.2.2.2.1.length ≤ maxLen ∧ x.2.1.length ≤ maxLen ∧ x.2.2.1.length ≤ maxLen ∧ x.2.2.2.length ≤ maxLen)
attribute [go_sem] MEqTold
theorem ok_laws_eqTold : MEqTold.ok Try.prog 15 := FM.f2_ok fun x y h => f_eqTold x y h

/-- Marks of lists that are empty. -/
abbrev MNilA : FM := .f2 (eList cAlarm) (eInt .i64) (eInt .i64).enc (fun _ k => k) (fun xs _ => xs = [])
abbrev MNilP : FM := .f2 (eList cPoint) (eInt .i64) (eInt .i64).enc (fun _ k => k) (fun xs _ => xs = [])
attribute [go_sem] MNilA MNilP

def H_laws_markAlarmS : Hint := { fs := [], kp := [(0, [0, 1]), (1, [0, 1]), (2, [0, 1, 5]), (4, [0, 1, 5]), (5, [0, 1, 5]), (6, [0, 1, 5]), (7, [0, 1, 5]), (8, [0, 1, 5]), (9, [0, 1, 5]), (10, [0, 1, 5]), (11, [0, 1, 5]), (12, [0, 1, 5]), (13, [0, 1, 5]), (14, [0, 1, 5]), (15, [0, 1, 5]), (16, [0, 1, 5]), (17, [0, 1, 5]), (18, [0, 1, 5]), (19, [0, 1, 5]), (20, [0, 1, 5]), (21, [0, 1, 5]), (22, [0, 1, 5]), (23, [0, 1, 5]), (24, [0, 1, 5]), (25, [0, 1, 5]), (26, [0, 1, 5]), (27, [0, 1, 5]), (28, [0, 1, 5]), (29, [0, 1, 5]), (3, [0, 1, 5]), (30, [1])], an := [] }
attribute [go_sem] H_laws_markAlarmS
theorem ok_H_laws_markAlarmS : H_laws_markAlarmS.ok Try.prog := AllOk.okR .nil .nil mix
theorem f_nil_markAlarm (k : Int) : VFun Try.prog 51 [(eList cAlarm).enc [], (eInt .i64).enc k] [] ((eInt .i64).enc k) [] := by
  refine VFun_pure (n := 130) (rs := [.tmp 4]) Try.func51 rfl rfl rfl rfl H_laws_markAlarmS ok_H_laws_markAlarmS _ _ (Nat.le_of_ble_eq_true rfl) (by kernel_rfl) ?_
  simp only [go_sem, ↓reduceIte, reduceCtorEq, Nat.reduceAdd, Nat.reduceMul, Nat.reduceEqDiff, Nat.reduceSub, Nat.reduceLT, Nat.reduceLeDiff, Nat.reduceAnd, Nat.reduceShiftRight, Nat.reduceBEq, Nat.reduceBNe, Nat.reduceBneDiff, Nat.reduceBeqDiff, Int.reduceToNat, Int.reduceLE, Int.reduceLT, Int.reduceEq]
  refine LoopV.step ok_H_laws_markAlarmS (by kernel_rfl) ?_
  simp only [go_sem, ↓reduceIte, reduceCtorEq, Nat.reduceAdd, Nat.reduceMul, Nat.reduceEqDiff, Nat.reduceSub, Nat.reduceLT, Nat.reduceLeDiff, Nat.reduceAnd, Nat.reduceShiftRight, Nat.reduceBEq, Nat.reduceBNe, Nat.reduceBneDiff, Nat.reduceBeqDiff, Int.reduceToNat, Int.reduceLE, Int.reduceLT, Int.reduceEq]
theorem ok_laws_markAlarmS : MNilA.ok Try.prog 51 := FM.f2_ok fun xs k h => by subst h; exact f_nil_markAlarm k

def H_laws_heldAlarmS : Hint := { fs := [], kp := [(0, [0, 1]), (1, [0, 1]), (2, [0, 1, 5]), (4, [0, 1, 5]), (5, []), (6, [0, 1, 5]), (7, [0, 1, 5]), (8, []), (9, [0, 1, 5]), (10, [0, 1, 5]), (11, []), (12, [0, 1, 5]), (13, [0, 1, 5]), (14, []), (15, [0, 1, 5]), (16, [0, 1, 5]), (17, []), (18, [0, 1, 5]), (19, [0, 1, 5]), (20, []), (21, [0, 1, 5]), (22, [0, 1, 5]), (23, []), (24, [0, 1, 5]), (25, [0, 1, 5]), (26, []), (27, [0, 1, 5]), (28, [0, 1, 5]), (29, []), (30, [0, 1, 5]), (31, [0, 1, 5]), (32, []), (33, [0, 1, 5]), (34, [0, 1, 5]), (35, []), (36, [0, 1, 5]), (37, [0, 1, 5]), (38, []), (39, [0, 1, 5]), (40, [0, 1, 5]), (41, []), (42, [0, 1, 5]), (3, [0, 1, 5]), (43, [1])], an := [] }
attribute [go_sem] H_laws_heldAlarmS
theorem ok_H_laws_heldAlarmS : H_laws_heldAlarmS.ok Try.prog := AllOk.okR .nil .nil mix
theorem f_nil_heldAlarm (k : Int) : VFun Try.prog 55 [(eList cAlarm).enc [], (eInt .i64).enc k] [] ((eInt .i64).enc k) [] := by
  refine VFun_pure (n := 156) (rs := [.tmp 4]) Try.func55 rfl rfl rfl rfl H_laws_heldAlarmS ok_H_laws_heldAlarmS _ _ (Nat.le_of_ble_eq_true rfl) (by kernel_rfl) ?_
  simp only [go_sem, ↓reduceIte, reduceCtorEq, Nat.reduceAdd, Nat.reduceMul, Nat.reduceEqDiff, Nat.reduceSub, Nat.reduceLT, Nat.reduceLeDiff, Nat.reduceAnd, Nat.reduceShiftRight, Nat.reduceBEq, Nat.reduceBNe, Nat.reduceBneDiff, Nat.reduceBeqDiff, Int.reduceToNat, Int.reduceLE, Int.reduceLT, Int.reduceEq]
  refine LoopV.step ok_H_laws_heldAlarmS (by kernel_rfl) ?_
  simp only [go_sem, ↓reduceIte, reduceCtorEq, Nat.reduceAdd, Nat.reduceMul, Nat.reduceEqDiff, Nat.reduceSub, Nat.reduceLT, Nat.reduceLeDiff, Nat.reduceAnd, Nat.reduceShiftRight, Nat.reduceBEq, Nat.reduceBNe, Nat.reduceBneDiff, Nat.reduceBeqDiff, Int.reduceToNat, Int.reduceLE, Int.reduceLT, Int.reduceEq]
theorem ok_laws_heldAlarmS : MNilA.ok Try.prog 55 := FM.f2_ok fun xs k h => by subst h; exact f_nil_heldAlarm k

def H_laws_markPointS : Hint := { fs := [], kp := [(0, [0, 1]), (1, [0, 1]), (2, [0, 1, 5]), (4, [0, 1, 5]), (5, [0, 1, 5]), (6, [0, 1, 5]), (7, [0, 1, 5]), (8, [0, 1, 5]), (9, [0, 1, 5]), (10, [0, 1, 5]), (11, [0, 1, 5]), (12, [0, 1, 5]), (13, [0, 1, 5]), (3, [0, 1, 5]), (14, [1])], an := [] }
attribute [go_sem] H_laws_markPointS
theorem ok_H_laws_markPointS : H_laws_markPointS.ok Try.prog := AllOk.okR .nil .nil mix
theorem f_nil_markPoint (k : Int) : VFun Try.prog 52 [(eList cPoint).enc [], (eInt .i64).enc k] [] ((eInt .i64).enc k) [] := by
  refine VFun_pure (n := 56) (rs := [.tmp 4]) Try.func52 rfl rfl rfl rfl H_laws_markPointS ok_H_laws_markPointS _ _ (Nat.le_of_ble_eq_true rfl) (by kernel_rfl) ?_
  simp only [go_sem, ↓reduceIte, reduceCtorEq, Nat.reduceAdd, Nat.reduceMul, Nat.reduceEqDiff, Nat.reduceSub, Nat.reduceLT, Nat.reduceLeDiff, Nat.reduceAnd, Nat.reduceShiftRight, Nat.reduceBEq, Nat.reduceBNe, Nat.reduceBneDiff, Nat.reduceBeqDiff, Int.reduceToNat, Int.reduceLE, Int.reduceLT, Int.reduceEq]
  refine LoopV.step ok_H_laws_markPointS (by kernel_rfl) ?_
  simp only [go_sem, ↓reduceIte, reduceCtorEq, Nat.reduceAdd, Nat.reduceMul, Nat.reduceEqDiff, Nat.reduceSub, Nat.reduceLT, Nat.reduceLeDiff, Nat.reduceAnd, Nat.reduceShiftRight, Nat.reduceBEq, Nat.reduceBNe, Nat.reduceBneDiff, Nat.reduceBeqDiff, Int.reduceToNat, Int.reduceLE, Int.reduceLT, Int.reduceEq]
theorem ok_laws_markPointS : MNilP.ok Try.prog 52 := FM.f2_ok fun xs k h => by subst h; exact f_nil_markPoint k

def H_laws_heldPointS : Hint := { fs := [], kp := [(0, [0, 1]), (1, [0, 1]), (2, [0, 1, 5]), (4, [0, 1, 5]), (5, []), (6, [0, 1, 5]), (7, [0, 1, 5]), (8, []), (9, [0, 1, 5]), (10, [0, 1, 5]), (11, []), (12, [0, 1, 5]), (13, [0, 1, 5]), (14, []), (15, [0, 1, 5]), (16, [0, 1, 5]), (17, []), (18, [0, 1, 5]), (3, [0, 1, 5]), (19, [1])], an := [] }
attribute [go_sem] H_laws_heldPointS
theorem ok_H_laws_heldPointS : H_laws_heldPointS.ok Try.prog := AllOk.okR .nil .nil mix
theorem f_nil_heldPoint (k : Int) : VFun Try.prog 56 [(eList cPoint).enc [], (eInt .i64).enc k] [] ((eInt .i64).enc k) [] := by
  refine VFun_pure (n := 66) (rs := [.tmp 4]) Try.func56 rfl rfl rfl rfl H_laws_heldPointS ok_H_laws_heldPointS _ _ (Nat.le_of_ble_eq_true rfl) (by kernel_rfl) ?_
  simp only [go_sem, ↓reduceIte, reduceCtorEq, Nat.reduceAdd, Nat.reduceMul, Nat.reduceEqDiff, Nat.reduceSub, Nat.reduceLT, Nat.reduceLeDiff, Nat.reduceAnd, Nat.reduceShiftRight, Nat.reduceBEq, Nat.reduceBNe, Nat.reduceBneDiff, Nat.reduceBeqDiff, Int.reduceToNat, Int.reduceLE, Int.reduceLT, Int.reduceEq]
  refine LoopV.step ok_H_laws_heldPointS (by kernel_rfl) ?_
  simp only [go_sem, ↓reduceIte, reduceCtorEq, Nat.reduceAdd, Nat.reduceMul, Nat.reduceEqDiff, Nat.reduceSub, Nat.reduceLT, Nat.reduceLeDiff, Nat.reduceAnd, Nat.reduceShiftRight, Nat.reduceBEq, Nat.reduceBNe, Nat.reduceBneDiff, Nat.reduceBeqDiff, Int.reduceToNat, Int.reduceLE, Int.reduceLT, Int.reduceEq]
theorem ok_laws_heldPointS : MNilP.ok Try.prog 56 := FM.f2_ok fun xs k h => by subst h; exact f_nil_heldPoint k

/-- Clients and what is told whose lists are one's own. -/
abbrev oTold (t : Told) : E := .x (.a [.c (.v (.int .i64 t.1.1)), .c (.v (.int .i64 t.1.2.1)), .c (.v (.int .i64 t.1.2.2.1)), .c (.v (.int .i64 t.1.2.2.2.1)),
  .c (.v (.int .i64 t.1.2.2.2.2.1.1)), .c (.v (.int .u64 t.1.2.2.2.2.1.2.1.toNat)), .c (.v (.int .u64 t.1.2.2.2.2.1.2.2.1.toNat)), .c (.v (.int .u64 t.1.2.2.2.2.1.2.2.2.1.toNat)), .c (.v (.int .u64 t.1.2.2.2.2.1.2.2.2.2.toNat)),
  .h (0, 0) 0 t.1.2.2.2.2.2.1.length t.1.2.2.2.2.2.1.length,
  .c (.v (.int .i64 t.1.2.2.2.2.2.2.1)), .c (.v (.int .u64 t.1.2.2.2.2.2.2.2.1.toNat)), .c (.v (.int .u64 t.1.2.2.2.2.2.2.2.2.1.toNat)), .c (.v (.int .u64 t.1.2.2.2.2.2.2.2.2.2.1.toNat)), .c (.v (.int .u64 t.1.2.2.2.2.2.2.2.2.2.2.toNat)),
  .h (0, 1) 0 t.2.1.length t.2.1.length, .c (.v (.slice none 0 0)), .c (.v (.slice none 0 0))])
attribute [go_sem] oTold

/-- A client whose acks are marked. -/
def FM.mkClient : FM := ⟨[0], fun args rin => match args, rin with
  | [e1, .x (.o (.c (.v (.int .i64 k))))], [.row 1 rows] => match mapO (cInt .i64).dec rows with
    | some xs => some ((eInt .i64).enc ((k.toNat + xs.length : Nat) : Int), [some (oR (cInt .i64) (markI k.toNat xs.length))], rows = xs.map (cInt .i64).enc ∧ ∃ c : Client, e1 = oClient 0 c ∧ xs = c.2.2.2.2.2.1 ∧ (0 ≤ k ∧ k ≤ 10000000) ∧ c.2.2.2.2.2.1.length ≤ 10000000)
    | none => none
  | _, _ => none⟩
theorem FM.mkClient_ok {P : Program} {g : FuncId} (h : ∀ (c : Client) (k : Nat), k ≤ 10000000 → c.2.2.2.2.2.1.length ≤ 10000000 → VFun P g [oClient 0 c, (eInt .i64).enc k] [some (oR (cInt .i64) c.2.2.2.2.2.1)] ((eInt .i64).enc ((k + c.2.2.2.2.2.1.length : Nat) : Int)) [some (oR (cInt .i64) (markI k c.2.2.2.2.2.1.length))]) : FM.mkClient.ok P g := by
  intro args rin res rout p hm hp
  simp only [FM.mkClient] at hm
  split at hm
  · rename_i e1 k rows
    split at hm
    · rename_i xs hx
      cases hm
      obtain ⟨rfl, c, rfl, rfl, h2, h3⟩ := hp
      obtain ⟨n, rfl⟩ := Int.eq_ofNat_of_zero_le h2.1
      exact h c n (by omega) h3
    · cases hm
  · cases hm
attribute [go_sem] FM.mkClient

def H_laws_markClient : Hint := { fs := [(49, MMarkI)], kp := [(0, [0, 1]), (1, [1, 2]), (2, [1])], an := [] }
attribute [go_sem] H_laws_markClient
theorem ok_H_laws_markClient : H_laws_markClient.ok Try.prog := AllOk.okR (.cons ok_laws_markIntS .nil) .nil mix
theorem f_markClient (c : Client) (k : Nat) (h : k ≤ 10000000) (h2 : c.2.2.2.2.2.1.length ≤ 10000000) : VFun Try.prog 17 [oClient 0 c, (eInt .i64).enc k] [some (oR (cInt .i64) c.2.2.2.2.2.1)] ((eInt .i64).enc ((k + c.2.2.2.2.2.1.length : Nat) : Int)) [some (oR (cInt .i64) (markI k c.2.2.2.2.2.1.length))] := by
  refine VFun_own (rin := [oR (cInt .i64) c.2.2.2.2.2.1]) (n := 10) (rs := [.tmp 4]) Try.func17 rfl rfl rfl rfl H_laws_markClient ok_H_laws_markClient (Nat.le_of_ble_eq_true rfl) (by kernel_rfl) ?_
  simp only [go_sem, ↓reduceIte, reduceCtorEq, Nat.reduceAdd, Nat.reduceMul, Nat.reduceEqDiff, Nat.reduceSub, Nat.reduceLT, Nat.reduceLeDiff, Nat.reduceAnd, Nat.reduceShiftRight, Nat.reduceBEq, Nat.reduceBNe, Nat.reduceBneDiff, Nat.reduceBeqDiff, Int.reduceToNat, Int.reduceLE, Int.reduceLT, Int.reduceEq]
  exact ⟨by omega, h2⟩
theorem ok_laws_markClient : FM.mkClient.ok Try.prog 17 := FM.mkClient_ok f_markClient

def H_laws_heldClient : Hint := { fs := [(92, MHeldI)], kp := [(0, [0, 1]), (1, [1, 2]), (2, [1]), (3, []), (4, [1])], an := [] }
attribute [go_sem] H_laws_heldClient
theorem ok_H_laws_heldClient : H_laws_heldClient.ok Try.prog := AllOk.okR (.cons ok_laws_heldIntS .nil) .nil mix
theorem f_heldClient (c : Client) (k : Int) (h : c.2.2.2.2.2.1 = markI k.toNat c.2.2.2.2.2.1.length ∧ (0 ≤ k ∧ k ≤ 10000000) ∧ c.2.2.2.2.2.1.length ≤ 10000000) : VFun Try.prog 53 [(CE.st cClient).enc c, (eInt .i64).enc k] [] ((eInt .i64).enc ((k.toNat + c.2.2.2.2.2.1.length : Nat) : Int)) [] := by
  obtain ⟨h1, h2, h3⟩ := h
  have c1 : (((k.toNat + c.2.2.2.2.2.1.length : Nat) : Int) < 0) = False := eq_false (by omega)
  refine VFun_pure (n := 12) (rs := [.tmp 4]) Try.func53 rfl rfl rfl rfl H_laws_heldClient ok_H_laws_heldClient _ _ (Nat.le_of_ble_eq_true rfl) (by kernel_rfl) ?_
  simp only [go_sem, ↓reduceIte, reduceCtorEq, Nat.reduceAdd, Nat.reduceMul, Nat.reduceEqDiff, Nat.reduceSub, Nat.reduceLT, Nat.reduceLeDiff, Nat.reduceAnd, Nat.reduceShiftRight, Nat.reduceBEq, Nat.reduceBNe, Nat.reduceBneDiff, Nat.reduceBeqDiff, Int.reduceToNat, Int.reduceLE, Int.reduceLT, Int.reduceEq, c1]
  exact ⟨h1, h2, h3⟩
abbrev MHeldClient : FM := .f2 (CE.st cClient) (eInt .i64) (eInt .i64).enc (fun c k => ((k.toNat + c.2.2.2.2.2.1.length : Nat) : Int)) (fun c k => c.2.2.2.2.2.1 = markI k.toNat c.2.2.2.2.2.1.length ∧ (0 ≤ k ∧ k ≤ 10000000) ∧ c.2.2.2.2.2.1.length ≤ 10000000)
attribute [go_sem] MHeldClient
theorem ok_laws_heldClient : MHeldClient.ok Try.prog 53 := FM.f2_ok fun c k h => f_heldClient c k h

def markToldN (t : Told) : Nat := 1 + t.1.2.2.2.2.2.1.length + 3 * t.2.1.length
/-- What is told, marked. -/
def FM.mkTold : FM := ⟨[0], fun args rin => match args, rin with
  | [e1, .x (.o (.c (.v (.int .i64 k))))], [.row 1 rows, .row 3 rowt] => match mapO (cInt .i64).dec rows, mapO cLetter.dec rowt with
    | some xs, some ys => some ((eInt .i64).enc ((1 + xs.length + 3 * ys.length : Nat) : Int), [some (oR (cInt .i64) (markI 1 xs.length)), some (oR cLetter (markT (1 + xs.length) ys.length))], rows = xs.map (cInt .i64).enc ∧ rowt = ys.map cLetter.enc ∧ ∃ t : Told, e1 = oTold t ∧ xs = t.1.2.2.2.2.2.1 ∧ ys = t.2.1 ∧ k = 1 ∧ t.1.2.2.2.2.2.1.length ≤ 1100000 ∧ t.2.1.length ≤ 100 ∧ t.2.2.1 = [] ∧ t.2.2.2 = [])
    | _, _ => none
  | _, _ => none⟩
theorem FM.mkTold_ok {P : Program} {g : FuncId} (h : ∀ (t : Told), t.1.2.2.2.2.2.1.length ≤ 1100000 → t.2.1.length ≤ 100 → t.2.2.1 = [] → t.2.2.2 = [] → VFun P g [oTold t, (eInt .i64).enc 1] [some (oR (cInt .i64) t.1.2.2.2.2.2.1), some (oR cLetter t.2.1)] ((eInt .i64).enc ((1 + t.1.2.2.2.2.2.1.length + 3 * t.2.1.length : Nat) : Int)) [some (oR (cInt .i64) (markI 1 t.1.2.2.2.2.2.1.length)), some (oR cLetter (markT (1 + t.1.2.2.2.2.2.1.length) t.2.1.length))]) : FM.mkTold.ok P g := by
  intro args rin res rout p hm hp
  simp only [FM.mkTold] at hm
  split at hm
  · rename_i e1 k rows rowt
    split at hm
    · rename_i xs ys hx hy
      cases hm
      obtain ⟨rfl, rfl, t, rfl, rfl, rfl, rfl, h1, h2, h3, h4⟩ := hp
      exact h t h1 h2 h3 h4
    · cases hm
  · cases hm
attribute [go_sem] FM.mkTold

def H_laws_markTold : Hint := { fs := [(17, FM.mkClient), (50, MMarkT), (51, MNilA), (52, MNilP)], kp := [(0, [0, 1]), (1, [1, 2]), (2, [1, 2]), (3, [1, 2]), (4, [1, 2]), (5, [1])], an := [] }
attribute [go_sem] H_laws_markTold
theorem ok_H_laws_markTold : H_laws_markTold.ok Try.prog := AllOk.okR (.cons ok_laws_markClient (.cons ok_laws_markLetterS (.cons ok_laws_markAlarmS (.cons ok_laws_markPointS .nil)))) .nil mix
theorem f_markTold (t : Told) (h1 : t.1.2.2.2.2.2.1.length ≤ 1100000) (h2 : t.2.1.length ≤ 100) (h3 : t.2.2.1 = []) (h4 : t.2.2.2 = []) : VFun Try.prog 18 [oTold t, (eInt .i64).enc 1] [some (oR (cInt .i64) t.1.2.2.2.2.2.1), some (oR cLetter t.2.1)] ((eInt .i64).enc ((1 + t.1.2.2.2.2.2.1.length + 3 * t.2.1.length : Nat) : Int)) [some (oR (cInt .i64) (markI 1 t.1.2.2.2.2.2.1.length)), some (oR cLetter (markT (1 + t.1.2.2.2.2.2.1.length) t.2.1.length))] := by
  obtain ⟨c, ls, al, ps⟩ := t
  dsimp only at h1 h2 h3 h4
  subst h3 h4
  refine VFun_own (rin := [oR (cInt .i64) c.2.2.2.2.2.1, oR cLetter ls]) (n := 22) (rs := [.tmp 4]) Try.func18 rfl rfl rfl rfl H_laws_markTold ok_H_laws_markTold (Nat.le_of_ble_eq_true rfl) (by kernel_rfl) ?_
  simp only [go_sem, ↓reduceIte, reduceCtorEq, Nat.reduceAdd, Nat.reduceMul, Nat.reduceEqDiff, Nat.reduceSub, Nat.reduceLT, Nat.reduceLeDiff, Nat.reduceAnd, Nat.reduceShiftRight, Nat.reduceBEq, Nat.reduceBNe, Nat.reduceBneDiff, Nat.reduceBeqDiff, Int.reduceToNat, Int.reduceLE, Int.reduceLT, Int.reduceEq]
  exact ⟨⟨c, rfl, rfl, by omega⟩, by omega, by omega⟩
theorem ok_laws_markTold : FM.mkTold.ok Try.prog 18 := FM.mkTold_ok f_markTold

def H_laws_heldTold : Hint := { fs := [(53, MHeldClient), (54, MHeldT), (55, MNilA), (56, MNilP)], kp := [(0, [0, 1]), (1, [1, 2]), (2, [1, 2]), (3, []), (4, [1, 2]), (5, [1, 2]), (6, []), (7, [1, 2]), (8, [1, 2]), (9, []), (10, [1, 2]), (11, [1]), (12, []), (13, [1])], an := [] }
attribute [go_sem] H_laws_heldTold
theorem ok_H_laws_heldTold : H_laws_heldTold.ok Try.prog := AllOk.okR (.cons ok_laws_heldClient (.cons ok_laws_heldLetterS (.cons ok_laws_heldAlarmS (.cons ok_laws_heldPointS .nil)))) .nil mix
theorem f_heldTold (t : Told) (k : Int) (h : k = 1 ∧ t.1.2.2.2.2.2.1 = markI 1 t.1.2.2.2.2.2.1.length ∧ t.2.1 = markT (1 + t.1.2.2.2.2.2.1.length) t.2.1.length ∧ t.1.2.2.2.2.2.1.length ≤ 1100000 ∧ t.2.1.length ≤ 100 ∧ t.2.2.1 = [] ∧ t.2.2.2 = []) : VFun Try.prog 19 [(CE.st cTold).enc t, (eInt .i64).enc k] [] ((eInt .i64).enc ((1 + t.1.2.2.2.2.2.1.length + 3 * t.2.1.length : Nat) : Int)) [] := by
  obtain ⟨c, ls, al, ps⟩ := t
  obtain ⟨rfl, g1, g2, h1, h2, h3, h4⟩ := h
  dsimp only at g1 g2 h1 h2 h3 h4
  subst h3 h4
  have c1 : (((1 + c.2.2.2.2.2.1.length : Nat) : Int) < 0) = False := eq_false (by omega)
  have c2 : (((1 + c.2.2.2.2.2.1.length + 3 * ls.length : Nat) : Int) < 0) = False := eq_false (by omega)
  refine VFun_pure (n := 30) (rs := [.tmp 4]) Try.func19 rfl rfl rfl rfl H_laws_heldTold ok_H_laws_heldTold _ _ (Nat.le_of_ble_eq_true rfl) (by kernel_rfl) ?_
  simp only [go_sem, ↓reduceIte, reduceCtorEq, Nat.reduceAdd, Nat.reduceMul, Nat.reduceEqDiff, Nat.reduceSub, Nat.reduceLT, Nat.reduceLeDiff, Nat.reduceAnd, Nat.reduceShiftRight, Nat.reduceBEq, Nat.reduceBNe, Nat.reduceBneDiff, Nat.reduceBeqDiff, Int.reduceToNat, Int.reduceLE, Int.reduceLT, Int.reduceEq, c1, c2]
  exact ⟨⟨g1, by omega⟩, g2, by omega, by omega⟩
abbrev MHeldTold : FM := .f2 (CE.st cTold) (eInt .i64) (eInt .i64).enc (fun t _ => ((1 + t.1.2.2.2.2.2.1.length + 3 * t.2.1.length : Nat) : Int)) (fun t k => k = 1 ∧ t.1.2.2.2.2.2.1 = markI 1 t.1.2.2.2.2.2.1.length ∧ t.2.1 = markT (1 + t.1.2.2.2.2.2.1.length) t.2.1.length ∧ t.1.2.2.2.2.2.1.length ≤ 1100000 ∧ t.2.1.length ≤ 100 ∧ t.2.2.1 = [] ∧ t.2.2.2 = [])
attribute [go_sem] MHeldTold
theorem ok_laws_heldTold : MHeldTold.ok Try.prog 19 := FM.f2_ok fun t k h => f_heldTold t k h

end Go.Proofs.YtlofjogebacndaaW.V

