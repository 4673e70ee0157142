/- Functions. No condition but each theorem's own. -/
import Derived.Test.YtobfeplphdnhfaaFT
namespace Go.Proofs.YtobfeplphdnhfaaW.V
open Go Go.Proofs
set_option linter.unusedSimpArgs false
set_option linter.unusedVariables false
set_option maxRecDepth 8000
set_option maxHeartbeats 4000000


def H166 : Hint := { fs := [], kp := [(0, [0, 1, 2]), (1, [0, 1, 2])], an := [] }
attribute [go_sem] H166
theorem f166 (a b c : Int) : VFun Try.prog 32 [(eInt .i64).enc a, (eInt .i64).enc b, (eInt .i64).enc c] [] (eBool.enc (decide (b ≤ a ∧ a ≤ c))) [] := by
  refine VFun_pure (n := 15) (rs := [.tmp 6]) Try.func32 rfl rfl rfl rfl H166 (okN rfl mix) _ _ (Nat.le_of_ble_eq_true rfl) (by kernel_rfl) ?_
  simp only [go_sem, ↓reduceIte, reduceCtorEq, Nat.reduceAdd, Nat.reduceMul, Nat.reduceEqDiff, Nat.reduceSub, Nat.reduceLT, Nat.reduceLeDiff, Nat.reduceAnd, Nat.reduceShiftRight, Nat.reduceBEq, Nat.reduceBNe, Nat.reduceBneDiff, Nat.reduceBeqDiff, Int.reduceToNat, Int.reduceLE, Int.reduceLT, Int.reduceEq]
  by_cases h : b ≤ a <;> simp [h]

abbrev M166 : FM := .f3 (eInt .i64) (eInt .i64) (eInt .i64) eBool.enc (fun a b c => decide (b ≤ a ∧ a ≤ c)) (fun _ _ _ => True)
attribute [go_sem] M166
theorem m166 : M166.ok Try.prog 32 := FM.f3_ok fun a b c _ => f166 a b c

/-- A letter: from, to, text. -/
abbrev Letter := Int × Int × ByteArray
abbrev cLetter : Cd Letter := cPair (cInt .i64) (cPair (cInt .i64) cStr)
attribute [go_sem] cLetter
def letterOk (x : Letter) : Bool := decide (0 ≤ x.1 ∧ x.1 ≤ 20) && decide (0 ≤ x.2.1 ∧ x.2.1 ≤ 20) && decide ((x.2.2.size : Int) ≤ 600)

def H51 : Hint := { fs := [(32, M166)], kp := [(0, [0]), (1, [1])], an := [] }
attribute [go_sem] H51
theorem f51 (x : Letter) : VFun Try.prog 17 [(CE.st cLetter).enc x] [] (eBool.enc (letterOk x)) [] := by
  obtain ⟨a, b, c⟩ := x
  refine VFun_pure (n := 17) (rs := [.tmp 2]) Try.func17 rfl rfl rfl rfl H51 (AllOk.ok (.cons m166 .nil) mix) _ _ (Nat.le_of_ble_eq_true rfl) (by kernel_rfl) ?_
  simp only [go_sem, ↓reduceIte, reduceCtorEq, Nat.reduceAdd, Nat.reduceMul, Nat.reduceEqDiff, Nat.reduceSub, Nat.reduceLT, Nat.reduceLeDiff, Nat.reduceAnd, Nat.reduceShiftRight, Nat.reduceBEq, Nat.reduceBNe, Nat.reduceBneDiff, Nat.reduceBeqDiff, Int.reduceToNat, Int.reduceLE, Int.reduceLT, Int.reduceEq]
  by_cases h1 : 0 ≤ a ∧ a ≤ 20 <;> by_cases h2 : 0 ≤ b ∧ b ≤ 20 <;> simp [h1, h2, letterOk]
abbrev M51 : FM := .f1 (CE.st cLetter) eBool.enc letterOk (fun _ => True)
attribute [go_sem] M51
theorem m51 : M51.ok Try.prog 17 := FM.f1_ok fun x _ => f51 x

abbrev Bag := Int × List Letter
abbrev cBag : Cd Bag := cPair (cInt .i64) (cList cLetter)
attribute [go_sem] cBag
def bagOk (x : Bag) : Bool := decide (1 ≤ x.1 ∧ x.1 ≤ 64) && decide ((x.2.length : Int) ≤ x.1) && x.2.all letterOk

def H42 : Hint := { fs := [(32, M166), (17, M51)], kp := [(0, [0]), (1, [1]), (2, []), (3, [1]), (4, [1, 3]), (6, [1, 3]), (7, []), (5, [1, 3]), (8, [])], an := [] }
attribute [go_sem] H42
theorem f42 (x : Bag) : VFun Try.prog 8 [(CE.st cBag).enc x] [] (eBool.enc (bagOk x)) [] := by
  obtain ⟨r, ls⟩ := x
  refine VFun_pure (n := 30) (rs := [.tmp 2]) Try.func8 rfl rfl rfl rfl H42 (AllOk.ok (.cons m166 (.cons m51 .nil)) mix) _ _ (Nat.le_of_ble_eq_true rfl) (by kernel_rfl) ?_
  simp only [go_sem, ↓reduceIte, reduceCtorEq, Nat.reduceAdd, Nat.reduceMul, Nat.reduceEqDiff, Nat.reduceSub, Nat.reduceLT, Nat.reduceLeDiff, Nat.reduceAnd, Nat.reduceShiftRight, Nat.reduceBEq, Nat.reduceBNe, Nat.reduceBneDiff, Nat.reduceBeqDiff, Int.reduceToNat, Int.reduceLE, Int.reduceLT, Int.reduceEq]
  refine ite_intro (fun h1 => ite_intro (fun h2 => ?_) fun h2 => ?_) fun h1 => ?_
  · have : ¬ ((ls.length : Int) ≤ r) := by omega
    simp [bagOk, this]
  · simp at h1 h2
    refine LoopV.meas (H := H42) (AllOk.ok (.cons m166 (.cons m51 .nil)) mix) (by kernel_rfl) (fun i : Nat => ⟨[(1, .x (.o (.p (1, 100) 0 0 1))), (3, sc (.int .i64 i))],
      [((1, 100), .bx [[.c (.v (.int .i64 r)), .c (.s (ls.map cLetter.enc))]])], 2⟩) (fun i => ls.length - i) (fun i => i ≤ ls.length ∧ ∀ j x, j < i → ls[j]? = some x → letterOk x = true) ?_ 0 ⟨Nat.zero_le _, fun j x h => by omega⟩
    intro i ⟨hi, hall⟩
    rcases Nat.lt_or_ge i ls.length with hlt | hge
    · have hx : ls[i]? = some ls[i] := List.getElem?_eq_getElem hlt
      generalize ls[i] = x at hx
      have hw : IntKind.i64.wrap ((i : Int) + 1) = ((i + 1 : Nat) : Int) := by rw [wrap64] <;> omega
      have hlt' : ((i : Int) < (ls.length : Int)) = True := by simp; omega
      simp only [go_sem, ↓reduceIte, reduceCtorEq, Nat.reduceAdd, Nat.reduceMul, Nat.reduceEqDiff, Nat.reduceSub, Nat.reduceLT, Nat.reduceLeDiff, Nat.reduceAnd, Nat.reduceShiftRight, Nat.reduceBEq, Nat.reduceBNe, Nat.reduceBneDiff, Nat.reduceBeqDiff, Int.reduceToNat, Int.reduceLE, Int.reduceLT, Int.reduceEq, hx, hw, hlt']
      refine ite_intro (fun h3 => ?_) fun h3 => ⟨i + 1, ⟨hlt, fun j y hj hy => ?_⟩, by omega, rfl⟩
      · have : letterOk x = false := by simpa using h3
        simp [bagOk, List.all_eq_false.2 ⟨x, List.mem_of_getElem? hx, by simpa using this⟩]
      · rcases Nat.lt_or_ge j i with h4 | h4
        · exact hall j y h4 hy
        · rw [show j = i by omega, hx] at hy
          cases hy
          simpa using h3
    · have hlt' : ((i : Int) < (ls.length : Int)) = False := by simp; omega
      simp only [go_sem, ↓reduceIte, reduceCtorEq, Nat.reduceAdd, Nat.reduceMul, Nat.reduceEqDiff, Nat.reduceSub, Nat.reduceLT, Nat.reduceLeDiff, Nat.reduceAnd, Nat.reduceShiftRight, Nat.reduceBEq, Nat.reduceBNe, Nat.reduceBneDiff, Nat.reduceBeqDiff, Int.reduceToNat, Int.reduceLE, Int.reduceLT, Int.reduceEq, hlt']
      have : ls.all letterOk = true := List.all_eq_true.2 fun x hx => by
        obtain ⟨j, hj⟩ := List.getElem?_of_mem hx
        exact hall j x (Nat.lt_of_lt_of_le (List.getElem?_eq_some_iff.1 hj).1 hge) hj
      simp [bagOk, h1, h2, this]
  · have : decide (1 ≤ r ∧ r ≤ 64) = false := by simpa using h1
    rw [bagOk, this]; rfl
abbrev M42 : FM := .f1 (CE.st cBag) eBool.enc bagOk (fun _ => True)
attribute [go_sem] M42
theorem m42 : M42.ok Try.prog 8 := FM.f1_ok fun x _ => f42 x
end Go.Proofs.YtobfeplphdnhfaaW.V

