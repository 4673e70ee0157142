/- Functions. No condition but each theorem's own. -/
import Derived.Test.YtcgkhljolflenaaGreatFT
namespace Go.Proofs.YtcgkhljolflenaaGreatW.V
open Go Go.Proofs
set_option linter.unusedSimpArgs false
set_option linter.unusedVariables false
set_option maxRecDepth 8000
set_option maxHeartbeats 4000000


def H166 : Hint := { fs := [], kp := [(0, [0, 1, 2]), (1, [0, 1, 2])], an := [] }
attribute [go_sem] H166
theorem f166 (a b c : Int) : VFun Tryz.prog 89 [(eInt .i64).enc a, (eInt .i64).enc b, (eInt .i64).enc c] [] (eBool.enc (decide (b ≤ a ∧ a ≤ c))) [] := by
  refine VFun_pure (n := 15) (rs := [.tmp 6]) Tryz.func89 rfl rfl rfl rfl H166 (okN rfl mix) _ _ (Nat.le_of_ble_eq_true rfl) (by kernel_rfl) ?_
  simp only [go_sem, ↓reduceIte, reduceCtorEq, Nat.reduceAdd, Nat.reduceMul, Nat.reduceEqDiff, Nat.reduceSub, Nat.reduceLT, Nat.reduceLeDiff, Nat.reduceAnd, Nat.reduceShiftRight, Nat.reduceBEq, Nat.reduceBNe, Nat.reduceBneDiff, Nat.reduceBeqDiff, Int.reduceToNat, Int.reduceLE, Int.reduceLT, Int.reduceEq]
  by_cases h : b ≤ a <;> simp [h]

abbrev M166 : FM := .f3 (eInt .i64) (eInt .i64) (eInt .i64) eBool.enc (fun a b c => decide (b ≤ a ∧ a ≤ c)) (fun _ _ _ => True)
attribute [go_sem] M166
theorem m166 : M166.ok Tryz.prog 89 := FM.f3_ok fun a b c _ => f166 a b c

/-- A letter: from, to, text. -/
abbrev Letter := Int × Int × ByteArray
abbrev cLetter : Cd Letter := cPair (cInt .i64) (cPair (cInt .i64) cStr)
attribute [go_sem] cLetter
def letterOk (x : Letter) : Bool := decide (0 ≤ x.1 ∧ x.1 ≤ 20) && decide (0 ≤ x.2.1 ∧ x.2.1 ≤ 20) && decide ((x.2.2.size : Int) ≤ 600)

abbrev Bag := Int × List Letter
abbrev cBag : Cd Bag := cPair (cInt .i64) (cList cLetter)
attribute [go_sem] cBag
def bagOk (x : Bag) : Bool := decide (1 ≤ x.1 ∧ x.1 ≤ 64) && decide ((x.2.length : Int) ≤ x.1) && x.2.all letterOk
