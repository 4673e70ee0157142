/- Functions: bags. No condition but each theorem's own. -/
import Derived.Test.YtlofjogebacndaaFB
namespace Go.Proofs.YtlofjogebacndaaW.V
open Go Go.Proofs
set_option linter.unusedSimpArgs false
set_option linter.unusedVariables false
set_option maxRecDepth 8000
set_option maxHeartbeats 4000000


def H160 : Hint := { fs := [], kp := [(0, [0]), (1, [0]), (2, []), (3, [0]), (4, [0, 3]), (5, [3])], an := [] }
attribute [go_sem] H160
theorem f160 (xs : List Int) (h : xs.length ≤ 1000000) : VFun Try.prog 87 [(eList (cInt .i64)).enc xs] [] ((eList (cInt .i64)).enc xs) [] := by
  refine VFun_pure (n := 14) (rs := [.tmp 2]) Try.func87 rfl rfl rfl rfl H160 (okN rfl mix) _ _ (Nat.le_of_ble_eq_true rfl) (by kernel_rfl) ?_
  simp only [go_sem, ↓reduceIte, reduceCtorEq, Nat.reduceAdd, Nat.reduceMul, Nat.reduceEqDiff, Nat.reduceSub, Nat.reduceLT, Nat.reduceLeDiff, Nat.reduceAnd, Nat.reduceShiftRight, Nat.reduceBEq, Nat.reduceBNe, Nat.reduceBneDiff, Nat.reduceBeqDiff, Int.reduceToNat, Int.reduceLE, Int.reduceLT, Int.reduceEq]
  refine ite_intro (fun h1 => ?_) fun h1 => ⟨by omega, by simp⟩
  have : xs = [] := by simpa using h1
  rw [this]
abbrev M160 : FM := .f1 (eList (cInt .i64)) (eList (cInt .i64)).enc (fun x => x) (fun x => x.length ≤ 1000000)
attribute [go_sem] M160
theorem m160 : M160.ok Try.prog 87 := FM.f1_ok fun x h => f160 x h

end Go.Proofs.YtlofjogebacndaaW.V

