/- Functions: points, clients. No condition but each theorem's own. -/
import Derived.Test.YtcgkhljolflenaaGreatFA
import Derived.Test.YtcgkhljolflenaaGreatVUb
namespace Go.Proofs.YtcgkhljolflenaaGreatW.V
open Go Go.Proofs
set_option linter.unusedSimpArgs false
set_option linter.unusedVariables false
set_option maxRecDepth 8000
set_option maxHeartbeats 4000000

set_option synthInstance.maxSize 1000

abbrev Digest := UInt64 × UInt64 × UInt64 × UInt64
abbrev cDigest : Cd Digest := cPair cU64 (cPair cU64 (cPair cU64 cU64))
abbrev Point := Int × Digest
abbrev cPoint : Cd Point := cPair (cInt .i64) cDigest
abbrev Client := Int × Int × Int × Int × Point × List Int × Point
abbrev cClient : Cd Client := cPair (cInt .i64) (cPair (cInt .i64) (cPair (cInt .i64) (cPair (cInt .i64) (cPair cPoint (cPair (cList (cInt .i64)) cPoint)))))
attribute [go_sem] cDigest cPoint cClient eqT eqFs
instance : DecidableEq Point := instDecidableEqProd
instance : DecidableEq Client := instDecidableEqProd

def H180 : Hint := { fs := [], kp := [(0, [0, 1, 2]), (1, [0, 1, 2])], an := [] }
attribute [go_sem] H180
theorem f180 (a b c : Int) : VFun Tryz.prog 96 [(eInt .i64).enc a, (eInt .i64).enc b, (eInt .i64).enc c] [] (eBool.enc (decide (b ≤ a ∧ a ≤ c))) [] := by
  refine VFun_pure (n := 15) (rs := [.tmp 6]) Tryz.func96 rfl rfl rfl rfl H180 (okN rfl mix) _ _ (Nat.le_of_ble_eq_true rfl) (by kernel_rfl) ?_
  simp only [go_sem, ↓reduceIte, reduceCtorEq, Nat.reduceAdd, Nat.reduceMul, Nat.reduceEqDiff, Nat.reduceSub, Nat.reduceLT, Nat.reduceLeDiff, Nat.reduceAnd, Nat.reduceShiftRight, Nat.reduceBEq, Nat.reduceBNe, Nat.reduceBneDiff, Nat.reduceBeqDiff, Int.reduceToNat, Int.reduceLE, Int.reduceLT, Int.reduceEq]
  by_cases h : b ≤ a <;> simp [h]
theorem m180 : M166.ok Tryz.prog 96 := FM.f3_ok fun a b c _ => f180 a b c

end Go.Proofs.YtcgkhljolflenaaGreatW.V

