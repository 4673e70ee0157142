/- Functions: points, clients. No condition but each theorem's own. -/
import Derived.Test.YtfccplibbdnkpaaFA
import Derived.Test.YtfccplibbdnkpaaVUb
namespace Go.Proofs.YtfccplibbdnkpaaW.V
open Go Go.Proofs
set_option linter.unusedSimpArgs false
set_option linter.unusedVariables false
set_option maxRecDepth 8000
set_option maxHeartbeats 4000000

set_option synthInstance.maxSize 1000

abbrev Digest := UInt64 × UInt64 × UInt64 × UInt64
abbrev cDigest : Cd Digest := cPair cU64 (cPair cU64 (cPair cU64 cU64))
abbrev Point := Int × Digest
abbrev cPoint : Cd Point := cPair (cInt .i64) cDigest
abbrev Client := Int × Int × Int × Int × Point × List Int × Point
abbrev cClient : Cd Client := cPair (cInt .i64) (cPair (cInt .i64) (cPair (cInt .i64) (cPair (cInt .i64) (cPair cPoint (cPair (cList (cInt .i64)) cPoint)))))
attribute [go_sem] cDigest cPoint cClient eqT eqFs
instance : DecidableEq Point := instDecidableEqProd
instance : DecidableEq Client := instDecidableEqProd

def H240 : Hint := { fs := [], kp := [(0, [0, 1]), (1, [2, 3]), (2, []), (3, [2, 3]), (4, []), (5, [2, 3]), (6, []), (7, [2, 3]), (8, []), (9, [])], an := [] }
attribute [go_sem] H240
theorem f240 (x y : Digest) : VFun Try.prog 39 [(CE.st cDigest).enc x, (CE.st cDigest).enc y] [] (eBool.enc (decide (x = y))) [] := by
  obtain ⟨a, b, c, d⟩ := x
  obtain ⟨a', b', c', d'⟩ := y
  refine VFun_pure (n := 25) (rs := [.tmp 4]) Try.func39 rfl rfl rfl rfl H240 (okN rfl mix) _ _ (Nat.le_of_ble_eq_true rfl) (by kernel_rfl) ?_
  simp only [go_sem, ↓reduceIte, reduceCtorEq, Nat.reduceAdd, Nat.reduceMul, Nat.reduceEqDiff, Nat.reduceSub, Nat.reduceLT, Nat.reduceLeDiff, Nat.reduceAnd, Nat.reduceShiftRight, Nat.reduceBEq, Nat.reduceBNe, Nat.reduceBneDiff, Nat.reduceBeqDiff, Int.reduceToNat, Int.reduceLE, Int.reduceLT, Int.reduceEq]
  by_cases h1 : a = a' <;> by_cases h2 : b = b' <;> by_cases h3 : c = c' <;> by_cases h4 : d = d' <;> simp [h1, h2, h3, h4]
abbrev M240 : FM := .f2 (CE.st cDigest) (CE.st cDigest) eBool.enc (fun x y => decide (x = y)) (fun _ _ => True)
attribute [go_sem] M240
theorem m240 : M240.ok Try.prog 39 := FM.f2_ok fun x y _ => f240 x y

def H180 : Hint := { fs := [], kp := [(0, [0, 1, 2]), (1, [0, 1, 2])], an := [] }
attribute [go_sem] H180
theorem f180 (a b c : Int) : VFun Try.prog 72 [(eInt .i64).enc a, (eInt .i64).enc b, (eInt .i64).enc c] [] (eBool.enc (decide (b ≤ a ∧ a ≤ c))) [] := by
  refine VFun_pure (n := 15) (rs := [.tmp 6]) Try.func72 rfl rfl rfl rfl H180 (okN rfl mix) _ _ (Nat.le_of_ble_eq_true rfl) (by kernel_rfl) ?_
  simp only [go_sem, ↓reduceIte, reduceCtorEq, Nat.reduceAdd, Nat.reduceMul, Nat.reduceEqDiff, Nat.reduceSub, Nat.reduceLT, Nat.reduceLeDiff, Nat.reduceAnd, Nat.reduceShiftRight, Nat.reduceBEq, Nat.reduceBNe, Nat.reduceBneDiff, Nat.reduceBeqDiff, Int.reduceToNat, Int.reduceLE, Int.reduceLT, Int.reduceEq]
  by_cases h : b ≤ a <;> simp [h]
theorem m180 : M166.ok Try.prog 72 := FM.f3_ok fun a b c _ => f180 a b c

end Go.Proofs.YtfccplibbdnkpaaW.V

