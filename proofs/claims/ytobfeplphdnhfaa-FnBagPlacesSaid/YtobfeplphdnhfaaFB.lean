/- Functions: points, clients. No condition but each theorem's own. -/
import Derived.Test.YtobfeplphdnhfaaFA
namespace Go.Proofs.YtobfeplphdnhfaaW.V
open Go Go.Proofs
set_option linter.unusedSimpArgs false
set_option linter.unusedVariables false
set_option maxRecDepth 8000
set_option maxHeartbeats 4000000

set_option synthInstance.maxSize 1000

abbrev Digest := Int × Int × Int × Int
abbrev cDigest : Cd Digest := cPair (cInt .u64) (cPair (cInt .u64) (cPair (cInt .u64) (cInt .u64)))
abbrev Point := Int × Digest
abbrev cPoint : Cd Point := cPair (cInt .i64) cDigest
abbrev Client := Int × Int × Int × Int × Point × List Int × Point
abbrev cClient : Cd Client := cPair (cInt .i64) (cPair (cInt .i64) (cPair (cInt .i64) (cPair (cInt .i64) (cPair cPoint (cPair (cList (cInt .i64)) cPoint)))))
attribute [go_sem] cDigest cPoint cClient eqT eqFs
instance : DecidableEq Point := instDecidableEqProd
instance : DecidableEq Client := instDecidableEqProd

def H180 : Hint := { fs := [], kp := [(0, [0, 1, 2]), (1, [0, 1, 2])], an := [] }
attribute [go_sem] H180
theorem f180 (a b c : Int) : VFun Try.prog 47 [(eInt .i64).enc a, (eInt .i64).enc b, (eInt .i64).enc c] [] (eBool.enc (decide (b ≤ a ∧ a ≤ c))) [] := by
  refine VFun_pure (n := 15) (rs := [.tmp 6]) Try.func47 rfl rfl rfl rfl H180 (okN rfl mix) _ _ (Nat.le_of_ble_eq_true rfl) (by kernel_rfl) ?_
  simp only [go_sem, ↓reduceIte, reduceCtorEq, Nat.reduceAdd, Nat.reduceMul, Nat.reduceEqDiff, Nat.reduceSub, Nat.reduceLT, Nat.reduceLeDiff, Nat.reduceAnd, Nat.reduceShiftRight, Nat.reduceBEq, Nat.reduceBNe, Nat.reduceBneDiff, Nat.reduceBeqDiff, Int.reduceToNat, Int.reduceLE, Int.reduceLT, Int.reduceEq]
  by_cases h : b ≤ a <;> simp [h]
theorem m180 : M166.ok Try.prog 47 := FM.f3_ok fun a b c _ => f180 a b c

def H36 : Hint := { fs := [], kp := [(0, [0, 1]), (1, [0, 1]), (2, []), (3, [0, 1]), (4, [0, 1, 5]), (6, [0, 1, 5]), (7, []), (5, [0, 1, 5]), (8, [])], an := [(6, [0, 0, 3, 7, 0, 0, 48, 112, 255])] }
attribute [go_sem] H36
theorem f36 (xs ys : List Int) (hl : xs.length ≤ maxLen) : VFun Try.prog 21 [(eList (cInt .i64)).enc xs, (eList (cInt .i64)).enc ys] [] (eBool.enc (decide (xs = ys))) [] := by
  unfold maxLen at hl
  refine VFun_pure (n := 26) (rs := [.tmp 4]) Try.func21 rfl rfl rfl rfl H36 (okN rfl mix) _ _ (Nat.le_of_ble_eq_true rfl) (by kernel_rfl) ?_
  simp only [go_sem, ↓reduceIte, reduceCtorEq, Nat.reduceAdd, Nat.reduceMul, Nat.reduceEqDiff, Nat.reduceSub, Nat.reduceLT, Nat.reduceLeDiff, Nat.reduceAnd, Nat.reduceShiftRight, Nat.reduceBEq, Nat.reduceBNe, Nat.reduceBneDiff, Nat.reduceBeqDiff, Int.reduceToNat, Int.reduceLE, Int.reduceLT, Int.reduceEq]
  refine ite_intro (fun h1 => ?_) fun h1 => ?_
  · have : xs ≠ ys := fun e => by simp [e] at h1
    simp [this]
  · have hlen : xs.length = ys.length := by simp at h1; omega
    refine LoopV.meas (H := H36) (okN rfl mix) (by kernel_rfl) (fun i : Nat => ⟨[(0, .x (.o (.c (.s (xs.map (cInt .i64).enc))))), (1, .x (.o (.c (.s (ys.map (cInt .i64).enc))))), (5, sc (.int .i64 i))], [], 2⟩)
      (fun i => xs.length - i) (fun i => i ≤ xs.length ∧ ∀ j, j < i → xs[j]? = ys[j]?) ?_ 0 ⟨Nat.zero_le _, fun j h => by omega⟩
    intro i ⟨hi, hall⟩
    rcases Nat.lt_or_ge i xs.length with hlt | hge
    · have hx : xs[i]? = some xs[i] := List.getElem?_eq_getElem hlt
      have hy : ys[i]? = some (ys[i]'(by omega)) := List.getElem?_eq_getElem (by omega)
      generalize xs[i] = x at hx
      generalize ys[i]'(by omega) = y at hy
      have hw : IntKind.i64.wrap ((i : Int) + 1) = ((i + 1 : Nat) : Int) := by rw [wrap64] <;> omega
      have hlt' : ((i : Int) < (xs.length : Int)) = True := by simp; omega
      simp only [go_sem, ↓reduceIte, reduceCtorEq, Nat.reduceAdd, Nat.reduceMul, Nat.reduceEqDiff, Nat.reduceSub, Nat.reduceLT, Nat.reduceLeDiff, Nat.reduceAnd, Nat.reduceShiftRight, Nat.reduceBEq, Nat.reduceBNe, Nat.reduceBneDiff, Nat.reduceBeqDiff, Int.reduceToNat, Int.reduceLE, Int.reduceLT, Int.reduceEq, hx, hy, hw, hlt']
      refine ite_intro (fun h3 => ?_) fun h3 => ⟨i + 1, ⟨hlt, fun j hj => ?_⟩, by omega, rfl⟩
      · have : xs ≠ ys := fun e => by
          rw [e, hy] at hx
          cases hx
          simp at h3
        simp [this]
      · rcases Nat.lt_or_ge j i with h4 | h4
        · exact hall j h4
        · rw [show j = i by omega, hx, hy]
          simpa using h3
    · have hlt' : ((i : Int) < (xs.length : Int)) = False := by simp; omega
      simp only [go_sem, ↓reduceIte, reduceCtorEq, Nat.reduceAdd, Nat.reduceMul, Nat.reduceEqDiff, Nat.reduceSub, Nat.reduceLT, Nat.reduceLeDiff, Nat.reduceAnd, Nat.reduceShiftRight, Nat.reduceBEq, Nat.reduceBNe, Nat.reduceBneDiff, Nat.reduceBeqDiff, Int.reduceToNat, Int.reduceLE, Int.reduceLT, Int.reduceEq, hlt']
      have : xs = ys := List.ext_getElem? fun j => by
        rcases Nat.lt_or_ge j i with h4 | h4
        · exact hall j h4
        · rw [List.getElem?_eq_none (by omega), List.getElem?_eq_none (by omega)]
      simp [this]
abbrev M36 : FM := .f2 (eList (cInt .i64)) (eList (cInt .i64)) eBool.enc (fun x y => decide (x = y)) (fun x _ => x.length ≤ maxLen)
attribute [go_sem] M36
theorem m36 : M36.ok Try.prog 21 := FM.f2_ok fun x y h => f36 x y h

/-- A client as it is made: no more is known of it than its two numbers. -/
def newClient (a b : Int) : Client := (a, b, 0, 0, (0, 0, 0, 0, 0), [], (0, 0, 0, 0, 0))
def newOk (a b : Int) : Bool := decide (1 ≤ b ∧ b ≤ 7) && decide (1 ≤ a ∧ a ≤ b) && !decide (2 * a ≤ b)

def H39 : Hint := { fs := [], kp := [(0, [0, 1]), (1, [0, 1]), (2, [0, 1, 5]), (4, [0, 1, 5]), (5, [0, 1, 5]), (3, [0, 1, 5]), (6, [1])], an := [] }
def H40 : Hint := { fs := [], kp := [(0, [0, 1]), (1, [0, 1]), (2, [0, 1, 5]), (4, [0, 1, 5]), (5, []), (6, [0, 1, 5]), (3, [0, 1, 5]), (7, [1])], an := [] }
attribute [go_sem] H39 H40
theorem f39n (k : Int) : VFun Try.prog 24 [(eList (cInt .i64)).enc [], (eInt .i64).enc k] [] ((eInt .i64).enc k) [] := by
  refine VFun_pure (n := 19) (rs := [.tmp 4]) Try.func24 rfl rfl rfl rfl H39 (okN rfl mix) _ _ (Nat.le_of_ble_eq_true rfl) (by kernel_rfl) ?_
  simp only [go_sem, ↓reduceIte, reduceCtorEq, Nat.reduceAdd, Nat.reduceMul, Nat.reduceEqDiff, Nat.reduceSub, Nat.reduceLT, Nat.reduceLeDiff, Nat.reduceAnd, Nat.reduceShiftRight, Nat.reduceBEq, Nat.reduceBNe, Nat.reduceBneDiff, Nat.reduceBeqDiff, Int.reduceToNat, Int.reduceLE, Int.reduceLT, Int.reduceEq]
  refine LoopV.step (H := H39) (okN rfl mix) (by kernel_rfl) ?_
  simp only [go_sem, ↓reduceIte, reduceCtorEq, Nat.reduceAdd, Nat.reduceMul, Nat.reduceEqDiff, Nat.reduceSub, Nat.reduceLT, Nat.reduceLeDiff, Nat.reduceAnd, Nat.reduceShiftRight, Nat.reduceBEq, Nat.reduceBNe, Nat.reduceBneDiff, Nat.reduceBeqDiff, Int.reduceToNat, Int.reduceLE, Int.reduceLT, Int.reduceEq]
theorem f40n (k : Int) : VFun Try.prog 25 [(eList (cInt .i64)).enc [], (eInt .i64).enc k] [] ((eInt .i64).enc k) [] := by
  refine VFun_pure (n := 21) (rs := [.tmp 4]) Try.func25 rfl rfl rfl rfl H40 (okN rfl mix) _ _ (Nat.le_of_ble_eq_true rfl) (by kernel_rfl) ?_
  simp only [go_sem, ↓reduceIte, reduceCtorEq, Nat.reduceAdd, Nat.reduceMul, Nat.reduceEqDiff, Nat.reduceSub, Nat.reduceLT, Nat.reduceLeDiff, Nat.reduceAnd, Nat.reduceShiftRight, Nat.reduceBEq, Nat.reduceBNe, Nat.reduceBneDiff, Nat.reduceBeqDiff, Int.reduceToNat, Int.reduceLE, Int.reduceLT, Int.reduceEq]
  refine LoopV.step (H := H40) (okN rfl mix) (by kernel_rfl) ?_
  simp only [go_sem, ↓reduceIte, reduceCtorEq, Nat.reduceAdd, Nat.reduceMul, Nat.reduceEqDiff, Nat.reduceSub, Nat.reduceLT, Nat.reduceLeDiff, Nat.reduceAnd, Nat.reduceShiftRight, Nat.reduceBEq, Nat.reduceBNe, Nat.reduceBneDiff, Nat.reduceBeqDiff, Int.reduceToNat, Int.reduceLE, Int.reduceLT, Int.reduceEq]
def MNone : FM := .f2 (eList (cInt .i64)) (eInt .i64) (eInt .i64).enc (fun _ k => k) (fun xs _ => xs = [])
attribute [go_sem] MNone
theorem m39 : MNone.ok Try.prog 24 := FM.f2_ok fun a k h => by subst h; exact f39n k
theorem m40 : MNone.ok Try.prog 25 := FM.f2_ok fun a k h => by subst h; exact f40n k
