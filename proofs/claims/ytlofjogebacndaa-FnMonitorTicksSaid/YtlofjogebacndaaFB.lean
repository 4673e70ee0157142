/- Functions: points, clients. No condition but each theorem's own. -/
import Derived.Test.YtlofjogebacndaaFA
import Derived.Test.YtlofjogebacndaaVUb
namespace Go.Proofs.YtlofjogebacndaaW.V
open Go Go.Proofs
set_option linter.unusedSimpArgs false
set_option linter.unusedVariables false
set_option maxRecDepth 8000
set_option maxHeartbeats 4000000

set_option synthInstance.maxSize 1000

abbrev Digest := UInt64 × UInt64 × UInt64 × UInt64
abbrev cDigest : Cd Digest := cPair cU64 (cPair cU64 (cPair cU64 cU64))
abbrev Point := Int × Digest
abbrev cPoint : Cd Point := cPair (cInt .i64) cDigest
abbrev Client := Int × Int × Int × Int × Point × List Int × Point
abbrev cClient : Cd Client := cPair (cInt .i64) (cPair (cInt .i64) (cPair (cInt .i64) (cPair (cInt .i64) (cPair cPoint (cPair (cList (cInt .i64)) cPoint)))))
attribute [go_sem] cDigest cPoint cClient eqT eqFs
instance : DecidableEq Point := instDecidableEqProd
instance : DecidableEq Client := instDecidableEqProd

def H240 : Hint := { fs := [], kp := [(0, [0, 1]), (1, [2, 3]), (2, []), (3, [2, 3]), (4, []), (5, [2, 3]), (6, []), (7, [2, 3]), (8, []), (9, [])], an := [] }
attribute [go_sem] H240
theorem f240 (x y : Digest) : VFun Try.prog 83 [(CE.st cDigest).enc x, (CE.st cDigest).enc y] [] (eBool.enc (decide (x = y))) [] := by
  obtain ⟨a, b, c, d⟩ := x
  obtain ⟨a', b', c', d'⟩ := y
  refine VFun_pure (n := 25) (rs := [.tmp 4]) Try.func83 rfl rfl rfl rfl H240 (okN rfl mix) _ _ (Nat.le_of_ble_eq_true rfl) (by kernel_rfl) ?_
  simp only [go_sem, ↓reduceIte, reduceCtorEq, Nat.reduceAdd, Nat.reduceMul, Nat.reduceEqDiff, Nat.reduceSub, Nat.reduceLT, Nat.reduceLeDiff, Nat.reduceAnd, Nat.reduceShiftRight, Nat.reduceBEq, Nat.reduceBNe, Nat.reduceBneDiff, Nat.reduceBeqDiff, Int.reduceToNat, Int.reduceLE, Int.reduceLT, Int.reduceEq]
  by_cases h1 : a = a' <;> by_cases h2 : b = b' <;> by_cases h3 : c = c' <;> by_cases h4 : d = d' <;> simp [h1, h2, h3, h4]
abbrev M240 : FM := .f2 (CE.st cDigest) (CE.st cDigest) eBool.enc (fun x y => decide (x = y)) (fun _ _ => True)
attribute [go_sem] M240
theorem m240 : M240.ok Try.prog 83 := FM.f2_ok fun x y _ => f240 x y

def H147 : Hint := { fs := [(83, M240)], kp := [(0, [0, 1]), (1, [2, 3]), (2, []), (3, [2, 3]), (4, []), (5, [])], an := [] }
attribute [go_sem] H147
theorem f147 (x y : Point) : VFun Try.prog 37 [(CE.st cPoint).enc x, (CE.st cPoint).enc y] [] (eBool.enc (decide (x = y))) [] := by
  obtain ⟨a, b, c, d, e⟩ := x
  obtain ⟨a', b', c', d', e'⟩ := y
  refine VFun_pure (n := 16) (rs := [.tmp 4]) Try.func37 rfl rfl rfl rfl H147 (AllOk.ok (.cons m240 .nil) mix) _ _ (Nat.le_of_ble_eq_true rfl) (by kernel_rfl) ?_
  simp only [go_sem, ↓reduceIte, reduceCtorEq, Nat.reduceAdd, Nat.reduceMul, Nat.reduceEqDiff, Nat.reduceSub, Nat.reduceLT, Nat.reduceLeDiff, Nat.reduceAnd, Nat.reduceShiftRight, Nat.reduceBEq, Nat.reduceBNe, Nat.reduceBneDiff, Nat.reduceBeqDiff, Int.reduceToNat, Int.reduceLE, Int.reduceLT, Int.reduceEq]
  by_cases h1 : a = a' <;> by_cases h2 : b = b' <;> by_cases h3 : c = c' <;> by_cases h4 : d = d' <;> by_cases h5 : e = e' <;> simp [h1, h2, h3, h4, h5]
abbrev M147 : FM := .f2 (CE.st cPoint) (CE.st cPoint) eBool.enc (fun x y => decide (x = y)) (fun _ _ => True)
attribute [go_sem] M147
theorem m147 : M147.ok Try.prog 37 := FM.f2_ok fun x y _ => f147 x y

def H180 : Hint := { fs := [], kp := [(0, [0, 1, 2]), (1, [0, 1, 2])], an := [] }
attribute [go_sem] H180
theorem f180 (a b c : Int) : VFun Try.prog 34 [(eInt .i64).enc a, (eInt .i64).enc b, (eInt .i64).enc c] [] (eBool.enc (decide (b ≤ a ∧ a ≤ c))) [] := by
  refine VFun_pure (n := 15) (rs := [.tmp 6]) Try.func34 rfl rfl rfl rfl H180 (okN rfl mix) _ _ (Nat.le_of_ble_eq_true rfl) (by kernel_rfl) ?_
  simp only [go_sem, ↓reduceIte, reduceCtorEq, Nat.reduceAdd, Nat.reduceMul, Nat.reduceEqDiff, Nat.reduceSub, Nat.reduceLT, Nat.reduceLeDiff, Nat.reduceAnd, Nat.reduceShiftRight, Nat.reduceBEq, Nat.reduceBNe, Nat.reduceBneDiff, Nat.reduceBeqDiff, Int.reduceToNat, Int.reduceLE, Int.reduceLT, Int.reduceEq]
  by_cases h : b ≤ a <;> simp [h]
theorem m180 : M166.ok Try.prog 34 := FM.f3_ok fun a b c _ => f180 a b c

def H36 : Hint := { fs := [], kp := [(0, [0, 1]), (1, [0, 1]), (2, []), (3, [0, 1]), (4, [0, 1, 5]), (6, [0, 1, 5]), (7, []), (5, [0, 1, 5]), (8, [])], an := [(6, [0, 0, 3, 7, 0, 0, 48, 112, 255])] }
attribute [go_sem] H36
theorem f36 (xs ys : List Int) (hl : xs.length ≤ maxLen) : VFun Try.prog 48 [(eList (cInt .i64)).enc xs, (eList (cInt .i64)).enc ys] [] (eBool.enc (decide (xs = ys))) [] := by
  unfold maxLen at hl
  refine VFun_pure (n := 26) (rs := [.tmp 4]) Try.func48 rfl rfl rfl rfl H36 (okN rfl mix) _ _ (Nat.le_of_ble_eq_true rfl) (by kernel_rfl) ?_
  simp only [go_sem, ↓reduceIte, reduceCtorEq, Nat.reduceAdd, Nat.reduceMul, Nat.reduceEqDiff, Nat.reduceSub, Nat.reduceLT, Nat.reduceLeDiff, Nat.reduceAnd, Nat.reduceShiftRight, Nat.reduceBEq, Nat.reduceBNe, Nat.reduceBneDiff, Nat.reduceBeqDiff, Int.reduceToNat, Int.reduceLE, Int.reduceLT, Int.reduceEq]
  refine ite_intro (fun h1 => ?_) fun h1 => ?_
  · have : xs ≠ ys := fun e => by simp [e] at h1
    simp [this]
  · have hlen : xs.length = ys.length := by simp at h1; omega
    refine LoopV.meas (H := H36) (okN rfl mix) (by kernel_rfl) (fun i : Nat => ⟨[(0, .x (.o (.c (.s (xs.map (cInt .i64).enc))))), (1, .x (.o (.c (.s (ys.map (cInt .i64).enc))))), (5, sc (.int .i64 i))], [], 2⟩)
      (fun i => xs.length - i) (fun i => i ≤ xs.length ∧ ∀ j, j < i → xs[j]? = ys[j]?) ?_ 0 ⟨Nat.zero_le _, fun j h => by omega⟩
    intro i ⟨hi, hall⟩
    rcases Nat.lt_or_ge i xs.length with hlt | hge
    · have hx : xs[i]? = some xs[i] := List.getElem?_eq_getElem hlt
      have hy : ys[i]? = some (ys[i]'(by omega)) := List.getElem?_eq_getElem (by omega)
      generalize xs[i] = x at hx
      generalize ys[i]'(by omega) = y at hy
      have hw : IntKind.i64.wrap ((i : Int) + 1) = ((i + 1 : Nat) : Int) := by rw [wrap64] <;> omega
      have hlt' : ((i : Int) < (xs.length : Int)) = True := by simp; omega
      simp only [go_sem, ↓reduceIte, reduceCtorEq, Nat.reduceAdd, Nat.reduceMul, Nat.reduceEqDiff, Nat.reduceSub, Nat.reduceLT, Nat.reduceLeDiff, Nat.reduceAnd, Nat.reduceShiftRight, Nat.reduceBEq, Nat.reduceBNe, Nat.reduceBneDiff, Nat.reduceBeqDiff, Int.reduceToNat, Int.reduceLE, Int.reduceLT, Int.reduceEq, hx, hy, hw, hlt']
      refine ite_intro (fun h3 => ?_) fun h3 => ⟨i + 1, ⟨hlt, fun j hj => ?_⟩, by omega, rfl⟩
      · have : xs ≠ ys := fun e => by
          rw [e, hy] at hx
          cases hx
          simp at h3
        simp [this]
      · rcases Nat.lt_or_ge j i with h4 | h4
        · exact hall j h4
        · rw [show j = i by omega, hx, hy]
          simpa using h3
    · have hlt' : ((i : Int) < (xs.length : Int)) = False := by simp; omega
      simp only [go_sem, ↓reduceIte, reduceCtorEq, Nat.reduceAdd, Nat.reduceMul, Nat.reduceEqDiff, Nat.reduceSub, Nat.reduceLT, Nat.reduceLeDiff, Nat.reduceAnd, Nat.reduceShiftRight, Nat.reduceBEq, Nat.reduceBNe, Nat.reduceBneDiff, Nat.reduceBeqDiff, Int.reduceToNat, Int.reduceLE, Int.reduceLT, Int.reduceEq, hlt']
      have : xs = ys := List.ext_getElem? fun j => by
        rcases Nat.lt_or_ge j i with h4 | h4
        · exact hall j h4
        · rw [List.getElem?_eq_none (by omega), List.getElem?_eq_none (by omega)]
      simp [this]
abbrev M36 : FM := .f2 (eList (cInt .i64)) (eList (cInt .i64)) eBool.enc (fun x y => decide (x = y)) (fun x _ => x.length ≤ maxLen)
attribute [go_sem] M36
theorem m36 : M36.ok Try.prog 48 := FM.f2_ok fun x y h => f36 x y h

def H28 : Hint := { fs := [(37, M147), (48, M36)], kp := [(0, [0, 1]), (1, [2, 3]), (2, []), (3, [2, 3]), (4, []), (5, [2, 3]), (6, []), (7, [2, 3]), (8, []), (9, [2, 3]), (10, []), (11, [2, 3]), (12, []), (13, [2, 3]), (14, []), (15, [])], an := [] }
attribute [go_sem] H28
theorem f28 (x y : Client) (hl : x.2.2.2.2.2.1.length ≤ maxLen) : VFun Try.prog 16 [(CE.st cClient).enc x, (CE.st cClient).enc y] [] (eBool.enc (decide (x = y))) [] := by
  obtain ⟨a, b, c, d, ⟨e1, e2, e3, e4, e5⟩, f, g1, g2, g3, g4, g5⟩ := x
  obtain ⟨a', b', c', d', ⟨e1', e2', e3', e4', e5'⟩, f', g1', g2', g3', g4', g5'⟩ := y
  refine VFun_pure (n := 43) (rs := [.tmp 4]) Try.func16 rfl rfl rfl rfl H28 (AllOk.ok (.cons m147 (.cons m36 .nil)) mix) _ _ (Nat.le_of_ble_eq_true rfl) (by kernel_rfl) ?_
  simp only [go_sem, ↓reduceIte, reduceCtorEq, Nat.reduceAdd, Nat.reduceMul, Nat.reduceEqDiff, Nat.reduceSub, Nat.reduceLT, Nat.reduceLeDiff, Nat.reduceAnd, Nat.reduceShiftRight, Nat.reduceBEq, Nat.reduceBNe, Nat.reduceBneDiff, Nat.reduceBeqDiff, Int.reduceToNat, Int.reduceLE, Int.reduceLT, Int.reduceEq]
  repeat' first | refine ite_intro (fun h => ?_) fun h => ?_ | refine And.intro ?_ ?_
  all_goals first | exact hl | (simp_all <;> (intros; omega))
abbrev M28 : FM := .f2 (CE.st cClient) (CE.st cClient) eBool.enc (fun x y => decide (x = y)) (fun x _ => x.2.2.2.2.2.1.length ≤ maxLen)
attribute [go_sem] M28
theorem m28 : M28.ok Try.prog 16 := FM.f2_ok fun x y h => f28 x y h

def H296 : Hint := { fs := [(28, M166)], kp := [(0, [0]), (1, [1])], an := [] }
attribute [go_sem] H296
theorem f296 (x : Point) : VFun Try.prog 73 [(CE.st cPoint).enc x] [] (eBool.enc (decide (1 ≤ x.1 ∧ x.1 ≤ 256) || decide (x = (0, 0, 0, 0, 0)))) [] := by
  obtain ⟨a, b, c, d, e⟩ := x
  refine VFun_pure (n := 11) (rs := [.tmp 2]) Try.func73 rfl rfl rfl rfl H296 (AllOk.ok (.cons m166 .nil) mix) _ _ (Nat.le_of_ble_eq_true rfl) (by kernel_rfl) ?_
  simp only [go_sem, ↓reduceIte, reduceCtorEq, Nat.reduceAdd, Nat.reduceMul, Nat.reduceEqDiff, Nat.reduceSub, Nat.reduceLT, Nat.reduceLeDiff, Nat.reduceAnd, Nat.reduceShiftRight, Nat.reduceBEq, Nat.reduceBNe, Nat.reduceBneDiff, Nat.reduceBeqDiff, Int.reduceToNat, Int.reduceLE, Int.reduceLT, Int.reduceEq]
  by_cases h1 : 1 ≤ a ∧ a ≤ 256
  · simp [h1]
  · have hz : ∀ x : UInt64, ((x.toNat : Int) = 0) = (x = 0) := fun x => u64_inj x 0
    simp only [h1, hz]
    simp [Bool.decide_and]
abbrev M296 : FM := .f1 (CE.st cPoint) eBool.enc (fun x => decide (1 ≤ x.1 ∧ x.1 ≤ 256) || decide (x = (0, 0, 0, 0, 0))) (fun _ => True)
attribute [go_sem] M296
theorem m296 : M296.ok Try.prog 73 := FM.f1_ok fun x _ => f296 x

end Go.Proofs.YtlofjogebacndaaW.V

