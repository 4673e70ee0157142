/- Functions: what is handed over, compared, marked. No condition but each theorem's own. -/
import Derived.Test.YtgdbammhnjkbbaaFSD
namespace Go.Proofs.YtgdbammhnjkbbaaW.V
open Go Go.Proofs
set_option linter.unusedSimpArgs false
set_option linter.unusedVariables false
set_option maxRecDepth 8000
set_option maxHeartbeats 4000000

set_option synthInstance.maxSize 1000

def H_laws_toDigest : Hint := { fs := [], kp := [(0, [0]), (1, [1, 2]), (2, [1, 2, 3]), (3, [1, 2, 3]), (4, [1, 2, 3]), (5, [1, 2, 3]), (6, [2, 3])], an := [] }
attribute [go_sem] H_laws_toDigest
theorem ok_H_laws_toDigest : H_laws_toDigest.ok Try.prog := AllOk.okR .nil .nil mix
theorem f_toDigest (x : Digest) : VFun Try.prog 10 [(CE.st cDigest).enc x] [] ((CE.st cDigest).enc x) [] := by
  refine VFun_pure (n := 17) (rs := [.cell 2 31]) Try.func10 rfl rfl rfl rfl H_laws_toDigest ok_H_laws_toDigest _ _ (Nat.le_of_ble_eq_true rfl) (by kernel_rfl) ?_
  simp only [go_sem, ↓reduceIte, reduceCtorEq, Nat.reduceAdd, Nat.reduceMul, Nat.reduceEqDiff, Nat.reduceSub, Nat.reduceLT, Nat.reduceLeDiff, Nat.reduceAnd, Nat.reduceShiftRight, Nat.reduceBEq, Nat.reduceBNe, Nat.reduceBneDiff, Nat.reduceBeqDiff, Int.reduceToNat, Int.reduceLE, Int.reduceLT, Int.reduceEq]
abbrev MToDigest : FM := .f1 (CE.st cDigest) (CE.st cDigest).enc (fun x => x) (fun _ => True)
attribute [go_sem] MToDigest
theorem ok_laws_toDigest : MToDigest.ok Try.prog 10 := FM.f1_ok fun x _ => f_toDigest x

def H_laws_toPoint : Hint := { fs := [(10, MToDigest)], kp := [(0, [0]), (1, [1, 2]), (2, [1, 2, 3]), (3, [1, 2, 3]), (4, [2, 3])], an := [] }
attribute [go_sem] H_laws_toPoint
theorem ok_H_laws_toPoint : H_laws_toPoint.ok Try.prog := AllOk.okR (.cons ok_laws_toDigest .nil) .nil mix
theorem f_toPoint (x : Point) : VFun Try.prog 67 [(CE.st cPoint).enc x] [] ((CE.st cPoint).enc x) [] := by
  refine VFun_pure (n := 12) (rs := [.cell 2 78]) Try.func67 rfl rfl rfl rfl H_laws_toPoint ok_H_laws_toPoint _ _ (Nat.le_of_ble_eq_true rfl) (by kernel_rfl) ?_
  simp only [go_sem, ↓reduceIte, reduceCtorEq, Nat.reduceAdd, Nat.reduceMul, Nat.reduceEqDiff, Nat.reduceSub, Nat.reduceLT, Nat.reduceLeDiff, Nat.reduceAnd, Nat.reduceShiftRight, Nat.reduceBEq, Nat.reduceBNe, Nat.reduceBneDiff, Nat.reduceBeqDiff, Int.reduceToNat, Int.reduceLE, Int.reduceLT, Int.reduceEq]
abbrev MToPoint : FM := .f1 (CE.st cPoint) (CE.st cPoint).enc (fun x => x) (fun _ => True)
attribute [go_sem] MToPoint
theorem ok_laws_toPoint : MToPoint.ok Try.prog 67 := FM.f1_ok fun x _ => f_toPoint x

def H_laws_toSlot : Hint := { fs := [(10, MToDigest)], kp := [(0, [0]), (1, [1, 2]), (2, [1, 2, 3]), (3, [1, 2, 3]), (4, [1, 2, 3]), (5, [1, 2, 3]), (6, [2, 3])], an := [] }
attribute [go_sem] H_laws_toSlot
theorem ok_H_laws_toSlot : H_laws_toSlot.ok Try.prog := AllOk.okR (.cons ok_laws_toDigest .nil) .nil mix
theorem f_toSlot (x : Slot) : VFun Try.prog 32 [(CE.st cSlot).enc x] [] ((CE.st cSlot).enc x) [] := by
  refine VFun_pure (n := 18) (rs := [.cell 2 33]) Try.func32 rfl rfl rfl rfl H_laws_toSlot ok_H_laws_toSlot _ _ (Nat.le_of_ble_eq_true rfl) (by kernel_rfl) ?_
  simp only [go_sem, ↓reduceIte, reduceCtorEq, Nat.reduceAdd, Nat.reduceMul, Nat.reduceEqDiff, Nat.reduceSub, Nat.reduceLT, Nat.reduceLeDiff, Nat.reduceAnd, Nat.reduceShiftRight, Nat.reduceBEq, Nat.reduceBNe, Nat.reduceBneDiff, Nat.reduceBeqDiff, Int.reduceToNat, Int.reduceLE, Int.reduceLT, Int.reduceEq]
abbrev MToSlot : FM := .f1 (CE.st cSlot) (CE.st cSlot).enc (fun x => x) (fun _ => True)
attribute [go_sem] MToSlot
theorem ok_laws_toSlot : MToSlot.ok Try.prog 32 := FM.f1_ok fun x _ => f_toSlot x

def H_laws_toDisk : Hint := { fs := [(32, MToSlot)], kp := [(0, [0]), (1, [1, 2]), (2, [1, 2, 3]), (3, [1, 2, 3]), (4, [2, 3])], an := [] }
attribute [go_sem] H_laws_toDisk
theorem ok_H_laws_toDisk : H_laws_toDisk.ok Try.prog := AllOk.okR (.cons ok_laws_toSlot .nil) .nil mix
theorem f_toDisk (x : Disk) : VFun Try.prog 9 [(CE.st cDisk).enc x] [] ((CE.st cDisk).enc x) [] := by
  refine VFun_pure (n := 13) (rs := [.cell 2 35]) Try.func9 rfl rfl rfl rfl H_laws_toDisk ok_H_laws_toDisk _ _ (Nat.le_of_ble_eq_true rfl) (by kernel_rfl) ?_
  simp only [go_sem, ↓reduceIte, reduceCtorEq, Nat.reduceAdd, Nat.reduceMul, Nat.reduceEqDiff, Nat.reduceSub, Nat.reduceLT, Nat.reduceLeDiff, Nat.reduceAnd, Nat.reduceShiftRight, Nat.reduceBEq, Nat.reduceBNe, Nat.reduceBneDiff, Nat.reduceBeqDiff, Int.reduceToNat, Int.reduceLE, Int.reduceLT, Int.reduceEq]
abbrev MToDisk : FM := .f1 (CE.st cDisk) (CE.st cDisk).enc (fun x => x) (fun _ => True)
attribute [go_sem] MToDisk
theorem ok_laws_toDisk : MToDisk.ok Try.prog 9 := FM.f1_ok fun x _ => f_toDisk x

def H_laws_eqSlot : Hint := { fs := [(68, M240)], kp := [(0, [0, 1]), (1, [2, 3]), (2, []), (3, [2, 3]), (4, []), (5, [2, 3]), (6, []), (7, [2, 3]), (8, []), (9, [])], an := [] }
attribute [go_sem] H_laws_eqSlot
theorem ok_H_laws_eqSlot : H_laws_eqSlot.ok Try.prog := AllOk.okR (.cons m240 .nil) .nil mix
theorem f_eqSlot (x y : Slot) : VFun Try.prog 56 [(CE.st cSlot).enc x, (CE.st cSlot).enc y] [] (eBool.enc (decide (x = y))) [] := by
  obtain ⟨a, b, c, d⟩ := x
  obtain ⟨a', b', c', d'⟩ := y
  refine VFun_pure (n := 26) (rs := [.tmp 4]) Try.func56 rfl rfl rfl rfl H_laws_eqSlot ok_H_laws_eqSlot _ _ (Nat.le_of_ble_eq_true rfl) (by kernel_rfl) ?_
  simp only [go_sem, ↓reduceIte, reduceCtorEq, Nat.reduceAdd, Nat.reduceMul, Nat.reduceEqDiff, Nat.reduceSub, Nat.reduceLT, Nat.reduceLeDiff, Nat.reduceAnd, Nat.reduceShiftRight, Nat.reduceBEq, Nat.reduceBNe, Nat.reduceBneDiff, Nat.reduceBeqDiff, Int.reduceToNat, Int.reduceLE, Int.reduceLT, Int.reduceEq]
  by_cases h1 : a = a' <;> by_cases h2 : b = b' <;> by_cases h3 : c = c' <;> by_cases h4 : d = d' <;> simp [h1, h2, h3, h4]
abbrev MEqSlot : FM := .f2 (CE.st cSlot) (CE.st cSlot) eBool.enc (fun x y => decide (x = y)) (fun _ _ => True)
attribute [go_sem] MEqSlot
theorem ok_laws_eqSlot : MEqSlot.ok Try.prog 56 := FM.f2_ok fun x y _ => f_eqSlot x y

def H_laws_eqDisk : Hint := { fs := [(56, MEqSlot)], kp := [(0, [0, 1]), (1, [2, 3]), (2, []), (3, [2, 3]), (4, []), (5, [])], an := [] }
attribute [go_sem] H_laws_eqDisk
theorem ok_H_laws_eqDisk : H_laws_eqDisk.ok Try.prog := AllOk.okR (.cons ok_laws_eqSlot .nil) .nil mix
theorem f_eqDisk (x y : Disk) : VFun Try.prog 42 [(CE.st cDisk).enc x, (CE.st cDisk).enc y] [] (eBool.enc (decide (x = y))) [] := by
  obtain ⟨a, b⟩ := x
  obtain ⟨a', b'⟩ := y
  refine VFun_pure (n := 17) (rs := [.tmp 4]) Try.func42 rfl rfl rfl rfl H_laws_eqDisk ok_H_laws_eqDisk _ _ (Nat.le_of_ble_eq_true rfl) (by kernel_rfl) ?_
  simp only [go_sem, ↓reduceIte, reduceCtorEq, Nat.reduceAdd, Nat.reduceMul, Nat.reduceEqDiff, Nat.reduceSub, Nat.reduceLT, Nat.reduceLeDiff, Nat.reduceAnd, Nat.reduceShiftRight, Nat.reduceBEq, Nat.reduceBNe, Nat.reduceBneDiff, Nat.reduceBeqDiff, Int.reduceToNat, Int.reduceLE, Int.reduceLT, Int.reduceEq]
  by_cases h1 : a = a' <;> by_cases h2 : b = b' <;> simp [h1, h2]
abbrev MEqDisk : FM := .f2 (CE.st cDisk) (CE.st cDisk) eBool.enc (fun x y => decide (x = y)) (fun _ _ => True)
attribute [go_sem] MEqDisk
theorem ok_laws_eqDisk : MEqDisk.ok Try.prog 42 := FM.f2_ok fun x y _ => f_eqDisk x y

def H_laws_eqRaw : Hint := { fs := [], kp := [(0, [0, 1]), (1, [2, 3]), (2, []), (3, [2, 3]), (4, []), (5, [2, 3]), (6, []), (7, [])], an := [] }
attribute [go_sem] H_laws_eqRaw
theorem ok_H_laws_eqRaw : H_laws_eqRaw.ok Try.prog := AllOk.okR .nil .nil mix
theorem f_eqRaw (x y : Raw) : VFun Try.prog 37 [(CE.st cRaw).enc x, (CE.st cRaw).enc y] [] (eBool.enc (decide (x = y))) [] := by
  obtain ⟨a, b, c⟩ := x
  obtain ⟨a', b', c'⟩ := y
  refine VFun_pure (n := 20) (rs := [.tmp 4]) Try.func37 rfl rfl rfl rfl H_laws_eqRaw ok_H_laws_eqRaw _ _ (Nat.le_of_ble_eq_true rfl) (by kernel_rfl) ?_
  simp only [go_sem, ↓reduceIte, reduceCtorEq, Nat.reduceAdd, Nat.reduceMul, Nat.reduceEqDiff, Nat.reduceSub, Nat.reduceLT, Nat.reduceLeDiff, Nat.reduceAnd, Nat.reduceShiftRight, Nat.reduceBEq, Nat.reduceBNe, Nat.reduceBneDiff, Nat.reduceBeqDiff, Int.reduceToNat, Int.reduceLE, Int.reduceLT, Int.reduceEq]
  by_cases h1 : a = a' <;> by_cases h2 : b = b' <;> by_cases h3 : c = c' <;> simp [h1, h2, h3]
abbrev MEqRaw : FM := .f2 (CE.st cRaw) (CE.st cRaw) eBool.enc (fun x y => decide (x = y)) (fun _ _ => True)
attribute [go_sem] MEqRaw
theorem ok_laws_eqRaw : MEqRaw.ok Try.prog 37 := FM.f2_ok fun x y _ => f_eqRaw x y

abbrev Wish := Int × Int × Point
abbrev cWish : Cd Wish := cPair (cInt .i64) (cPair (cInt .i64) cPoint)
abbrev Witness := Disk × List Wish
abbrev cWitness : Cd Witness := cPair cDisk (cList cWish)
attribute [go_sem] cWish cWitness
instance : DecidableEq Wish := instDecidableEqProd

def H_laws_eqWish : Hint := { fs := [(69, M147)], kp := [(0, [0, 1]), (1, [2, 3]), (2, []), (3, [2, 3]), (4, []), (5, [2, 3]), (6, []), (7, [])], an := [] }
attribute [go_sem] H_laws_eqWish
theorem ok_H_laws_eqWish : H_laws_eqWish.ok Try.prog := AllOk.okR (.cons m147 .nil) .nil mix
theorem f_eqWish (x y : Wish) : VFun Try.prog 57 [(CE.st cWish).enc x, (CE.st cWish).enc y] [] (eBool.enc (decide (x = y))) [] := by
  obtain ⟨a, b, c⟩ := x
  obtain ⟨a', b', c'⟩ := y
  refine VFun_pure (n := 21) (rs := [.tmp 4]) Try.func57 rfl rfl rfl rfl H_laws_eqWish ok_H_laws_eqWish _ _ (Nat.le_of_ble_eq_true rfl) (by kernel_rfl) ?_
  simp only [go_sem, ↓reduceIte, reduceCtorEq, Nat.reduceAdd, Nat.reduceMul, Nat.reduceEqDiff, Nat.reduceSub, Nat.reduceLT, Nat.reduceLeDiff, Nat.reduceAnd, Nat.reduceShiftRight, Nat.reduceBEq, Nat.reduceBNe, Nat.reduceBneDiff, Nat.reduceBeqDiff, Int.reduceToNat, Int.reduceLE, Int.reduceLT, Int.reduceEq]
  by_cases h1 : a = a' <;> by_cases h2 : b = b' <;> by_cases h3 : c = c' <;> simp [h1, h2, h3]
abbrev MEqWish : FM := .f2 (CE.st cWish) (CE.st cWish) eBool.enc (fun x y => decide (x = y)) (fun _ _ => True)
attribute [go_sem] MEqWish
theorem ok_laws_eqWish : MEqWish.ok Try.prog 57 := FM.f2_ok fun x y _ => f_eqWish x y

def H_laws_eqRawS : Hint := { fs := [(37, MEqRaw)], kp := [(0, [0, 1]), (1, [0, 1]), (2, []), (3, [0, 1]), (4, [0, 1, 5]), (6, [0, 1, 5]), (7, []), (5, [0, 1, 5]), (8, [])], an := [(6, [0, 0, 3, 7, 0, 0, 48, 112, 255, 511])] }
attribute [go_sem] H_laws_eqRawS
theorem ok_H_laws_eqRawS : H_laws_eqRawS.ok Try.prog := AllOk.okR (.cons ok_laws_eqRaw .nil) .nil mix
theorem f_eq_raw (xs ys) (hl : xs.length ≤ maxLen) : VFun Try.prog 12 [(eList cRaw).enc xs, (eList cRaw).enc ys] [] (eBool.enc (decide (xs = ys))) [] := by
  unfold maxLen at hl
  refine VFun_pure (n := 27) (rs := [.tmp 4]) Try.func12 rfl rfl rfl rfl H_laws_eqRawS ok_H_laws_eqRawS _ _ (Nat.le_of_ble_eq_true rfl) (by kernel_rfl) ?_
  simp only [go_sem, ↓reduceIte, reduceCtorEq, Nat.reduceAdd, Nat.reduceMul, Nat.reduceEqDiff, Nat.reduceSub, Nat.reduceLT, Nat.reduceLeDiff, Nat.reduceAnd, Nat.reduceShiftRight, Nat.reduceBEq, Nat.reduceBNe, Nat.reduceBneDiff, Nat.reduceBeqDiff, Int.reduceToNat, Int.reduceLE, Int.reduceLT, Int.reduceEq]
  refine ite_intro (fun h1 => ?_) fun h1 => ?_
  · have : xs ≠ ys := fun e => by simp [e] at h1
    simp [this]
  · have hlen : xs.length = ys.length := by simp at h1; omega
    refine LoopV.go (H := H_laws_eqRawS) ok_H_laws_eqRawS (by kernel_rfl) (fun i : Nat => ⟨[(0, .x (.o (.c (.s (xs.map (cRaw).enc))))), (1, .x (.o (.c (.s (ys.map (cRaw).enc))))), (5, sc (.int .i64 i))], [], 2⟩) (fun i => xs.length - i) (fun i => i ≤ xs.length ∧ ∀ j, j < i → xs[j]? = ys[j]?) ?_ 0 ⟨Nat.zero_le _, fun j h => by omega⟩
    intro i ⟨hi, hall⟩
    rcases Nat.lt_or_ge i xs.length with hlt | hge
    · have hx : xs[i]? = some xs[i] := List.getElem?_eq_getElem hlt
      have hy : ys[i]? = some (ys[i]'(by omega)) := List.getElem?_eq_getElem (by omega)
      generalize xs[i] = x at hx
      generalize ys[i]'(by omega) = y at hy
      have hw : IntKind.i64.wrap ((i : Int) + 1) = ((i + 1 : Nat) : Int) := by rw [wrap64] <;> omega
      have hlt' : ((i : Int) < (xs.length : Int)) = True := by simp; omega
      simp only [go_sem, ↓reduceIte, reduceCtorEq, Nat.reduceAdd, Nat.reduceMul, Nat.reduceEqDiff, Nat.reduceSub, Nat.reduceLT, Nat.reduceLeDiff, Nat.reduceAnd, Nat.reduceShiftRight, Nat.reduceBEq, Nat.reduceBNe, Nat.reduceBneDiff, Nat.reduceBeqDiff, Int.reduceToNat, Int.reduceLE, Int.reduceLT, Int.reduceEq, hx, hy, hw, hlt']
      refine ite_intro (fun h3 => ?_) fun h3 => ⟨i + 1, ⟨hlt, fun j hj => ?_⟩, by omega, rfl⟩
      · have : xs ≠ ys := fun e => by
          rw [e, hy] at hx
          cases hx
          simp at h3
        simp [this]
      · rcases Nat.lt_or_ge j i with h4 | h4
        · exact hall j h4
        · rw [show j = i by omega, hx, hy]
          simpa using h3
    · have hlt' : ((i : Int) < (xs.length : Int)) = False := by simp; omega
      simp only [go_sem, ↓reduceIte, reduceCtorEq, Nat.reduceAdd, Nat.reduceMul, Nat.reduceEqDiff, Nat.reduceSub, Nat.reduceLT, Nat.reduceLeDiff, Nat.reduceAnd, Nat.reduceShiftRight, Nat.reduceBEq, Nat.reduceBNe, Nat.reduceBneDiff, Nat.reduceBeqDiff, Int.reduceToNat, Int.reduceLE, Int.reduceLT, Int.reduceEq, hlt']
      have : xs = ys := List.ext_getElem? fun j => by
        rcases Nat.lt_or_ge j i with h4 | h4
        · exact hall j h4
        · rw [List.getElem?_eq_none (by omega), List.getElem?_eq_none (by omega)]
      simp [this]
abbrev MEq_raw : FM := .f2 (eList cRaw) (eList cRaw) eBool.enc (fun x y => decide (x = y)) (fun x _ => x.length ≤ maxLen)
attribute [go_sem] MEq_raw
theorem ok_laws_eqRawS : MEq_raw.ok Try.prog 12 := FM.f2_ok fun x y h => f_eq_raw x y h

def H_laws_eqWishS : Hint := { fs := [(57, MEqWish)], kp := [(0, [0, 1]), (1, [0, 1]), (2, []), (3, [0, 1]), (4, [0, 1, 5]), (6, [0, 1, 5]), (7, []), (5, [0, 1, 5]), (8, [])], an := [(6, [0, 0, 3, 7, 0, 0, 48, 112, 255, 511])] }
attribute [go_sem] H_laws_eqWishS
theorem ok_H_laws_eqWishS : H_laws_eqWishS.ok Try.prog := AllOk.okR (.cons ok_laws_eqWish .nil) .nil mix
theorem f_eq_wish (xs ys) (hl : xs.length ≤ maxLen) : VFun Try.prog 43 [(eList cWish).enc xs, (eList cWish).enc ys] [] (eBool.enc (decide (xs = ys))) [] := by
  unfold maxLen at hl
  refine VFun_pure (n := 27) (rs := [.tmp 4]) Try.func43 rfl rfl rfl rfl H_laws_eqWishS ok_H_laws_eqWishS _ _ (Nat.le_of_ble_eq_true rfl) (by kernel_rfl) ?_
  simp only [go_sem, ↓reduceIte, reduceCtorEq, Nat.reduceAdd, Nat.reduceMul, Nat.reduceEqDiff, Nat.reduceSub, Nat.reduceLT, Nat.reduceLeDiff, Nat.reduceAnd, Nat.reduceShiftRight, Nat.reduceBEq, Nat.reduceBNe, Nat.reduceBneDiff, Nat.reduceBeqDiff, Int.reduceToNat, Int.reduceLE, Int.reduceLT, Int.reduceEq]
  refine ite_intro (fun h1 => ?_) fun h1 => ?_
  · have : xs ≠ ys := fun e => by simp [e] at h1
    simp [this]
  · have hlen : xs.length = ys.length := by simp at h1; omega
    refine LoopV.go (H := H_laws_eqWishS) ok_H_laws_eqWishS (by kernel_rfl) (fun i : Nat => ⟨[(0, .x (.o (.c (.s (xs.map (cWish).enc))))), (1, .x (.o (.c (.s (ys.map (cWish).enc))))), (5, sc (.int .i64 i))], [], 2⟩) (fun i => xs.length - i) (fun i => i ≤ xs.length ∧ ∀ j, j < i → xs[j]? = ys[j]?) ?_ 0 ⟨Nat.zero_le _, fun j h => by omega⟩
    intro i ⟨hi, hall⟩
    rcases Nat.lt_or_ge i xs.length with hlt | hge
    · have hx : xs[i]? = some xs[i] := List.getElem?_eq_getElem hlt
      have hy : ys[i]? = some (ys[i]'(by omega)) := List.getElem?_eq_getElem (by omega)
      generalize xs[i] = x at hx
      generalize ys[i]'(by omega) = y at hy
      have hw : IntKind.i64.wrap ((i : Int) + 1) = ((i + 1 : Nat) : Int) := by rw [wrap64] <;> omega
      have hlt' : ((i : Int) < (xs.length : Int)) = True := by simp; omega
      simp only [go_sem, ↓reduceIte, reduceCtorEq, Nat.reduceAdd, Nat.reduceMul, Nat.reduceEqDiff, Nat.reduceSub, Nat.reduceLT, Nat.reduceLeDiff, Nat.reduceAnd, Nat.reduceShiftRight, Nat.reduceBEq, Nat.reduceBNe, Nat.reduceBneDiff, Nat.reduceBeqDiff, Int.reduceToNat, Int.reduceLE, Int.reduceLT, Int.reduceEq, hx, hy, hw, hlt']
      refine ite_intro (fun h3 => ?_) fun h3 => ⟨i + 1, ⟨hlt, fun j hj => ?_⟩, by omega, rfl⟩
      · have : xs ≠ ys := fun e => by
          rw [e, hy] at hx
          cases hx
          simp at h3
        simp [this]
      · rcases Nat.lt_or_ge j i with h4 | h4
        · exact hall j h4
        · rw [show j = i by omega, hx, hy]
          simpa using h3
    · have hlt' : ((i : Int) < (xs.length : Int)) = False := by simp; omega
      simp only [go_sem, ↓reduceIte, reduceCtorEq, Nat.reduceAdd, Nat.reduceMul, Nat.reduceEqDiff, Nat.reduceSub, Nat.reduceLT, Nat.reduceLeDiff, Nat.reduceAnd, Nat.reduceShiftRight, Nat.reduceBEq, Nat.reduceBNe, Nat.reduceBneDiff, Nat.reduceBeqDiff, Int.reduceToNat, Int.reduceLE, Int.reduceLT, Int.reduceEq, hlt']
      have : xs = ys := List.ext_getElem? fun j => by
        rcases Nat.lt_or_ge j i with h4 | h4
        · exact hall j h4
        · rw [List.getElem?_eq_none (by omega), List.getElem?_eq_none (by omega)]
      simp [this]
abbrev MEq_wish : FM := .f2 (eList cWish) (eList cWish) eBool.enc (fun x y => decide (x = y)) (fun x _ => x.length ≤ maxLen)
attribute [go_sem] MEq_wish
theorem ok_laws_eqWishS : MEq_wish.ok Try.prog 43 := FM.f2_ok fun x y h => f_eq_wish x y h

/-- What the laws write into a list of raw writes, and look up again. -/
def markL (n : Nat) : List Raw := (List.range n).map fun i => (((1 + 3 * i : Nat) : Int), ((2 + 3 * i : Nat) : Int), uOf ((3 + 3 * i : Nat) : Int))
theorem markL_len (n : Nat) : (markL n).length = n := by simp [markL]
theorem markL_succ (n : Nat) : markL (n + 1) = markL n ++ [(((1 + 3 * n : Nat) : Int), ((2 + 3 * n : Nat) : Int), uOf ((3 + 3 * n : Nat) : Int))] := by simp [markL, List.range_succ]

/-- A list whose first i elements are marked. -/
def markP (xs : List Raw) (i : Nat) : List Raw := markL i ++ xs.drop i
theorem markP_len (xs : List Raw) {i : Nat} (h : i ≤ xs.length) : (markP xs i).length = xs.length := by
  rw [markP, List.length_append, markL_len, List.length_drop]; omega
theorem markP_0 (xs : List Raw) : markP xs 0 = xs := rfl
theorem markP_n (xs : List Raw) : markP xs xs.length = markL xs.length := by
  rw [markP, List.drop_length, List.append_nil]
theorem markP_set (xs : List Raw) {i : Nat} (h : i < xs.length) : (markP xs i).set i (((1 + 3 * i : Nat) : Int), ((2 + 3 * i : Nat) : Int), uOf ((3 + 3 * i : Nat) : Int)) = markP xs (i + 1) := by
  rw [markP, markP, markL_succ, List.set_append_right _ _ (by rw [markL_len]; omega), markL_len, Nat.sub_self, List.drop_eq_getElem_cons h, List.set_cons_zero, List.append_assoc]
  rfl

def H_laws_markRawS : Hint := { fs := [], kp := [(0, [0, 1]), (1, [0, 1]), (2, [0, 1, 5]), (4, [0, 1, 5]), (5, [0, 1, 5]), (6, [0, 1, 5]), (7, [0, 1, 5]), (8, [0, 1, 5]), (9, [0, 1, 5]), (3, [0, 1, 5]), (10, [1])], an := [] }
attribute [go_sem] H_laws_markRawS
theorem ok_H_laws_markRawS : H_laws_markRawS.ok Try.prog := AllOk.okR .nil .nil mix
theorem f_markRawS (xs : List Raw) (k : Int) (h : k = 1 ∧ xs.length ≤ 1000000) : VFun Try.prog 13 [oL 0 xs, (eInt .i64).enc k] [some (oR cRaw xs)] ((eInt .i64).enc ((1 + 3 * xs.length : Nat) : Int)) [some (oR cRaw (markL xs.length))] := by
  obtain ⟨rfl, h⟩ := h
  have hml := fun i (h : i ≤ xs.length) => markP_len xs h
  have h0 := markP_0 xs
  refine VFun_own (rin := [oR cRaw xs]) (n := 35) (rs := [.tmp 4]) Try.func13 rfl rfl rfl rfl H_laws_markRawS ok_H_laws_markRawS (Nat.le_of_ble_eq_true rfl) (by kernel_rfl) ?_
  simp only [go_sem, ↓reduceIte, reduceCtorEq, Nat.reduceAdd, Nat.reduceMul, Nat.reduceEqDiff, Nat.reduceSub, Nat.reduceLT, Nat.reduceLeDiff, Nat.reduceAnd, Nat.reduceShiftRight, Nat.reduceBEq, Nat.reduceBNe, Nat.reduceBneDiff, Nat.reduceBeqDiff, Int.reduceToNat, Int.reduceLE, Int.reduceLT, Int.reduceEq]
  refine LoopV.go (H := H_laws_markRawS) ok_H_laws_markRawS (by kernel_rfl) (fun i : Nat => ⟨[(0, .x (.o (.h (0, 0) 0 (markP xs i).length (markP xs i).length))), (1, sc (.int .i64 ((1 + 3 * i : Nat) : Int))), (5, sc (.int .i64 i))], [((0, 0), .row 3 ((markP xs i).map cRaw.enc))], 2⟩) (fun i => xs.length - i) (fun i => i ≤ xs.length) ?_ 0 (Nat.zero_le _)
  intro i hi
  have hmi := hml i hi
  have w1 : IntKind.i64.wrap ((i : Int) + 1) = ((i + 1 : Nat) : Int) := by rw [wrap64] <;> omega
  have w2 : IntKind.i64.wrap (((1 + 3 * i : Nat) : Int) + 1) = ((2 + 3 * i : Nat) : Int) := by rw [wrap64] <;> omega
  have w3 : IntKind.i64.wrap (((2 + 3 * i : Nat) : Int) + 1) = ((3 + 3 * i : Nat) : Int) := by rw [wrap64] <;> omega
  have w4 : IntKind.i64.wrap (((3 + 3 * i : Nat) : Int) + 1) = ((1 + 3 * (i + 1) : Nat) : Int) := by rw [wrap64] <;> omega
  by_cases hlt : i < xs.length
  · have hlt2 : i < (markP xs i).length := by omega
    have c1 : ((i : Int) < ((markP xs i).length : Int)) = True := eq_true (by omega)
    obtain ⟨⟨a, b, c⟩, hx⟩ : ∃ r, (markP xs i)[i]? = some r := ⟨_, List.getElem?_eq_getElem hlt2⟩
    have hg : ∀ v : List C, (((markP xs i).map cRaw.enc).set i v)[i]? = some v := fun v => List.getElem?_set_self (by simpa using hlt2)
    have hs : ((markP xs i).map cRaw.enc).set i [.v (.int .i64 ((1 + 3 * i : Nat) : Int)), .v (.int .i64 ((2 + 3 * i : Nat) : Int)), .v (.int .u64 (uOf ((3 + 3 * i : Nat) : Int)).toNat)] = (markP xs (i + 1)).map cRaw.enc := by
      rw [← markP_set xs hlt, List.map_set]; rfl
    have hmj := hml (i + 1) (by omega)
    simp only [go_sem, ↓reduceIte, reduceCtorEq, Nat.reduceAdd, Nat.reduceMul, Nat.reduceEqDiff, Nat.reduceSub, Nat.reduceLT, Nat.reduceLeDiff, Nat.reduceAnd, Nat.reduceShiftRight, Nat.reduceBEq, Nat.reduceBNe, Nat.reduceBneDiff, Nat.reduceBeqDiff, Int.reduceToNat, Int.reduceLE, Int.reduceLT, Int.reduceEq, c1, w1, w2, w3, w4, eq_true hlt2, hx, hg, List.length_set, List.length_map, List.set_set, wrapU]
    exact ⟨i + 1, by omega, by omega, by rw [hmi, hmj]; exact congrArg (fun r => (⟨_, [((0, 0), Root.row 3 r)], 2⟩ : LS)) hs⟩
  · have hie : i = xs.length := by omega
    have c1 : ((i : Int) < ((markP xs i).length : Int)) = False := eq_false (by omega)
    simp only [go_sem, ↓reduceIte, reduceCtorEq, Nat.reduceAdd, Nat.reduceMul, Nat.reduceEqDiff, Nat.reduceSub, Nat.reduceLT, Nat.reduceLeDiff, Nat.reduceAnd, Nat.reduceShiftRight, Nat.reduceBEq, Nat.reduceBNe, Nat.reduceBneDiff, Nat.reduceBeqDiff, Int.reduceToNat, Int.reduceLE, Int.reduceLT, Int.reduceEq, c1]
    subst hie
    rw [markP_n]
    exact ⟨rfl, rfl⟩
abbrev MMarkRaw : FM := .mk1 cRaw (eInt .i64) (eInt .i64).enc (fun xs _ => (markL xs.length, ((1 + 3 * xs.length : Nat) : Int))) (fun xs k => k = 1 ∧ xs.length ≤ 1000000)
attribute [go_sem] MMarkRaw
theorem ok_laws_markRawS : MMarkRaw.ok Try.prog 13 := FM.mk1_ok fun xs k h => f_markRawS xs k h

def H_laws_heldRawS : Hint := { fs := [], kp := [(0, [0, 1]), (1, [0, 1]), (2, [0, 1, 5]), (4, [0, 1, 5]), (5, []), (6, [0, 1, 5]), (7, [0, 1, 5]), (8, []), (9, [0, 1, 5]), (10, [0, 1, 5]), (11, []), (12, [0, 1, 5]), (3, [0, 1, 5]), (13, [1])], an := [] }
attribute [go_sem] H_laws_heldRawS
theorem ok_H_laws_heldRawS : H_laws_heldRawS.ok Try.prog := AllOk.okR .nil .nil mix
theorem f_heldRawS (n : Nat) (h : n ≤ 1000000) : VFun Try.prog 14 [(eList cRaw).enc (markL n), (eInt .i64).enc 1] [] ((eInt .i64).enc ((1 + 3 * n : Nat) : Int)) [] := by
  have hml := markL_len
  refine VFun_pure (n := 41) (rs := [.tmp 4]) Try.func14 rfl rfl rfl rfl H_laws_heldRawS ok_H_laws_heldRawS _ _ (Nat.le_of_ble_eq_true rfl) (by kernel_rfl) ?_
  simp only [go_sem, ↓reduceIte, reduceCtorEq, Nat.reduceAdd, Nat.reduceMul, Nat.reduceEqDiff, Nat.reduceSub, Nat.reduceLT, Nat.reduceLeDiff, Nat.reduceAnd, Nat.reduceShiftRight, Nat.reduceBEq, Nat.reduceBNe, Nat.reduceBneDiff, Nat.reduceBeqDiff, Int.reduceToNat, Int.reduceLE, Int.reduceLT, Int.reduceEq]
  refine LoopV.go (H := H_laws_heldRawS) ok_H_laws_heldRawS (by kernel_rfl) (fun i : Nat => ⟨[(0, .x (.o (.c (.s ((markL n).map cRaw.enc))))), (1, sc (.int .i64 ((1 + 3 * i : Nat) : Int))), (5, sc (.int .i64 i))], [], 2⟩) (fun i => n - i) (fun i => i ≤ n) ?_ 0 (Nat.zero_le _)
  intro i hi
  have hmi := hml n
  have w1 : IntKind.i64.wrap ((i : Int) + 1) = ((i + 1 : Nat) : Int) := by rw [wrap64] <;> omega
  have w2 : IntKind.i64.wrap (((1 + 3 * i : Nat) : Int) + 1) = ((2 + 3 * i : Nat) : Int) := by rw [wrap64] <;> omega
  have w3 : IntKind.i64.wrap (((2 + 3 * i : Nat) : Int) + 1) = ((3 + 3 * i : Nat) : Int) := by rw [wrap64] <;> omega
  have w4 : IntKind.i64.wrap (((3 + 3 * i : Nat) : Int) + 1) = ((1 + 3 * (i + 1) : Nat) : Int) := by rw [wrap64] <;> omega
  by_cases hlt : i < n
  · have hlt2 : i < (markL n).length := by omega
    have c1 : ((i : Int) < ((markL n).length : Int)) = True := eq_true (by omega)
    have hx : (markL n)[i]? = some (((1 + 3 * i : Nat) : Int), ((2 + 3 * i : Nat) : Int), uOf ((3 + 3 * i : Nat) : Int)) := by
      simp [markL, hlt]
    simp only [go_sem, ↓reduceIte, reduceCtorEq, Nat.reduceAdd, Nat.reduceMul, Nat.reduceEqDiff, Nat.reduceSub, Nat.reduceLT, Nat.reduceLeDiff, Nat.reduceAnd, Nat.reduceShiftRight, Nat.reduceBEq, Nat.reduceBNe, Nat.reduceBneDiff, Nat.reduceBeqDiff, Int.reduceToNat, Int.reduceLE, Int.reduceLT, Int.reduceEq, c1, w1, w2, w3, w4, eq_true hlt2, hx, wrapU]
    exact ⟨i + 1, by omega, by omega, rfl⟩
  · have c1 : ((i : Int) < ((markL n).length : Int)) = False := eq_false (by omega)
    obtain rfl : i = n := by omega
    simp only [go_sem, ↓reduceIte, reduceCtorEq, Nat.reduceAdd, Nat.reduceMul, Nat.reduceEqDiff, Nat.reduceSub, Nat.reduceLT, Nat.reduceLeDiff, Nat.reduceAnd, Nat.reduceShiftRight, Nat.reduceBEq, Nat.reduceBNe, Nat.reduceBneDiff, Nat.reduceBeqDiff, Int.reduceToNat, Int.reduceLE, Int.reduceLT, Int.reduceEq, c1]
abbrev MHeldRaw : FM := .f2 (eList cRaw) (eInt .i64) (eInt .i64).enc (fun xs _ => ((1 + 3 * xs.length : Nat) : Int)) (fun xs k => xs = markL xs.length ∧ k = 1 ∧ xs.length ≤ 1000000)
attribute [go_sem] MHeldRaw
theorem ok_laws_heldRawS : MHeldRaw.ok Try.prog 14 := FM.f2_ok fun xs k h => by
  have := f_heldRawS xs.length h.2.2
  rw [← h.1] at this
  rw [h.2.1]
  exact this

end Go.Proofs.YtgdbammhnjkbbaaW.V

