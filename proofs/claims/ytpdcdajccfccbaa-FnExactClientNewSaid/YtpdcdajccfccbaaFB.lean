/- Functions: points, clients. No condition but each theorem's own. -/
import Derived.Test.YtpdcdajccfccbaaFA
namespace Go.Proofs.YtpdcdajccfccbaaW.V
open Go Go.Proofs

set_option linter.unusedSimpArgs false
set_option maxRecDepth 8000
set_option synthInstance.maxSize 1000

abbrev Digest := Int × Int × Int × Int
abbrev cDigest : Cd Digest := cPair (cInt .u64) (cPair (cInt .u64) (cPair (cInt .u64) (cInt .u64)))
abbrev Point := Int × Digest
abbrev cPoint : Cd Point := cPair (cInt .i64) cDigest
abbrev Client := Int × Int × Int × Int × Point × List Int × Point
abbrev cClient : Cd Client := cPair (cInt .i64) (cPair (cInt .i64) (cPair (cInt .i64) (cPair (cInt .i64) (cPair cPoint (cPair (cList (cInt .i64)) cPoint)))))
attribute [go_sem] cDigest cPoint cClient eqT eqFs
instance : DecidableEq Point := instDecidableEqProd
instance : DecidableEq Client := instDecidableEqProd

def H240 : Hint := ⟨[], [(0, [0, 1]), (1, [2, 3]), (2, []), (3, [2, 3]), (4, []), (5, [2, 3]), (6, []), (7, [2, 3]), (8, []), (9, [])], [], [], false⟩
attribute [go_sem] H240
theorem f240 (x y : Digest) : VFun Try.prog 51 [(CE.st cDigest).enc x, (CE.st cDigest).enc y] [] (eBool.enc (decide (x = y))) [] := by
  obtain ⟨a, b, c, d⟩ := x
  obtain ⟨a', b', c', d'⟩ := y
  refine VFun_pure (n := 25) (rs := [.tmp 4]) Try.func51 rfl rfl rfl rfl H240 (okN rfl mix) _ _ (Nat.le_of_ble_eq_true rfl) (by kernel_rfl) ?_
  simp only [go_sem, ↓reduceIte, reduceCtorEq, Nat.reduceAdd, Nat.reduceMul, Nat.reduceEqDiff, Nat.reduceSub, Nat.reduceLT, Nat.reduceLeDiff, Nat.reduceAnd, Nat.reduceShiftRight, Nat.reduceBEq, Nat.reduceBNe, Nat.reduceBneDiff, Nat.reduceBeqDiff, Int.reduceToNat, Int.reduceLE, Int.reduceLT]
  by_cases h1 : a = a' <;> by_cases h2 : b = b' <;> by_cases h3 : c = c' <;> by_cases h4 : d = d' <;> simp [h1, h2, h3, h4]
abbrev M240 : FM := .f2 (CE.st cDigest) (CE.st cDigest) eBool.enc (fun x y => decide (x = y)) (fun _ _ => True)
attribute [go_sem] M240
theorem m240 : M240.ok Try.prog 51 := FM.f2_ok fun x y _ => f240 x y

def H147 : Hint := ⟨[(51, M240)], [(0, [0, 1]), (1, [2, 3]), (2, []), (3, [2, 3]), (4, []), (5, [])], [], [], false⟩
attribute [go_sem] H147
theorem f147 (x y : Point) : VFun Try.prog 42 [(CE.st cPoint).enc x, (CE.st cPoint).enc y] [] (eBool.enc (decide (x = y))) [] := by
  obtain ⟨a, b, c, d, e⟩ := x
  obtain ⟨a', b', c', d', e'⟩ := y
  refine VFun_pure (n := 16) (rs := [.tmp 4]) Try.func42 rfl rfl rfl rfl H147 (AllOk.ok (.cons m240 .nil) mix) _ _ (Nat.le_of_ble_eq_true rfl) (by kernel_rfl) ?_
  simp only [go_sem, ↓reduceIte, reduceCtorEq, Nat.reduceAdd, Nat.reduceMul, Nat.reduceEqDiff, Nat.reduceSub, Nat.reduceLT, Nat.reduceLeDiff, Nat.reduceAnd, Nat.reduceShiftRight, Nat.reduceBEq, Nat.reduceBNe, Nat.reduceBneDiff, Nat.reduceBeqDiff, Int.reduceToNat, Int.reduceLE, Int.reduceLT]
  by_cases h1 : a = a' <;> by_cases h2 : b = b' <;> by_cases h3 : c = c' <;> by_cases h4 : d = d' <;> by_cases h5 : e = e' <;> simp [h1, h2, h3, h4, h5]
abbrev M147 : FM := .f2 (CE.st cPoint) (CE.st cPoint) eBool.enc (fun x y => decide (x = y)) (fun _ _ => True)
attribute [go_sem] M147
theorem m147 : M147.ok Try.prog 42 := FM.f2_ok fun x y _ => f147 x y

def H180 : Hint := ⟨[], [(0, [0, 1, 2]), (1, [0, 1, 2])], [], [], false⟩
attribute [go_sem] H180
theorem f180 (a b c : Int) : VFun Try.prog 38 [(eInt .i64).enc a, (eInt .i64).enc b, (eInt .i64).enc c] [] (eBool.enc (decide (b ≤ a ∧ a ≤ c))) [] := by
  refine VFun_pure (n := 15) (rs := [.tmp 6]) Try.func38 rfl rfl rfl rfl H180 (okN rfl mix) _ _ (Nat.le_of_ble_eq_true rfl) (by kernel_rfl) ?_
  simp only [go_sem, ↓reduceIte, reduceCtorEq, Nat.reduceAdd, Nat.reduceMul, Nat.reduceEqDiff, Nat.reduceSub, Nat.reduceLT, Nat.reduceLeDiff, Nat.reduceAnd, Nat.reduceShiftRight, Nat.reduceBEq, Nat.reduceBNe, Nat.reduceBneDiff, Nat.reduceBeqDiff, Int.reduceToNat, Int.reduceLE, Int.reduceLT]
  by_cases h : b ≤ a <;> simp [h]
theorem m180 : M166.ok Try.prog 38 := FM.f3_ok fun a b c _ => f180 a b c

def H36 : Hint := ⟨[], [(0, [0, 1]), (1, [0, 1]), (2, []), (3, [0, 1]), (4, [0, 1, 5]), (6, [0, 1, 5]), (7, []), (5, [0, 1, 5]), (8, [])], [(6, [0, 0, 3, 7, 0, 0, 48, 112, 255])], [], false⟩
attribute [go_sem] H36
theorem f36 (xs ys : List Int) (hl : xs.length ≤ maxLen) : VFun Try.prog 43 [(eList (cInt .i64)).enc xs, (eList (cInt .i64)).enc ys] [] (eBool.enc (decide (xs = ys))) [] := by
  unfold maxLen at hl
  refine VFun_pure (n := 26) (rs := [.tmp 4]) Try.func43 rfl rfl rfl rfl H36 (okN rfl mix) _ _ (Nat.le_of_ble_eq_true rfl) (by kernel_rfl) ?_
  simp only [go_sem, ↓reduceIte, reduceCtorEq, Nat.reduceAdd, Nat.reduceMul, Nat.reduceEqDiff, Nat.reduceSub, Nat.reduceLT, Nat.reduceLeDiff, Nat.reduceAnd, Nat.reduceShiftRight, Nat.reduceBEq, Nat.reduceBNe, Nat.reduceBneDiff, Nat.reduceBeqDiff, Int.reduceToNat, Int.reduceLE, Int.reduceLT]
  refine ite_intro (fun h1 => ?_) fun h1 => ?_
  · have : xs ≠ ys := fun e => by simp [e] at h1
    simp [this]
  · have hlen : xs.length = ys.length := by simp at h1; omega
    refine LoopV.meas (H := H36) (okN rfl mix) (by kernel_rfl) (fun i : Nat => ⟨[(0, .x (.o (.c (.s (xs.map (cInt .i64).enc))))), (1, .x (.o (.c (.s (ys.map (cInt .i64).enc))))), (5, sc (.int .i64 i))], [], 2⟩)
      (fun i => xs.length - i) (fun i => i ≤ xs.length ∧ ∀ j, j < i → xs[j]? = ys[j]?) ?_ 0 ⟨Nat.zero_le _, fun j h => by omega⟩
    intro i ⟨hi, hall⟩
    rcases Nat.lt_or_ge i xs.length with hlt | hge
    · have hx : xs[i]? = some xs[i] := List.getElem?_eq_getElem hlt
      have hy : ys[i]? = some (ys[i]'(by omega)) := List.getElem?_eq_getElem (by omega)
      generalize xs[i] = x at hx
      generalize ys[i]'(by omega) = y at hy
      have hw : IntKind.i64.wrap ((i : Int) + 1) = ((i + 1 : Nat) : Int) := by rw [wrap64] <;> omega
      have hlt' : ((i : Int) < (xs.length : Int)) = True := by simp; omega
      simp only [go_sem, ↓reduceIte, reduceCtorEq, Nat.reduceAdd, Nat.reduceMul, Nat.reduceEqDiff, Nat.reduceSub, Nat.reduceLT, Nat.reduceLeDiff, Nat.reduceAnd, Nat.reduceShiftRight, Nat.reduceBEq, Nat.reduceBNe, Nat.reduceBneDiff, Nat.reduceBeqDiff, Int.reduceToNat, Int.reduceLE, Int.reduceLT, hx, hy, hw, hlt']
      refine ite_intro (fun h3 => ?_) fun h3 => ⟨i + 1, ⟨hlt, fun j hj => ?_⟩, by omega, rfl⟩
      · have : xs ≠ ys := fun e => by
          rw [e, hy] at hx
          cases hx
          simp at h3
        simp [this]
      · rcases Nat.lt_or_ge j i with h4 | h4
        · exact hall j h4
        · rw [show j = i by omega, hx, hy]
          simpa using h3
    · have hlt' : ((i : Int) < (xs.length : Int)) = False := by simp; omega
      simp only [go_sem, ↓reduceIte, reduceCtorEq, Nat.reduceAdd, Nat.reduceMul, Nat.reduceEqDiff, Nat.reduceSub, Nat.reduceLT, Nat.reduceLeDiff, Nat.reduceAnd, Nat.reduceShiftRight, Nat.reduceBEq, Nat.reduceBNe, Nat.reduceBneDiff, Nat.reduceBeqDiff, Int.reduceToNat, Int.reduceLE, Int.reduceLT, hlt']
      have : xs = ys := List.ext_getElem? fun j => by
        rcases Nat.lt_or_ge j i with h4 | h4
        · exact hall j h4
        · rw [List.getElem?_eq_none (by omega), List.getElem?_eq_none (by omega)]
      simp [this]
abbrev M36 : FM := .f2 (eList (cInt .i64)) (eList (cInt .i64)) eBool.enc (fun x y => decide (x = y)) (fun x _ => x.length ≤ maxLen)
attribute [go_sem] M36
theorem m36 : M36.ok Try.prog 43 := FM.f2_ok fun x y h => f36 x y h

def H28 : Hint := ⟨[(42, M147), (43, M36)], [(0, [0, 1]), (1, [2, 3]), (2, []), (3, [2, 3]), (4, []), (5, [2, 3]), (6, []), (7, [2, 3]), (8, []), (9, [2, 3]), (10, []), (11, [2, 3]), (12, []), (13, [2, 3]), (14, []), (15, [])], [], [], false⟩
attribute [go_sem] H28
theorem f28 (x y : Client) (hl : x.2.2.2.2.2.1.length ≤ maxLen) : VFun Try.prog 30 [(CE.st cClient).enc x, (CE.st cClient).enc y] [] (eBool.enc (decide (x = y))) [] := by
  obtain ⟨a, b, c, d, ⟨e1, e2, e3, e4, e5⟩, f, g1, g2, g3, g4, g5⟩ := x
  obtain ⟨a', b', c', d', ⟨e1', e2', e3', e4', e5'⟩, f', g1', g2', g3', g4', g5'⟩ := y
  refine VFun_pure (n := 43) (rs := [.tmp 4]) Try.func30 rfl rfl rfl rfl H28 (AllOk.ok (.cons m147 (.cons m36 .nil)) mix) _ _ (Nat.le_of_ble_eq_true rfl) (by kernel_rfl) ?_
  simp only [go_sem, ↓reduceIte, reduceCtorEq, Nat.reduceAdd, Nat.reduceMul, Nat.reduceEqDiff, Nat.reduceSub, Nat.reduceLT, Nat.reduceLeDiff, Nat.reduceAnd, Nat.reduceShiftRight, Nat.reduceBEq, Nat.reduceBNe, Nat.reduceBneDiff, Nat.reduceBeqDiff, Int.reduceToNat, Int.reduceLE, Int.reduceLT]
  repeat' first | refine ite_intro (fun h => ?_) fun h => ?_ | refine And.intro ?_ ?_
  all_goals first | exact hl | (simp_all <;> (intros; omega))
abbrev M28 : FM := .f2 (CE.st cClient) (CE.st cClient) eBool.enc (fun x y => decide (x = y)) (fun x _ => x.2.2.2.2.2.1.length ≤ maxLen)
attribute [go_sem] M28
theorem m28 : M28.ok Try.prog 30 := FM.f2_ok fun x y h => f28 x y h


/-- A client as it is made: no more is known of it than its two numbers. -/
def newClient (a b : Int) : Client := (a, b, 0, 0, (0, 0, 0, 0, 0), [], (0, 0, 0, 0, 0))
def newOk (a b : Int) : Bool := decide (1 ≤ b ∧ b ≤ 7) && decide (1 ≤ a ∧ a ≤ b) && !decide (2 * a ≤ b)

def H296 : Hint := ⟨[(37, M166)], [(0, [0]), (1, [1])], [], [], false⟩
attribute [go_sem] H296
theorem f296 (x : Point) : VFun Try.prog 47 [(CE.st cPoint).enc x] [] (eBool.enc (decide (1 ≤ x.1 ∧ x.1 ≤ 256) || decide (x = (0, 0, 0, 0, 0)))) [] := by
  obtain ⟨a, b, c, d, e⟩ := x
  refine VFun_pure (n := 11) (rs := [.tmp 2]) Try.func47 rfl rfl rfl rfl H296 (AllOk.ok (.cons m166 .nil) mix) _ _ (Nat.le_of_ble_eq_true rfl) (by kernel_rfl) ?_
  simp only [go_sem, ↓reduceIte, reduceCtorEq, Nat.reduceAdd, Nat.reduceMul, Nat.reduceEqDiff, Nat.reduceSub, Nat.reduceLT, Nat.reduceLeDiff, Nat.reduceAnd, Nat.reduceShiftRight, Nat.reduceBEq, Nat.reduceBNe, Nat.reduceBneDiff, Nat.reduceBeqDiff, Int.reduceToNat, Int.reduceLE, Int.reduceLT]
  repeat' first | refine ite_intro (fun h => ?_) fun h => ?_ | refine And.intro ?_ ?_
  all_goals (simp_all <;> (intros; omega))
abbrev M296 : FM := .f1 (CE.st cPoint) eBool.enc (fun x => decide (1 ≤ x.1 ∧ x.1 ≤ 256) || decide (x = (0, 0, 0, 0, 0))) (fun _ => True)
attribute [go_sem] M296
theorem m296 : M296.ok Try.prog 47 := FM.f1_ok fun x _ => f296 x

def H145 : Hint := ⟨[(37, M166), (47, M296)], [(0, [0]), (1, [1]), (2, []), (3, [1]), (4, []), (5, [1]), (6, [1]), (7, [1]), (8, []), (9, [1]), (10, [1, 3]), (12, [1, 3]), (13, []), (11, [1, 3]), (14, [])], [(12, [0, 1, 0, 7, 15, 0, 32, 127, 255, 511, 1023, 2047, 4095, 8191, 16383, 8191, 40959, 131071, 262143, 8191, 532479, 8191, 3678207, 7872511, 16777215, 33554431, 67108863])], [], false⟩
attribute [go_sem] H145
theorem f145n (a b : Int) : VFun Try.prog 34 [(CE.st cClient).enc (newClient a b)] [] (eBool.enc (newOk a b)) [] := by
  refine VFun_pure (n := 120) (rs := [.tmp 2]) Try.func34 rfl rfl rfl rfl H145 (AllOk.ok (.cons m166 (.cons m296 .nil)) mix) _ _ (Nat.le_of_ble_eq_true rfl) (by kernel_rfl) ?_
  simp only [go_sem, ↓reduceIte, reduceCtorEq, Nat.reduceAdd, Nat.reduceMul, Nat.reduceEqDiff, Nat.reduceSub, Nat.reduceLT, Nat.reduceLeDiff, Nat.reduceAnd, Nat.reduceShiftRight, Nat.reduceBEq, Nat.reduceBNe, Nat.reduceBneDiff, Nat.reduceBeqDiff, Int.reduceToNat, Int.reduceLE, Int.reduceLT, newClient]
  by_cases h1 : 1 ≤ b ∧ b ≤ 7
  · by_cases h2 : 1 ≤ a ∧ a ≤ b
    · have hw : IntKind.i64.wrap (2 * a) = 2 * a := wrap64 (by omega) (by omega)
      by_cases h3 : 2 * a ≤ b <;> simp [newOk, hw, h1, h2, h3]
    · simp [newOk, h1, h2]
  · simp [newOk, h1]
def MNew : FM := .f1 (CE.st cClient) eBool.enc (fun x => newOk x.1 x.2.1) (fun x => x = newClient x.1 x.2.1)
attribute [go_sem] MNew
theorem m145 : MNew.ok Try.prog 34 := FM.f1_ok fun x h => by rw [h]; exact f145n x.1 x.2.1

def H146 : Hint := ⟨[(38, M166)], [(0, [0]), (1, [1]), (2, []), (3, [1]), (4, [1, 45]), (5, [1, 45]), (6, [1]), (7, [1, 45]), (8, [1]), (9, [1, 72, 73, 74]), (10, [1, 72, 73, 74]), (11, [1, 3, 4, 72, 73, 74]), (12, []), (13, [1, 72, 73, 74]), (14, [1]), (15, [])], [], [], false⟩
attribute [go_sem] H146
theorem f146n (a b : Int) : VFun Try.prog 36 [(CE.st cClient).enc (newClient a b)] [] (eBool.enc (newOk a b)) [] := by
  refine VFun_pure (n := 120) (rs := [.tmp 2]) Try.func36 rfl rfl rfl rfl H146 (AllOk.ok (.cons m180 .nil) mix) _ _ (Nat.le_of_ble_eq_true rfl) (by kernel_rfl) ?_
  simp only [go_sem, ↓reduceIte, reduceCtorEq, Nat.reduceAdd, Nat.reduceMul, Nat.reduceEqDiff, Nat.reduceSub, Nat.reduceLT, Nat.reduceLeDiff, Nat.reduceAnd, Nat.reduceShiftRight, Nat.reduceBEq, Nat.reduceBNe, Nat.reduceBneDiff, Nat.reduceBeqDiff, Int.reduceToNat, Int.reduceLE, Int.reduceLT, newClient]
  by_cases h1 : 1 ≤ b ∧ b ≤ 7
  · by_cases h2 : 1 ≤ a ∧ a ≤ b
    · have hw : IntKind.i64.wrap (2 * a) = 2 * a := wrap64 (by omega) (by omega)
      by_cases h3 : 2 * a ≤ b <;> simp [newOk, hw, h1, h2, h3]
    · simp [newOk, h1, h2]
  · simp [newOk, h1]
theorem m146 : MNew.ok Try.prog 36 := FM.f1_ok fun x h => by rw [h]; exact f146n x.1 x.2.1

/-- A client, and whether it may be. -/
abbrev eNew : CE (Client × Bool) := eT2 (CE.st cClient) eBool (st_x _) (one_x _ _)
attribute [go_sem] eNew
def theNew (a b : Int) : Client × Bool := if newOk a b then (newClient a b, true) else (newClient 0 0, false)
def H26 : Hint := ⟨[(34, MNew)], [(0, [0, 1]), (1, [0, 1, 4]), (2, [4, 6]), (3, [4]), (4, [4, 6])], [], [], false⟩
def H27 : Hint := ⟨[(36, MNew)], [(0, [0, 1]), (1, [0, 1, 4]), (2, [4, 6]), (3, [4]), (4, [4, 6])], [], [], false⟩
attribute [go_sem] H26 H27
theorem f26 (a b : Int) : VFun Try.prog 28 [(eInt .i64).enc a, (eInt .i64).enc b] [] (eNew.enc (theNew a b)) [] := by
  refine VFun_pure (n := 15) (rs := [.cell 4 61, .tmp 5]) Try.func28 rfl rfl rfl rfl H26 (AllOk.ok (.cons m145 .nil) mix) _ _ (Nat.le_of_ble_eq_true rfl) (by kernel_rfl) ?_
  simp only [go_sem, ↓reduceIte, reduceCtorEq, Nat.reduceAdd, Nat.reduceMul, Nat.reduceEqDiff, Nat.reduceSub, Nat.reduceLT, Nat.reduceLeDiff, Nat.reduceAnd, Nat.reduceShiftRight, Nat.reduceBEq, Nat.reduceBNe, Nat.reduceBneDiff, Nat.reduceBeqDiff, Int.reduceToNat, Int.reduceLE, Int.reduceLT]
  refine ⟨rfl, ?_⟩
  cases h : newOk a b <;> simp [theNew, newClient, h]
theorem f27 (a b : Int) : VFun Try.prog 29 [(eInt .i64).enc a, (eInt .i64).enc b] [] (eNew.enc (theNew a b)) [] := by
  refine VFun_pure (n := 15) (rs := [.cell 4 61, .tmp 5]) Try.func29 rfl rfl rfl rfl H27 (AllOk.ok (.cons m146 .nil) mix) _ _ (Nat.le_of_ble_eq_true rfl) (by kernel_rfl) ?_
  simp only [go_sem, ↓reduceIte, reduceCtorEq, Nat.reduceAdd, Nat.reduceMul, Nat.reduceEqDiff, Nat.reduceSub, Nat.reduceLT, Nat.reduceLeDiff, Nat.reduceAnd, Nat.reduceShiftRight, Nat.reduceBEq, Nat.reduceBNe, Nat.reduceBneDiff, Nat.reduceBeqDiff, Int.reduceToNat, Int.reduceLE, Int.reduceLT]
  refine ⟨rfl, ?_⟩
  cases h : newOk a b <;> simp [theNew, newClient, h]
def MMake : FM := .f2 (eInt .i64) (eInt .i64) eNew.enc theNew (fun _ _ => True)
attribute [go_sem] MMake
theorem m26 : MMake.ok Try.prog 28 := FM.f2_ok fun a b _ => f26 a b
theorem m27 : MMake.ok Try.prog 29 := FM.f2_ok fun a b _ => f27 a b

def H39 : Hint := ⟨[], [(0, [0, 1]), (1, [0, 1]), (2, [0, 1, 5]), (4, [0, 1, 5]), (5, [0, 1, 5]), (3, [0, 1, 5]), (6, [1])], [], [], false⟩
def H40 : Hint := ⟨[], [(0, [0, 1]), (1, [0, 1]), (2, [0, 1, 5]), (4, [0, 1, 5]), (5, []), (6, [0, 1, 5]), (3, [0, 1, 5]), (7, [1])], [], [], false⟩
attribute [go_sem] H39 H40
theorem f39n (k : Int) : VFun Try.prog 44 [(eList (cInt .i64)).enc [], (eInt .i64).enc k] [] ((eInt .i64).enc k) [] := by
  refine VFun_pure (n := 19) (rs := [.tmp 4]) Try.func44 rfl rfl rfl rfl H39 (okN rfl mix) _ _ (Nat.le_of_ble_eq_true rfl) (by kernel_rfl) ?_
  simp only [go_sem, ↓reduceIte, reduceCtorEq, Nat.reduceAdd, Nat.reduceMul, Nat.reduceEqDiff, Nat.reduceSub, Nat.reduceLT, Nat.reduceLeDiff, Nat.reduceAnd, Nat.reduceShiftRight, Nat.reduceBEq, Nat.reduceBNe, Nat.reduceBneDiff, Nat.reduceBeqDiff, Int.reduceToNat, Int.reduceLE, Int.reduceLT]
  refine LoopV.step (H := H39) (okN rfl mix) (by kernel_rfl) ?_
  simp only [go_sem, ↓reduceIte, reduceCtorEq, Nat.reduceAdd, Nat.reduceMul, Nat.reduceEqDiff, Nat.reduceSub, Nat.reduceLT, Nat.reduceLeDiff, Nat.reduceAnd, Nat.reduceShiftRight, Nat.reduceBEq, Nat.reduceBNe, Nat.reduceBneDiff, Nat.reduceBeqDiff, Int.reduceToNat, Int.reduceLE, Int.reduceLT]
  simp
theorem f40n (k : Int) : VFun Try.prog 45 [(eList (cInt .i64)).enc [], (eInt .i64).enc k] [] ((eInt .i64).enc k) [] := by
  refine VFun_pure (n := 21) (rs := [.tmp 4]) Try.func45 rfl rfl rfl rfl H40 (okN rfl mix) _ _ (Nat.le_of_ble_eq_true rfl) (by kernel_rfl) ?_
  simp only [go_sem, ↓reduceIte, reduceCtorEq, Nat.reduceAdd, Nat.reduceMul, Nat.reduceEqDiff, Nat.reduceSub, Nat.reduceLT, Nat.reduceLeDiff, Nat.reduceAnd, Nat.reduceShiftRight, Nat.reduceBEq, Nat.reduceBNe, Nat.reduceBneDiff, Nat.reduceBeqDiff, Int.reduceToNat, Int.reduceLE, Int.reduceLT]
  refine LoopV.step (H := H40) (okN rfl mix) (by kernel_rfl) ?_
  simp only [go_sem, ↓reduceIte, reduceCtorEq, Nat.reduceAdd, Nat.reduceMul, Nat.reduceEqDiff, Nat.reduceSub, Nat.reduceLT, Nat.reduceLeDiff, Nat.reduceAnd, Nat.reduceShiftRight, Nat.reduceBEq, Nat.reduceBNe, Nat.reduceBneDiff, Nat.reduceBeqDiff, Int.reduceToNat, Int.reduceLE, Int.reduceLT]
  simp
def MNone : FM := .f2 (eList (cInt .i64)) (eInt .i64) (eInt .i64).enc (fun _ k => k) (fun xs _ => xs = [])
attribute [go_sem] MNone
theorem m39 : MNone.ok Try.prog 44 := FM.f2_ok fun a k h => by subst h; exact f39n k
theorem m40 : MNone.ok Try.prog 45 := FM.f2_ok fun a k h => by subst h; exact f40n k

def H29 : Hint := ⟨[(44, MNone)], [(0, [0, 1]), (1, [1, 2]), (2, [1])], [], [], false⟩
def H30 : Hint := ⟨[(45, MNone)], [(0, [0, 1]), (1, [1, 2]), (2, [1]), (3, []), (4, [1])], [], [], false⟩
attribute [go_sem] H29 H30
theorem f29n (a b k : Int) : VFun Try.prog 31 [(CE.st cClient).enc (newClient a b), (eInt .i64).enc k] [] ((eInt .i64).enc k) [] := by
  refine VFun_pure (n := 10) (rs := [.tmp 4]) Try.func31 rfl rfl rfl rfl H29 (AllOk.ok (.cons m39 .nil) mix) _ _ (Nat.le_of_ble_eq_true rfl) (by kernel_rfl) ?_
  simp only [go_sem, ↓reduceIte, reduceCtorEq, Nat.reduceAdd, Nat.reduceMul, Nat.reduceEqDiff, Nat.reduceSub, Nat.reduceLT, Nat.reduceLeDiff, Nat.reduceAnd, Nat.reduceShiftRight, Nat.reduceBEq, Nat.reduceBNe, Nat.reduceBneDiff, Nat.reduceBeqDiff, Int.reduceToNat, Int.reduceLE, Int.reduceLT, newClient]
theorem f30n (a b k : Int) (hk : 0 ≤ k) : VFun Try.prog 32 [(CE.st cClient).enc (newClient a b), (eInt .i64).enc k] [] ((eInt .i64).enc k) [] := by
  refine VFun_pure (n := 12) (rs := [.tmp 4]) Try.func32 rfl rfl rfl rfl H30 (AllOk.ok (.cons m40 .nil) mix) _ _ (Nat.le_of_ble_eq_true rfl) (by kernel_rfl) ?_
  simp only [go_sem, ↓reduceIte, reduceCtorEq, Nat.reduceAdd, Nat.reduceMul, Nat.reduceEqDiff, Nat.reduceSub, Nat.reduceLT, Nat.reduceLeDiff, Nat.reduceAnd, Nat.reduceShiftRight, Nat.reduceBEq, Nat.reduceBNe, Nat.reduceBneDiff, Nat.reduceBeqDiff, Int.reduceToNat, Int.reduceLE, Int.reduceLT, newClient]
  have : ¬ k < 0 := by omega
  simp [this]
def MHeld : FM := .f2 (CE.st cClient) (eInt .i64) (eInt .i64).enc (fun _ k => k) (fun x k => x = newClient x.1 x.2.1 ∧ 0 ≤ k)
attribute [go_sem] MHeld
theorem m29 : MHeld.ok Try.prog 31 := FM.f2_ok fun x k h => by rw [h.1]; exact f29n x.1 x.2.1 k
theorem m30 : MHeld.ok Try.prog 32 := FM.f2_ok fun x k h => by rw [h.1]; exact f30n x.1 x.2.1 k h.2

def H3 : Hint := ⟨[(28, MMake), (29, MMake), (30, M28), (31, MHeld), (32, MHeld)], [(0, [0, 1]), (1, [0, 1]), (2, [0, 1, 5, 6]), (3, [0, 1, 5, 6, 7, 8]), (4, []), (5, [0, 1, 5, 6, 7]), (6, [0, 1, 5, 6, 7, 9]), (7, [0, 1, 5, 6, 7, 9]), (8, [0, 1, 5, 6, 7, 9, 10]), (9, [0, 1, 5, 6, 7, 9, 10]), (10, []), (11, [0, 1, 5, 6, 7, 9, 10]), (12, []), (13, [0, 1, 5, 6, 7, 9]), (14, [5, 6, 7, 9, 11, 12]), (15, []), (16, [7, 9]), (17, [7, 9, 10]), (18, [9, 10]), (19, []), (20, [9, 10]), (21, []), (22, [])], [], [], false⟩
attribute [go_sem] H3
theorem f3 (a b : Int) : VFun Try.prog 8 [(eInt .i64).enc a, (eInt .i64).enc b] [] (eBool.enc true) [] := by
  refine VFun_pure (n := 68) (rs := [.tmp 4]) Try.func8 rfl rfl rfl rfl H3 (AllOk.ok (.cons m26 (.cons m27 (.cons m28 (.cons m29 (.cons m30 .nil))))) mix) _ _ (Nat.le_of_ble_eq_true rfl) (by kernel_rfl) ?_
  simp only [go_sem, ↓reduceIte, reduceCtorEq, Nat.reduceAdd, Nat.reduceMul, Nat.reduceEqDiff, Nat.reduceSub, Nat.reduceLT, Nat.reduceLeDiff, Nat.reduceAnd, Nat.reduceShiftRight, Nat.reduceBEq, Nat.reduceBNe, Nat.reduceBneDiff, Nat.reduceBeqDiff, Int.reduceToNat, Int.reduceLE, Int.reduceLT]
  obtain ⟨p, q, t, h⟩ : ∃ p q t, theNew a b = (newClient p q, t) := by
    unfold theNew
    split
    · exact ⟨_, _, _, rfl⟩
    · exact ⟨_, _, _, rfl⟩
  rw [h]
  simp [newClient]
end Go.Proofs.YtpdcdajccfccbaaW.V
