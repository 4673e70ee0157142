/- Functions: clashes of paths. No condition but each theorem's own. -/
import Derived.Test.YtcgkhljolflenaaFHClashRows
namespace Go.Proofs.YtcgkhljolflenaaW.V
open Go Go.Proofs
set_option linter.unusedSimpArgs false
set_option linter.unusedVariables false
set_option maxRecDepth 8000
set_option maxHeartbeats 4000000

set_option synthInstance.maxSize 1000

abbrev Clash := ByteArray × ByteArray
abbrev cClash : Cd Clash := cPair cStr cStr
abbrev eFirst := eT2 (CE.st cClash) eBool (st_x _) (one_x _ _)
attribute [go_sem] cClash eFirst
def firstM : List ByteArray → List ByteArray → Clash × Bool
  | x :: a, y :: b => if x = y then firstM a b else ((x, y), true)
  | _, _ => ((⟨#[]⟩, ⟨#[]⟩), false)
theorem firstM_eq {x : ByteArray} {a b : List ByteArray} : firstM (x :: a) (x :: b) = firstM a b := by rw [firstM, if_pos rfl]
theorem firstM_ne {x y : ByteArray} {a b : List ByteArray} (h : ¬ x = y) : firstM (x :: a) (y :: b) = ((x, y), true) := by rw [firstM, if_neg h]
theorem firstM_l {b : List ByteArray} : firstM [] b = ((⟨#[]⟩, ⟨#[]⟩), false) := by rw [firstM]; intros; simp_all
theorem firstM_r {a : List ByteArray} : firstM a [] = ((⟨#[]⟩, ⟨#[]⟩), false) := by cases a <;> (rw [firstM]; intros; simp_all)
abbrev MFirst : FM := .f2 (eList cStr) (eList cStr) eFirst.enc firstM (fun a b => a.length ≤ 1048576)
attribute [go_sem] MFirst

def H_impl_ClashFirst : Hint := { fs := [], kp := [(0, [0, 1]), (1, [0, 1, 4]), (2, [0, 1, 4, 6]), (4, [0, 1, 4, 6]), (5, [0, 1, 4, 6]), (3, [0, 1, 4, 6]), (6, [4])], an := [(4, [0, 0, 3, 7, 0, 0, 48, 112, 255]), (5, [0, 0, 3, 7, 0, 0, 48, 112, 255, 511, 1023])] }
attribute [go_sem] H_impl_ClashFirst
theorem ok_H_impl_ClashFirst : H_impl_ClashFirst.ok Try.prog := AllOk.okR .nil .nil mix
theorem f_impl_ClashFirst (a b : List ByteArray) (h : a.length ≤ 1048576) : VFun Try.prog 16 [(eList cStr).enc a, (eList cStr).enc b] [] (eFirst.enc (firstM a b)) [] := by
  refine VFun_pure (n := 38) (rs := [.cell 4 41, .tmp 5]) Try.func16 rfl rfl rfl rfl H_impl_ClashFirst ok_H_impl_ClashFirst _ _ (Nat.le_of_ble_eq_true rfl) (by kernel_rfl) ?_
  simp only [go_sem, ↓reduceIte, reduceCtorEq, Nat.reduceAdd, Nat.reduceMul, Nat.reduceEqDiff, Nat.reduceSub, Nat.reduceLT, Nat.reduceLeDiff, Nat.reduceAnd, Nat.reduceShiftRight, Nat.reduceBEq, Nat.reduceBNe, Nat.reduceBneDiff, Nat.reduceBeqDiff, Int.reduceToNat, Int.reduceLE, Int.reduceLT, Int.reduceEq]
  refine LoopV.go (H := H_impl_ClashFirst) ok_H_impl_ClashFirst (by kernel_rfl) (fun i : Nat => ⟨[(0, .x (.o (.c (.s (a.map cStr.enc))))), (1, .x (.o (.c (.s (b.map cStr.enc))))), (4, .x (.o (.p (1, 100) 0 0 1))), (6, sc (.int .i64 i))], [((1, 100), .bx [[.c (.v (.string ⟨#[]⟩)), .c (.v (.string ⟨#[]⟩))]])], 2⟩) (fun i => a.length - i) (fun i => i ≤ a.length ∧ i ≤ b.length ∧ firstM (a.drop i) (b.drop i) = firstM a b) ?_ 0 ⟨Nat.zero_le _, Nat.zero_le _, rfl⟩
  rintro i ⟨h1, h2, h3⟩
  have w1 : IntKind.i64.wrap ((i : Int) + 1) = ((i + 1 : Nat) : Int) := by rw [wrap64] <;> omega
  by_cases ha : i < a.length
  · have c1 : ((i : Int) < (a.length : Int)) = True := eq_true (by omega)
    obtain ⟨x, hx⟩ : ∃ r, a[i]? = some r := ⟨_, List.getElem?_eq_getElem ha⟩
    have hxa : a.drop i = x :: a.drop (i + 1) := by
      have := List.drop_eq_getElem_cons ha
      rw [List.getElem?_eq_getElem ha] at hx
      cases hx; exact this
    by_cases hb : i < b.length
    · have c2 : ((i : Int) < (b.length : Int)) = True := eq_true (by omega)
      obtain ⟨y, hy⟩ : ∃ r, b[i]? = some r := ⟨_, List.getElem?_eq_getElem hb⟩
      have hyb : b.drop i = y :: b.drop (i + 1) := by
        have := List.drop_eq_getElem_cons hb
        rw [List.getElem?_eq_getElem hb] at hy
        cases hy; exact this
      rw [hxa, hyb] at h3
      by_cases hxy : x = y
      · subst hxy
        rw [firstM_eq] at h3
        simp only [go_sem, ↓reduceIte, reduceCtorEq, Nat.reduceAdd, Nat.reduceMul, Nat.reduceEqDiff, Nat.reduceSub, Nat.reduceLT, Nat.reduceLeDiff, Nat.reduceAnd, Nat.reduceShiftRight, Nat.reduceBEq, Nat.reduceBNe, Nat.reduceBneDiff, Nat.reduceBeqDiff, Int.reduceToNat, Int.reduceLE, Int.reduceLT, Int.reduceEq, c1, c2, hx, hy, w1]
        exact ⟨i + 1, ⟨ha, hb, h3⟩, by omega, rfl⟩
      · rw [firstM_ne hxy] at h3
        simp only [go_sem, ↓reduceIte, reduceCtorEq, Nat.reduceAdd, Nat.reduceMul, Nat.reduceEqDiff, Nat.reduceSub, Nat.reduceLT, Nat.reduceLeDiff, Nat.reduceAnd, Nat.reduceShiftRight, Nat.reduceBEq, Nat.reduceBNe, Nat.reduceBneDiff, Nat.reduceBeqDiff, Int.reduceToNat, Int.reduceLE, Int.reduceLT, Int.reduceEq, c1, c2, hx, hy, w1, eq_false hxy]
        rw [← h3]
    · have c2 : ((i : Int) < (b.length : Int)) = False := eq_false (by omega)
      rw [List.drop_eq_nil_of_le (by omega : b.length ≤ i), firstM_r] at h3
      simp only [go_sem, ↓reduceIte, reduceCtorEq, Nat.reduceAdd, Nat.reduceMul, Nat.reduceEqDiff, Nat.reduceSub, Nat.reduceLT, Nat.reduceLeDiff, Nat.reduceAnd, Nat.reduceShiftRight, Nat.reduceBEq, Nat.reduceBNe, Nat.reduceBneDiff, Nat.reduceBeqDiff, Int.reduceToNat, Int.reduceLE, Int.reduceLT, Int.reduceEq, c1, c2]
      rw [← h3]
  · have c1 : ((i : Int) < (a.length : Int)) = False := eq_false (by omega)
    rw [List.drop_eq_nil_of_le (by omega : a.length ≤ i), firstM_l] at h3
    simp only [go_sem, ↓reduceIte, reduceCtorEq, Nat.reduceAdd, Nat.reduceMul, Nat.reduceEqDiff, Nat.reduceSub, Nat.reduceLT, Nat.reduceLeDiff, Nat.reduceAnd, Nat.reduceShiftRight, Nat.reduceBEq, Nat.reduceBNe, Nat.reduceBneDiff, Nat.reduceBeqDiff, Int.reduceToNat, Int.reduceLE, Int.reduceLT, Int.reduceEq, c1]
    rw [← h3]
theorem ok_impl_ClashFirst : MFirst.ok Try.prog 16 := FM.f2_ok fun a b h => f_impl_ClashFirst a b h

def H_spec_ClashFirst : Hint := { fs := [], kp := [(0, [0, 1]), (1, [0, 1, 4]), (2, [0, 1, 4, 6]), (4, [0, 1, 4, 6]), (5, [0, 1, 4, 6]), (3, [0, 1, 4, 6]), (6, [4])], an := [(4, [0, 0, 3, 7, 0, 0, 48, 112, 255]), (5, [0, 0, 3, 7, 0, 0, 48, 112, 255, 511, 1023])] }
attribute [go_sem] H_spec_ClashFirst
theorem ok_H_spec_ClashFirst : H_spec_ClashFirst.ok Try.prog := AllOk.okR .nil .nil mix
theorem f_spec_ClashFirst (a b : List ByteArray) (h : a.length ≤ 1048576) : VFun Try.prog 17 [(eList cStr).enc a, (eList cStr).enc b] [] (eFirst.enc (firstM a b)) [] := by
  refine VFun_pure (n := 38) (rs := [.cell 4 41, .tmp 5]) Try.func17 rfl rfl rfl rfl H_spec_ClashFirst ok_H_spec_ClashFirst _ _ (Nat.le_of_ble_eq_true rfl) (by kernel_rfl) ?_
  simp only [go_sem, ↓reduceIte, reduceCtorEq, Nat.reduceAdd, Nat.reduceMul, Nat.reduceEqDiff, Nat.reduceSub, Nat.reduceLT, Nat.reduceLeDiff, Nat.reduceAnd, Nat.reduceShiftRight, Nat.reduceBEq, Nat.reduceBNe, Nat.reduceBneDiff, Nat.reduceBeqDiff, Int.reduceToNat, Int.reduceLE, Int.reduceLT, Int.reduceEq]
  refine LoopV.go (H := H_spec_ClashFirst) ok_H_spec_ClashFirst (by kernel_rfl) (fun i : Nat => ⟨[(0, .x (.o (.c (.s (a.map cStr.enc))))), (1, .x (.o (.c (.s (b.map cStr.enc))))), (4, .x (.o (.p (1, 100) 0 0 1))), (6, sc (.int .i64 i))], [((1, 100), .bx [[.c (.v (.string ⟨#[]⟩)), .c (.v (.string ⟨#[]⟩))]])], 2⟩) (fun i => a.length - i) (fun i => i ≤ a.length ∧ i ≤ b.length ∧ firstM (a.drop i) (b.drop i) = firstM a b) ?_ 0 ⟨Nat.zero_le _, Nat.zero_le _, rfl⟩
  rintro i ⟨h1, h2, h3⟩
  have w1 : IntKind.i64.wrap ((i : Int) + 1) = ((i + 1 : Nat) : Int) := by rw [wrap64] <;> omega
  by_cases ha : i < a.length
  · have c1 : ((i : Int) < (a.length : Int)) = True := eq_true (by omega)
    obtain ⟨x, hx⟩ : ∃ r, a[i]? = some r := ⟨_, List.getElem?_eq_getElem ha⟩
    have hxa : a.drop i = x :: a.drop (i + 1) := by
      have := List.drop_eq_getElem_cons ha
      rw [List.getElem?_eq_getElem ha] at hx
      cases hx; exact this
    by_cases hb : i < b.length
    · have c2 : ((i : Int) < (b.length : Int)) = True := eq_true (by omega)
      obtain ⟨y, hy⟩ : ∃ r, b[i]? = some r := ⟨_, List.getElem?_eq_getElem hb⟩
      have hyb : b.drop i = y :: b.drop (i + 1) := by
        have := List.drop_eq_getElem_cons hb
        rw [List.getElem?_eq_getElem hb] at hy
        cases hy; exact this
      rw [hxa, hyb] at h3
      by_cases hxy : x = y
      · subst hxy
        rw [firstM_eq] at h3
        simp only [go_sem, ↓reduceIte, reduceCtorEq, Nat.reduceAdd, Nat.reduceMul, Nat.reduceEqDiff, Nat.reduceSub, Nat.reduceLT, Nat.reduceLeDiff, Nat.reduceAnd, Nat.reduceShiftRight, Nat.reduceBEq, Nat.reduceBNe, Nat.reduceBneDiff, Nat.reduceBeqDiff, Int.reduceToNat, Int.reduceLE, Int.reduceLT, Int.reduceEq, c1, c2, hx, hy, w1]
        exact ⟨i + 1, ⟨ha, hb, h3⟩, by omega, rfl⟩
      · rw [firstM_ne hxy] at h3
        simp only [go_sem, ↓reduceIte, reduceCtorEq, Nat.reduceAdd, Nat.reduceMul, Nat.reduceEqDiff, Nat.reduceSub, Nat.reduceLT, Nat.reduceLeDiff, Nat.reduceAnd, Nat.reduceShiftRight, Nat.reduceBEq, Nat.reduceBNe, Nat.reduceBneDiff, Nat.reduceBeqDiff, Int.reduceToNat, Int.reduceLE, Int.reduceLT, Int.reduceEq, c1, c2, hx, hy, w1, eq_false hxy]
        rw [← h3]
    · have c2 : ((i : Int) < (b.length : Int)) = False := eq_false (by omega)
      rw [List.drop_eq_nil_of_le (by omega : b.length ≤ i), firstM_r] at h3
      simp only [go_sem, ↓reduceIte, reduceCtorEq, Nat.reduceAdd, Nat.reduceMul, Nat.reduceEqDiff, Nat.reduceSub, Nat.reduceLT, Nat.reduceLeDiff, Nat.reduceAnd, Nat.reduceShiftRight, Nat.reduceBEq, Nat.reduceBNe, Nat.reduceBneDiff, Nat.reduceBeqDiff, Int.reduceToNat, Int.reduceLE, Int.reduceLT, Int.reduceEq, c1, c2]
      rw [← h3]
  · have c1 : ((i : Int) < (a.length : Int)) = False := eq_false (by omega)
    rw [List.drop_eq_nil_of_le (by omega : a.length ≤ i), firstM_l] at h3
    simp only [go_sem, ↓reduceIte, reduceCtorEq, Nat.reduceAdd, Nat.reduceMul, Nat.reduceEqDiff, Nat.reduceSub, Nat.reduceLT, Nat.reduceLeDiff, Nat.reduceAnd, Nat.reduceShiftRight, Nat.reduceBEq, Nat.reduceBNe, Nat.reduceBneDiff, Nat.reduceBeqDiff, Int.reduceToNat, Int.reduceLE, Int.reduceLT, Int.reduceEq, c1]
    rw [← h3]
theorem ok_spec_ClashFirst : MFirst.ok Try.prog 17 := FM.f2_ok fun a b h => f_spec_ClashFirst a b h

theorem dig_eq (x y : Digest) : (decide (x.1 = y.1) && (decide (x.2.1 = y.2.1) && (decide (x.2.2.1 = y.2.2.1) && decide (x.2.2.2 = y.2.2.2)))) = decide (x = y) := by
  obtain ⟨a, b, c, d⟩ := x
  obtain ⟨a', b', c', d'⟩ := y
  simp [Bool.decide_and]
def H_laws_sameDigests : Hint := { fs := [], kp := [(0, [0, 1]), (1, [0, 1]), (2, []), (3, [0, 1]), (4, [0, 1, 5]), (6, [0, 1, 5]), (7, []), (5, [0, 1, 5]), (8, [])], an := [(6, [0, 0, 3, 7, 0, 0, 48, 112, 255])] }
attribute [go_sem] H_laws_sameDigests
theorem ok_H_laws_sameDigests : H_laws_sameDigests.ok Try.prog := AllOk.okR .nil .nil mix
theorem f_sameDigests (xs ys : List Digest) (hl : xs.length ≤ 1048576) : VFun Try.prog 18 [(eList cDigest).enc xs, (eList cDigest).enc ys] [] (eBool.enc (decide (xs = ys))) [] := by
  refine VFun_pure (n := 26) (rs := [.tmp 4]) Try.func18 rfl rfl rfl rfl H_laws_sameDigests ok_H_laws_sameDigests _ _ (Nat.le_of_ble_eq_true rfl) (by kernel_rfl) ?_
  simp only [go_sem, ↓reduceIte, reduceCtorEq, Nat.reduceAdd, Nat.reduceMul, Nat.reduceEqDiff, Nat.reduceSub, Nat.reduceLT, Nat.reduceLeDiff, Nat.reduceAnd, Nat.reduceShiftRight, Nat.reduceBEq, Nat.reduceBNe, Nat.reduceBneDiff, Nat.reduceBeqDiff, Int.reduceToNat, Int.reduceLE, Int.reduceLT, Int.reduceEq]
  refine ite_intro (fun h1 => ?_) fun h1 => ?_
  · have : xs ≠ ys := fun e => by simp [e] at h1
    simp [this]
  · have hlen : xs.length = ys.length := by simp at h1; omega
    refine LoopV.go (H := H_laws_sameDigests) ok_H_laws_sameDigests (by kernel_rfl) (fun i : Nat => ⟨[(0, .x (.o (.c (.s (xs.map cDigest.enc))))), (1, .x (.o (.c (.s (ys.map cDigest.enc))))), (5, sc (.int .i64 i))], [], 2⟩) (fun i => xs.length - i) (fun i => i ≤ xs.length ∧ ∀ j, j < i → xs[j]? = ys[j]?) ?_ 0 ⟨Nat.zero_le _, fun j h => by omega⟩
    intro i ⟨hi, hall⟩
    rcases Nat.lt_or_ge i xs.length with hlt | hge
    · have hx : xs[i]? = some xs[i] := List.getElem?_eq_getElem hlt
      have hy : ys[i]? = some (ys[i]'(by omega)) := List.getElem?_eq_getElem (by omega)
      generalize xs[i] = x at hx
      generalize ys[i]'(by omega) = y at hy
      have hw : IntKind.i64.wrap ((i : Int) + 1) = ((i + 1 : Nat) : Int) := by rw [wrap64] <;> omega
      have hlt' : ((i : Int) < (xs.length : Int)) = True := by simp; omega
      have hd := dig_eq x y
      simp only [go_sem, ↓reduceIte, reduceCtorEq, Nat.reduceAdd, Nat.reduceMul, Nat.reduceEqDiff, Nat.reduceSub, Nat.reduceLT, Nat.reduceLeDiff, Nat.reduceAnd, Nat.reduceShiftRight, Nat.reduceBEq, Nat.reduceBNe, Nat.reduceBneDiff, Nat.reduceBeqDiff, Int.reduceToNat, Int.reduceLE, Int.reduceLT, Int.reduceEq, hx, hy, hw, hlt', hd]
      refine ite_intro (fun h3 => ?_) fun h3 => ⟨i + 1, ⟨hlt, fun j hj => ?_⟩, by omega, rfl⟩
      · have : xs ≠ ys := fun e => by
          rw [e, hy] at hx
          cases hx
          simp at h3
        simp [this]
      · rcases Nat.lt_or_ge j i with h4 | h4
        · exact hall j h4
        · rw [show j = i by omega, hx, hy]
          simpa using h3
    · have hlt' : ((i : Int) < (xs.length : Int)) = False := by simp; omega
      simp only [go_sem, ↓reduceIte, reduceCtorEq, Nat.reduceAdd, Nat.reduceMul, Nat.reduceEqDiff, Nat.reduceSub, Nat.reduceLT, Nat.reduceLeDiff, Nat.reduceAnd, Nat.reduceShiftRight, Nat.reduceBEq, Nat.reduceBNe, Nat.reduceBneDiff, Nat.reduceBeqDiff, Int.reduceToNat, Int.reduceLE, Int.reduceLT, Int.reduceEq, hlt']
      have : xs = ys := List.ext_getElem? fun j => by
        rcases Nat.lt_or_ge j i with h4 | h4
        · exact hall j h4
        · rw [List.getElem?_eq_none (by omega), List.getElem?_eq_none (by omega)]
      simp [this]
abbrev MSameDigests : FM := .f2 (eList cDigest) (eList cDigest) eBool.enc (fun x y => decide (x = y)) (fun x _ => x.length ≤ 1048576)
attribute [go_sem] MSameDigests
theorem ok_laws_sameDigests : MSameDigests.ok Try.prog 18 := FM.f2_ok fun x y h => f_sameDigests x y h

def clashM (c : Clash) : Bool := decide (¬ c.1 = c.2) && decide ((c.1.size : Int) ≤ 20000) && decide ((c.2.size : Int) ≤ 20000) && decide (hashOf c.1 = hashOf c.2)
def H_impl_ClashOk : Hint := { fs := [(54, MHashOf)], kp := [(0, [0]), (1, [1])], an := [(1, [0, 1, 0, 4, 15, 31, 63, 127, 255, 511, 1023, 2047, 4095, 8191, 16383, 32767, 65535, 131071, 262143, 524287, 1048575, 262143, 2359295, 8388607, 16777215, 33554431, 67108863])] }
attribute [go_sem] H_impl_ClashOk
theorem ok_H_impl_ClashOk : H_impl_ClashOk.ok Try.prog := AllOk.okR (.cons ok_impl_HashOf .nil) .nil mix
theorem f_ClashOk (c : Clash) (h : c.1.size ≤ 1000000 ∧ c.2.size ≤ 1000000) : VFun Try.prog 19 [(CE.st cClash).enc c] [] (eBool.enc (clashM c)) [] := by
  obtain ⟨l, r⟩ := c
  obtain ⟨h1, h2⟩ := h
  dsimp only at h1 h2
  have hd := dig_eq (hashOf l) (hashOf r)
  refine VFun_pure (n := 29) (rs := [.tmp 2]) Try.func19 rfl rfl rfl rfl H_impl_ClashOk ok_H_impl_ClashOk _ _ (Nat.le_of_ble_eq_true rfl) (by kernel_rfl) ?_
  by_cases hlr : l = r
  · simp only [go_sem, ↓reduceIte, reduceCtorEq, Nat.reduceAdd, Nat.reduceMul, Nat.reduceEqDiff, Nat.reduceSub, Nat.reduceLT, Nat.reduceLeDiff, Nat.reduceAnd, Nat.reduceShiftRight, Nat.reduceBEq, Nat.reduceBNe, Nat.reduceBneDiff, Nat.reduceBeqDiff, Int.reduceToNat, Int.reduceLE, Int.reduceLT, Int.reduceEq, eq_true hlr]
    unfold clashM
    rw [decide_eq_false (not_not_intro hlr)]; rfl
  · simp only [go_sem, ↓reduceIte, reduceCtorEq, Nat.reduceAdd, Nat.reduceMul, Nat.reduceEqDiff, Nat.reduceSub, Nat.reduceLT, Nat.reduceLeDiff, Nat.reduceAnd, Nat.reduceShiftRight, Nat.reduceBEq, Nat.reduceBNe, Nat.reduceBneDiff, Nat.reduceBeqDiff, Int.reduceToNat, Int.reduceLE, Int.reduceLT, Int.reduceEq, eq_false hlr, hd]
    unfold clashM
    rw [decide_eq_true (show ¬ (l, r).1 = (l, r).2 from hlr), Bool.true_and]
    refine ite_intro (fun c1 => ite_intro (fun c2 => ⟨h1, h2, ?_⟩) fun c2 => ?_) fun c1 => ?_
    · rw [decide_eq_true (show (((l, r).1.size : Nat) : Int) ≤ 20000 from c1), decide_eq_true (show (((l, r).2.size : Nat) : Int) ≤ 20000 from c2), Bool.true_and, Bool.true_and]
    · rw [decide_eq_false (show ¬ (((l, r).2.size : Nat) : Int) ≤ 20000 from c2), Bool.and_false, Bool.false_and]
    · rw [decide_eq_false (show ¬ (((l, r).1.size : Nat) : Int) ≤ 20000 from c1), Bool.false_and, Bool.false_and]
abbrev MClashOk : FM := .f1 (CE.st cClash) eBool.enc clashM (fun c => c.1.size ≤ 1000000 ∧ c.2.size ≤ 1000000)
attribute [go_sem] MClashOk
theorem ok_impl_ClashOk : MClashOk.ok Try.prog 19 := FM.f1_ok fun c h => f_ClashOk c h

def H_impl_PathRoot : Hint := { fs := [(35, MPathB), (36, MPairs), (82, MLeafH), (83, MPairH)], kp := [(0, [0, 1, 2, 3]), (1, [0, 1, 2, 3, 8]), (2, [8]), (3, [0, 1, 2, 3, 8]), (4, [2, 8]), (5, [0, 1, 2, 3, 8]), (6, [8, 10])], an := [] }
attribute [go_sem] H_impl_PathRoot
theorem ok_H_impl_PathRoot : H_impl_PathRoot.ok Try.prog := AllOk.okR (.cons ok_impl_pathOk (.cons ok_impl_pathPairs (.cons ok_impl_HashLeaf (.cons ok_impl_HashPair .nil)))) .nil mix
theorem f_impl_PathRoot (n i : Int) (l : ByteArray) (p : List Digest) : VFun Try.prog 52 [(eInt .i64).enc n, (eInt .i64).enc i, eStr.enc l, (eList cDigest).enc p] [] (eRoot.enc (rootP n i l p)) [] := by
  refine VFun_pure (n := 38) (rs := [.cell 8 31, .tmp 9]) Try.func52 rfl rfl rfl rfl H_impl_PathRoot ok_H_impl_PathRoot _ _ (Nat.le_of_ble_eq_true rfl) (by kernel_rfl) ?_
  by_cases hp : pathB n i l p = true
  case neg =>
    have hf : pathB n i l p = false := by simpa using hp
    have hr : rootP n i l p = ((0, 0, 0, 0), false) := if_neg hp
    simp only [go_sem, ↓reduceIte, reduceCtorEq, Nat.reduceAdd, Nat.reduceMul, Nat.reduceEqDiff, Nat.reduceSub, Nat.reduceLT, Nat.reduceLeDiff, Nat.reduceAnd, Nat.reduceShiftRight, Nat.reduceBEq, Nat.reduceBNe, Nat.reduceBneDiff, Nat.reduceBeqDiff, Int.reduceToNat, Int.reduceLE, Int.reduceLT, Int.reduceEq, hf, hr]
  obtain ⟨q1, q2, q3, q4⟩ := pathB_iff hp
  have hr : rootP n i l p = ((foldP (dirsM n.toNat i.toNat).reverse p (leafH l) p.length).2, true) := if_pos hp
  have hdl := dirsM_len n.toNat i.toNat
  have hfl := foldP_len (dirsM n.toNat i.toNat).reverse p (leafH l) p.length
  by_cases h0 : p.length = 0
  · have c1 : ((p.length : Int) = 0) = True := eq_true (by omega)
    rw [h0] at hr
    simp only [go_sem, ↓reduceIte, reduceCtorEq, Nat.reduceAdd, Nat.reduceMul, Nat.reduceEqDiff, Nat.reduceSub, Nat.reduceLT, Nat.reduceLeDiff, Nat.reduceAnd, Nat.reduceShiftRight, Nat.reduceBEq, Nat.reduceBNe, Nat.reduceBneDiff, Nat.reduceBeqDiff, Int.reduceToNat, Int.reduceLE, Int.reduceLT, Int.reduceEq, hp, c1, hr]
    exact ⟨by omega, rfl⟩
  · have c1 : ((p.length : Int) = 0) = False := eq_false (by omega)
    obtain ⟨m, hm⟩ : ∃ m, p.length = m + 1 := ⟨p.length - 1, by omega⟩
    have hx := foldP_at (dirsM n.toNat i.toNat).reverse p (leafH l) p.length m (by omega)
    have h2 : (foldP (dirsM n.toNat i.toNat).reverse p (leafH l) p.length).2 = pairH (stepP ((dirsM n.toNat i.toNat).reverse.getD m true) (foldP (dirsM n.toNat i.toNat).reverse p (leafH l) m).2 (p.getD m (0, 0, 0, 0))).1 (stepP ((dirsM n.toNat i.toNat).reverse.getD m true) (foldP (dirsM n.toNat i.toNat).reverse p (leafH l) m).2 (p.getD m (0, 0, 0, 0))).2 := by
      rw [hm, foldP]
    rw [h2] at hr
    generalize stepP ((dirsM n.toNat i.toNat).reverse.getD m true) (foldP (dirsM n.toNat i.toNat).reverse p (leafH l) m).2 (p.getD m (0, 0, 0, 0)) = S at hx hr
    have w1 : IntKind.i64.wrap ((p.length : Int) - 1) = (m : Int) := by rw [wrap64] <;> omega
    have c2 : (m < (foldP (dirsM n.toNat i.toNat).reverse p (leafH l) p.length).1.length) = True := eq_true (by omega)
    obtain ⟨sa, sb⟩ := S
    simp only [go_sem, ↓reduceIte, reduceCtorEq, Nat.reduceAdd, Nat.reduceMul, Nat.reduceEqDiff, Nat.reduceSub, Nat.reduceLT, Nat.reduceLeDiff, Nat.reduceAnd, Nat.reduceShiftRight, Nat.reduceBEq, Nat.reduceBNe, Nat.reduceBneDiff, Nat.reduceBeqDiff, Int.reduceToNat, Int.reduceLE, Int.reduceLT, Int.reduceEq, hp, c1, hr, w1, hx, c2]
    exact ⟨by decide, by decide⟩
theorem ok_impl_PathRoot : MRootP.ok Try.prog 52 := FM.f4_ok fun n i l p _ => f_impl_PathRoot n i l p

def behM (s : ByteArray) (l : List ByteArray) (i : Nat) : List ByteArray := s :: l.take i
theorem behM_len (s : ByteArray) (l : List ByteArray) {i : Nat} (h : i ≤ l.length) : (behM s l i).length = i + 1 := by
  rw [behM, List.length_cons, List.length_take]; omega
theorem behM_succ (s : ByteArray) {l : List ByteArray} {i : Nat} {x : ByteArray} (hx : l[i]? = some x) : behM s l (i + 1) = behM s l i ++ [x] := by
  rw [behM, behM, List.take_add_one, hx]; rfl
def H_spec_l4Behind : Hint := { fs := [], kp := [(0, [0, 1]), (1, [0, 1]), (2, [1, 5]), (3, [1, 5, 6]), (5, [1, 5, 6]), (4, [1, 5, 6]), (6, [5])], an := [] }
attribute [go_sem] H_spec_l4Behind
theorem ok_H_spec_l4Behind : H_spec_l4Behind.ok Try.prog := AllOk.okR .nil .nil mix
theorem f_l4Behind (s : ByteArray) (l : List ByteArray) (h : l.length ≤ 1000000) : VFun Try.prog 92 [eStr.enc s, (eList cStr).enc l] [] ((eList cStr).enc (s :: l)) [] := by
  refine VFun_pure (n := 23) (rs := [.tmp 4]) Try.func92 rfl rfl rfl rfl H_spec_l4Behind ok_H_spec_l4Behind _ _ (Nat.le_of_ble_eq_true rfl) (by kernel_rfl) ?_
  simp only [go_sem, ↓reduceIte, reduceCtorEq, Nat.reduceAdd, Nat.reduceMul, Nat.reduceEqDiff, Nat.reduceSub, Nat.reduceLT, Nat.reduceLeDiff, Nat.reduceAnd, Nat.reduceShiftRight, Nat.reduceBEq, Nat.reduceBNe, Nat.reduceBneDiff, Nat.reduceBeqDiff, Int.reduceToNat, Int.reduceLE, Int.reduceLT, Int.reduceEq]
  refine LoopV.go (H := H_spec_l4Behind) ok_H_spec_l4Behind (by kernel_rfl) (fun i : Nat => ⟨[(1, .x (.o (.c (.s (l.map cStr.enc))))), (5, .x (.o (.h (1, 100) 0 (behM s l i).length (behM s l i).length))), (6, sc (.int .i64 i))], [((1, 100), .row 1 ((behM s l i).map cStr.enc))], 2⟩) (fun i => l.length - i) (fun i => i ≤ l.length) ?_ 0 (Nat.zero_le _)
  intro i hi
  have ht := behM_len s l hi
  by_cases hlt : i < l.length
  · obtain ⟨x, hx⟩ : ∃ r, l[i]? = some r := ⟨_, List.getElem?_eq_getElem hlt⟩
    have hy := behM_succ s hx
    have w1 : IntKind.i64.wrap ((i : Int) + 1) = ((i + 1 : Nat) : Int) := by rw [wrap64] <;> omega
    have c1 : ((i : Int) < (l.length : Int)) = True := eq_true (by omega)
    simp only [go_sem, ↓reduceIte, reduceCtorEq, Nat.reduceAdd, Nat.reduceMul, Nat.reduceEqDiff, Nat.reduceSub, Nat.reduceLT, Nat.reduceLeDiff, Nat.reduceAnd, Nat.reduceShiftRight, Nat.reduceBEq, Nat.reduceBNe, Nat.reduceBneDiff, Nat.reduceBeqDiff, Int.reduceToNat, Int.reduceLE, Int.reduceLT, Int.reduceEq, hx, w1, c1]
    exact ⟨⟨by omega, by omega⟩, i + 1, hlt, by omega, by rw [hy, List.length_append, List.map_append]; rfl⟩
  · have c1 : ((i : Int) < (l.length : Int)) = False := eq_false (by omega)
    have htt : behM s l i = s :: l := by rw [behM, List.take_of_length_le (by omega)]
    rw [← htt]
    simp only [go_sem, ↓reduceIte, reduceCtorEq, Nat.reduceAdd, Nat.reduceMul, Nat.reduceEqDiff, Nat.reduceSub, Nat.reduceLT, Nat.reduceLeDiff, Nat.reduceAnd, Nat.reduceShiftRight, Nat.reduceBEq, Nat.reduceBNe, Nat.reduceBneDiff, Nat.reduceBeqDiff, Int.reduceToNat, Int.reduceLE, Int.reduceLT, Int.reduceEq, c1]
abbrev MBehind : FM := .f2 eStr (eList cStr) (eList cStr).enc (fun s l => s :: l) (fun _ l => l.length ≤ 1000000)
attribute [go_sem] MBehind
theorem ok_spec_l4Behind : MBehind.ok Try.prog 92 := FM.f2_ok fun s l h => f_l4Behind s l h

/-- The texts from the root down, seen from above. -/
def downM (n i : Nat) (x : ByteArray) (p : List Digest) : List ByteArray := textsM (foldP (dirsM n i).reverse p (leafH x) p.length).1 ++ [leafT x]
theorem foldP_topL {b : Bool} {bs : List Bool} {rest : List Digest} {last d0 : Digest} (h : rest.length = bs.length) : (foldP (b :: bs).reverse (rest ++ [last]) d0 (rest.length + 1)).1 = (foldP bs.reverse rest d0 rest.length).1 ++ [stepP b (foldP bs.reverse rest d0 rest.length).2 last] := by
  have hc : foldP (b :: bs).reverse (rest ++ [last]) d0 rest.length = foldP bs.reverse rest d0 rest.length := foldP_congr fun k hk => by
    rw [List.reverse_cons]
    constructor
    · rw [List.getD_eq_getElem?_getD, List.getD_eq_getElem?_getD, List.getElem?_append_left (by rw [List.length_reverse]; omega)]
    · rw [List.getD_eq_getElem?_getD, List.getD_eq_getElem?_getD, List.getElem?_append_left hk]
  have e1 : (b :: bs).reverse.getD rest.length true = b := by
    rw [List.reverse_cons, List.getD_eq_getElem?_getD, List.getElem?_append_right (by rw [List.length_reverse]; omega), List.length_reverse, h, Nat.sub_self]; rfl
  have e2 : (rest ++ [last]).getD rest.length (0, 0, 0, 0) = last := by
    rw [List.getD_eq_getElem?_getD, List.getElem?_append_right (Nat.le_refl _), Nat.sub_self]; rfl
  rw [foldP, hc, e1, e2]
theorem down_top {b : Bool} {bs : List Bool} {rest : List Digest} {last : Digest} {x : ByteArray} (h : rest.length = bs.length) : textsM (foldP (b :: bs).reverse (rest ++ [last]) (leafH x) (rest.length + 1)).1 ++ [leafT x] = pairT (stepP b (foldP bs.reverse rest (leafH x) rest.length).2 last).1 (stepP b (foldP bs.reverse rest (leafH x) rest.length).2 last).2 :: (textsM (foldP bs.reverse rest (leafH x) rest.length).1 ++ [leafT x]) := by
  rw [foldP_topL h, textsM, List.reverse_append, List.map_append]; rfl

abbrev MDownN (N : Nat) : FM := .f4 (eInt .i64) (eInt .i64) eStr (eList cDigest) (eList cStr).enc (fun n i x p => downM n.toNat i.toNat x p) (fun n i x p => n.toNat < N ∧ (1 ≤ n ∧ n ≤ 256) ∧ (0 ≤ i ∧ i < n) ∧ x.size ≤ 40 ∧ p.length = (dirsM n.toNat i.toNat).length)
attribute [go_sem] MDownN
def H_spec_l4Down (N : Nat) : Hint := { fs := [(42, MUp), (43, MLeafH), (53, (MDownN N)), (80, MSplit), (87, MLeafT), (92, MBehind), (93, MPairT)], kp := [(0, [0, 1, 2, 3]), (1, [0, 1, 2, 3]), (2, [2]), (3, [0, 1, 2, 3]), (4, [0, 1, 2, 3, 9]), (5, [0, 1, 2, 3, 9, 10]), (6, [0, 1, 2, 9, 10, 11]), (7, [1, 2, 9, 10, 11]), (8, [0, 1, 2, 9, 10, 11])], an := [(7, [0, 0, 0, 4, 0, 31, 0, 127, 0, 0, 0, 0, 4095, 8191, 16383]), (8, [0, 0, 0, 6, 0, 0, 48, 0, 128, 0, 1022, 2047, 0, 0, 12288, 0, 0, 98304, 0, 0, 1048575, 2097151, 4194303])] }
attribute [go_sem] H_spec_l4Down
theorem ok_H_spec_l4Down (N : Nat) (ih : (MDownN N).ok Try.prog 53) : (H_spec_l4Down N).ok Try.prog := AllOk.okR (.cons ok_spec_l3Up (.cons ok_spec_HashLeaf (.cons ih (.cons ok_spec_TreeSplit (.cons ok_spec_l1LeafText (.cons ok_spec_l4Behind (.cons ok_spec_l1PairText .nil))))))) .nil mix
theorem f_l4Down : ∀ (N : Nat) (n i : Int) (x : ByteArray) (p : List Digest), (n.toNat < N ∧ (1 ≤ n ∧ n ≤ 256) ∧ (0 ≤ i ∧ i < n) ∧ x.size ≤ 40 ∧ p.length = (dirsM n.toNat i.toNat).length) → VFun Try.prog 53 [(eInt .i64).enc n, (eInt .i64).enc i, eStr.enc x, (eList cDigest).enc p] [] ((eList cStr).enc (downM n.toNat i.toNat x p)) []
  | 0, n, i, x, p, h => absurd h.1 (by omega)
  | N + 1, n, i, x, p, h => by
    have ih : (MDownN N).ok Try.prog 53 := FM.f4_ok fun n i x p h => f_l4Down N n i x p h
    obtain ⟨h0, h1, h2, hxs, h3⟩ := h
    obtain ⟨n, rfl⟩ := Int.eq_ofNat_of_zero_le (show 0 ≤ n by omega)
    obtain ⟨i, rfl⟩ := Int.eq_ofNat_of_zero_le h2.1
    simp only [Int.toNat_natCast] at h0 h3 ⊢
    refine VFun_pure (n := 69) (rs := [.tmp 8]) Try.func53 rfl rfl rfl rfl (H_spec_l4Down N) (ok_H_spec_l4Down N ih) _ _ (Nat.le_of_ble_eq_true rfl) (by kernel_rfl) ?_
    have hdd : downM n i x p = textsM (foldP (dirsM n i).reverse p (leafH x) p.length).1 ++ [leafT x] := rfl
    rw [hdd]
    clear hdd
    by_cases hm : 2 ≤ n
    · have s1 := splitN_lt hm
      have s2 := splitN_pos n
      have s3 := splitM_in hm (by omega)
      have c1 : ((n : Int) < 2) = False := eq_false (by omega)
      by_cases hj : i < splitN n
      · have c2 : ((i : Int) < ((splitN n : Nat) : Int)) = True := eq_true (by omega)
        rw [dirsM_l hm hj] at h3 ⊢
        rw [List.length_cons] at h3
        have hdl := dirsM_len (splitN n) (i)
        obtain ⟨rest, last, rfl⟩ : ∃ rest last, p = rest ++ [last] := ⟨p.dropLast, p.getLast (by intro e; simp [e] at h3), (List.dropLast_concat_getLast _).symm⟩
        have hpl : (rest ++ [last]).length = rest.length + 1 := by simp
        rw [hpl] at h3
        have hrl : rest.length = (dirsM (splitN n) (i)).length := by omega
        have htop := down_top (b := true) (x := x) (last := last) hrl
        have w1 : IntKind.i64.wrap (((rest.length + 1 : Nat) : Int) - 1) = (rest.length : Int) := by rw [wrap64] <;> omega
        have hx : (rest ++ [last])[rest.length]? = some last := by simp
        have hdr : (rest ++ [last]).take rest.length = rest := by simp
        generalize rest ++ [last] = q at hpl hx hdr htop ⊢
        rw [hpl, htop]
        clear htop
        have hdd : downM (splitN n) (i) x rest = textsM (foldP (dirsM (splitN n) (i)).reverse rest (leafH x) rest.length).1 ++ [leafT x] := rfl
        rw [← hdd]
        have hlen : (downM (splitN n) (i) x rest).length = rest.length + 1 := by rw [hdd]; simp [textsM, foldP_len]
        simp only [go_sem, ↓reduceIte, reduceCtorEq, Nat.reduceAdd, Nat.reduceMul, Nat.reduceEqDiff, Nat.reduceSub, Nat.reduceLT, Nat.reduceLeDiff, Nat.reduceAnd, Nat.reduceShiftRight, Nat.reduceBEq, Nat.reduceBNe, Nat.reduceBneDiff, Nat.reduceBeqDiff, Int.reduceToNat, Int.reduceLE, Int.reduceLT, Int.reduceEq, c1, s3, c2, hpl, w1, hx, hdr]
        exact ⟨by omega, by omega, ⟨⟨by omega, by omega⟩, hrl⟩, ⟨by omega, ⟨by omega, by omega⟩, hxs, hrl⟩, by omega, rfl⟩
      · have c2 : ((i : Int) < ((splitN n : Nat) : Int)) = False := eq_false (by omega)
        have w2 : IntKind.i64.wrap ((n : Int) - ((splitN n : Nat) : Int)) = ((n - splitN n : Nat) : Int) := by rw [wrap64] <;> omega
        have w3 : IntKind.i64.wrap ((i : Int) - ((splitN n : Nat) : Int)) = ((i - splitN n : Nat) : Int) := by rw [wrap64] <;> omega
        rw [dirsM_r hm hj] at h3 ⊢
        rw [List.length_cons] at h3
        have hdl := dirsM_len (n - splitN n) (i - splitN n)
        obtain ⟨rest, last, rfl⟩ : ∃ rest last, p = rest ++ [last] := ⟨p.dropLast, p.getLast (by intro e; simp [e] at h3), (List.dropLast_concat_getLast _).symm⟩
        have hpl : (rest ++ [last]).length = rest.length + 1 := by simp
        rw [hpl] at h3
        have hrl : rest.length = (dirsM (n - splitN n) (i - splitN n)).length := by omega
        have htop := down_top (b := false) (x := x) (last := last) hrl
        have w1 : IntKind.i64.wrap (((rest.length + 1 : Nat) : Int) - 1) = (rest.length : Int) := by rw [wrap64] <;> omega
        have hx : (rest ++ [last])[rest.length]? = some last := by simp
        have hdr : (rest ++ [last]).take rest.length = rest := by simp
        generalize rest ++ [last] = q at hpl hx hdr htop ⊢
        rw [hpl, htop]
        clear htop
        have hdd : downM (n - splitN n) (i - splitN n) x rest = textsM (foldP (dirsM (n - splitN n) (i - splitN n)).reverse rest (leafH x) rest.length).1 ++ [leafT x] := rfl
        rw [← hdd]
        have hlen : (downM (n - splitN n) (i - splitN n) x rest).length = rest.length + 1 := by rw [hdd]; simp [textsM, foldP_len]
        simp only [go_sem, ↓reduceIte, reduceCtorEq, Nat.reduceAdd, Nat.reduceMul, Nat.reduceEqDiff, Nat.reduceSub, Nat.reduceLT, Nat.reduceLeDiff, Nat.reduceAnd, Nat.reduceShiftRight, Nat.reduceBEq, Nat.reduceBNe, Nat.reduceBneDiff, Nat.reduceBeqDiff, Int.reduceToNat, Int.reduceLE, Int.reduceLT, Int.reduceEq, c1, s3, c2, hpl, w1, w2, w3, hx, hdr]
        exact ⟨by omega, by omega, ⟨⟨by omega, by omega⟩, by omega, hrl⟩, ⟨by omega, ⟨by omega, by omega⟩, by omega, hxs, hrl⟩, by omega, rfl⟩
    · have c1 : ((n : Int) < 2) = True := eq_true (by omega)
      rw [dirsM_0 hm, List.length_nil] at h3
      have hp0 : p = [] := List.eq_nil_of_length_eq_zero h3
      subst hp0
      rw [dirsM_0 hm]
      simp only [go_sem, ↓reduceIte, reduceCtorEq, Nat.reduceAdd, Nat.reduceMul, Nat.reduceEqDiff, Nat.reduceSub, Nat.reduceLT, Nat.reduceLeDiff, Nat.reduceAnd, Nat.reduceShiftRight, Nat.reduceBEq, Nat.reduceBNe, Nat.reduceBneDiff, Nat.reduceBeqDiff, Int.reduceToNat, Int.reduceLE, Int.reduceLT, Int.reduceEq, c1]
      exact ⟨by omega, rfl⟩

abbrev MDown : FM := .f4 (eInt .i64) (eInt .i64) eStr (eList cDigest) (eList cStr).enc (fun n i x p => downM n.toNat i.toNat x p) (fun n i x p => (1 ≤ n ∧ n ≤ 256) ∧ (0 ≤ i ∧ i < n) ∧ x.size ≤ 40 ∧ p.length = (dirsM n.toNat i.toNat).length)
attribute [go_sem] MDown
theorem ok_spec_l4Down : MDown.ok Try.prog 53 := FM.f4_ok fun n i x p h => f_l4Down (n.toNat + 1) n i x p ⟨by omega, h⟩

def H_spec_ClashRow : Hint := { fs := [(9, MRootP), (53, MDown)], kp := [(0, [0, 1, 2, 3]), (1, [0, 1, 2, 3]), (2, [0, 1, 2, 3, 11]), (3, []), (4, [0, 1, 2, 3])], an := [] }
attribute [go_sem] H_spec_ClashRow
theorem ok_H_spec_ClashRow : H_spec_ClashRow.ok Try.prog := AllOk.okR (.cons ok_spec_PathRoot (.cons ok_spec_l4Down .nil)) .nil mix
theorem f_spec_ClashRow (n i : Int) (l : ByteArray) (p : List Digest) : VFun Try.prog 15 [(eInt .i64).enc n, (eInt .i64).enc i, eStr.enc l, (eList cDigest).enc p] [] (eRow.enc (rowM n i l p)) [] := by
  refine VFun_pure (n := 28) (rs := [.tmp 8, .tmp 9]) Try.func15 rfl rfl rfl rfl H_spec_ClashRow ok_H_spec_ClashRow _ _ (Nat.le_of_ble_eq_true rfl) (by kernel_rfl) ?_
  by_cases hp : pathB n i l p = true
  · obtain ⟨q1, q2, q3, q4⟩ := pathB_iff hp
    have hq : rootP n i l p = ((foldP (dirsM n.toNat i.toNat).reverse p (leafH l) p.length).2, true) := if_pos hp
    have hr : rowM n i l p = (downM n.toNat i.toNat l p, true) := if_pos hp
    simp only [go_sem, ↓reduceIte, reduceCtorEq, Nat.reduceAdd, Nat.reduceMul, Nat.reduceEqDiff, Nat.reduceSub, Nat.reduceLT, Nat.reduceLeDiff, Nat.reduceAnd, Nat.reduceShiftRight, Nat.reduceBEq, Nat.reduceBNe, Nat.reduceBneDiff, Nat.reduceBeqDiff, Int.reduceToNat, Int.reduceLE, Int.reduceLT, Int.reduceEq, hq, hr]
    exact ⟨q1, ⟨q2.1, by omega⟩, q3, q4⟩
  · have hq : rootP n i l p = ((0, 0, 0, 0), false) := if_neg hp
    have hr : rowM n i l p = ([], false) := if_neg hp
    simp only [go_sem, ↓reduceIte, reduceCtorEq, Nat.reduceAdd, Nat.reduceMul, Nat.reduceEqDiff, Nat.reduceSub, Nat.reduceLT, Nat.reduceLeDiff, Nat.reduceAnd, Nat.reduceShiftRight, Nat.reduceBEq, Nat.reduceBNe, Nat.reduceBneDiff, Nat.reduceBeqDiff, Int.reduceToNat, Int.reduceLE, Int.reduceLT, Int.reduceEq, hq, hr]
theorem ok_spec_ClashRow : MRow.ok Try.prog 15 := FM.f4_ok fun n i l p _ => f_spec_ClashRow n i l p

section
variable {P : Program} {g : FuncId} {A1 A2 A3 A4 A5 A6 R : Type}
def FM.f6 (a : CE A1) (b : CE A2) (c : CE A3) (d : CE A4) (e : CE A5) (f : CE A6) (r : R → E) (F : A1 → A2 → A3 → A4 → A5 → A6 → R) (pre : A1 → A2 → A3 → A4 → A5 → A6 → Prop) : FM := ⟨[], fun args rin => match args, rin with
  | [e1, e2, e3, e4, e5, e6], [] => match a.dec e1, b.dec e2, c.dec e3, d.dec e4, e.dec e5, f.dec e6 with
    | some x, some y, some z, some v, some u, some w => some (r (F x y z v u w), [], pre x y z v u w)
    | _, _, _, _, _, _ => none
  | _, _ => none⟩
theorem FM.f6_ok {a : CE A1} {b : CE A2} {c : CE A3} {d : CE A4} {e : CE A5} {f : CE A6} {r : R → E} {F : A1 → A2 → A3 → A4 → A5 → A6 → R} {pre : A1 → A2 → A3 → A4 → A5 → A6 → Prop} (h : ∀ x y z v u w, pre x y z v u w → VFun P g [a.enc x, b.enc y, c.enc z, d.enc v, e.enc u, f.enc w] [] (r (F x y z v u w)) []) :
    (FM.f6 a b c d e f r F pre).ok P g := by
  intro args rin res rout p hm hp
  simp only [FM.f6] at hm
  split at hm
  · split at hm
    · rename_i hx hy hz hv hu hw; cases hm; exact (h _ _ _ _ _ _ hp).weaken (.cons (a.ok _ _ hx) (.cons (b.ok _ _ hy) (.cons (c.ok _ _ hz) (.cons (d.ok _ _ hv) (.cons (e.ok _ _ hu) (.cons (f.ok _ _ hw) .nil))))))
    · cases hm
  · cases hm
end
attribute [go_sem] FM.f6

def clashP (n i : Int) (x : ByteArray) (px : List Digest) (y : ByteArray) (py : List Digest) : Clash × Bool := if pathB n i x px = true ∧ pathB n i y py = true ∧ (rootP n i x px).1 = (rootP n i y py).1 then firstM (rowM n i x px).1 (rowM n i y py).1 else ((⟨#[]⟩, ⟨#[]⟩), false)
theorem rowM_len (n i : Int) (x : ByteArray) (p : List Digest) : (rowM n i x p).1.length ≤ 257 := by
  unfold rowM
  split
  · rename_i hp
    obtain ⟨q1, q2, q3, q4⟩ := pathB_iff hp
    have hdl := dirsM_len n.toNat i.toNat
    rw [row_len]; omega
  · simp
def H_impl_ClashOfPaths : Hint := { fs := [(8, MRow), (16, MFirst), (52, MRootP)], kp := [(0, [0, 1, 2, 3, 4, 5]), (1, [0, 1, 2, 3, 4, 5, 12]), (2, [0, 1, 2, 3, 4, 5, 12, 14, 15]), (3, [0, 1, 2, 3, 4, 5, 12, 14, 15, 16, 17]), (4, [12]), (5, [0, 1, 2, 3, 4, 5, 12]), (6, [0, 1, 4, 5, 12, 18]), (7, [12, 18, 20])], an := [] }
attribute [go_sem] H_impl_ClashOfPaths
theorem ok_H_impl_ClashOfPaths : H_impl_ClashOfPaths.ok Try.prog := AllOk.okR (.cons ok_impl_ClashRow (.cons ok_impl_ClashFirst (.cons ok_impl_PathRoot .nil))) .nil mix
theorem f_impl_ClashOfPaths (n i : Int) (x : ByteArray) (px : List Digest) (y : ByteArray) (py : List Digest) : VFun Try.prog 14 [(eInt .i64).enc n, (eInt .i64).enc i, eStr.enc x, (eList cDigest).enc px, eStr.enc y, (eList cDigest).enc py] [] (eFirst.enc (clashP n i x px y py)) [] := by
  have hde := dig_eq (rootP n i x px).1 (rootP n i y py).1
  have hx2 : (rootP n i x px).2 = pathB n i x px := by unfold rootP; cases pathB n i x px <;> rfl
  have hy2 : (rootP n i y py).2 = pathB n i y py := by unfold rootP; cases pathB n i y py <;> rfl
  have hrl := rowM_len n i x px
  refine VFun_pure (n := 71) (rs := [.cell 12 41, .tmp 13]) Try.func14 rfl rfl rfl rfl H_impl_ClashOfPaths ok_H_impl_ClashOfPaths _ _ (Nat.le_of_ble_eq_true rfl) (by kernel_rfl) ?_
  simp only [go_sem, ↓reduceIte, reduceCtorEq, Nat.reduceAdd, Nat.reduceMul, Nat.reduceEqDiff, Nat.reduceSub, Nat.reduceLT, Nat.reduceLeDiff, Nat.reduceAnd, Nat.reduceShiftRight, Nat.reduceBEq, Nat.reduceBNe, Nat.reduceBneDiff, Nat.reduceBeqDiff, Int.reduceToNat, Int.reduceLE, Int.reduceLT, Int.reduceEq, hde, hx2, hy2]
  refine ite_intro (fun a => ite_intro (fun b => ite_intro (fun c => ?_) fun c => ?_) fun b => ?_) fun a => ?_
  · unfold clashP; rw [if_neg fun h => c h.2.2]
  · exact ⟨by omega, by unfold clashP; rw [if_pos ⟨a, b, Decidable.not_not.1 c⟩]⟩
  · unfold clashP; rw [if_neg fun h => b h.2.1]
  · unfold clashP; rw [if_neg fun h => a h.1]
abbrev MClashP : FM := .f6 (eInt .i64) (eInt .i64) eStr (eList cDigest) eStr (eList cDigest) eFirst.enc clashP (fun _ _ _ _ _ _ => True)
attribute [go_sem] MClashP
theorem ok_impl_ClashOfPaths : MClashP.ok Try.prog 14 := FM.f6_ok fun n i x px y py _ => f_impl_ClashOfPaths n i x px y py

end Go.Proofs.YtcgkhljolflenaaW.V

