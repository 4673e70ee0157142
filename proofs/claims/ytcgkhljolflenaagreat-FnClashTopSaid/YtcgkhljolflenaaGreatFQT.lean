/- Functions: trees of leaves and their roots. No condition but each theorem's own. -/
import Derived.Test.YtcgkhljolflenaaGreatFQA
namespace Go.Proofs.YtcgkhljolflenaaGreatW.V
open Go Go.Proofs
set_option linter.unusedSimpArgs false
set_option linter.unusedVariables false
set_option maxRecDepth 8000
set_option maxHeartbeats 4000000

set_option synthInstance.maxSize 1000

/-- The greatest power of two below a number. -/
def splitN (n : Nat) : Nat := 2 ^ Nat.log2 (n - 1)
theorem splitN_lt {n : Nat} (h : 2 ≤ n) : splitN n < n := by
  have := Nat.log2_self_le (n := n - 1) (by omega)
  unfold splitN; omega
theorem splitN_pos (n : Nat) : 1 ≤ splitN n := Nat.one_le_two_pow
theorem splitN_eq {n k j : Nat} (hk : k = 2 ^ j) (h1 : k < n) (h2 : n ≤ 2 * k) : splitN n = k := by
  have h3 : Nat.log2 (n - 1) = j := (Nat.log2_eq_iff (by have := Nat.one_le_two_pow (n := j); omega)).2 ⟨by omega, by rw [Nat.pow_succ]; omega⟩
  rw [splitN, h3, hk]
def splitM (n : Int) : Int := if 2 ≤ n ∧ n ≤ 256 then (splitN n.toNat : Nat) else 0
theorem splitM_in {n : Nat} (h : 2 ≤ n) (h2 : n ≤ 256) : splitM n = (splitN n : Nat) := by
  rw [splitM, if_pos (by omega), Int.toNat_natCast]
abbrev MSplit : FM := .f1 (eInt .i64) (eInt .i64).enc splitM (fun _ => True)
attribute [go_sem] MSplit

def H_spec_TreeSplit : Hint := { fs := [(89, M166)], kp := [(0, [0]), (1, [0]), (2, []), (3, [0]), (4, [0, 3]), (5, [0, 3]), (6, [3])], an := [] }
attribute [go_sem] H_spec_TreeSplit
theorem ok_H_spec_TreeSplit : H_spec_TreeSplit.ok Tryz.prog := AllOk.okR (.cons m166 .nil) .nil mix
theorem f_spec_TreeSplit (n : Int) : VFun Tryz.prog 45 [(eInt .i64).enc n] [] ((eInt .i64).enc (splitM n)) [] := by
  refine VFun_pure (n := 14) (rs := [.tmp 2]) Tryz.func45 rfl rfl rfl rfl H_spec_TreeSplit ok_H_spec_TreeSplit _ _ (Nat.le_of_ble_eq_true rfl) (by kernel_rfl) ?_
  simp only [go_sem, ↓reduceIte, reduceCtorEq, Nat.reduceAdd, Nat.reduceMul, Nat.reduceEqDiff, Nat.reduceSub, Nat.reduceLT, Nat.reduceLeDiff, Nat.reduceAnd, Nat.reduceShiftRight, Nat.reduceBEq, Nat.reduceBNe, Nat.reduceBneDiff, Nat.reduceBeqDiff, Int.reduceToNat, Int.reduceLE, Int.reduceLT, Int.reduceEq]
  refine ite_intro (fun h => by rw [splitM, if_neg h]) fun h => ?_
  obtain ⟨m, rfl⟩ := Int.eq_ofNat_of_zero_le (show 0 ≤ n by omega)
  have h2 : splitM m = (splitN m : Nat) := splitM_in (by omega) (by omega)
  rw [h2]
  refine LoopV.go (H := H_spec_TreeSplit) ok_H_spec_TreeSplit (by kernel_rfl) (fun k : Nat => ⟨[(0, sc (.int .i64 m)), (3, sc (.int .i64 k))], [], 2⟩) (fun k => m - k) (fun k => (∃ j, k = 2 ^ j) ∧ 1 ≤ k ∧ k < m) ?_ 1 ⟨⟨0, rfl⟩, by omega, by omega⟩
  rintro k ⟨⟨j, hj⟩, hk1, hk⟩
  have w1 : IntKind.i64.wrap (2 * (k : Int)) = ((2 * k : Nat) : Int) := by rw [wrap64] <;> omega
  have w2 : IntKind.i64.wrap ((k : Int) * 2) = ((2 * k : Nat) : Int) := by rw [wrap64] <;> omega
  by_cases hlt : 2 * k < m
  · have c1 : (((2 * k : Nat) : Int) < (m : Int)) = True := eq_true (by omega)
    simp only [go_sem, ↓reduceIte, reduceCtorEq, Nat.reduceAdd, Nat.reduceMul, Nat.reduceEqDiff, Nat.reduceSub, Nat.reduceLT, Nat.reduceLeDiff, Nat.reduceAnd, Nat.reduceShiftRight, Nat.reduceBEq, Nat.reduceBNe, Nat.reduceBneDiff, Nat.reduceBeqDiff, Int.reduceToNat, Int.reduceLE, Int.reduceLT, Int.reduceEq, c1, w1, w2]
    exact ⟨2 * k, ⟨⟨j + 1, by rw [Nat.pow_succ]; omega⟩, by omega, by omega⟩, by omega, rfl⟩
  · have c1 : (((2 * k : Nat) : Int) < (m : Int)) = False := eq_false (by omega)
    simp only [go_sem, ↓reduceIte, reduceCtorEq, Nat.reduceAdd, Nat.reduceMul, Nat.reduceEqDiff, Nat.reduceSub, Nat.reduceLT, Nat.reduceLeDiff, Nat.reduceAnd, Nat.reduceShiftRight, Nat.reduceBEq, Nat.reduceBNe, Nat.reduceBneDiff, Nat.reduceBeqDiff, Int.reduceToNat, Int.reduceLE, Int.reduceLT, Int.reduceEq, c1, w1, w2]
    rw [splitN_eq hj hk (by omega)]
theorem ok_spec_TreeSplit : MSplit.ok Tryz.prog 45 := FM.f1_ok fun n _ => f_spec_TreeSplit n

def H_impl_TreeSplit : Hint := { fs := [(96, M166)], kp := [(0, [0]), (1, [0]), (2, []), (3, [0]), (4, [0, 3]), (5, [0, 3]), (6, [3])], an := [] }
attribute [go_sem] H_impl_TreeSplit
theorem ok_H_impl_TreeSplit : H_impl_TreeSplit.ok Tryz.prog := AllOk.okR (.cons m180 .nil) .nil mix
theorem f_impl_TreeSplit (n : Int) : VFun Tryz.prog 98 [(eInt .i64).enc n] [] ((eInt .i64).enc (splitM n)) [] := by
  refine VFun_pure (n := 14) (rs := [.tmp 2]) Tryz.func98 rfl rfl rfl rfl H_impl_TreeSplit ok_H_impl_TreeSplit _ _ (Nat.le_of_ble_eq_true rfl) (by kernel_rfl) ?_
  simp only [go_sem, ↓reduceIte, reduceCtorEq, Nat.reduceAdd, Nat.reduceMul, Nat.reduceEqDiff, Nat.reduceSub, Nat.reduceLT, Nat.reduceLeDiff, Nat.reduceAnd, Nat.reduceShiftRight, Nat.reduceBEq, Nat.reduceBNe, Nat.reduceBneDiff, Nat.reduceBeqDiff, Int.reduceToNat, Int.reduceLE, Int.reduceLT, Int.reduceEq]
  refine ite_intro (fun h => by rw [splitM, if_neg h]) fun h => ?_
  obtain ⟨m, rfl⟩ := Int.eq_ofNat_of_zero_le (show 0 ≤ n by omega)
  have h2 : splitM m = (splitN m : Nat) := splitM_in (by omega) (by omega)
  rw [h2]
  refine LoopV.go (H := H_impl_TreeSplit) ok_H_impl_TreeSplit (by kernel_rfl) (fun k : Nat => ⟨[(0, sc (.int .i64 m)), (3, sc (.int .i64 k))], [], 2⟩) (fun k => m - k) (fun k => (∃ j, k = 2 ^ j) ∧ 1 ≤ k ∧ k < m) ?_ 1 ⟨⟨0, rfl⟩, by omega, by omega⟩
  rintro k ⟨⟨j, hj⟩, hk1, hk⟩
  have w1 : IntKind.i64.wrap (2 * (k : Int)) = ((2 * k : Nat) : Int) := by rw [wrap64] <;> omega
  have w2 : IntKind.i64.wrap ((k : Int) * 2) = ((2 * k : Nat) : Int) := by rw [wrap64] <;> omega
  by_cases hlt : 2 * k < m
  · have c1 : (((2 * k : Nat) : Int) < (m : Int)) = True := eq_true (by omega)
    simp only [go_sem, ↓reduceIte, reduceCtorEq, Nat.reduceAdd, Nat.reduceMul, Nat.reduceEqDiff, Nat.reduceSub, Nat.reduceLT, Nat.reduceLeDiff, Nat.reduceAnd, Nat.reduceShiftRight, Nat.reduceBEq, Nat.reduceBNe, Nat.reduceBneDiff, Nat.reduceBeqDiff, Int.reduceToNat, Int.reduceLE, Int.reduceLT, Int.reduceEq, c1, w1, w2]
    exact ⟨2 * k, ⟨⟨j + 1, by rw [Nat.pow_succ]; omega⟩, by omega, by omega⟩, by omega, rfl⟩
  · have c1 : (((2 * k : Nat) : Int) < (m : Int)) = False := eq_false (by omega)
    simp only [go_sem, ↓reduceIte, reduceCtorEq, Nat.reduceAdd, Nat.reduceMul, Nat.reduceEqDiff, Nat.reduceSub, Nat.reduceLT, Nat.reduceLeDiff, Nat.reduceAnd, Nat.reduceShiftRight, Nat.reduceBEq, Nat.reduceBNe, Nat.reduceBneDiff, Nat.reduceBeqDiff, Int.reduceToNat, Int.reduceLE, Int.reduceLT, Int.reduceEq, c1, w1, w2]
    rw [splitN_eq hj hk (by omega)]
theorem ok_impl_TreeSplit : MSplit.ok Tryz.prog 98 := FM.f1_ok fun n _ => f_impl_TreeSplit n

/-- The root of leaves. -/
def rootM (l : List ByteArray) : Digest :=
  if h : 2 ≤ l.length then pairH (rootM (l.take (splitN l.length))) (rootM (l.drop (splitN l.length)))
  else match l with
    | [] => hashOf ⟨#[]⟩
    | x :: _ => leafH x
termination_by l.length
decreasing_by
  · rw [List.length_take]; have := splitN_lt h; omega
  · rw [List.length_drop]; have := splitN_pos l.length; omega
theorem rootM_2 {l : List ByteArray} (h : 2 ≤ l.length) : rootM l = pairH (rootM (l.take (splitN l.length))) (rootM (l.drop (splitN l.length))) := by
  rw [rootM, dif_pos h]
theorem rootM_0 : rootM [] = hashOf ⟨#[]⟩ := by rw [rootM]; rfl
theorem rootM_1 (x : ByteArray) : rootM [x] = leafH x := by rw [rootM]; rfl
abbrev MRootN (N : Nat) : FM := .f1 (eList cStr) (CE.st cDigest).enc rootM (fun l => l.length < N ∧ l.length ≤ 256 ∧ ∀ x ∈ l, x.size ≤ 40)
abbrev MRoot : FM := .f1 (eList cStr) (CE.st cDigest).enc rootM (fun l => l.length ≤ 256 ∧ ∀ x ∈ l, x.size ≤ 40)
attribute [go_sem] MRootN MRoot

def H_spec_l2Root (N : Nat) : Hint := { fs := [(37, MHashOf), (45, MSplit), (46, (MRootN N)), (74, MLeafH), (90, MPairH)], kp := [(0, [0]), (1, [0, 2]), (2, [2]), (3, [0, 2]), (4, [0, 2]), (5, [0, 2]), (6, [0, 2, 3])], an := [(6, [0, 0, 3, 7, 0, 0, 48, 127, 255, 511])] }
attribute [go_sem] H_spec_l2Root
theorem ok_H_spec_l2Root (N : Nat) (ih : (MRootN N).ok Tryz.prog 46) : (H_spec_l2Root N).ok Tryz.prog := AllOk.okR (.cons ok_spec_HashOf (.cons ok_spec_TreeSplit (.cons ih (.cons ok_spec_HashLeaf (.cons ok_spec_HashPair .nil))))) .nil mix
theorem f_l2Root : ∀ (N : Nat) (l : List ByteArray), (l.length < N ∧ l.length ≤ 256 ∧ ∀ x ∈ l, x.size ≤ 40) → VFun Tryz.prog 46 [(eList cStr).enc l] [] ((CE.st cDigest).enc (rootM l)) []
  | 0, l, h => absurd h.1 (by omega)
  | N + 1, l, h => by
    have ih : (MRootN N).ok Tryz.prog 46 := FM.f1_ok fun l h => f_l2Root N l h
    obtain ⟨h1, h2, h3⟩ := h
    refine VFun_pure (n := 27) (rs := [.cell 2 25]) Tryz.func46 rfl rfl rfl rfl (H_spec_l2Root N) (ok_H_spec_l2Root N ih) _ _ (Nat.le_of_ble_eq_true rfl) (by kernel_rfl) ?_
    match l with
    | [] =>
      simp only [go_sem, ↓reduceIte, reduceCtorEq, Nat.reduceAdd, Nat.reduceMul, Nat.reduceEqDiff, Nat.reduceSub, Nat.reduceLT, Nat.reduceLeDiff, Nat.reduceAnd, Nat.reduceShiftRight, Nat.reduceBEq, Nat.reduceBNe, Nat.reduceBneDiff, Nat.reduceBeqDiff, Int.reduceToNat, Int.reduceLE, Int.reduceLT, Int.reduceEq]
      rw [rootM_0]
    | [x] =>
      have c0 : (((1 : Nat) : Int) = 0) = False := eq_false (by omega)
      have c1 : (((1 : Nat) : Int) = 1) = True := eq_true (by omega)
      have hx := h3 x (by simp)
      simp only [go_sem, ↓reduceIte, reduceCtorEq, Nat.reduceAdd, Nat.reduceMul, Nat.reduceEqDiff, Nat.reduceSub, Nat.reduceLT, Nat.reduceLeDiff, Nat.reduceAnd, Nat.reduceShiftRight, Nat.reduceBEq, Nat.reduceBNe, Nat.reduceBneDiff, Nat.reduceBeqDiff, Int.reduceToNat, Int.reduceLE, Int.reduceLT, Int.reduceEq, c0, c1]
      rw [rootM_1]
      exact ⟨by omega, rfl⟩
    | x :: y :: l =>
      have hn : 2 ≤ (x :: y :: l).length := by simp
      have hr := rootM_2 hn
      have hs := splitM_in hn h2
      have hs1 := splitN_lt hn
      have hs2 := splitN_pos (x :: y :: l).length
      generalize (x :: y :: l) = l at *
      have c0 : ((l.length : Int) = 0) = False := eq_false (by omega)
      have c1 : ((l.length : Int) = 1) = False := eq_false (by omega)
      simp only [go_sem, ↓reduceIte, reduceCtorEq, Nat.reduceAdd, Nat.reduceMul, Nat.reduceEqDiff, Nat.reduceSub, Nat.reduceLT, Nat.reduceLeDiff, Nat.reduceAnd, Nat.reduceShiftRight, Nat.reduceBEq, Nat.reduceBNe, Nat.reduceBneDiff, Nat.reduceBeqDiff, Int.reduceToNat, Int.reduceLE, Int.reduceLT, Int.reduceEq, c0, c1, hs]
      rw [hr]
      exact ⟨by omega, ⟨by rw [List.length_take]; omega, by rw [List.length_take]; omega, fun x hx => h3 x (List.mem_of_mem_take hx)⟩, ⟨by omega, by omega⟩, ⟨by omega, by omega, fun x hx => h3 x (List.mem_of_mem_drop hx)⟩, rfl⟩
theorem ok_l2Root : MRoot.ok Tryz.prog 46 := FM.f1_ok fun l h => f_l2Root (l.length + 1) l ⟨by omega, h.1, h.2⟩

def leavesOk (l : List ByteArray) : Bool := decide ((l.length : Int) ≤ 256) && l.all fun x => decide ((x.size : Int) ≤ 40)
theorem leavesOk_bad {l : List ByteArray} {i : Nat} {x : ByteArray} (h : l[i]? = some x) (hb : ¬ (x.size : Int) ≤ 40) : leavesOk l = false := by
  unfold leavesOk
  rw [Bool.and_eq_false_iff]
  exact .inr (List.all_eq_false.2 ⟨x, List.mem_of_getElem? h, by simpa using hb⟩)
theorem leavesOk_good {l : List ByteArray} (h : ∀ i x, i < l.length → l[i]? = some x → (x.size : Int) ≤ 40) : leavesOk l = decide ((l.length : Int) ≤ 256) := by
  unfold leavesOk
  rw [List.all_eq_true.2 fun x hx => ?_, Bool.and_true]
  obtain ⟨i, hi⟩ := List.getElem?_of_mem hx
  exact decide_eq_true (h i x (List.getElem?_eq_some_iff.1 hi).1 hi)
theorem leavesOk_iff {l : List ByteArray} (h : leavesOk l = true) : l.length ≤ 256 ∧ ∀ x ∈ l, x.size ≤ 40 := by
  unfold leavesOk at h
  simp only [Bool.and_eq_true, decide_eq_true_eq, List.all_eq_true] at h
  exact ⟨by omega, fun x hx => by have := h.2 x hx; omega⟩
theorem sized_next {l : List ByteArray} {i : Nat} {x : ByteArray} (h : ∀ j y, j < i → l[j]? = some y → (y.size : Int) ≤ 40) (hx : l[i]? = some x) (hs : (x.size : Int) ≤ 40) : ∀ j y, j < i + 1 → l[j]? = some y → (y.size : Int) ≤ 40 := fun j y hj hy => by
  rcases Nat.lt_or_ge j i with h4 | h4
  · exact h j y h4 hy
  · rw [show j = i by omega, hx] at hy
    cases hy; exact hs
abbrev MLeavesOk : FM := .f1 (eList cStr) eBool.enc leavesOk (fun l => l.length ≤ 1048576)
attribute [go_sem] MLeavesOk

def H_spec_LeavesOk : Hint := { fs := [], kp := [(0, [0]), (1, [0]), (2, []), (3, [0]), (4, [0, 3]), (6, [0, 3]), (7, []), (5, [0, 3]), (8, [])], an := [] }
attribute [go_sem] H_spec_LeavesOk
theorem ok_H_spec_LeavesOk : H_spec_LeavesOk.ok Tryz.prog := AllOk.okR .nil .nil mix
theorem f_spec_LeavesOk (l : List ByteArray) (h : l.length ≤ 1048576) : VFun Tryz.prog 87 [(eList cStr).enc l] [] (eBool.enc (leavesOk l)) [] := by
  refine VFun_pure (n := 19) (rs := [.tmp 2]) Tryz.func87 rfl rfl rfl rfl H_spec_LeavesOk ok_H_spec_LeavesOk _ _ (Nat.le_of_ble_eq_true rfl) (by kernel_rfl) ?_
  simp only [go_sem, ↓reduceIte, reduceCtorEq, Nat.reduceAdd, Nat.reduceMul, Nat.reduceEqDiff, Nat.reduceSub, Nat.reduceLT, Nat.reduceLeDiff, Nat.reduceAnd, Nat.reduceShiftRight, Nat.reduceBEq, Nat.reduceBNe, Nat.reduceBneDiff, Nat.reduceBeqDiff, Int.reduceToNat, Int.reduceLE, Int.reduceLT, Int.reduceEq]
  refine ite_intro (fun h1 => ?_) fun h1 => ?_
  · unfold leavesOk; rw [decide_eq_false (by omega)]; rfl
  refine LoopV.go (H := H_spec_LeavesOk) ok_H_spec_LeavesOk (by kernel_rfl) (fun i : Nat => ⟨[(0, .x (.o (.c (.s (l.map cStr.enc))))), (3, sc (.int .i64 i))], [], 2⟩) (fun i => l.length - i) (fun i => i ≤ l.length ∧ ∀ j y, j < i → l[j]? = some y → (y.size : Int) ≤ 40) ?_ 0 ⟨Nat.zero_le _, fun j y h => by omega⟩
  intro i ⟨hi, hall⟩
  have w1 : IntKind.i64.wrap ((i : Int) + 1) = ((i + 1 : Nat) : Int) := by rw [wrap64] <;> omega
  by_cases hlt : i < l.length
  · obtain ⟨x, hx⟩ : ∃ r, l[i]? = some r := ⟨_, List.getElem?_eq_getElem hlt⟩
    have c1 : ((i : Int) < (l.length : Int)) = True := eq_true (by omega)
    simp only [go_sem, ↓reduceIte, reduceCtorEq, Nat.reduceAdd, Nat.reduceMul, Nat.reduceEqDiff, Nat.reduceSub, Nat.reduceLT, Nat.reduceLeDiff, Nat.reduceAnd, Nat.reduceShiftRight, Nat.reduceBEq, Nat.reduceBNe, Nat.reduceBneDiff, Nat.reduceBeqDiff, Int.reduceToNat, Int.reduceLE, Int.reduceLT, Int.reduceEq, c1, hx, w1]
    refine ite_intro (fun h3 => ?_) fun h3 => ⟨i + 1, ⟨hlt, sized_next hall hx (by omega)⟩, by omega, rfl⟩
    rw [leavesOk_bad hx (by omega)]
  · have c1 : ((i : Int) < (l.length : Int)) = False := eq_false (by omega)
    simp only [go_sem, ↓reduceIte, reduceCtorEq, Nat.reduceAdd, Nat.reduceMul, Nat.reduceEqDiff, Nat.reduceSub, Nat.reduceLT, Nat.reduceLeDiff, Nat.reduceAnd, Nat.reduceShiftRight, Nat.reduceBEq, Nat.reduceBNe, Nat.reduceBneDiff, Nat.reduceBeqDiff, Int.reduceToNat, Int.reduceLE, Int.reduceLT, Int.reduceEq, c1]
    rw [leavesOk_good fun j y hj hy => hall j y (by omega) hy, decide_eq_true (by omega)]
theorem ok_spec_LeavesOk : MLeavesOk.ok Tryz.prog 87 := FM.f1_ok fun l h => f_spec_LeavesOk l h

end Go.Proofs.YtcgkhljolflenaaGreatW.V

