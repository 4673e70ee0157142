/- Functions: a part of what is written; what mends. No condition but each theorem's own. -/
import Derived.Test.YtgdbammhnjkbbaaFSX
namespace Go.Proofs.YtgdbammhnjkbbaaW.V
open Go Go.Proofs
set_option linter.unusedSimpArgs false
set_option linter.unusedVariables false
set_option maxRecDepth 8000
set_option maxHeartbeats 4000000

def H_spec_RecordCut : Hint := { fs := [(70, MWrite)], kp := [(0, [0, 1, 2]), (1, [1, 2, 3, 6]), (2, [1, 3, 6]), (3, [1, 2, 3, 6]), (4, [1, 3, 6]), (5, [1, 2, 3, 6])], an := [(5, [0, 0, 0, 6, 15, 31])] }
attribute [go_sem] H_spec_RecordCut
theorem ok_H_spec_RecordCut : H_spec_RecordCut.ok Try.prog := AllOk.okR (.cons ok_spec_DiskWrite .nil) .nil mix
theorem f_spec_RecordCut (d : Disk) (l : List Raw) (c : Int) (hl : l.length ≤ 1000000) : VFun Try.prog 59 [(CE.st cDisk).enc d, (eList cRaw).enc l, (eInt .i64).enc c] [] ((CE.st cDisk).enc (cutM d l c)) [] := by
  refine VFun_pure (n := 20) (rs := [.cell 6 35]) Try.func59 rfl rfl rfl rfl H_spec_RecordCut ok_H_spec_RecordCut _ _ (Nat.le_of_ble_eq_true rfl) (by kernel_rfl) ?_
  simp only [go_sem, ↓reduceIte, reduceCtorEq, Nat.reduceAdd, Nat.reduceMul, Nat.reduceEqDiff, Nat.reduceSub, Nat.reduceLT, Nat.reduceLeDiff, Nat.reduceAnd, Nat.reduceShiftRight, Nat.reduceBEq, Nat.reduceBNe, Nat.reduceBneDiff, Nat.reduceBeqDiff, Int.reduceToNat, Int.reduceLE, Int.reduceLT, Int.reduceEq]
  refine ite_intro (fun h1 => ?_) fun h1 => ?_
  · have e : c.toNat = 0 := by omega
    refine ite_intro (fun h2 => absurd h2 (by omega)) fun h2 => ⟨by omega, by rw [cutM, e, List.take_zero]⟩
  · refine ite_intro (fun h2 => ⟨Nat.le_refl _, hl, by rw [cutM, List.take_of_length_le (by omega)]⟩) fun h2 => ⟨⟨by omega, by omega⟩, by rw [List.length_take]; omega, rfl⟩
abbrev MCut : FM := .f3 (CE.st cDisk) (eList cRaw) (eInt .i64) (CE.st cDisk).enc cutM (fun _ l _ => l.length ≤ 1000000)
attribute [go_sem] MCut
theorem ok_spec_RecordCut : MCut.ok Try.prog 59 := FM.f3_ok fun d l c h => f_spec_RecordCut d l c h

def H_impl_RecordCut : Hint := { fs := [(24, MWrite)], kp := [(0, [0, 1, 2]), (1, [1, 2, 3, 6])], an := [(1, [0, 0, 0, 0, 8, 28, 60, 126, 255, 511])] }
attribute [go_sem] H_impl_RecordCut
theorem ok_H_impl_RecordCut : H_impl_RecordCut.ok Try.prog := AllOk.okR (.cons ok_impl_DiskWrite .nil) .nil mix
theorem f_impl_RecordCut (d : Disk) (l : List Raw) (c : Int) (hl : l.length ≤ 1000000) : VFun Try.prog 23 [(CE.st cDisk).enc d, (eList cRaw).enc l, (eInt .i64).enc c] [] ((CE.st cDisk).enc (cutM d l c)) [] := by
  refine VFun_pure (n := 16) (rs := [.cell 6 35]) Try.func23 rfl rfl rfl rfl H_impl_RecordCut ok_H_impl_RecordCut _ _ (Nat.le_of_ble_eq_true rfl) (by kernel_rfl) ?_
  simp only [go_sem, ↓reduceIte, reduceCtorEq, Nat.reduceAdd, Nat.reduceMul, Nat.reduceEqDiff, Nat.reduceSub, Nat.reduceLT, Nat.reduceLeDiff, Nat.reduceAnd, Nat.reduceShiftRight, Nat.reduceBEq, Nat.reduceBNe, Nat.reduceBneDiff, Nat.reduceBeqDiff, Int.reduceToNat, Int.reduceLE, Int.reduceLT, Int.reduceEq]
  have e : l.take (max 0 (min c (l.length : Int))).toNat = l.take c.toNat := by
    by_cases h : c ≤ l.length
    · rw [Int.min_eq_left h]; congr 1; omega
    · rw [List.take_of_length_le (by omega), List.take_of_length_le (by omega)]
  exact ⟨⟨by omega, by omega⟩, by rw [List.length_take]; omega, by rw [e, cutM]⟩
theorem ok_impl_RecordCut : MCut.ok Try.prog 23 := FM.f3_ok fun d l c h => f_impl_RecordCut d l c h

/-- What makes a word nought. -/
def clr (a : Int) (k : Int) (w : UInt64) : List Raw := if w = 0 then [] else [(a, k, 0)]
def wsM (s : Slot) : List UInt64 := [s.1, s.2.1, s.2.2.1, s.2.2.2.1, s.2.2.2.2.1, s.2.2.2.2.2.1, s.2.2.2.2.2.2]
def clrN (a : Int) (s : Slot) : Nat → List Raw
  | 0 => []
  | k + 1 => clrN a s k ++ clr a k ((wsM s).getD k 0)
def clearM (a : Int) (s : Slot) : List Raw := if okM s then [] else clrN a s 7
def mendM (d : Disk) : List Raw := clearM 1 d.1 ++ clearM 2 d.2
theorem clr_len (a k : Int) (w : UInt64) : (clr a k w).length ≤ 1 := by unfold clr; split <;> simp
theorem clrN_len (a : Int) (s : Slot) : ∀ k, (clrN a s k).length ≤ k
  | 0 => Nat.le_refl _
  | k + 1 => by
    have := clrN_len a s k
    have := clr_len a k ((wsM s).getD k 0)
    simp only [clrN, List.length_append]; omega
theorem clr_no {a k : Int} {w : UInt64} (h : w = 0) : clr a k w = [] := if_pos h
theorem clr_yes {a k : Int} {w : UInt64} (h : ¬ w = 0) : clr a k w = [(a, k, 0)] := if_neg h
theorem u64_zero (w : UInt64) : ((w.toNat : Int) = 0) = (w = 0) := u64_inj w 0

def H_spec_l7Clear : Hint := { fs := [(48, MSlotOk)], kp := [(0, [0, 1]), (1, [0, 3]), (2, [0, 3, 5]), (3, [5]), (4, [0, 3, 5]), (5, [0, 5, 6]), (6, [0, 5, 6, 7]), (8, [0, 5, 6, 7]), (9, [0, 5, 6, 7]), (7, [0, 5, 6, 7]), (10, [5])], an := [], own := true }
attribute [go_sem] H_spec_l7Clear
theorem ok_H_spec_l7Clear : H_spec_l7Clear.ok Try.prog := AllOk.okR (.cons ok_spec_SlotOk .nil) .nil mix
theorem f_l7Clear (a : Int) (s : Slot) : VFun Try.prog 49 [(eInt .i64).enc a, (CE.st cSlot).enc s] [] (oL 0 (clearM a s)) [some (oR cRaw (clearM a s))] := by
  have hc := clrN_len a s
  refine VFun_own (rin := []) (n := 46) (rs := [.tmp 4]) Try.func49 rfl rfl rfl rfl H_spec_l7Clear ok_H_spec_l7Clear (Nat.le_of_ble_eq_true rfl) (by kernel_rfl) ?_
  simp only [go_sem, ↓reduceIte, reduceCtorEq, Nat.reduceAdd, Nat.reduceMul, Nat.reduceEqDiff, Nat.reduceSub, Nat.reduceLT, Nat.reduceLeDiff, Nat.reduceAnd, Nat.reduceShiftRight, Nat.reduceBEq, Nat.reduceBNe, Nat.reduceBneDiff, Nat.reduceBeqDiff, Int.reduceToNat, Int.reduceLE, Int.reduceLT, Int.reduceEq]
  refine ite_intro (fun h1 => by rw [clearM, if_pos h1]; exact ⟨rfl, rfl⟩) fun h1 => ?_
  rw [clearM, if_neg h1]
  refine LoopV.go (H := H_spec_l7Clear) ok_H_spec_l7Clear (by kernel_rfl) (fun k : Nat => ⟨[(0, sc (.int .i64 a)), (5, .x (.o (.h (1, 100) 0 (clrN a s k).length (clrN a s k).length))), (6, .x (.o (.p (1, 101) 0 0 1))), (7, sc (.int .i64 k))], [((1, 100), .row 3 ((clrN a s k).map cRaw.enc)), ((1, 101), .bx [bxSlot s])], 2⟩) (fun k => 7 - k) (fun k => k ≤ 7) ?_ 0 (by omega)
  intro k hk
  have hck := hc k
  have w1 : IntKind.i64.wrap ((k : Int) + 1) = ((k + 1 : Nat) : Int) := by rw [wrap64] <;> omega
  by_cases e0 : k = 0
  · subst e0
    have c1 : (((0 : Nat) : Int) < 7) = True := eq_true (by omega)
    by_cases hz : s.1 = 0
    · simp only [go_sem, ↓reduceIte, reduceCtorEq, Nat.reduceAdd, Nat.reduceMul, Nat.reduceEqDiff, Nat.reduceSub, Nat.reduceLT, Nat.reduceLeDiff, Nat.reduceAnd, Nat.reduceShiftRight, Nat.reduceBEq, Nat.reduceBNe, Nat.reduceBneDiff, Nat.reduceBeqDiff, Int.reduceToNat, Int.reduceLE, Int.reduceLT, Int.reduceEq, c1, u64_zero, eq_true hz, w1]
      exact ⟨by omega, 1, by omega, by omega, by rw [show clrN a s 1 = clrN a s 0 ++ clr a 0 (s.1) from rfl, clr_no hz, List.append_nil] <;> rfl⟩
    · simp only [go_sem, ↓reduceIte, reduceCtorEq, Nat.reduceAdd, Nat.reduceMul, Nat.reduceEqDiff, Nat.reduceSub, Nat.reduceLT, Nat.reduceLeDiff, Nat.reduceAnd, Nat.reduceShiftRight, Nat.reduceBEq, Nat.reduceBNe, Nat.reduceBneDiff, Nat.reduceBeqDiff, Int.reduceToNat, Int.reduceLE, Int.reduceLT, Int.reduceEq, c1, u64_zero, hz, w1]
      exact ⟨by omega, ⟨by omega, by omega⟩, 1, by omega, by omega, by rw [show clrN a s 1 = clrN a s 0 ++ clr a 0 (s.1) from rfl, clr_yes hz, List.length_append, List.map_append]; rfl⟩
  by_cases e1 : k = 1
  · subst e1
    have c1 : (((1 : Nat) : Int) < 7) = True := eq_true (by omega)
    by_cases hz : s.2.1 = 0
    · simp only [go_sem, ↓reduceIte, reduceCtorEq, Nat.reduceAdd, Nat.reduceMul, Nat.reduceEqDiff, Nat.reduceSub, Nat.reduceLT, Nat.reduceLeDiff, Nat.reduceAnd, Nat.reduceShiftRight, Nat.reduceBEq, Nat.reduceBNe, Nat.reduceBneDiff, Nat.reduceBeqDiff, Int.reduceToNat, Int.reduceLE, Int.reduceLT, Int.reduceEq, c1, u64_zero, eq_true hz, w1]
      exact ⟨by omega, 2, by omega, by omega, by rw [show clrN a s 2 = clrN a s 1 ++ clr a 1 (s.2.1) from rfl, clr_no hz, List.append_nil] <;> rfl⟩
    · simp only [go_sem, ↓reduceIte, reduceCtorEq, Nat.reduceAdd, Nat.reduceMul, Nat.reduceEqDiff, Nat.reduceSub, Nat.reduceLT, Nat.reduceLeDiff, Nat.reduceAnd, Nat.reduceShiftRight, Nat.reduceBEq, Nat.reduceBNe, Nat.reduceBneDiff, Nat.reduceBeqDiff, Int.reduceToNat, Int.reduceLE, Int.reduceLT, Int.reduceEq, c1, u64_zero, hz, w1]
      exact ⟨by omega, ⟨by omega, by omega⟩, 2, by omega, by omega, by rw [show clrN a s 2 = clrN a s 1 ++ clr a 1 (s.2.1) from rfl, clr_yes hz, List.length_append, List.map_append]; rfl⟩
  by_cases e2 : k = 2
  · subst e2
    have c1 : (((2 : Nat) : Int) < 7) = True := eq_true (by omega)
    by_cases hz : s.2.2.1 = 0
    · simp only [go_sem, ↓reduceIte, reduceCtorEq, Nat.reduceAdd, Nat.reduceMul, Nat.reduceEqDiff, Nat.reduceSub, Nat.reduceLT, Nat.reduceLeDiff, Nat.reduceAnd, Nat.reduceShiftRight, Nat.reduceBEq, Nat.reduceBNe, Nat.reduceBneDiff, Nat.reduceBeqDiff, Int.reduceToNat, Int.reduceLE, Int.reduceLT, Int.reduceEq, c1, u64_zero, eq_true hz, w1]
      exact ⟨by omega, 3, by omega, by omega, by rw [show clrN a s 3 = clrN a s 2 ++ clr a 2 (s.2.2.1) from rfl, clr_no hz, List.append_nil] <;> rfl⟩
    · simp only [go_sem, ↓reduceIte, reduceCtorEq, Nat.reduceAdd, Nat.reduceMul, Nat.reduceEqDiff, Nat.reduceSub, Nat.reduceLT, Nat.reduceLeDiff, Nat.reduceAnd, Nat.reduceShiftRight, Nat.reduceBEq, Nat.reduceBNe, Nat.reduceBneDiff, Nat.reduceBeqDiff, Int.reduceToNat, Int.reduceLE, Int.reduceLT, Int.reduceEq, c1, u64_zero, hz, w1]
      exact ⟨by omega, ⟨by omega, by omega⟩, 3, by omega, by omega, by rw [show clrN a s 3 = clrN a s 2 ++ clr a 2 (s.2.2.1) from rfl, clr_yes hz, List.length_append, List.map_append]; rfl⟩
  by_cases e3 : k = 3
  · subst e3
    have c1 : (((3 : Nat) : Int) < 7) = True := eq_true (by omega)
    by_cases hz : s.2.2.2.1 = 0
    · simp only [go_sem, ↓reduceIte, reduceCtorEq, Nat.reduceAdd, Nat.reduceMul, Nat.reduceEqDiff, Nat.reduceSub, Nat.reduceLT, Nat.reduceLeDiff, Nat.reduceAnd, Nat.reduceShiftRight, Nat.reduceBEq, Nat.reduceBNe, Nat.reduceBneDiff, Nat.reduceBeqDiff, Int.reduceToNat, Int.reduceLE, Int.reduceLT, Int.reduceEq, c1, u64_zero, eq_true hz, w1]
      exact ⟨by omega, 4, by omega, by omega, by rw [show clrN a s 4 = clrN a s 3 ++ clr a 3 (s.2.2.2.1) from rfl, clr_no hz, List.append_nil] <;> rfl⟩
    · simp only [go_sem, ↓reduceIte, reduceCtorEq, Nat.reduceAdd, Nat.reduceMul, Nat.reduceEqDiff, Nat.reduceSub, Nat.reduceLT, Nat.reduceLeDiff, Nat.reduceAnd, Nat.reduceShiftRight, Nat.reduceBEq, Nat.reduceBNe, Nat.reduceBneDiff, Nat.reduceBeqDiff, Int.reduceToNat, Int.reduceLE, Int.reduceLT, Int.reduceEq, c1, u64_zero, hz, w1]
      exact ⟨by omega, ⟨by omega, by omega⟩, 4, by omega, by omega, by rw [show clrN a s 4 = clrN a s 3 ++ clr a 3 (s.2.2.2.1) from rfl, clr_yes hz, List.length_append, List.map_append]; rfl⟩
  by_cases e4 : k = 4
  · subst e4
    have c1 : (((4 : Nat) : Int) < 7) = True := eq_true (by omega)
    by_cases hz : s.2.2.2.2.1 = 0
    · simp only [go_sem, ↓reduceIte, reduceCtorEq, Nat.reduceAdd, Nat.reduceMul, Nat.reduceEqDiff, Nat.reduceSub, Nat.reduceLT, Nat.reduceLeDiff, Nat.reduceAnd, Nat.reduceShiftRight, Nat.reduceBEq, Nat.reduceBNe, Nat.reduceBneDiff, Nat.reduceBeqDiff, Int.reduceToNat, Int.reduceLE, Int.reduceLT, Int.reduceEq, c1, u64_zero, eq_true hz, w1]
      exact ⟨by omega, 5, by omega, by omega, by rw [show clrN a s 5 = clrN a s 4 ++ clr a 4 (s.2.2.2.2.1) from rfl, clr_no hz, List.append_nil] <;> rfl⟩
    · simp only [go_sem, ↓reduceIte, reduceCtorEq, Nat.reduceAdd, Nat.reduceMul, Nat.reduceEqDiff, Nat.reduceSub, Nat.reduceLT, Nat.reduceLeDiff, Nat.reduceAnd, Nat.reduceShiftRight, Nat.reduceBEq, Nat.reduceBNe, Nat.reduceBneDiff, Nat.reduceBeqDiff, Int.reduceToNat, Int.reduceLE, Int.reduceLT, Int.reduceEq, c1, u64_zero, hz, w1]
      exact ⟨by omega, ⟨by omega, by omega⟩, 5, by omega, by omega, by rw [show clrN a s 5 = clrN a s 4 ++ clr a 4 (s.2.2.2.2.1) from rfl, clr_yes hz, List.length_append, List.map_append]; rfl⟩
  by_cases e5 : k = 5
  · subst e5
    have c1 : (((5 : Nat) : Int) < 7) = True := eq_true (by omega)
    by_cases hz : s.2.2.2.2.2.1 = 0
    · simp only [go_sem, ↓reduceIte, reduceCtorEq, Nat.reduceAdd, Nat.reduceMul, Nat.reduceEqDiff, Nat.reduceSub, Nat.reduceLT, Nat.reduceLeDiff, Nat.reduceAnd, Nat.reduceShiftRight, Nat.reduceBEq, Nat.reduceBNe, Nat.reduceBneDiff, Nat.reduceBeqDiff, Int.reduceToNat, Int.reduceLE, Int.reduceLT, Int.reduceEq, c1, u64_zero, eq_true hz, w1]
      exact ⟨by omega, 6, by omega, by omega, by rw [show clrN a s 6 = clrN a s 5 ++ clr a 5 (s.2.2.2.2.2.1) from rfl, clr_no hz, List.append_nil] <;> rfl⟩
    · simp only [go_sem, ↓reduceIte, reduceCtorEq, Nat.reduceAdd, Nat.reduceMul, Nat.reduceEqDiff, Nat.reduceSub, Nat.reduceLT, Nat.reduceLeDiff, Nat.reduceAnd, Nat.reduceShiftRight, Nat.reduceBEq, Nat.reduceBNe, Nat.reduceBneDiff, Nat.reduceBeqDiff, Int.reduceToNat, Int.reduceLE, Int.reduceLT, Int.reduceEq, c1, u64_zero, hz, w1]
      exact ⟨by omega, ⟨by omega, by omega⟩, 6, by omega, by omega, by rw [show clrN a s 6 = clrN a s 5 ++ clr a 5 (s.2.2.2.2.2.1) from rfl, clr_yes hz, List.length_append, List.map_append]; rfl⟩
  by_cases e6 : k = 6
  · subst e6
    have c1 : (((6 : Nat) : Int) < 7) = True := eq_true (by omega)
    by_cases hz : s.2.2.2.2.2.2 = 0
    · simp only [go_sem, ↓reduceIte, reduceCtorEq, Nat.reduceAdd, Nat.reduceMul, Nat.reduceEqDiff, Nat.reduceSub, Nat.reduceLT, Nat.reduceLeDiff, Nat.reduceAnd, Nat.reduceShiftRight, Nat.reduceBEq, Nat.reduceBNe, Nat.reduceBneDiff, Nat.reduceBeqDiff, Int.reduceToNat, Int.reduceLE, Int.reduceLT, Int.reduceEq, c1, u64_zero, eq_true hz, w1]
      exact ⟨by omega, 7, by omega, by omega, by rw [show clrN a s 7 = clrN a s 6 ++ clr a 6 (s.2.2.2.2.2.2) from rfl, clr_no hz, List.append_nil] <;> rfl⟩
    · simp only [go_sem, ↓reduceIte, reduceCtorEq, Nat.reduceAdd, Nat.reduceMul, Nat.reduceEqDiff, Nat.reduceSub, Nat.reduceLT, Nat.reduceLeDiff, Nat.reduceAnd, Nat.reduceShiftRight, Nat.reduceBEq, Nat.reduceBNe, Nat.reduceBneDiff, Nat.reduceBeqDiff, Int.reduceToNat, Int.reduceLE, Int.reduceLT, Int.reduceEq, c1, u64_zero, hz, w1]
      exact ⟨by omega, ⟨by omega, by omega⟩, 7, by omega, by omega, by rw [show clrN a s 7 = clrN a s 6 ++ clr a 6 (s.2.2.2.2.2.2) from rfl, clr_yes hz, List.length_append, List.map_append]; rfl⟩
  obtain rfl : k = 7 := by omega
  have c1 : (((7 : Nat) : Int) < 7) = False := eq_false (by omega)
  simp only [go_sem, ↓reduceIte, reduceCtorEq, Nat.reduceAdd, Nat.reduceMul, Nat.reduceEqDiff, Nat.reduceSub, Nat.reduceLT, Nat.reduceLeDiff, Nat.reduceAnd, Nat.reduceShiftRight, Nat.reduceBEq, Nat.reduceBNe, Nat.reduceBneDiff, Nat.reduceBeqDiff, Int.reduceToNat, Int.reduceLE, Int.reduceLT, Int.reduceEq, c1]
abbrev OClear : FM := .g2 (eInt .i64) (CE.st cSlot) (fun a s => (oL 0 (clearM a s), [some (oR cRaw (clearM a s))])) (fun _ _ => True)
attribute [go_sem] OClear
theorem ok_spec_l7Clear : OClear.ok Try.prog 49 := FM.g2_ok fun a s _ => f_l7Clear a s

end Go.Proofs.YtgdbammhnjkbbaaW.V

