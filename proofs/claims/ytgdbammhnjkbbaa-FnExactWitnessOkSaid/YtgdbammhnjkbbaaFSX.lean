/- Functions: what is written onto a disk. No condition but each theorem's own. -/
import Derived.Test.YtgdbammhnjkbbaaFSW
namespace Go.Proofs.YtgdbammhnjkbbaaW.V
open Go Go.Proofs
set_option linter.unusedSimpArgs false
set_option linter.unusedVariables false
set_option maxRecDepth 8000
set_option maxHeartbeats 4000000

abbrev bxSlot (s : Slot) : List D := [.c (.v (.int .u64 s.1.toNat)), .c (.v (.int .u64 s.2.1.toNat)), .c (.v (.int .u64 s.2.2.1.toNat)), .c (.v (.int .u64 s.2.2.2.1.toNat)), .c (.v (.int .u64 s.2.2.2.2.1.toNat)), .c (.v (.int .u64 s.2.2.2.2.2.1.toNat)), .c (.v (.int .u64 s.2.2.2.2.2.2.toNat))]
abbrev bx0 : List D := [.c (.v (.int .u64 0)), .c (.v (.int .u64 0)), .c (.v (.int .u64 0)), .c (.v (.int .u64 0)), .c (.v (.int .u64 0)), .c (.v (.int .u64 0)), .c (.v (.int .u64 0))]
abbrev bxDisk (d : Disk) : Root := .bx [[.c (.v (.int .u64 d.1.1.toNat)), .c (.v (.int .u64 d.1.2.1.toNat)), .c (.v (.int .u64 d.1.2.2.1.toNat)), .c (.v (.int .u64 d.1.2.2.2.1.toNat)), .c (.v (.int .u64 d.1.2.2.2.2.1.toNat)), .c (.v (.int .u64 d.1.2.2.2.2.2.1.toNat)), .c (.v (.int .u64 d.1.2.2.2.2.2.2.toNat)),
  .c (.v (.int .u64 d.2.1.toNat)), .c (.v (.int .u64 d.2.2.1.toNat)), .c (.v (.int .u64 d.2.2.2.1.toNat)), .c (.v (.int .u64 d.2.2.2.2.1.toNat)), .c (.v (.int .u64 d.2.2.2.2.2.1.toNat)), .c (.v (.int .u64 d.2.2.2.2.2.2.1.toNat)), .c (.v (.int .u64 d.2.2.2.2.2.2.2.toNat))]]
abbrev bx00 : Root := .bx [bx0 ++ bx0]
attribute [go_sem] bxDisk bx00 bx0

theorem writeM_take {l : List Raw} {d : Disk} {i : Nat} {r : Raw} (h : l[i]? = some r) : writeM d (l.take (i + 1)) = wr1 (writeM d (l.take i)) r := by
  rw [List.take_add_one, h, writeM, List.foldl_append]; rfl

def H_spec_DiskWrite : Hint := { fs := [(74, MPut)], kp := [(0, [0, 1]), (1, [1, 2, 4]), (2, [1, 2, 4, 5]), (4, [1, 2, 4, 5]), (5, [1, 2, 4, 5, 6]), (6, [1, 2, 4, 5, 6]), (7, [1, 2, 4, 5, 6]), (8, [1, 2, 4, 5, 6]), (3, [1, 2, 4, 5]), (9, [2, 4])], an := [] }
attribute [go_sem] H_spec_DiskWrite
theorem ok_H_spec_DiskWrite : H_spec_DiskWrite.ok Try.prog := AllOk.okR (.cons ok_spec_l7Put .nil) .nil mix
theorem f_spec_DiskWrite (d : Disk) (l : List Raw) (hl : l.length ≤ 1000000) : VFun Try.prog 70 [(CE.st cDisk).enc d, (eList cRaw).enc l] [] ((CE.st cDisk).enc (writeM d l)) [] := by
  refine VFun_pure (n := 40) (rs := [.cell 4 35]) Try.func70 rfl rfl rfl rfl H_spec_DiskWrite ok_H_spec_DiskWrite _ _ (Nat.le_of_ble_eq_true rfl) (by kernel_rfl) ?_
  simp only [go_sem, ↓reduceIte, reduceCtorEq, Nat.reduceAdd, Nat.reduceMul, Nat.reduceEqDiff, Nat.reduceSub, Nat.reduceLT, Nat.reduceLeDiff, Nat.reduceAnd, Nat.reduceShiftRight, Nat.reduceBEq, Nat.reduceBNe, Nat.reduceBneDiff, Nat.reduceBeqDiff, Int.reduceToNat, Int.reduceLE, Int.reduceLT, Int.reduceEq]
  refine LoopV.go (H := H_spec_DiskWrite) ok_H_spec_DiskWrite (by kernel_rfl) (fun y : Nat × Disk => ⟨[(1, .x (.o (.c (.s (l.map cRaw.enc))))), (2, .x (.o (.p (1, 100) 0 0 1))), (4, .x (.o (.p (1, 101) 0 0 1))), (5, sc (.int .i64 y.1))], [((1, 100), bxDisk y.2), ((1, 101), bx00)], 2⟩) (fun y => l.length - y.1) (fun y => y.1 ≤ l.length ∧ y.2 = writeM d (l.take y.1)) ?_ (0, d) ⟨by omega, rfl⟩
  rintro ⟨i, e⟩ ⟨hi, he⟩
  dsimp only at hi he
  by_cases hlt : i < l.length
  · obtain ⟨r, hx⟩ : ∃ r, l[i]? = some r := ⟨_, List.getElem?_eq_getElem hlt⟩
    have ht := writeM_take (d := d) hx
    rw [← he] at ht
    have c1 : ((i : Int) < (l.length : Int)) = True := eq_true (by omega)
    have w1 : IntKind.i64.wrap ((i : Int) + 1) = ((i + 1 : Nat) : Int) := by rw [wrap64] <;> omega
    obtain ⟨s, w, v⟩ := r
    by_cases h1 : s = 1
    · subst h1
      simp only [go_sem, ↓reduceIte, reduceCtorEq, Nat.reduceAdd, Nat.reduceMul, Nat.reduceEqDiff, Nat.reduceSub, Nat.reduceLT, Nat.reduceLeDiff, Nat.reduceAnd, Nat.reduceShiftRight, Nat.reduceBEq, Nat.reduceBNe, Nat.reduceBneDiff, Nat.reduceBeqDiff, Int.reduceToNat, Int.reduceLE, Int.reduceLT, Int.reduceEq, c1, hx, w1]
      exact ⟨(i + 1, wr1 e (1, w, v)), ⟨by dsimp only; omega, ht.symm⟩, by dsimp only; omega, rfl⟩
    · by_cases h2 : s = 2
      · subst h2
        simp only [go_sem, ↓reduceIte, reduceCtorEq, Nat.reduceAdd, Nat.reduceMul, Nat.reduceEqDiff, Nat.reduceSub, Nat.reduceLT, Nat.reduceLeDiff, Nat.reduceAnd, Nat.reduceShiftRight, Nat.reduceBEq, Nat.reduceBNe, Nat.reduceBneDiff, Nat.reduceBeqDiff, Int.reduceToNat, Int.reduceLE, Int.reduceLT, Int.reduceEq, c1, hx, w1]
        exact ⟨(i + 1, wr1 e (2, w, v)), ⟨by dsimp only; omega, ht.symm⟩, by dsimp only; omega, rfl⟩
      · simp only [go_sem, ↓reduceIte, reduceCtorEq, Nat.reduceAdd, Nat.reduceMul, Nat.reduceEqDiff, Nat.reduceSub, Nat.reduceLT, Nat.reduceLeDiff, Nat.reduceAnd, Nat.reduceShiftRight, Nat.reduceBEq, Nat.reduceBNe, Nat.reduceBneDiff, Nat.reduceBeqDiff, Int.reduceToNat, Int.reduceLE, Int.reduceLT, Int.reduceEq, c1, hx, w1, h1, h2]
        refine ⟨(i + 1, e), ⟨by dsimp only; omega, ?_⟩, by dsimp only; omega, rfl⟩
        rw [ht]; simp only [wr1, if_neg h1, if_neg h2]
  · have c1 : ((i : Int) < (l.length : Int)) = False := eq_false (by omega)
    simp only [go_sem, ↓reduceIte, reduceCtorEq, Nat.reduceAdd, Nat.reduceMul, Nat.reduceEqDiff, Nat.reduceSub, Nat.reduceLT, Nat.reduceLeDiff, Nat.reduceAnd, Nat.reduceShiftRight, Nat.reduceBEq, Nat.reduceBNe, Nat.reduceBneDiff, Nat.reduceBeqDiff, Int.reduceToNat, Int.reduceLE, Int.reduceLT, Int.reduceEq, c1]
    rw [he, List.take_of_length_le (by omega)]
abbrev MWrite : FM := .f2 (CE.st cDisk) (eList cRaw) (CE.st cDisk).enc writeM (fun _ l => l.length ≤ 1000000)
attribute [go_sem] MWrite
theorem ok_spec_DiskWrite : MWrite.ok Try.prog 70 := FM.f2_ok fun d l h => f_spec_DiskWrite d l h

theorem putM_off {s : Slot} {w : Int} {v : UInt64} (h : ¬ (0 ≤ w ∧ w ≤ 6)) : putM s w v = s := by
  unfold putM
  rw [if_neg (by omega), if_neg (by omega), if_neg (by omega), if_neg (by omega), if_neg (by omega), if_neg (by omega), if_neg (by omega)]
theorem wr1_off {d : Disk} {s w : Int} {v : UInt64} (h : ¬ (0 ≤ w ∧ w ≤ 6)) : wr1 d (s, w, v) = d := by
  simp only [wr1, putM_off h]
  split
  · rfl
  · split <;> rfl

def H_impl_DiskWrite : Hint := { fs := [(33, M166), (35, MWords)], kp := [(0, [0, 1]), (1, [1, 2, 4]), (2, [2, 4, 7, 8, 9]), (3, [2, 4, 7, 8, 9]), (4, [2, 4, 6, 7, 8, 9]), (5, [2, 4, 6, 7, 8, 9]), (6, [2, 4, 6, 7, 8, 9, 18]), (7, [2, 4, 6, 7, 8, 9]), (8, [2, 4, 6, 7, 8, 9, 18]), (9, [2, 4, 6, 7, 8, 9]), (10, [2, 4, 7, 8, 9]), (11, [2, 4])], an := [(7, [0, 1, 0, 4, 15, 31, 0, 64, 255, 511]), (9, [0, 1, 0, 4, 15, 31, 0, 64, 255, 511])] }
attribute [go_sem] H_impl_DiskWrite
theorem ok_H_impl_DiskWrite : H_impl_DiskWrite.ok Try.prog := AllOk.okR (.cons m180 (.cons ok_impl_Slot_words .nil)) .nil mix
theorem f_impl_DiskWrite (d : Disk) (l : List Raw) (hl : l.length ≤ 1000000) : VFun Try.prog 24 [(CE.st cDisk).enc d, (eList cRaw).enc l] [] ((CE.st cDisk).enc (writeM d l)) [] := by
  refine VFun_pure (n := 43) (rs := [.cell 4 35]) Try.func24 rfl rfl rfl rfl H_impl_DiskWrite ok_H_impl_DiskWrite _ _ (Nat.le_of_ble_eq_true rfl) (by kernel_rfl) ?_
  simp only [go_sem, ↓reduceIte, reduceCtorEq, Nat.reduceAdd, Nat.reduceMul, Nat.reduceEqDiff, Nat.reduceSub, Nat.reduceLT, Nat.reduceLeDiff, Nat.reduceAnd, Nat.reduceShiftRight, Nat.reduceBEq, Nat.reduceBNe, Nat.reduceBneDiff, Nat.reduceBeqDiff, Int.reduceToNat, Int.reduceLE, Int.reduceLT, Int.reduceEq]
  refine LoopV.go (H := H_impl_DiskWrite) ok_H_impl_DiskWrite (by kernel_rfl) (fun y : Nat × Disk => ⟨[(2, .x (.o (.p (1, 100) 0 0 1))), (4, .x (.o (.p (1, 101) 0 0 1))), (7, .x (.o (.c (.s (l.map cRaw.enc))))), (8, sc (.int .i64 l.length)), (9, sc (.int .i64 y.1))], [((1, 100), bxDisk y.2), ((1, 101), bx00)], 2⟩) (fun y => l.length - y.1) (fun y => y.1 ≤ l.length ∧ y.2 = writeM d (l.take y.1)) ?_ (0, d) ⟨by omega, rfl⟩
  rintro ⟨i, e⟩ ⟨hi, he⟩
  dsimp only at hi he
  by_cases hlt : i < l.length
  · obtain ⟨r, hx⟩ : ∃ r, l[i]? = some r := ⟨_, List.getElem?_eq_getElem hlt⟩
    have ht := writeM_take (d := d) hx
    rw [← he] at ht
    have c1 : ((i : Int) < (l.length : Int)) = True := eq_true (by omega)
    have w1 : IntKind.i64.wrap ((i : Int) + 1) = ((i + 1 : Nat) : Int) := by rw [wrap64] <;> omega
    obtain ⟨s, w, v⟩ := r
    by_cases hw : 0 ≤ w ∧ w ≤ 6
    · by_cases h1 : s = 1
      · subst h1
        obtain rfl | rfl | rfl | rfl | rfl | rfl | rfl : w = 0 ∨ w = 1 ∨ w = 2 ∨ w = 3 ∨ w = 4 ∨ w = 5 ∨ w = 6 := by omega
        all_goals simp only [go_sem, ↓reduceIte, reduceCtorEq, Nat.reduceAdd, Nat.reduceMul, Nat.reduceEqDiff, Nat.reduceSub, Nat.reduceLT, Nat.reduceLeDiff, Nat.reduceAnd, Nat.reduceShiftRight, Nat.reduceBEq, Nat.reduceBNe, Nat.reduceBneDiff, Nat.reduceBeqDiff, Int.reduceToNat, Int.reduceLE, Int.reduceLT, Int.reduceEq, c1, hx, w1]
        all_goals exact ⟨(i + 1, _), ⟨by dsimp only; omega, ht.symm⟩, by dsimp only; omega, rfl⟩
      · by_cases h2 : s = 2
        · subst h2
          obtain rfl | rfl | rfl | rfl | rfl | rfl | rfl : w = 0 ∨ w = 1 ∨ w = 2 ∨ w = 3 ∨ w = 4 ∨ w = 5 ∨ w = 6 := by omega
          all_goals simp only [go_sem, ↓reduceIte, reduceCtorEq, Nat.reduceAdd, Nat.reduceMul, Nat.reduceEqDiff, Nat.reduceSub, Nat.reduceLT, Nat.reduceLeDiff, Nat.reduceAnd, Nat.reduceShiftRight, Nat.reduceBEq, Nat.reduceBNe, Nat.reduceBneDiff, Nat.reduceBeqDiff, Int.reduceToNat, Int.reduceLE, Int.reduceLT, Int.reduceEq, c1, hx, w1]
          all_goals exact ⟨(i + 1, _), ⟨by dsimp only; omega, ht.symm⟩, by dsimp only; omega, rfl⟩
        · simp only [go_sem, ↓reduceIte, reduceCtorEq, Nat.reduceAdd, Nat.reduceMul, Nat.reduceEqDiff, Nat.reduceSub, Nat.reduceLT, Nat.reduceLeDiff, Nat.reduceAnd, Nat.reduceShiftRight, Nat.reduceBEq, Nat.reduceBNe, Nat.reduceBneDiff, Nat.reduceBeqDiff, Int.reduceToNat, Int.reduceLE, Int.reduceLT, Int.reduceEq, c1, hx, w1, h1, h2, hw]
          refine ⟨(i + 1, e), ⟨by dsimp only; omega, ?_⟩, by dsimp only; omega, rfl⟩
          rw [ht]; simp only [wr1, if_neg h1, if_neg h2]
    · simp only [go_sem, ↓reduceIte, reduceCtorEq, Nat.reduceAdd, Nat.reduceMul, Nat.reduceEqDiff, Nat.reduceSub, Nat.reduceLT, Nat.reduceLeDiff, Nat.reduceAnd, Nat.reduceShiftRight, Nat.reduceBEq, Nat.reduceBNe, Nat.reduceBneDiff, Nat.reduceBeqDiff, Int.reduceToNat, Int.reduceLE, Int.reduceLT, Int.reduceEq, c1, hx, w1, hw]
      exact ⟨(i + 1, e), ⟨by dsimp only; omega, by rw [ht, wr1_off hw]⟩, by dsimp only; omega, rfl⟩
  · have c1 : ((i : Int) < (l.length : Int)) = False := eq_false (by omega)
    simp only [go_sem, ↓reduceIte, reduceCtorEq, Nat.reduceAdd, Nat.reduceMul, Nat.reduceEqDiff, Nat.reduceSub, Nat.reduceLT, Nat.reduceLeDiff, Nat.reduceAnd, Nat.reduceShiftRight, Nat.reduceBEq, Nat.reduceBNe, Nat.reduceBneDiff, Nat.reduceBeqDiff, Int.reduceToNat, Int.reduceLE, Int.reduceLT, Int.reduceEq, c1]
    rw [he, List.take_of_length_le (by omega)]
theorem ok_impl_DiskWrite : MWrite.ok Try.prog 24 := FM.f2_ok fun d l h => f_impl_DiskWrite d l h

end Go.Proofs.YtgdbammhnjkbbaaW.V

