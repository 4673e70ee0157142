/- Functions: what mends a disk. No condition but each theorem's own. -/
import Derived.Test.YtgdbammhnjkbbaaFSY
namespace Go.Proofs.YtgdbammhnjkbbaaW.V
open Go Go.Proofs
set_option linter.unusedSimpArgs false
set_option linter.unusedVariables false
set_option maxRecDepth 8000
set_option maxHeartbeats 4000000

theorem clearM_len (a : Int) (s : Slot) : (clearM a s).length ≤ 7 := by
  unfold clearM
  split
  · simp
  · exact clrN_len a s 7
theorem mendM_len (d : Disk) : (mendM d).length ≤ 14 := by
  have := clearM_len 1 d.1
  have := clearM_len 2 d.2
  rw [mendM, List.length_append]; omega

def H_spec_RecordMend : Hint := { fs := [(49, OClear)], kp := [(0, [0]), (1, [1]), (2, [1, 3]), (3, [3, 4]), (4, [3, 4, 5]), (6, [3, 4, 5]), (5, [3, 4, 5]), (7, [3])], an := [] }
attribute [go_sem] H_spec_RecordMend
theorem ok_H_spec_RecordMend : H_spec_RecordMend.ok Try.prog := AllOk.okR (.cons ok_spec_l7Clear .nil) .nil mix
theorem f_spec_RecordMend (d : Disk) : VFun Try.prog 27 [(CE.st cDisk).enc d] [] ((eList cRaw).enc (mendM d)) [] := by
  have h1 := clearM_len 1 d.1
  have h2 := clearM_len 2 d.2
  have hm : mendM d = clearM 1 d.1 ++ clearM 2 d.2 := rfl
  refine VFun_pure (n := 26) (rs := [.tmp 2]) Try.func27 rfl rfl rfl rfl H_spec_RecordMend ok_H_spec_RecordMend _ _ (Nat.le_of_ble_eq_true rfl) (by kernel_rfl) ?_
  simp only [go_sem, ↓reduceIte, reduceCtorEq, Nat.reduceAdd, Nat.reduceMul, Nat.reduceEqDiff, Nat.reduceSub, Nat.reduceLT, Nat.reduceLeDiff, Nat.reduceAnd, Nat.reduceShiftRight, Nat.reduceBEq, Nat.reduceBNe, Nat.reduceBneDiff, Nat.reduceBeqDiff, Int.reduceToNat, Int.reduceLE, Int.reduceLT, Int.reduceEq]
  rw [hm]
  generalize clearM 1 d.1 = x at h1 ⊢
  generalize clearM 2 d.2 = y at h2 ⊢
  refine LoopV.go (H := H_spec_RecordMend) ok_H_spec_RecordMend (by kernel_rfl) (fun i : Nat => ⟨[(3, .x (.o (.h (1, 100) 0 (x ++ y.take i).length (x ++ y.take i).length))), (4, .x (.o (.h (1, 101) 0 y.length y.length))), (5, sc (.int .i64 i))], [((1, 100), .row 3 ((x ++ y.take i).map cRaw.enc)), ((1, 101), .row 3 (y.map cRaw.enc))], 2⟩) (fun i => y.length - i) (fun i => i ≤ y.length) ?_ 0 (by omega) (by simp [sc])
  intro i hi
  have hlen : (x ++ y.take i).length ≤ 14 := by simp; omega
  have w1 : IntKind.i64.wrap ((i : Int) + 1) = ((i + 1 : Nat) : Int) := by rw [wrap64] <;> omega
  by_cases hlt : i < y.length
  · obtain ⟨r, hx⟩ : ∃ r, y[i]? = some r := ⟨_, List.getElem?_eq_getElem hlt⟩
    have c1 : ((i : Int) < (y.length : Int)) = True := eq_true (by omega)
    have e : x ++ y.take (i + 1) = x ++ y.take i ++ [r] := by rw [List.take_add_one, hx, List.append_assoc]; rfl
    simp only [go_sem, ↓reduceIte, reduceCtorEq, Nat.reduceAdd, Nat.reduceMul, Nat.reduceEqDiff, Nat.reduceSub, Nat.reduceLT, Nat.reduceLeDiff, Nat.reduceAnd, Nat.reduceShiftRight, Nat.reduceBEq, Nat.reduceBNe, Nat.reduceBneDiff, Nat.reduceBeqDiff, Int.reduceToNat, Int.reduceLE, Int.reduceLT, Int.reduceEq, c1, hx, w1, eq_true hlt]
    rw [List.length_append] at hlen
    have e2 : x.length + (y.take i).length + 1 = x.length + (y.take (i + 1)).length := by simp only [List.length_take]; omega
    exact ⟨⟨by omega, by omega⟩, i + 1, hlt, by omega, by rw [e, e2, List.map_append (l₁ := x ++ y.take i)]; rfl⟩
  · have c1 : ((i : Int) < (y.length : Int)) = False := eq_false (by omega)
    simp only [go_sem, ↓reduceIte, reduceCtorEq, Nat.reduceAdd, Nat.reduceMul, Nat.reduceEqDiff, Nat.reduceSub, Nat.reduceLT, Nat.reduceLeDiff, Nat.reduceAnd, Nat.reduceShiftRight, Nat.reduceBEq, Nat.reduceBNe, Nat.reduceBneDiff, Nat.reduceBeqDiff, Int.reduceToNat, Int.reduceLE, Int.reduceLT, Int.reduceEq, c1]
    rw [List.take_of_length_le (by omega)]
abbrev MMend : FM := .f1 (CE.st cDisk) (eList cRaw).enc mendM (fun _ => True)
attribute [go_sem] MMend
theorem ok_spec_RecordMend : MMend.ok Try.prog 27 := FM.f1_ok fun d _ => f_spec_RecordMend d

def mendN (d : Disk) : Nat → List Raw
  | 0 => []
  | 1 => clearM 1 d.1
  | _ => mendM d

def mendL (d : Disk) (j : Nat) (s : Slot) (k : Nat) : List Raw := mendN d j ++ clrN ((j + 1 : Nat) : Int) s k
theorem mendL_0 (d j s) : mendN d j = mendL d j s 0 := (List.append_nil _).symm
theorem mendL_len (d j s) (h : (mendN d j).length ≤ 14) : ∀ k, k ≤ 7 → (mendL d j s k).length ≤ 21 := fun k hk => by
  have := clrN_len ((j + 1 : Nat) : Int) s k
  rw [mendL, List.length_append]; omega
theorem mendL_succ (d j s) : ∀ k, mendL d j s (k + 1) = mendL d j s k ++ clr ((j + 1 : Nat) : Int) k ((wsM s).getD k 0) := fun k => by
  rw [mendL, mendL, clrN, List.append_assoc]

def H_impl_RecordMend : Hint := { fs := [(28, MSlotOk), (35, MWords), (36, OCopied_raw)], kp := [(0, [0]), (1, [1]), (2, [1, 3]), (3, [3, 12, 13, 14]), (4, [3, 12, 13, 14]), (5, [3, 4, 5, 12, 13, 14]), (6, [3, 4, 5, 12, 13, 14]), (7, [3, 4, 12, 13, 14, 21, 22, 23]), (8, [3, 4, 12, 13, 14, 21, 22, 23]), (9, [3, 4, 6, 7, 12, 13, 14, 21, 22, 23]), (10, [3, 4, 6, 12, 13, 14, 21, 22, 23]), (11, [3, 4, 12, 13, 14, 21, 22, 23]), (12, [3, 12, 13, 14]), (13, [3])], an := [], own := true, nl := [(2, [(3, 3)])] }
attribute [go_sem] H_impl_RecordMend
theorem ok_H_impl_RecordMend : H_impl_RecordMend.ok Try.prog := AllOk.okR (.cons ok_impl_SlotOk (.cons ok_impl_Slot_words (.cons ok_impl_copied_impl_Raw .nil))) .nil mix
theorem f_impl_RecordMend (d : Disk) : VFun Try.prog 26 [(CE.st cDisk).enc d] [] (oL 0 (mendM d)) [some (oR cRaw (mendM d))] := by
  have hml := mendM_len d
  have hl : ∀ j, (mendN d j).length ≤ 14 := fun j => by
    unfold mendN
    split
    · simp
    · exact Nat.le_trans (clearM_len 1 d.1) (by omega)
    · exact hml
  refine VFun_own (rin := []) (n := 43) (rs := [.tmp 2]) Try.func26 rfl rfl rfl rfl H_impl_RecordMend ok_H_impl_RecordMend (Nat.le_of_ble_eq_true rfl) (by kernel_rfl) ?_
  simp only [go_sem, ↓reduceIte, reduceCtorEq, Nat.reduceAdd, Nat.reduceMul, Nat.reduceEqDiff, Nat.reduceSub, Nat.reduceLT, Nat.reduceLeDiff, Nat.reduceAnd, Nat.reduceShiftRight, Nat.reduceBEq, Nat.reduceBNe, Nat.reduceBneDiff, Nat.reduceBeqDiff, Int.reduceToNat, Int.reduceLE, Int.reduceLT, Int.reduceEq]
  refine LoopV.go (H := H_impl_RecordMend) ok_H_impl_RecordMend (by kernel_rfl) (fun j : Nat => ⟨[(3, .x (.o (.h (1, 100) 0 (mendN d j).length (mendN d j).length))), (12, .x (.o (.h (1, 101) 0 2 2))), (13, sc (.int .i64 2)), (14, sc (.int .i64 j))], [((1, 100), .row 3 ((mendN d j).map cRaw.enc)), ((1, 101), .row 7 ([d.1, d.2].map cSlot.enc))], 2⟩) (fun j => 2 - j) (fun j => j ≤ 2) ?_ 0 (by omega)
  intro j hj
  have hlj := hl j
  by_cases hlt : j < 2
  · obtain ⟨s, hs, hm⟩ : ∃ s, [d.1, d.2][j]? = some s ∧ mendN d (j + 1) = mendN d j ++ clearM ((j + 1 : Nat) : Int) s := by
      obtain rfl | rfl : j = 0 ∨ j = 1 := by omega
      · exact ⟨_, rfl, rfl⟩
      · exact ⟨_, rfl, rfl⟩
    have c1 : ((j : Int) < 2) = True := eq_true (by omega)
    have w1 : IntKind.i64.wrap ((j : Int) + 1) = ((j + 1 : Nat) : Int) := by rw [wrap64] <;> omega
    have w2 : IntKind.i64.wrap ((j : Int) + 1) = (j : Int) + 1 := by rw [wrap64] <;> omega
    have hds : [d.1, d.2].length = 2 := rfl
    generalize [d.1, d.2] = ds at hs hds ⊢
    simp only [go_sem, ↓reduceIte, reduceCtorEq, Nat.reduceAdd, Nat.reduceMul, Nat.reduceEqDiff, Nat.reduceSub, Nat.reduceLT, Nat.reduceLeDiff, Nat.reduceAnd, Nat.reduceShiftRight, Nat.reduceBEq, Nat.reduceBNe, Nat.reduceBneDiff, Nat.reduceBeqDiff, Int.reduceToNat, Int.reduceLE, Int.reduceLT, Int.reduceEq, c1, hs, w1, hds, eq_true hlt]
    refine ite_intro (fun h1 => ?_) fun h1 => ?_
    · rw [clearM, if_pos h1, List.append_nil] at hm
      exact ⟨j + 1, by omega, by omega, by rw [hm]⟩
    rw [clearM, if_neg h1] at hm
    have h0 := mendL_0 d j s
    have hlL := mendL_len d j s hlj
    have hLs := mendL_succ d j s
    have h7 : mendN d (j + 1) = mendL d j s 7 := hm
    refine LoopV.go (H := H_impl_RecordMend) ok_H_impl_RecordMend (by kernel_rfl) (fun k : Nat => ⟨[(3, .x (.o (.h (1, 100) 0 (mendL d j s k).length (mendL d j s k).length))), (4, sc (.int .i64 j)), (12, .x (.o (.h (1, 101) 0 2 2))), (13, sc (.int .i64 2)), (14, sc (.int .i64 j)), (21, .x (.o (.h (1, 102) 0 7 7))), (22, sc (.int .i64 7)), (23, sc (.int .i64 k))], [((1, 100), .row 3 ((mendL d j s k).map cRaw.enc)), ((1, 101), .row 7 (ds.map cSlot.enc)), ((1, 102), .bx [[.p (1, 103) 0 0 1], [.p (1, 103) 0 1 1], [.p (1, 103) 0 2 1], [.p (1, 103) 0 3 1], [.p (1, 103) 0 4 1], [.p (1, 103) 0 5 1], [.p (1, 103) 0 6 1]]), ((1, 103), .bx [bxSlot s])], 2⟩) (fun k => 7 - k) (fun k => k ≤ 7) ?_ 0 (by omega) (by rw [h0]; rfl)
    intro k hk
    have hck := hlL k hk
    have hL1 := hLs k
    by_cases e0 : k = 0
    · subst e0
      have c1 : (((0 : Nat) : Int) < 7) = True := eq_true (by omega)
      by_cases hz : s.1 = 0
      · simp only [go_sem, ↓reduceIte, reduceCtorEq, Nat.reduceAdd, Nat.reduceMul, Nat.reduceEqDiff, Nat.reduceSub, Nat.reduceLT, Nat.reduceLeDiff, Nat.reduceAnd, Nat.reduceShiftRight, Nat.reduceBEq, Nat.reduceBNe, Nat.reduceBneDiff, Nat.reduceBeqDiff, Int.reduceToNat, Int.reduceLE, Int.reduceLT, Int.reduceEq, c1, u64_zero, eq_true hz, w1]
        exact ⟨1, by omega, by omega, by rw [hLs 0, show (wsM s).getD 0 0 = s.1 from rfl, clr_no hz, List.append_nil] <;> rfl⟩
      · simp only [go_sem, ↓reduceIte, reduceCtorEq, Nat.reduceAdd, Nat.reduceMul, Nat.reduceEqDiff, Nat.reduceSub, Nat.reduceLT, Nat.reduceLeDiff, Nat.reduceAnd, Nat.reduceShiftRight, Nat.reduceBEq, Nat.reduceBNe, Nat.reduceBneDiff, Nat.reduceBeqDiff, Int.reduceToNat, Int.reduceLE, Int.reduceLT, Int.reduceEq, c1, u64_zero, hz, w1]
        exact ⟨⟨by omega, by omega⟩, 1, by omega, by omega, by rw [hLs 0, show (wsM s).getD 0 0 = s.1 from rfl, clr_yes hz, List.length_append, List.map_append]; rfl⟩
    by_cases e1 : k = 1
    · subst e1
      have c1 : (((1 : Nat) : Int) < 7) = True := eq_true (by omega)
      by_cases hz : s.2.1 = 0
      · simp only [go_sem, ↓reduceIte, reduceCtorEq, Nat.reduceAdd, Nat.reduceMul, Nat.reduceEqDiff, Nat.reduceSub, Nat.reduceLT, Nat.reduceLeDiff, Nat.reduceAnd, Nat.reduceShiftRight, Nat.reduceBEq, Nat.reduceBNe, Nat.reduceBneDiff, Nat.reduceBeqDiff, Int.reduceToNat, Int.reduceLE, Int.reduceLT, Int.reduceEq, c1, u64_zero, eq_true hz, w1]
        exact ⟨2, by omega, by omega, by rw [hLs 1, show (wsM s).getD 1 0 = s.2.1 from rfl, clr_no hz, List.append_nil] <;> rfl⟩
      · simp only [go_sem, ↓reduceIte, reduceCtorEq, Nat.reduceAdd, Nat.reduceMul, Nat.reduceEqDiff, Nat.reduceSub, Nat.reduceLT, Nat.reduceLeDiff, Nat.reduceAnd, Nat.reduceShiftRight, Nat.reduceBEq, Nat.reduceBNe, Nat.reduceBneDiff, Nat.reduceBeqDiff, Int.reduceToNat, Int.reduceLE, Int.reduceLT, Int.reduceEq, c1, u64_zero, hz, w1]
        exact ⟨⟨by omega, by omega⟩, 2, by omega, by omega, by rw [hLs 1, show (wsM s).getD 1 0 = s.2.1 from rfl, clr_yes hz, List.length_append, List.map_append]; rfl⟩
    by_cases e2 : k = 2
    · subst e2
      have c1 : (((2 : Nat) : Int) < 7) = True := eq_true (by omega)
      by_cases hz : s.2.2.1 = 0
      · simp only [go_sem, ↓reduceIte, reduceCtorEq, Nat.reduceAdd, Nat.reduceMul, Nat.reduceEqDiff, Nat.reduceSub, Nat.reduceLT, Nat.reduceLeDiff, Nat.reduceAnd, Nat.reduceShiftRight, Nat.reduceBEq, Nat.reduceBNe, Nat.reduceBneDiff, Nat.reduceBeqDiff, Int.reduceToNat, Int.reduceLE, Int.reduceLT, Int.reduceEq, c1, u64_zero, eq_true hz, w1]
        exact ⟨3, by omega, by omega, by rw [hLs 2, show (wsM s).getD 2 0 = s.2.2.1 from rfl, clr_no hz, List.append_nil] <;> rfl⟩
      · simp only [go_sem, ↓reduceIte, reduceCtorEq, Nat.reduceAdd, Nat.reduceMul, Nat.reduceEqDiff, Nat.reduceSub, Nat.reduceLT, Nat.reduceLeDiff, Nat.reduceAnd, Nat.reduceShiftRight, Nat.reduceBEq, Nat.reduceBNe, Nat.reduceBneDiff, Nat.reduceBeqDiff, Int.reduceToNat, Int.reduceLE, Int.reduceLT, Int.reduceEq, c1, u64_zero, hz, w1]
        exact ⟨⟨by omega, by omega⟩, 3, by omega, by omega, by rw [hLs 2, show (wsM s).getD 2 0 = s.2.2.1 from rfl, clr_yes hz, List.length_append, List.map_append]; rfl⟩
    by_cases e3 : k = 3
    · subst e3
      have c1 : (((3 : Nat) : Int) < 7) = True := eq_true (by omega)
      by_cases hz : s.2.2.2.1 = 0
      · simp only [go_sem, ↓reduceIte, reduceCtorEq, Nat.reduceAdd, Nat.reduceMul, Nat.reduceEqDiff, Nat.reduceSub, Nat.reduceLT, Nat.reduceLeDiff, Nat.reduceAnd, Nat.reduceShiftRight, Nat.reduceBEq, Nat.reduceBNe, Nat.reduceBneDiff, Nat.reduceBeqDiff, Int.reduceToNat, Int.reduceLE, Int.reduceLT, Int.reduceEq, c1, u64_zero, eq_true hz, w1]
        exact ⟨4, by omega, by omega, by rw [hLs 3, show (wsM s).getD 3 0 = s.2.2.2.1 from rfl, clr_no hz, List.append_nil] <;> rfl⟩
      · simp only [go_sem, ↓reduceIte, reduceCtorEq, Nat.reduceAdd, Nat.reduceMul, Nat.reduceEqDiff, Nat.reduceSub, Nat.reduceLT, Nat.reduceLeDiff, Nat.reduceAnd, Nat.reduceShiftRight, Nat.reduceBEq, Nat.reduceBNe, Nat.reduceBneDiff, Nat.reduceBeqDiff, Int.reduceToNat, Int.reduceLE, Int.reduceLT, Int.reduceEq, c1, u64_zero, hz, w1]
        exact ⟨⟨by omega, by omega⟩, 4, by omega, by omega, by rw [hLs 3, show (wsM s).getD 3 0 = s.2.2.2.1 from rfl, clr_yes hz, List.length_append, List.map_append]; rfl⟩
    by_cases e4 : k = 4
    · subst e4
      have c1 : (((4 : Nat) : Int) < 7) = True := eq_true (by omega)
      by_cases hz : s.2.2.2.2.1 = 0
      · simp only [go_sem, ↓reduceIte, reduceCtorEq, Nat.reduceAdd, Nat.reduceMul, Nat.reduceEqDiff, Nat.reduceSub, Nat.reduceLT, Nat.reduceLeDiff, Nat.reduceAnd, Nat.reduceShiftRight, Nat.reduceBEq, Nat.reduceBNe, Nat.reduceBneDiff, Nat.reduceBeqDiff, Int.reduceToNat, Int.reduceLE, Int.reduceLT, Int.reduceEq, c1, u64_zero, eq_true hz, w1]
        exact ⟨5, by omega, by omega, by rw [hLs 4, show (wsM s).getD 4 0 = s.2.2.2.2.1 from rfl, clr_no hz, List.append_nil] <;> rfl⟩
      · simp only [go_sem, ↓reduceIte, reduceCtorEq, Nat.reduceAdd, Nat.reduceMul, Nat.reduceEqDiff, Nat.reduceSub, Nat.reduceLT, Nat.reduceLeDiff, Nat.reduceAnd, Nat.reduceShiftRight, Nat.reduceBEq, Nat.reduceBNe, Nat.reduceBneDiff, Nat.reduceBeqDiff, Int.reduceToNat, Int.reduceLE, Int.reduceLT, Int.reduceEq, c1, u64_zero, hz, w1]
        exact ⟨⟨by omega, by omega⟩, 5, by omega, by omega, by rw [hLs 4, show (wsM s).getD 4 0 = s.2.2.2.2.1 from rfl, clr_yes hz, List.length_append, List.map_append]; rfl⟩
    by_cases e5 : k = 5
    · subst e5
      have c1 : (((5 : Nat) : Int) < 7) = True := eq_true (by omega)
      by_cases hz : s.2.2.2.2.2.1 = 0
      · simp only [go_sem, ↓reduceIte, reduceCtorEq, Nat.reduceAdd, Nat.reduceMul, Nat.reduceEqDiff, Nat.reduceSub, Nat.reduceLT, Nat.reduceLeDiff, Nat.reduceAnd, Nat.reduceShiftRight, Nat.reduceBEq, Nat.reduceBNe, Nat.reduceBneDiff, Nat.reduceBeqDiff, Int.reduceToNat, Int.reduceLE, Int.reduceLT, Int.reduceEq, c1, u64_zero, eq_true hz, w1]
        exact ⟨6, by omega, by omega, by rw [hLs 5, show (wsM s).getD 5 0 = s.2.2.2.2.2.1 from rfl, clr_no hz, List.append_nil] <;> rfl⟩
      · simp only [go_sem, ↓reduceIte, reduceCtorEq, Nat.reduceAdd, Nat.reduceMul, Nat.reduceEqDiff, Nat.reduceSub, Nat.reduceLT, Nat.reduceLeDiff, Nat.reduceAnd, Nat.reduceShiftRight, Nat.reduceBEq, Nat.reduceBNe, Nat.reduceBneDiff, Nat.reduceBeqDiff, Int.reduceToNat, Int.reduceLE, Int.reduceLT, Int.reduceEq, c1, u64_zero, hz, w1]
        exact ⟨⟨by omega, by omega⟩, 6, by omega, by omega, by rw [hLs 5, show (wsM s).getD 5 0 = s.2.2.2.2.2.1 from rfl, clr_yes hz, List.length_append, List.map_append]; rfl⟩
    by_cases e6 : k = 6
    · subst e6
      have c1 : (((6 : Nat) : Int) < 7) = True := eq_true (by omega)
      by_cases hz : s.2.2.2.2.2.2 = 0
      · simp only [go_sem, ↓reduceIte, reduceCtorEq, Nat.reduceAdd, Nat.reduceMul, Nat.reduceEqDiff, Nat.reduceSub, Nat.reduceLT, Nat.reduceLeDiff, Nat.reduceAnd, Nat.reduceShiftRight, Nat.reduceBEq, Nat.reduceBNe, Nat.reduceBneDiff, Nat.reduceBeqDiff, Int.reduceToNat, Int.reduceLE, Int.reduceLT, Int.reduceEq, c1, u64_zero, eq_true hz, w1]
        exact ⟨7, by omega, by omega, by rw [hLs 6, show (wsM s).getD 6 0 = s.2.2.2.2.2.2 from rfl, clr_no hz, List.append_nil] <;> rfl⟩
      · simp only [go_sem, ↓reduceIte, reduceCtorEq, Nat.reduceAdd, Nat.reduceMul, Nat.reduceEqDiff, Nat.reduceSub, Nat.reduceLT, Nat.reduceLeDiff, Nat.reduceAnd, Nat.reduceShiftRight, Nat.reduceBEq, Nat.reduceBNe, Nat.reduceBneDiff, Nat.reduceBeqDiff, Int.reduceToNat, Int.reduceLE, Int.reduceLT, Int.reduceEq, c1, u64_zero, hz, w1]
        exact ⟨⟨by omega, by omega⟩, 7, by omega, by omega, by rw [hLs 6, show (wsM s).getD 6 0 = s.2.2.2.2.2.2 from rfl, clr_yes hz, List.length_append, List.map_append]; rfl⟩
    have hk7 : k = 7 := by omega
    subst hk7
    have c1 : (((7 : Nat) : Int) < 7) = False := eq_false (by omega)
    simp only [go_sem, ↓reduceIte, reduceCtorEq, Nat.reduceAdd, Nat.reduceMul, Nat.reduceEqDiff, Nat.reduceSub, Nat.reduceLT, Nat.reduceLeDiff, Nat.reduceAnd, Nat.reduceShiftRight, Nat.reduceBEq, Nat.reduceBNe, Nat.reduceBneDiff, Nat.reduceBeqDiff, Int.reduceToNat, Int.reduceLE, Int.reduceLT, Int.reduceEq, c1, w1]
    exact ⟨j + 1, by omega, by omega, by rw [h7]⟩
  · have c1 : ((j : Int) < 2) = False := eq_false (by omega)
    obtain rfl : j = 2 := by omega
    simp only [go_sem, ↓reduceIte, reduceCtorEq, Nat.reduceAdd, Nat.reduceMul, Nat.reduceEqDiff, Nat.reduceSub, Nat.reduceLT, Nat.reduceLeDiff, Nat.reduceAnd, Nat.reduceShiftRight, Nat.reduceBEq, Nat.reduceBNe, Nat.reduceBneDiff, Nat.reduceBeqDiff, Int.reduceToNat, Int.reduceLE, Int.reduceLT, Int.reduceEq, c1]
    exact ⟨by omega, rfl, rfl⟩
abbrev OMend : FM := .g1 (CE.st cDisk) (fun d => (oL 0 (mendM d), [some (oR cRaw (mendM d))])) (fun _ => True)
attribute [go_sem] OMend
theorem ok_impl_RecordMend : OMend.ok Try.prog 26 := FM.g1_ok fun d _ => f_impl_RecordMend d

end Go.Proofs.YtgdbammhnjkbbaaW.V

