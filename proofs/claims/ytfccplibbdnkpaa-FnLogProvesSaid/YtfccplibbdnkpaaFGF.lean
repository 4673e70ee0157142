/- Functions: a log with a leaf more; messages that are the same. No condition but each theorem's own. -/
import Derived.Test.YtfccplibbdnkpaaFGE
import Derived.Test.YtfccplibbdnkpaaFR
namespace Go.Proofs.YtfccplibbdnkpaaW.V
open Go Go.Proofs
set_option linter.unusedSimpArgs false
set_option linter.unusedVariables false
set_option maxRecDepth 8000
set_option maxHeartbeats 4000000

set_option synthInstance.maxSize 1000

/-- A log with a leaf more. -/
def addM (l : Log) (x : ByteArray) : Log × Bool := if leavesOk l = true then (if l.length < 256 ∧ x.size ≤ 40 then (l ++ [x], true) else (l, false)) else ([], false)
abbrev eAdd : CE (Log × Bool) := eT2 (CE.st cLog) eBool (st_x _) (one_x _ _)
attribute [go_sem] eAdd
abbrev MAdd : FM := .f2 (CE.st cLog) eStr eAdd.enc addM (fun l x => l.length ≤ 1048576 ∧ x.size ≤ 1000000)
attribute [go_sem] MAdd

def H_impl_LogAdd : Hint := { fs := [(34, MLeavesOk), (38, OCopied_string)], kp := [(0, [0, 1]), (1, [1, 2, 4]), (2, [4]), (3, [1, 2, 4]), (4, [2, 4]), (5, [1, 2, 4])], an := [] }
attribute [go_sem] H_impl_LogAdd
theorem ok_H_impl_LogAdd : H_impl_LogAdd.ok Try.prog := AllOk.okR (.cons ok_impl_LeavesOk (.cons ok_impl_copied_string .nil)) .nil mix
theorem f_impl_LogAdd (l : Log) (x : ByteArray) (h : l.length ≤ 1048576 ∧ x.size ≤ 1000000) : VFun Try.prog 18 [(CE.st cLog).enc l, eStr.enc x] [] (eAdd.enc (addM l x)) [] := by
  obtain ⟨h1, h2⟩ := h
  refine VFun_pure (n := 32) (rs := [.cell 4 39, .tmp 5]) Try.func18 rfl rfl rfl rfl H_impl_LogAdd ok_H_impl_LogAdd _ _ (Nat.le_of_ble_eq_true rfl) (by kernel_rfl) ?_
  by_cases hk : leavesOk l = true
  · have hl := leavesOk_iff hk
    by_cases c1 : 256 ≤ (l.length : Int)
    · have e : addM l x = (l, false) := by rw [addM, if_pos hk, if_neg (by omega)]
      simp only [go_sem, ↓reduceIte, reduceCtorEq, Nat.reduceAdd, Nat.reduceMul, Nat.reduceEqDiff, Nat.reduceSub, Nat.reduceLT, Nat.reduceLeDiff, Nat.reduceAnd, Nat.reduceShiftRight, Nat.reduceBEq, Nat.reduceBNe, Nat.reduceBneDiff, Nat.reduceBeqDiff, Int.reduceToNat, Int.reduceLE, Int.reduceLT, Int.reduceEq, hk, c1, e]
      (repeat' apply And.intro) <;> first | omega | rfl
    by_cases c2 : 40 < (x.size : Int)
    · have e : addM l x = (l, false) := by rw [addM, if_pos hk, if_neg (by omega)]
      simp only [go_sem, ↓reduceIte, reduceCtorEq, Nat.reduceAdd, Nat.reduceMul, Nat.reduceEqDiff, Nat.reduceSub, Nat.reduceLT, Nat.reduceLeDiff, Nat.reduceAnd, Nat.reduceShiftRight, Nat.reduceBEq, Nat.reduceBNe, Nat.reduceBneDiff, Nat.reduceBeqDiff, Int.reduceToNat, Int.reduceLE, Int.reduceLT, Int.reduceEq, hk, c1, c2, e]
      (repeat' apply And.intro) <;> first | omega | rfl
    · have e : addM l x = (l ++ [x], true) := by rw [addM, if_pos hk, if_pos (by omega)]
      simp only [go_sem, ↓reduceIte, reduceCtorEq, Nat.reduceAdd, Nat.reduceMul, Nat.reduceEqDiff, Nat.reduceSub, Nat.reduceLT, Nat.reduceLeDiff, Nat.reduceAnd, Nat.reduceShiftRight, Nat.reduceBEq, Nat.reduceBNe, Nat.reduceBneDiff, Nat.reduceBeqDiff, Int.reduceToNat, Int.reduceLE, Int.reduceLT, Int.reduceEq, hk, c1, c2, e]
      (repeat' apply And.intro) <;> omega
  · have e : addM l x = ([], false) := by rw [addM, if_neg hk]
    have hk' : leavesOk l = false := by simpa using hk
    simp only [go_sem, ↓reduceIte, reduceCtorEq, Nat.reduceAdd, Nat.reduceMul, Nat.reduceEqDiff, Nat.reduceSub, Nat.reduceLT, Nat.reduceLeDiff, Nat.reduceAnd, Nat.reduceShiftRight, Nat.reduceBEq, Nat.reduceBNe, Nat.reduceBneDiff, Nat.reduceBeqDiff, Int.reduceToNat, Int.reduceLE, Int.reduceLT, Int.reduceEq, hk', e]
    (repeat' apply And.intro) <;> first | omega | rfl
theorem ok_impl_LogAdd : MAdd.ok Try.prog 18 := FM.f2_ok fun l x h => f_impl_LogAdd l x h

def H_spec_LogAdd : Hint := { fs := [(26, MLeavesOk), (30, OCopied_string)], kp := [(0, [0, 1]), (1, [1, 2, 4]), (2, [4]), (3, [1, 2, 4]), (4, [1, 4, 6]), (5, [4, 6]), (6, [1, 4, 6])], an := [] }
attribute [go_sem] H_spec_LogAdd
theorem ok_H_spec_LogAdd : H_spec_LogAdd.ok Try.prog := AllOk.okR (.cons ok_spec_LeavesOk (.cons ok_spec_l2Leaves .nil)) .nil mix
theorem f_spec_LogAdd (l : Log) (x : ByteArray) (h : l.length ≤ 1048576 ∧ x.size ≤ 1000000) : VFun Try.prog 19 [(CE.st cLog).enc l, eStr.enc x] [] (eAdd.enc (addM l x)) [] := by
  obtain ⟨h1, h2⟩ := h
  refine VFun_pure (n := 30) (rs := [.cell 4 39, .tmp 5]) Try.func19 rfl rfl rfl rfl H_spec_LogAdd ok_H_spec_LogAdd _ _ (Nat.le_of_ble_eq_true rfl) (by kernel_rfl) ?_
  by_cases hk : leavesOk l = true
  · have hl := leavesOk_iff hk
    by_cases c1 : 256 ≤ (l.length : Int)
    · have e : addM l x = (l, false) := by rw [addM, if_pos hk, if_neg (by omega)]
      simp only [go_sem, ↓reduceIte, reduceCtorEq, Nat.reduceAdd, Nat.reduceMul, Nat.reduceEqDiff, Nat.reduceSub, Nat.reduceLT, Nat.reduceLeDiff, Nat.reduceAnd, Nat.reduceShiftRight, Nat.reduceBEq, Nat.reduceBNe, Nat.reduceBneDiff, Nat.reduceBeqDiff, Int.reduceToNat, Int.reduceLE, Int.reduceLT, Int.reduceEq, hk, c1, e]
      (repeat' apply And.intro) <;> first | omega | rfl
    by_cases c2 : 40 < (x.size : Int)
    · have e : addM l x = (l, false) := by rw [addM, if_pos hk, if_neg (by omega)]
      simp only [go_sem, ↓reduceIte, reduceCtorEq, Nat.reduceAdd, Nat.reduceMul, Nat.reduceEqDiff, Nat.reduceSub, Nat.reduceLT, Nat.reduceLeDiff, Nat.reduceAnd, Nat.reduceShiftRight, Nat.reduceBEq, Nat.reduceBNe, Nat.reduceBneDiff, Nat.reduceBeqDiff, Int.reduceToNat, Int.reduceLE, Int.reduceLT, Int.reduceEq, hk, c1, c2, e]
      (repeat' apply And.intro) <;> first | omega | rfl
    · have e : addM l x = (l ++ [x], true) := by rw [addM, if_pos hk, if_pos (by omega)]
      simp only [go_sem, ↓reduceIte, reduceCtorEq, Nat.reduceAdd, Nat.reduceMul, Nat.reduceEqDiff, Nat.reduceSub, Nat.reduceLT, Nat.reduceLeDiff, Nat.reduceAnd, Nat.reduceShiftRight, Nat.reduceBEq, Nat.reduceBNe, Nat.reduceBneDiff, Nat.reduceBeqDiff, Int.reduceToNat, Int.reduceLE, Int.reduceLT, Int.reduceEq, hk, c1, c2, e]
      (repeat' apply And.intro) <;> omega
  · have e : addM l x = ([], false) := by rw [addM, if_neg hk]
    have hk' : leavesOk l = false := by simpa using hk
    simp only [go_sem, ↓reduceIte, reduceCtorEq, Nat.reduceAdd, Nat.reduceMul, Nat.reduceEqDiff, Nat.reduceSub, Nat.reduceLT, Nat.reduceLeDiff, Nat.reduceAnd, Nat.reduceShiftRight, Nat.reduceBEq, Nat.reduceBNe, Nat.reduceBneDiff, Nat.reduceBeqDiff, Int.reduceToNat, Int.reduceLE, Int.reduceLT, Int.reduceEq, hk', e]
    (repeat' apply And.intro) <;> first | omega | rfl
theorem ok_spec_LogAdd : MAdd.ok Try.prog 19 := FM.f2_ok fun l x h => f_spec_LogAdd l x h

def H_laws_sameDigests : Hint := { fs := [], kp := [(0, [0, 1]), (1, [0, 1]), (2, []), (3, [0, 1]), (4, [0, 1, 5]), (6, [0, 1, 5]), (7, []), (5, [0, 1, 5]), (8, [])], an := [(6, [0, 0, 3, 7, 0, 0, 48, 112, 255])] }
attribute [go_sem] H_laws_sameDigests
theorem ok_H_laws_sameDigests : H_laws_sameDigests.ok Try.prog := AllOk.okR .nil .nil mix
theorem f_sameDigests (xs) (hl : xs.length ≤ 1100000) : VFun Try.prog 51 [(eList cDigest).enc xs, (eList cDigest).enc xs] [] (eBool.enc true) [] := by
  refine VFun_pure (n := 26) (rs := [.tmp 4]) Try.func51 rfl rfl rfl rfl H_laws_sameDigests ok_H_laws_sameDigests _ _ (Nat.le_of_ble_eq_true rfl) (by kernel_rfl) ?_
  simp only [go_sem, ↓reduceIte, reduceCtorEq, Nat.reduceAdd, Nat.reduceMul, Nat.reduceEqDiff, Nat.reduceSub, Nat.reduceLT, Nat.reduceLeDiff, Nat.reduceAnd, Nat.reduceShiftRight, Nat.reduceBEq, Nat.reduceBNe, Nat.reduceBneDiff, Nat.reduceBeqDiff, Int.reduceToNat, Int.reduceLE, Int.reduceLT, Int.reduceEq]
  refine LoopV.go (H := H_laws_sameDigests) ok_H_laws_sameDigests (by kernel_rfl) (fun i : Nat => ⟨[(0, .x (.o (.c (.s (xs.map (cDigest).enc))))), (1, .x (.o (.c (.s (xs.map (cDigest).enc))))), (5, sc (.int .i64 i))], [], 2⟩) (fun i => xs.length - i) (fun i => i ≤ xs.length) ?_ 0 (Nat.zero_le _)
  intro i hi
  have hw : IntKind.i64.wrap ((i : Int) + 1) = ((i + 1 : Nat) : Int) := by rw [wrap64] <;> omega
  by_cases hlt : i < xs.length
  · have c1 : ((i : Int) < (xs.length : Int)) = True := eq_true (by omega)
    obtain ⟨x, hx⟩ : ∃ r, xs[i]? = some r := ⟨_, List.getElem?_eq_getElem hlt⟩
    simp only [go_sem, ↓reduceIte, reduceCtorEq, Nat.reduceAdd, Nat.reduceMul, Nat.reduceEqDiff, Nat.reduceSub, Nat.reduceLT, Nat.reduceLeDiff, Nat.reduceAnd, Nat.reduceShiftRight, Nat.reduceBEq, Nat.reduceBNe, Nat.reduceBneDiff, Nat.reduceBeqDiff, Int.reduceToNat, Int.reduceLE, Int.reduceLT, Int.reduceEq, hx, hw, c1, decide_true]
    exact ⟨i + 1, by omega, by omega, rfl⟩
  · have c1 : ((i : Int) < (xs.length : Int)) = False := eq_false (by omega)
    simp only [go_sem, ↓reduceIte, reduceCtorEq, Nat.reduceAdd, Nat.reduceMul, Nat.reduceEqDiff, Nat.reduceSub, Nat.reduceLT, Nat.reduceLeDiff, Nat.reduceAnd, Nat.reduceShiftRight, Nat.reduceBEq, Nat.reduceBNe, Nat.reduceBneDiff, Nat.reduceBeqDiff, Int.reduceToNat, Int.reduceLE, Int.reduceLT, Int.reduceEq, c1]
abbrev M_sameDigests : FM := .f2 (eList cDigest) (eList cDigest) eBool.enc (fun _ _ => true) (fun x y => x = y ∧ x.length ≤ 1100000)
attribute [go_sem] M_sameDigests
theorem ok_laws_sameDigests : M_sameDigests.ok Try.prog 51 := FM.f2_ok fun x y h => by rw [← h.1]; exact f_sameDigests x h.2

def H_laws_sameTexts : Hint := { fs := [], kp := [(0, [0, 1]), (1, [0, 1]), (2, []), (3, [0, 1]), (4, [0, 1, 5]), (6, [0, 1, 5]), (7, []), (5, [0, 1, 5]), (8, [])], an := [(6, [0, 0, 3, 7, 0, 0, 48, 112, 255])] }
attribute [go_sem] H_laws_sameTexts
theorem ok_H_laws_sameTexts : H_laws_sameTexts.ok Try.prog := AllOk.okR .nil .nil mix
theorem f_sameTexts (xs) (hl : xs.length ≤ 1100000) : VFun Try.prog 52 [(eList cStr).enc xs, (eList cStr).enc xs] [] (eBool.enc true) [] := by
  refine VFun_pure (n := 26) (rs := [.tmp 4]) Try.func52 rfl rfl rfl rfl H_laws_sameTexts ok_H_laws_sameTexts _ _ (Nat.le_of_ble_eq_true rfl) (by kernel_rfl) ?_
  simp only [go_sem, ↓reduceIte, reduceCtorEq, Nat.reduceAdd, Nat.reduceMul, Nat.reduceEqDiff, Nat.reduceSub, Nat.reduceLT, Nat.reduceLeDiff, Nat.reduceAnd, Nat.reduceShiftRight, Nat.reduceBEq, Nat.reduceBNe, Nat.reduceBneDiff, Nat.reduceBeqDiff, Int.reduceToNat, Int.reduceLE, Int.reduceLT, Int.reduceEq]
  refine LoopV.go (H := H_laws_sameTexts) ok_H_laws_sameTexts (by kernel_rfl) (fun i : Nat => ⟨[(0, .x (.o (.c (.s (xs.map (cStr).enc))))), (1, .x (.o (.c (.s (xs.map (cStr).enc))))), (5, sc (.int .i64 i))], [], 2⟩) (fun i => xs.length - i) (fun i => i ≤ xs.length) ?_ 0 (Nat.zero_le _)
  intro i hi
  have hw : IntKind.i64.wrap ((i : Int) + 1) = ((i + 1 : Nat) : Int) := by rw [wrap64] <;> omega
  by_cases hlt : i < xs.length
  · have c1 : ((i : Int) < (xs.length : Int)) = True := eq_true (by omega)
    obtain ⟨x, hx⟩ : ∃ r, xs[i]? = some r := ⟨_, List.getElem?_eq_getElem hlt⟩
    simp only [go_sem, ↓reduceIte, reduceCtorEq, Nat.reduceAdd, Nat.reduceMul, Nat.reduceEqDiff, Nat.reduceSub, Nat.reduceLT, Nat.reduceLeDiff, Nat.reduceAnd, Nat.reduceShiftRight, Nat.reduceBEq, Nat.reduceBNe, Nat.reduceBneDiff, Nat.reduceBeqDiff, Int.reduceToNat, Int.reduceLE, Int.reduceLT, Int.reduceEq, hx, hw, c1, decide_true]
    exact ⟨i + 1, by omega, by omega, rfl⟩
  · have c1 : ((i : Int) < (xs.length : Int)) = False := eq_false (by omega)
    simp only [go_sem, ↓reduceIte, reduceCtorEq, Nat.reduceAdd, Nat.reduceMul, Nat.reduceEqDiff, Nat.reduceSub, Nat.reduceLT, Nat.reduceLeDiff, Nat.reduceAnd, Nat.reduceShiftRight, Nat.reduceBEq, Nat.reduceBNe, Nat.reduceBneDiff, Nat.reduceBeqDiff, Int.reduceToNat, Int.reduceLE, Int.reduceLT, Int.reduceEq, c1]
abbrev M_sameTexts : FM := .f2 (eList cStr) (eList cStr) eBool.enc (fun _ _ => true) (fun x y => x = y ∧ x.length ≤ 1100000)
attribute [go_sem] M_sameTexts
theorem ok_laws_sameTexts : M_sameTexts.ok Try.prog 52 := FM.f2_ok fun x y h => by rw [← h.1]; exact f_sameTexts x h.2

def H_laws_sameMessage : Hint := { fs := [(51, M_sameDigests), (52, M_sameTexts)], kp := [(0, [0, 1]), (1, [2, 3])], an := [] }
attribute [go_sem] H_laws_sameMessage
theorem ok_H_laws_sameMessage : H_laws_sameMessage.ok Try.prog := AllOk.okR (.cons ok_laws_sameDigests (.cons ok_laws_sameTexts .nil)) .nil mix
theorem f_sameMessage (m : Msg) (h : m.2.2.2.2.2.2.1.length ≤ 1100000 ∧ m.2.2.2.2.2.2.2.length ≤ 1100000) : VFun Try.prog 20 [(CE.st cMsg).enc m, (CE.st cMsg).enc m] [] (eBool.enc true) [] := by
  refine VFun_pure (n := 59) (rs := [.tmp 4]) Try.func20 rfl rfl rfl rfl H_laws_sameMessage ok_H_laws_sameMessage _ _ (Nat.le_of_ble_eq_true rfl) (by kernel_rfl) ?_
  simp only [go_sem, ↓reduceIte, reduceCtorEq, Nat.reduceAdd, Nat.reduceMul, Nat.reduceEqDiff, Nat.reduceSub, Nat.reduceLT, Nat.reduceLeDiff, Nat.reduceAnd, Nat.reduceShiftRight, Nat.reduceBEq, Nat.reduceBNe, Nat.reduceBneDiff, Nat.reduceBeqDiff, Int.reduceToNat, Int.reduceLE, Int.reduceLT, Int.reduceEq, decide_true]
  exact h
abbrev MSameMsg : FM := .f2 (CE.st cMsg) (CE.st cMsg) eBool.enc (fun _ _ => true) (fun x y => x = y ∧ x.2.2.2.2.2.2.1.length ≤ 1100000 ∧ x.2.2.2.2.2.2.2.length ≤ 1100000)
attribute [go_sem] MSameMsg
theorem ok_laws_sameMessage : MSameMsg.ok Try.prog 20 := FM.f2_ok fun x y h => by rw [← h.1]; exact f_sameMessage x h.2

/-! The plain law: a log with a leaf more answers as before, or more. -/
theorem leavesOk_app {l : List ByteArray} {x : ByteArray} (h : leavesOk l = true) (h1 : l.length < 256) (h2 : x.size ≤ 40) : leavesOk (l ++ [x]) = true := by
  have hl := leavesOk_iff h
  rw [leavesOk_good fun i y hi hy => ?_]
  · exact decide_eq_true (by simp; omega)
  · have hm := List.mem_of_getElem? hy
    rcases List.mem_append.1 hm with hm | hm
    · have := hl.2 y hm; omega
    · rw [List.mem_singleton.1 hm]; omega
theorem ans_more {l : List ByteArray} {m : Msg} {x : ByteArray} (h1 : l.length < 256) (h2 : x.size ≤ 40) (hk : leavesOk l = true) (ho : (ansM l m).2 = true) (hn : ¬ (ansM l m).1.1 = 2) :
    ((ansM l m).1.1 = 5 ∧ ansM (l ++ [x]) m = ansM l m) ∨ ((ansM l m).1.1 = 8 ∧ (ansM (l ++ [x]) m).2 = true ∧ (ansM (l ++ [x]) m).1.2.2.1 = (ansM l m).1.2.2.1 ∧ ∀ (i : Nat) (y : ByteArray), (ansM l m).1.2.2.2.2.2.2.2[i]? = some y → (ansM (l ++ [x]) m).1.2.2.2.2.2.2.2[i]? = some y) := by
  have hk2 := leavesOk_app hk h1 h2
  by_cases hw : wireOkM m = true
  case neg => rw [ansM_no fun h => hw h.2] at ho; cases ho
  by_cases c1 : m.1 = 1
  · rw [ansM_1 ⟨hk, hw⟩ c1] at hn; exact absurd rfl hn
  by_cases c4 : m.1 = 4 ∧ m.2.2.1 ≤ m.2.2.2.1 ∧ m.2.2.2.1 ≤ l.length
  · have b := wire_4 hw c4.1
    refine .inl ⟨by rw [ansM_4 ⟨hk, hw⟩ c4], ?_⟩
    rw [ansM_4 ⟨hk, hw⟩ c4, ansM_4 ⟨hk2, hw⟩ ⟨c4.1, c4.2.1, by rw [List.length_append, List.length_singleton]; omega⟩, List.take_append_of_le_length (by omega)]
  by_cases c7 : m.1 = 7 ∧ m.2.2.1 < l.length
  · have b := wire_7 hw c7.1
    have c7' : m.1 = 7 ∧ m.2.2.1 < (l ++ [x]).length := ⟨c7.1, by rw [List.length_append, List.length_singleton]; omega⟩
    refine .inr ⟨by rw [ansM_7 ⟨hk, hw⟩ c7], by rw [ansM_7 ⟨hk2, hw⟩ c7'], by rw [ansM_7 ⟨hk, hw⟩ c7, ansM_7 ⟨hk2, hw⟩ c7'], fun i y hy => ?_⟩
    rw [ansM_7 ⟨hk, hw⟩ c7] at hy
    rw [ansM_7 ⟨hk2, hw⟩ c7']
    dsimp only at hy ⊢
    unfold takeN at hy ⊢
    rw [List.getElem?_take] at hy ⊢
    split at hy
    · rename_i hi
      rw [if_pos (by rw [List.length_append, List.length_singleton]; omega), List.drop_append_of_le_length (by omega)]
      rw [List.getElem?_append_left (List.getElem?_eq_some_iff.1 hy).1]
      exact hy
    · cases hy
  rw [ansM_x c1 c4 c7] at ho; cases ho

end Go.Proofs.YtfccplibbdnkpaaW.V

