/- Functions: monitors and what is watched, compared and marked. No condition but each theorem's own. -/
import Derived.Test.YtlofjogebacndaaGreatFWF
namespace Go.Proofs.YtlofjogebacndaaGreatW.V
open Go Go.Proofs
set_option linter.unusedSimpArgs false
set_option linter.unusedVariables false
set_option maxRecDepth 8000
set_option maxHeartbeats 4000000

set_option synthInstance.maxSize 1000

/-- What the laws write into a list of texts. -/
def markS (k n : Nat) : List ByteArray := (List.range n).map fun i => textM (k + i)
theorem markS_len (k n : Nat) : (markS k n).length = n := by simp [markS]
def markSP (k : Nat) (xs : List ByteArray) (i : Nat) : List ByteArray := markS k i ++ xs.drop i
theorem markSP_len (k : Nat) (xs : List ByteArray) {i : Nat} (h : i ≤ xs.length) : (markSP k xs i).length = xs.length := by
  rw [markSP, List.length_append, markS_len, List.length_drop]; omega
theorem markSP_0 (k : Nat) (xs : List ByteArray) : markSP k xs 0 = xs := rfl
theorem markSP_n (k : Nat) (xs : List ByteArray) : markSP k xs xs.length = markS k xs.length := by
  rw [markSP, List.drop_length, List.append_nil]
theorem markSP_set (k : Nat) (xs : List ByteArray) {i : Nat} (h : i < xs.length) : (markSP k xs i).set i (textM (k + i)) = markSP k xs (i + 1) := by
  have e : markS k (i + 1) = markS k i ++ [textM (k + i)] := by simp [markS, List.range_succ]
  rw [markSP, markSP, e, List.set_append_right _ _ (by rw [markS_len]; omega), markS_len, Nat.sub_self, List.drop_eq_getElem_cons h, List.set_cons_zero, List.append_assoc]
  rfl

def H_laws_markStringS : Hint := { fs := [(70, MMarkText)], kp := [(0, [0, 1]), (1, [0, 1]), (2, [0, 1, 5]), (4, [0, 1, 5]), (5, [0, 1, 5]), (3, [0, 1, 5]), (6, [1])], an := [] }
attribute [go_sem] H_laws_markStringS
theorem ok_H_laws_markStringS : H_laws_markStringS.ok Tryz.prog := AllOk.okR (.cons ok_laws_markText .nil) .nil mix
theorem f_markStringS (xs : List ByteArray) (k : Nat) (h : (1 ≤ k ∧ k ≤ 10000000) ∧ xs.length ≤ 10000000) : VFun Tryz.prog 37 [oL 0 xs, (eInt .i64).enc k] [some (oR cStr xs)] ((eInt .i64).enc ((k + xs.length : Nat) : Int)) [some (oR cStr (markS k xs.length))] := by
  have hml := fun i (h : i ≤ xs.length) => markSP_len k xs h
  have h0 := markSP_0 k xs
  refine VFun_own (rin := [oR cStr xs]) (n := 20) (rs := [.tmp 4]) Tryz.func37 rfl rfl rfl rfl H_laws_markStringS ok_H_laws_markStringS (Nat.le_of_ble_eq_true rfl) (by kernel_rfl) ?_
  simp only [go_sem, ↓reduceIte, reduceCtorEq, Nat.reduceAdd, Nat.reduceMul, Nat.reduceEqDiff, Nat.reduceSub, Nat.reduceLT, Nat.reduceLeDiff, Nat.reduceAnd, Nat.reduceShiftRight, Nat.reduceBEq, Nat.reduceBNe, Nat.reduceBneDiff, Nat.reduceBeqDiff, Int.reduceToNat, Int.reduceLE, Int.reduceLT, Int.reduceEq]
  refine LoopV.go (H := H_laws_markStringS) ok_H_laws_markStringS (by kernel_rfl) (fun i : Nat => ⟨[(0, .x (.o (.h (0, 0) 0 (markSP k xs i).length (markSP k xs i).length))), (1, sc (.int .i64 ((k + i : Nat) : Int))), (5, sc (.int .i64 i))], [((0, 0), .row 1 ((markSP k xs i).map cStr.enc))], 2⟩) (fun i => xs.length - i) (fun i => i ≤ xs.length) ?_ 0 (Nat.zero_le _)
  intro i hi
  have hmi := hml i hi
  have w1 : IntKind.i64.wrap ((i : Int) + 1) = ((i + 1 : Nat) : Int) := by rw [wrap64] <;> omega
  have w2 : IntKind.i64.wrap (((k + i : Nat) : Int) + 1) = ((k + (i + 1) : Nat) : Int) := by rw [wrap64] <;> omega
  by_cases hlt : i < xs.length
  · have hlt2 : i < (markSP k xs i).length := by omega
    have c1 : ((i : Int) < ((markSP k xs i).length : Int)) = True := eq_true (by omega)
    obtain ⟨a, hx⟩ : ∃ r, (markSP k xs i)[i]? = some r := ⟨_, List.getElem?_eq_getElem hlt2⟩
    have hg : ∀ v : List C, (((markSP k xs i).map cStr.enc).set i v)[i]? = some v := fun v => List.getElem?_set_self (by simpa using hlt2)
    have hs : ((markSP k xs i).map cStr.enc).set i [.v (.string (textM (k + i)))] = (markSP k xs (i + 1)).map cStr.enc := by
      rw [← markSP_set k xs hlt, List.map_set]; rfl
    have hmj := hml (i + 1) (by omega)
    simp only [go_sem, ↓reduceIte, reduceCtorEq, Nat.reduceAdd, Nat.reduceMul, Nat.reduceEqDiff, Nat.reduceSub, Nat.reduceLT, Nat.reduceLeDiff, Nat.reduceAnd, Nat.reduceShiftRight, Nat.reduceBEq, Nat.reduceBNe, Nat.reduceBneDiff, Nat.reduceBeqDiff, Int.reduceToNat, Int.reduceLE, Int.reduceLT, Int.reduceEq, c1, w1, w2, eq_true hlt2, hx, hg, List.length_set, List.length_map, List.set_set]
    exact ⟨by omega, i + 1, by omega, by omega, by rw [hmi, hmj]; exact congrArg (fun r => (⟨_, [((0, 0), Root.row 1 r)], 2⟩ : LS)) hs⟩
  · have hie : i = xs.length := by omega
    have c1 : ((i : Int) < ((markSP k xs i).length : Int)) = False := eq_false (by omega)
    simp only [go_sem, ↓reduceIte, reduceCtorEq, Nat.reduceAdd, Nat.reduceMul, Nat.reduceEqDiff, Nat.reduceSub, Nat.reduceLT, Nat.reduceLeDiff, Nat.reduceAnd, Nat.reduceShiftRight, Nat.reduceBEq, Nat.reduceBNe, Nat.reduceBneDiff, Nat.reduceBeqDiff, Int.reduceToNat, Int.reduceLE, Int.reduceLT, Int.reduceEq, c1]
    subst hie
    rw [markSP_n]
    exact ⟨rfl, rfl⟩
abbrev MMarkS : FM := .mk1 cStr (eInt .i64) (eInt .i64).enc (fun xs k => (markS k.toNat xs.length, ((k.toNat + xs.length : Nat) : Int))) (fun xs k => (1 ≤ k ∧ k ≤ 10000000) ∧ xs.length ≤ 10000000)
attribute [go_sem] MMarkS
theorem ok_laws_markStringS : MMarkS.ok Tryz.prog 37 := FM.mk1_ok fun xs k h => by
  obtain ⟨n, rfl⟩ := Int.eq_ofNat_of_zero_le (show 0 ≤ k by omega)
  exact f_markStringS xs n ⟨by omega, h.2⟩

def H_laws_heldStringS : Hint := { fs := [(70, MMarkText)], kp := [(0, [0, 1]), (1, [0, 1]), (2, [0, 1, 5]), (4, [0, 1, 5]), (5, []), (6, [0, 1, 5]), (3, [0, 1, 5]), (7, [1])], an := [(4, [0, 0, 3, 7, 0, 16, 63])] }
attribute [go_sem] H_laws_heldStringS
theorem ok_H_laws_heldStringS : H_laws_heldStringS.ok Tryz.prog := AllOk.okR (.cons ok_laws_markText .nil) .nil mix
theorem f_heldStringS (k n : Nat) (h : (1 ≤ k ∧ k ≤ 10000000) ∧ n ≤ 10000000) : VFun Tryz.prog 72 [(eList cStr).enc (markS k n), (eInt .i64).enc k] [] ((eInt .i64).enc ((k + n : Nat) : Int)) [] := by
  have hml := markS_len k
  refine VFun_pure (n := 22) (rs := [.tmp 4]) Tryz.func72 rfl rfl rfl rfl H_laws_heldStringS ok_H_laws_heldStringS _ _ (Nat.le_of_ble_eq_true rfl) (by kernel_rfl) ?_
  simp only [go_sem, ↓reduceIte, reduceCtorEq, Nat.reduceAdd, Nat.reduceMul, Nat.reduceEqDiff, Nat.reduceSub, Nat.reduceLT, Nat.reduceLeDiff, Nat.reduceAnd, Nat.reduceShiftRight, Nat.reduceBEq, Nat.reduceBNe, Nat.reduceBneDiff, Nat.reduceBeqDiff, Int.reduceToNat, Int.reduceLE, Int.reduceLT, Int.reduceEq]
  refine LoopV.go (H := H_laws_heldStringS) ok_H_laws_heldStringS (by kernel_rfl) (fun i : Nat => ⟨[(0, .x (.o (.c (.s ((markS k n).map cStr.enc))))), (1, sc (.int .i64 ((k + i : Nat) : Int))), (5, sc (.int .i64 i))], [], 2⟩) (fun i => n - i) (fun i => i ≤ n) ?_ 0 (Nat.zero_le _)
  intro i hi
  have hmi := hml n
  have w1 : IntKind.i64.wrap ((i : Int) + 1) = ((i + 1 : Nat) : Int) := by rw [wrap64] <;> omega
  have w2 : IntKind.i64.wrap (((k + i : Nat) : Int) + 1) = ((k + (i + 1) : Nat) : Int) := by rw [wrap64] <;> omega
  by_cases hlt : i < n
  · have hlt2 : i < (markS k n).length := by omega
    have c1 : ((i : Int) < ((markS k n).length : Int)) = True := eq_true (by omega)
    have hx : (markS k n)[i]? = some (textM (k + i)) := by
      simp [markS, hlt]
    simp only [go_sem, ↓reduceIte, reduceCtorEq, Nat.reduceAdd, Nat.reduceMul, Nat.reduceEqDiff, Nat.reduceSub, Nat.reduceLT, Nat.reduceLeDiff, Nat.reduceAnd, Nat.reduceShiftRight, Nat.reduceBEq, Nat.reduceBNe, Nat.reduceBneDiff, Nat.reduceBeqDiff, Int.reduceToNat, Int.reduceLE, Int.reduceLT, Int.reduceEq, c1, w1, w2, eq_true hlt2, hx]
    exact ⟨by omega, i + 1, by omega, by omega, rfl⟩
  · have c1 : ((i : Int) < ((markS k n).length : Int)) = False := eq_false (by omega)
    obtain rfl : i = n := by omega
    simp only [go_sem, ↓reduceIte, reduceCtorEq, Nat.reduceAdd, Nat.reduceMul, Nat.reduceEqDiff, Nat.reduceSub, Nat.reduceLT, Nat.reduceLeDiff, Nat.reduceAnd, Nat.reduceShiftRight, Nat.reduceBEq, Nat.reduceBNe, Nat.reduceBneDiff, Nat.reduceBeqDiff, Int.reduceToNat, Int.reduceLE, Int.reduceLT, Int.reduceEq, c1]
abbrev MHeldS : FM := .f2 (eList cStr) (eInt .i64) (eInt .i64).enc (fun xs k => ((k.toNat + xs.length : Nat) : Int)) (fun xs k => xs = markS k.toNat xs.length ∧ (1 ≤ k ∧ k ≤ 10000000) ∧ xs.length ≤ 10000000)
attribute [go_sem] MHeldS
theorem ok_laws_heldStringS : MHeldS.ok Tryz.prog 72 := FM.f2_ok fun xs k h => by
  obtain ⟨n, rfl⟩ := Int.eq_ofNat_of_zero_le (show 0 ≤ k by omega)
  have := f_heldStringS n xs.length ⟨by omega, h.2.2⟩
  have e : markS n xs.length = xs := h.1.symm
  rw [e] at this
  exact this

abbrev accN (m : Monitor) : Nat := m.1.2.2.2.2.2.1.length
/-- A monitor, marked. -/
def FM.mkMonitor : FM := ⟨[0], fun args rin => match args, rin with
  | [e1, .x (.o (.c (.v (.int .i64 k))))], [.row 1 rows, .row 1 rowt] => match mapO (cInt .i64).dec rows, mapO cStr.dec rowt with
    | some xs, some ys => some ((eInt .i64).enc ((1 + xs.length + ys.length : Nat) : Int), [some (oR (cInt .i64) (markI 1 xs.length)), some (oR cStr (markS (1 + xs.length) ys.length))], rows = xs.map (cInt .i64).enc ∧ rowt = ys.map cStr.enc ∧ ∃ m : Monitor, e1 = oMonitor m ∧ xs = m.1.2.2.2.2.2.1 ∧ ys = m.2.1 ∧ k = 1 ∧ accN m ≤ 1100000 ∧ m.2.1.length ≤ 1100000)
    | _, _ => none
  | _, _ => none⟩
theorem FM.mkMonitor_ok {P : Program} {g : FuncId} (h : ∀ (m : Monitor), accN m ≤ 1100000 → m.2.1.length ≤ 1100000 → VFun P g [oMonitor m, (eInt .i64).enc 1] [some (oR (cInt .i64) m.1.2.2.2.2.2.1), some (oR cStr m.2.1)] ((eInt .i64).enc ((1 + accN m + m.2.1.length : Nat) : Int)) [some (oR (cInt .i64) (markI 1 (accN m))), some (oR cStr (markS (1 + accN m) m.2.1.length))]) : FM.mkMonitor.ok P g := by
  intro args rin res rout p hm hp
  simp only [FM.mkMonitor] at hm
  split at hm
  · rename_i e1 k rows rowt
    split at hm
    · rename_i xs ys hx hy
      cases hm
      obtain ⟨rfl, rfl, t, rfl, rfl, rfl, rfl, h1, h2⟩ := hp
      exact h t h1 h2
    · cases hm
  · cases hm
attribute [go_sem] FM.mkMonitor

def H_laws_markMonitor : Hint := { fs := [(36, FM.mkClient), (37, MMarkS)], kp := [(0, [0, 1]), (1, [1, 2]), (2, [1, 2]), (3, [1])], an := [] }
attribute [go_sem] H_laws_markMonitor
theorem ok_H_laws_markMonitor : H_laws_markMonitor.ok Tryz.prog := AllOk.okR (.cons ok_laws_markClient (.cons ok_laws_markStringS .nil)) .nil mix
theorem f_markMonitor (m : Monitor) (h1 : accN m ≤ 1100000) (h2 : m.2.1.length ≤ 1100000) : VFun Tryz.prog 10 [oMonitor m, (eInt .i64).enc 1] [some (oR (cInt .i64) m.1.2.2.2.2.2.1), some (oR cStr m.2.1)] ((eInt .i64).enc ((1 + accN m + m.2.1.length : Nat) : Int)) [some (oR (cInt .i64) (markI 1 (accN m))), some (oR cStr (markS (1 + accN m) m.2.1.length))] := by
  unfold accN at *
  refine VFun_own (rin := [oR (cInt .i64) m.1.2.2.2.2.2.1, oR cStr m.2.1]) (n := 14) (rs := [.tmp 4]) Tryz.func10 rfl rfl rfl rfl H_laws_markMonitor ok_H_laws_markMonitor (Nat.le_of_ble_eq_true rfl) (by kernel_rfl) ?_
  simp only [go_sem, ↓reduceIte, reduceCtorEq, Nat.reduceAdd, Nat.reduceMul, Nat.reduceEqDiff, Nat.reduceSub, Nat.reduceLT, Nat.reduceLeDiff, Nat.reduceAnd, Nat.reduceShiftRight, Nat.reduceBEq, Nat.reduceBNe, Nat.reduceBneDiff, Nat.reduceBeqDiff, Int.reduceToNat, Int.reduceLE, Int.reduceLT, Int.reduceEq]
  exact ⟨⟨m.1, rfl, rfl, by omega⟩, by omega, by omega⟩
theorem ok_laws_markMonitor : FM.mkMonitor.ok Tryz.prog 10 := FM.mkMonitor_ok f_markMonitor

def H_laws_heldMonitor : Hint := { fs := [(71, MHeldClient), (72, MHeldS)], kp := [(0, [0, 1]), (1, [1, 2]), (2, [1, 2]), (3, []), (4, [1, 2]), (5, [1]), (6, []), (7, [1])], an := [] }
attribute [go_sem] H_laws_heldMonitor
theorem ok_H_laws_heldMonitor : H_laws_heldMonitor.ok Tryz.prog := AllOk.okR (.cons ok_laws_heldClient (.cons ok_laws_heldStringS .nil)) .nil mix
theorem f_heldMonitor (m : Monitor) (k : Int) (h : k = 1 ∧ m.1.2.2.2.2.2.1 = markI 1 (accN m) ∧ m.2.1 = markS (1 + accN m) m.2.1.length ∧ accN m ≤ 1100000 ∧ m.2.1.length ≤ 1100000) : VFun Tryz.prog 41 [(CE.st cMonitor).enc m, (eInt .i64).enc k] [] ((eInt .i64).enc ((1 + accN m + m.2.1.length : Nat) : Int)) [] := by
  unfold accN at *
  obtain ⟨rfl, g1, g2, h1, h2⟩ := h
  have c1 : (((1 + m.1.2.2.2.2.2.1.length : Nat) : Int) < 0) = False := eq_false (by omega)
  have c2 : (((1 + m.1.2.2.2.2.2.1.length + m.2.1.length : Nat) : Int) < 0) = False := eq_false (by omega)
  refine VFun_pure (n := 18) (rs := [.tmp 4]) Tryz.func41 rfl rfl rfl rfl H_laws_heldMonitor ok_H_laws_heldMonitor _ _ (Nat.le_of_ble_eq_true rfl) (by kernel_rfl) ?_
  simp only [go_sem, ↓reduceIte, reduceCtorEq, Nat.reduceAdd, Nat.reduceMul, Nat.reduceEqDiff, Nat.reduceSub, Nat.reduceLT, Nat.reduceLeDiff, Nat.reduceAnd, Nat.reduceShiftRight, Nat.reduceBEq, Nat.reduceBNe, Nat.reduceBneDiff, Nat.reduceBeqDiff, Int.reduceToNat, Int.reduceLE, Int.reduceLT, Int.reduceEq, c1, c2]
  exact ⟨⟨g1, by omega⟩, g2, by omega, by omega⟩
abbrev MHeldMonitor : FM := .f2 (CE.st cMonitor) (eInt .i64) (eInt .i64).enc (fun m _ => ((1 + m.1.2.2.2.2.2.1.length + m.2.1.length : Nat) : Int)) (fun m k => k = 1 ∧ m.1.2.2.2.2.2.1 = markI 1 m.1.2.2.2.2.2.1.length ∧ m.2.1 = markS (1 + m.1.2.2.2.2.2.1.length) m.2.1.length ∧ m.1.2.2.2.2.2.1.length ≤ 1100000 ∧ m.2.1.length ≤ 1100000)
attribute [go_sem] MHeldMonitor
theorem ok_laws_heldMonitor : MHeldMonitor.ok Tryz.prog 41 := FM.f2_ok fun m k h => f_heldMonitor m k h

def H_laws_eqWatched : Hint := { fs := [(9, MEqMonitor), (30, MEq_letters), (31, MEq_alarms), (32, MEq_points)], kp := [(0, [0, 1]), (1, [2, 3]), (2, []), (3, [2, 3]), (4, []), (5, [2, 3]), (6, []), (7, [2, 3]), (8, []), (9, [2, 3]), (10, []), (11, [])], an := [] }
attribute [go_sem] H_laws_eqWatched
theorem ok_H_laws_eqWatched : H_laws_eqWatched.ok Tryz.prog := AllOk.okR (.cons ok_laws_eqMonitor (.cons ok_laws_eqLetterS (.cons ok_laws_eqAlarmS (.cons ok_laws_eqPointS .nil)))) .nil mix
theorem f_eqWatched (x : Watched) (h : x.1.1.2.2.2.2.2.1.length ≤ 1048576 ∧ x.1.2.1.length ≤ 1048576 ∧ x.2.1.length ≤ maxLen ∧ x.2.2.1.length ≤ maxLen ∧ x.2.2.2.1.length ≤ maxLen ∧ x.2.2.2.2.length ≤ maxLen) : VFun Tryz.prog 8 [(CE.st cWatched).enc x, (CE.st cWatched).enc x] [] (eBool.enc true) [] := by
  obtain ⟨l1, l2, l3, l4, l5, l6⟩ := h
  refine VFun_pure (n := 35) (rs := [.tmp 4]) Tryz.func8 rfl rfl rfl rfl H_laws_eqWatched ok_H_laws_eqWatched _ _ (Nat.le_of_ble_eq_true rfl) (by kernel_rfl) ?_
  simp only [go_sem, ↓reduceIte, reduceCtorEq, Nat.reduceAdd, Nat.reduceMul, Nat.reduceEqDiff, Nat.reduceSub, Nat.reduceLT, Nat.reduceLeDiff, Nat.reduceAnd, Nat.reduceShiftRight, Nat.reduceBEq, Nat.reduceBNe, Nat.reduceBneDiff, Nat.reduceBeqDiff, Int.reduceToNat, Int.reduceLE, Int.reduceLT, Int.reduceEq, decide_true]
  exact ⟨⟨l1, l2⟩, l3, l4, l5, l6⟩
abbrev MEqWatched : FM := .f2 (CE.st cWatched) (CE.st cWatched) eBool.enc (fun _ _ => true) (fun x y => x = y ∧ x.1.1.2.2.2.2.2.1.length ≤ 1048576 ∧ x.1.2.1.length ≤ 1048576 ∧ x.2.1.length ≤ maxLen ∧ x.2.2.1.length ≤ maxLen ∧ x.2.2.2.1.length ≤ maxLen ∧ x.2.2.2.2.length ≤ maxLen)
attribute [go_sem] MEqWatched
theorem ok_laws_eqWatched : MEqWatched.ok Tryz.prog 8 := FM.f2_ok fun x y h => by rw [← h.1]; exact f_eqWatched x h.2

/-- What is watched, marked. -/
def FM.mkWatched : FM := ⟨[0], fun args rin => match args, rin with
  | [e1, .x (.o (.c (.v (.int .i64 k))))], [.row 1 rows, .row 1 rowt, .row 3 rowu] => match mapO (cInt .i64).dec rows, mapO cStr.dec rowt, mapO cLetter.dec rowu with
    | some xs, some ys, some zs => some ((eInt .i64).enc ((1 + xs.length + ys.length + 3 * zs.length : Nat) : Int), [some (oR (cInt .i64) (markI 1 xs.length)), some (oR cStr (markS (1 + xs.length) ys.length)), some (oR cLetter (markT (1 + xs.length + ys.length) zs.length))],
        rows = xs.map (cInt .i64).enc ∧ rowt = ys.map cStr.enc ∧ rowu = zs.map cLetter.enc ∧ ∃ w : Watched, e1 = oWatched 0 1 2 w ∧ xs = w.1.1.2.2.2.2.2.1 ∧ ys = w.1.2.1 ∧ zs = w.2.1 ∧ k = 1 ∧ w.1.1.2.2.2.2.2.1.length ≤ 1100000 ∧ w.1.2.1.length ≤ 1100000 ∧ w.2.1.length ≤ 100)
    | _, _, _ => none
  | _, _ => none⟩
theorem FM.mkWatched_ok {P : Program} {g : FuncId} (h : ∀ (w : Watched), w.1.1.2.2.2.2.2.1.length ≤ 1100000 → w.1.2.1.length ≤ 1100000 → w.2.1.length ≤ 100 → VFun P g [oWatched 0 1 2 w, (eInt .i64).enc 1] (rWatched w) ((eInt .i64).enc ((1 + w.1.1.2.2.2.2.2.1.length + w.1.2.1.length + 3 * w.2.1.length : Nat) : Int)) [some (oR (cInt .i64) (markI 1 w.1.1.2.2.2.2.2.1.length)), some (oR cStr (markS (1 + w.1.1.2.2.2.2.2.1.length) w.1.2.1.length)), some (oR cLetter (markT (1 + w.1.1.2.2.2.2.2.1.length + w.1.2.1.length) w.2.1.length))]) : FM.mkWatched.ok P g := by
  intro args rin res rout p hm hp
  simp only [FM.mkWatched] at hm
  split at hm
  · rename_i e1 k rows rowt rowu
    split at hm
    · rename_i xs ys zs hx hy hz
      cases hm
      obtain ⟨rfl, rfl, rfl, t, rfl, rfl, rfl, rfl, rfl, h1, h2, h3⟩ := hp
      exact h t h1 h2 h3
    · cases hm
  · cases hm
attribute [go_sem] FM.mkWatched

def H_laws_markWatched : Hint := { fs := [(10, FM.mkMonitor), (38, MMarkT), (39, MNilA), (40, MNilP)], kp := [(0, [0, 1]), (1, [1, 2]), (2, [1, 2]), (3, [1, 2]), (4, [1, 2]), (5, [1, 2]), (6, [1])], an := [] }
attribute [go_sem] H_laws_markWatched
theorem ok_H_laws_markWatched : H_laws_markWatched.ok Tryz.prog := AllOk.okR (.cons ok_laws_markMonitor (.cons ok_laws_markLetterS (.cons ok_laws_markAlarmS (.cons ok_laws_markPointS .nil)))) .nil mix
theorem f_markWatched (w : Watched) (h1 : w.1.1.2.2.2.2.2.1.length ≤ 1100000) (h2 : w.1.2.1.length ≤ 1100000) (h3 : w.2.1.length ≤ 100) : VFun Tryz.prog 11 [oWatched 0 1 2 w, (eInt .i64).enc 1] (rWatched w) ((eInt .i64).enc ((1 + w.1.1.2.2.2.2.2.1.length + w.1.2.1.length + 3 * w.2.1.length : Nat) : Int)) [some (oR (cInt .i64) (markI 1 w.1.1.2.2.2.2.2.1.length)), some (oR cStr (markS (1 + w.1.1.2.2.2.2.2.1.length) w.1.2.1.length)), some (oR cLetter (markT (1 + w.1.1.2.2.2.2.2.1.length + w.1.2.1.length) w.2.1.length))] := by
  refine VFun_own (rin := [oR (cInt .i64) w.1.1.2.2.2.2.2.1, oR cStr w.1.2.1, oR cLetter w.2.1]) (n := 26) (rs := [.tmp 4]) Tryz.func11 rfl rfl rfl rfl H_laws_markWatched ok_H_laws_markWatched (Nat.le_of_ble_eq_true rfl) (by kernel_rfl) ?_
  simp only [go_sem, ↓reduceIte, reduceCtorEq, Nat.reduceAdd, Nat.reduceMul, Nat.reduceEqDiff, Nat.reduceSub, Nat.reduceLT, Nat.reduceLeDiff, Nat.reduceAnd, Nat.reduceShiftRight, Nat.reduceBEq, Nat.reduceBNe, Nat.reduceBneDiff, Nat.reduceBeqDiff, Int.reduceToNat, Int.reduceLE, Int.reduceLT, Int.reduceEq]
  exact ⟨⟨w.1, rfl, rfl, rfl, by unfold accN; omega, by omega⟩, by omega, by omega⟩
theorem ok_laws_markWatched : FM.mkWatched.ok Tryz.prog 11 := FM.mkWatched_ok f_markWatched

def H_laws_heldWatched : Hint := { fs := [(41, MHeldMonitor), (42, MHeldT), (43, MNilA), (44, MNilP)], kp := [(0, [0, 1]), (1, [1, 2]), (2, [1, 2]), (3, []), (4, [1, 2]), (5, [1, 2]), (6, []), (7, [1, 2]), (8, [1, 2]), (9, []), (10, [1, 2]), (11, [1, 2]), (12, []), (13, [1, 2]), (14, [1]), (15, []), (16, [1])], an := [] }
attribute [go_sem] H_laws_heldWatched
theorem ok_H_laws_heldWatched : H_laws_heldWatched.ok Tryz.prog := AllOk.okR (.cons ok_laws_heldMonitor (.cons ok_laws_heldLetterS (.cons ok_laws_heldAlarmS (.cons ok_laws_heldPointS .nil)))) .nil mix
theorem f_heldWatched (w : Watched) (k : Int) (h : k = 1 ∧ w.1.1.2.2.2.2.2.1 = markI 1 w.1.1.2.2.2.2.2.1.length ∧ w.1.2.1 = markS (1 + w.1.1.2.2.2.2.2.1.length) w.1.2.1.length ∧ w.2.1 = markT (1 + w.1.1.2.2.2.2.2.1.length + w.1.2.1.length) w.2.1.length ∧ w.1.1.2.2.2.2.2.1.length ≤ 1100000 ∧ w.1.2.1.length ≤ 1100000 ∧ w.2.1.length ≤ 100 ∧ w.2.2.1 = [] ∧ w.2.2.2.1 = [] ∧ w.2.2.2.2 = []) : VFun Tryz.prog 12 [(CE.st cWatched).enc w, (eInt .i64).enc k] [] ((eInt .i64).enc ((1 + w.1.1.2.2.2.2.2.1.length + w.1.2.1.length + 3 * w.2.1.length : Nat) : Int)) [] := by
  obtain ⟨m, ls, al, ps, qs⟩ := w
  obtain ⟨rfl, g1, g2, g3, h1, h2, h3, h4, h5, h6⟩ := h
  dsimp only at g1 g2 g3 h1 h2 h3 h4 h5 h6
  subst h4 h5 h6
  have c1 : (((1 + m.1.2.2.2.2.2.1.length + m.2.1.length : Nat) : Int) < 0) = False := eq_false (by omega)
  have c2 : (((1 + m.1.2.2.2.2.2.1.length + m.2.1.length + 3 * ls.length : Nat) : Int) < 0) = False := eq_false (by omega)
  refine VFun_pure (n := 36) (rs := [.tmp 4]) Tryz.func12 rfl rfl rfl rfl H_laws_heldWatched ok_H_laws_heldWatched _ _ (Nat.le_of_ble_eq_true rfl) (by kernel_rfl) ?_
  simp only [go_sem, ↓reduceIte, reduceCtorEq, Nat.reduceAdd, Nat.reduceMul, Nat.reduceEqDiff, Nat.reduceSub, Nat.reduceLT, Nat.reduceLeDiff, Nat.reduceAnd, Nat.reduceShiftRight, Nat.reduceBEq, Nat.reduceBNe, Nat.reduceBneDiff, Nat.reduceBeqDiff, Int.reduceToNat, Int.reduceLE, Int.reduceLT, Int.reduceEq, c1, c2]
  exact ⟨⟨g1, g2, h1, h2⟩, g3, by omega, by omega⟩
abbrev MHeldWatched : FM := .f2 (CE.st cWatched) (eInt .i64) (eInt .i64).enc (fun w _ => ((1 + w.1.1.2.2.2.2.2.1.length + w.1.2.1.length + 3 * w.2.1.length : Nat) : Int)) (fun w k => k = 1 ∧ w.1.1.2.2.2.2.2.1 = markI 1 w.1.1.2.2.2.2.2.1.length ∧ w.1.2.1 = markS (1 + w.1.1.2.2.2.2.2.1.length) w.1.2.1.length ∧ w.2.1 = markT (1 + w.1.1.2.2.2.2.2.1.length + w.1.2.1.length) w.2.1.length ∧ w.1.1.2.2.2.2.2.1.length ≤ 1100000 ∧ w.1.2.1.length ≤ 1100000 ∧ w.2.1.length ≤ 100 ∧ w.2.2.1 = [] ∧ w.2.2.2.1 = [] ∧ w.2.2.2.2 = [])
attribute [go_sem] MHeldWatched
theorem ok_laws_heldWatched : MHeldWatched.ok Tryz.prog 12 := FM.f2_ok fun w k h => f_heldWatched w k h

end Go.Proofs.YtlofjogebacndaaGreatW.V

