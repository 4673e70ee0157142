/- Functions: monitors. No condition but each theorem's own. -/
import Derived.Test.YtlofjogebacndaaFQC
namespace Go.Proofs.YtlofjogebacndaaW.V
open Go Go.Proofs
set_option linter.unusedSimpArgs false
set_option linter.unusedVariables false
set_option maxRecDepth 8000
set_option maxHeartbeats 4000000

set_option synthInstance.maxSize 1000

abbrev Monitor := Client × List ByteArray × Point
abbrev cMonitor : Cd Monitor := cPair cClient (cPair (cList cStr) cPoint)
attribute [go_sem] cMonitor

def H_laws_toDigest : Hint := { fs := [], kp := [(0, [0]), (1, [1, 2]), (2, [1, 2, 3]), (3, [1, 2, 3]), (4, [1, 2, 3]), (5, [1, 2, 3]), (6, [2, 3])], an := [] }
attribute [go_sem] H_laws_toDigest
theorem ok_H_laws_toDigest : H_laws_toDigest.ok Try.prog := AllOk.okR .nil .nil mix
theorem f_toDigest (x : Digest) : VFun Try.prog 78 [(CE.st cDigest).enc x] [] ((CE.st cDigest).enc x) [] := by
  refine VFun_pure (n := 17) (rs := [.cell 2 35]) Try.func78 rfl rfl rfl rfl H_laws_toDigest ok_H_laws_toDigest _ _ (Nat.le_of_ble_eq_true rfl) (by kernel_rfl) ?_
  simp only [go_sem, ↓reduceIte, reduceCtorEq, Nat.reduceAdd, Nat.reduceMul, Nat.reduceEqDiff, Nat.reduceSub, Nat.reduceLT, Nat.reduceLeDiff, Nat.reduceAnd, Nat.reduceShiftRight, Nat.reduceBEq, Nat.reduceBNe, Nat.reduceBneDiff, Nat.reduceBeqDiff, Int.reduceToNat, Int.reduceLE, Int.reduceLT, Int.reduceEq]
abbrev MToDigest : FM := .f1 (CE.st cDigest) (CE.st cDigest).enc (fun x => x) (fun _ => True)
attribute [go_sem] MToDigest
theorem ok_laws_toDigest : MToDigest.ok Try.prog 78 := FM.f1_ok fun x _ => f_toDigest x

def H_laws_toPoint : Hint := { fs := [(78, MToDigest)], kp := [(0, [0]), (1, [1, 2]), (2, [1, 2, 3]), (3, [1, 2, 3]), (4, [2, 3])], an := [] }
attribute [go_sem] H_laws_toPoint
theorem ok_H_laws_toPoint : H_laws_toPoint.ok Try.prog := AllOk.okR (.cons ok_laws_toDigest .nil) .nil mix
theorem f_toPoint (x : Point) : VFun Try.prog 31 [(CE.st cPoint).enc x] [] ((CE.st cPoint).enc x) [] := by
  refine VFun_pure (n := 12) (rs := [.cell 2 37]) Try.func31 rfl rfl rfl rfl H_laws_toPoint ok_H_laws_toPoint _ _ (Nat.le_of_ble_eq_true rfl) (by kernel_rfl) ?_
  simp only [go_sem, ↓reduceIte, reduceCtorEq, Nat.reduceAdd, Nat.reduceMul, Nat.reduceEqDiff, Nat.reduceSub, Nat.reduceLT, Nat.reduceLeDiff, Nat.reduceAnd, Nat.reduceShiftRight, Nat.reduceBEq, Nat.reduceBNe, Nat.reduceBneDiff, Nat.reduceBeqDiff, Int.reduceToNat, Int.reduceLE, Int.reduceLT, Int.reduceEq]
abbrev MToPoint : FM := .f1 (CE.st cPoint) (CE.st cPoint).enc (fun x => x) (fun _ => True)
attribute [go_sem] MToPoint
theorem ok_laws_toPoint : MToPoint.ok Try.prog 31 := FM.f1_ok fun x _ => f_toPoint x

/-- A list that is filled. -/
def fillM {A : Type} (z : A) (xs : List A) (i : Nat) : List A := xs.take i ++ List.replicate (xs.length - i) z
theorem fillM_len {A : Type} (z : A) (xs : List A) {i : Nat} (h : i ≤ xs.length) : (fillM z xs i).length = xs.length := by
  rw [fillM, List.length_append, List.length_take, List.length_replicate]; omega
theorem fillM_n {A : Type} (z : A) (xs : List A) : fillM z xs xs.length = xs := by simp [fillM]
theorem fillM_set {A : Type} (z : A) (xs : List A) {i : Nat} {x : A} (h : xs[i]? = some x) : (fillM z xs i).set i x = fillM z xs (i + 1) := by
  have hlt : i < xs.length := (List.getElem?_eq_some_iff.1 h).1
  have ht : (xs.take i).length = i := by rw [List.length_take]; omega
  rw [fillM, List.set_append_right _ _ (by omega), ht, Nat.sub_self, fillM, List.take_add_one, h]
  have e : xs.length - i = (xs.length - (i + 1)) + 1 := by omega
  rw [e, List.replicate_succ, List.set_cons_zero, List.append_assoc]
  rfl

/-- A client whose list is one's own. -/
abbrev oClient (j : Nat) (c : Client) : E := .x (.a [.c (.v (.int .i64 c.1)), .c (.v (.int .i64 c.2.1)), .c (.v (.int .i64 c.2.2.1)), .c (.v (.int .i64 c.2.2.2.1)),
  .c (.v (.int .i64 c.2.2.2.2.1.1)), .c (.v (.int .u64 c.2.2.2.2.1.2.1.toNat)), .c (.v (.int .u64 c.2.2.2.2.1.2.2.1.toNat)), .c (.v (.int .u64 c.2.2.2.2.1.2.2.2.1.toNat)), .c (.v (.int .u64 c.2.2.2.2.1.2.2.2.2.toNat)),
  .h (0, j) 0 c.2.2.2.2.2.1.length c.2.2.2.2.2.1.length,
  .c (.v (.int .i64 c.2.2.2.2.2.2.1)), .c (.v (.int .u64 c.2.2.2.2.2.2.2.1.toNat)), .c (.v (.int .u64 c.2.2.2.2.2.2.2.2.1.toNat)), .c (.v (.int .u64 c.2.2.2.2.2.2.2.2.2.1.toNat)), .c (.v (.int .u64 c.2.2.2.2.2.2.2.2.2.2.toNat))])
attribute [go_sem] oClient

def H_laws_toIntS : Hint := { fs := [], kp := [(0, [0]), (1, [0]), (2, [0, 3]), (3, [0, 3, 4]), (5, [0, 3, 4]), (4, [0, 3, 4]), (6, [3])], an := [], own := true }
attribute [go_sem] H_laws_toIntS
theorem ok_H_laws_toIntS : H_laws_toIntS.ok Try.prog := AllOk.okR .nil .nil mix
theorem o_toIntS (xs) (h : xs.length ≤ 1048576) : VFun Try.prog 42 [(eList (cInt .i64)).enc xs] [] (oL 0 xs) [some (oR (cInt .i64) xs)] := by
  have hml := fun i (h : i ≤ xs.length) => fillM_len (0 : Int) xs h
  refine VFun_own (rin := []) (n := 22) (rs := [.tmp 2]) Try.func42 rfl rfl rfl rfl H_laws_toIntS ok_H_laws_toIntS (Nat.le_of_ble_eq_true rfl) (by kernel_rfl) ?_
  have h0 : List.replicate xs.length ([.v (.int .i64 0)] : List C) = (fillM (0 : Int) xs 0).map ((cInt .i64)).enc := by
    rw [fillM, List.take_zero, List.nil_append, Nat.sub_zero, List.map_replicate]; rfl
  have hz := hml 0 (Nat.zero_le _)
  simp only [go_sem, ↓reduceIte, reduceCtorEq, Nat.reduceAdd, Nat.reduceMul, Nat.reduceEqDiff, Nat.reduceSub, Nat.reduceLT, Nat.reduceLeDiff, Nat.reduceAnd, Nat.reduceShiftRight, Nat.reduceBEq, Nat.reduceBNe, Nat.reduceBneDiff, Nat.reduceBeqDiff, Int.reduceToNat, Int.reduceLE, Int.reduceLT, Int.reduceEq]
  refine ⟨⟨by omega, by omega, by omega⟩, ?_⟩
  refine LoopV.go (H := H_laws_toIntS) ok_H_laws_toIntS (by kernel_rfl) (fun i : Nat => ⟨[(0, .x (.o (.c (.s (xs.map ((cInt .i64)).enc))))), (3, .x (.o (.h (1, 100) 0 (fillM (0 : Int) xs i).length (fillM (0 : Int) xs i).length))), (4, sc (.int .i64 i))], [((1, 100), .row 1 ((fillM (0 : Int) xs i).map ((cInt .i64)).enc))], 2⟩) (fun i => xs.length - i) (fun i => i ≤ xs.length) ?_ 0 (Nat.zero_le _) (by rw [hz]; exact congrArg (fun r => (⟨_, [((1, 100), Root.row 1 r)], 2⟩ : LS)) h0)
  intro i hi
  have hmi := hml i hi
  have w1 : IntKind.i64.wrap ((i : Int) + 1) = ((i + 1 : Nat) : Int) := by rw [wrap64] <;> omega
  by_cases hlt : i < xs.length
  · obtain ⟨x, hx⟩ : ∃ r, xs[i]? = some r := ⟨_, List.getElem?_eq_getElem hlt⟩
    have hlt2 : i < (fillM (0 : Int) xs i).length := by omega
    obtain ⟨y, hy⟩ : ∃ r, (fillM (0 : Int) xs i)[i]? = some r := ⟨_, List.getElem?_eq_getElem hlt2⟩
    have c1 : ((i : Int) < (xs.length : Int)) = True := eq_true (by omega)
    have c2 : ((i : Int) < ((fillM (0 : Int) xs i).length : Int)) = True := eq_true (by omega)
    have hs := congrArg (List.map ((cInt .i64)).enc) (fillM_set (0 : Int) xs hx)
    rw [List.map_set] at hs
    have hmj := hml (i + 1) (by omega)
    simp only [go_sem, ↓reduceIte, reduceCtorEq, Nat.reduceAdd, Nat.reduceMul, Nat.reduceEqDiff, Nat.reduceSub, Nat.reduceLT, Nat.reduceLeDiff, Nat.reduceAnd, Nat.reduceShiftRight, Nat.reduceBEq, Nat.reduceBNe, Nat.reduceBneDiff, Nat.reduceBeqDiff, Int.reduceToNat, Int.reduceLE, Int.reduceLT, Int.reduceEq, c1, c2, w1, eq_true hlt2, hx, hy, List.length_set, List.length_map, List.set_set]
    exact ⟨i + 1, by omega, by omega, by rw [hmi, hmj]; exact congrArg (fun r => (⟨_, [((1, 100), Root.row 1 r)], 2⟩ : LS)) hs⟩
  · have c1 : ((i : Int) < (xs.length : Int)) = False := eq_false (by omega)
    obtain rfl : i = xs.length := by omega
    simp only [go_sem, ↓reduceIte, reduceCtorEq, Nat.reduceAdd, Nat.reduceMul, Nat.reduceEqDiff, Nat.reduceSub, Nat.reduceLT, Nat.reduceLeDiff, Nat.reduceAnd, Nat.reduceShiftRight, Nat.reduceBEq, Nat.reduceBNe, Nat.reduceBneDiff, Nat.reduceBeqDiff, Int.reduceToNat, Int.reduceLE, Int.reduceLT, Int.reduceEq, c1]
    rw [fillM_n]
    exact ⟨rfl, rfl⟩
abbrev O_toIntS : FM := .g1 (eList (cInt .i64)) (fun x => (oL 0 x, [some (oR (cInt .i64) x)])) (fun x => x.length ≤ 1048576)
attribute [go_sem] O_toIntS
theorem ok_laws_toIntS : O_toIntS.ok Try.prog 42 := FM.g1_ok fun x h => o_toIntS x h

def H_laws_toStringS : Hint := { fs := [], kp := [(0, [0]), (1, [0]), (2, [0, 3]), (3, [0, 3, 4]), (5, [0, 3, 4]), (4, [0, 3, 4]), (6, [3])], an := [], own := true }
attribute [go_sem] H_laws_toStringS
theorem ok_H_laws_toStringS : H_laws_toStringS.ok Try.prog := AllOk.okR .nil .nil mix
theorem o_toStringS (xs) (h : xs.length ≤ 1048576) : VFun Try.prog 30 [(eList cStr).enc xs] [] (oL 0 xs) [some (oR cStr xs)] := by
  have hml := fun i (h : i ≤ xs.length) => fillM_len (⟨#[]⟩ : ByteArray) xs h
  refine VFun_own (rin := []) (n := 22) (rs := [.tmp 2]) Try.func30 rfl rfl rfl rfl H_laws_toStringS ok_H_laws_toStringS (Nat.le_of_ble_eq_true rfl) (by kernel_rfl) ?_
  have h0 : List.replicate xs.length ([.v (.string ⟨#[]⟩)] : List C) = (fillM (⟨#[]⟩ : ByteArray) xs 0).map (cStr).enc := by
    rw [fillM, List.take_zero, List.nil_append, Nat.sub_zero, List.map_replicate]; rfl
  have hz := hml 0 (Nat.zero_le _)
  simp only [go_sem, ↓reduceIte, reduceCtorEq, Nat.reduceAdd, Nat.reduceMul, Nat.reduceEqDiff, Nat.reduceSub, Nat.reduceLT, Nat.reduceLeDiff, Nat.reduceAnd, Nat.reduceShiftRight, Nat.reduceBEq, Nat.reduceBNe, Nat.reduceBneDiff, Nat.reduceBeqDiff, Int.reduceToNat, Int.reduceLE, Int.reduceLT, Int.reduceEq]
  refine ⟨⟨by omega, by omega, by omega⟩, ?_⟩
  refine LoopV.go (H := H_laws_toStringS) ok_H_laws_toStringS (by kernel_rfl) (fun i : Nat => ⟨[(0, .x (.o (.c (.s (xs.map (cStr).enc))))), (3, .x (.o (.h (1, 100) 0 (fillM (⟨#[]⟩ : ByteArray) xs i).length (fillM (⟨#[]⟩ : ByteArray) xs i).length))), (4, sc (.int .i64 i))], [((1, 100), .row 1 ((fillM (⟨#[]⟩ : ByteArray) xs i).map (cStr).enc))], 2⟩) (fun i => xs.length - i) (fun i => i ≤ xs.length) ?_ 0 (Nat.zero_le _) (by rw [hz]; exact congrArg (fun r => (⟨_, [((1, 100), Root.row 1 r)], 2⟩ : LS)) h0)
  intro i hi
  have hmi := hml i hi
  have w1 : IntKind.i64.wrap ((i : Int) + 1) = ((i + 1 : Nat) : Int) := by rw [wrap64] <;> omega
  by_cases hlt : i < xs.length
  · obtain ⟨x, hx⟩ : ∃ r, xs[i]? = some r := ⟨_, List.getElem?_eq_getElem hlt⟩
    have hlt2 : i < (fillM (⟨#[]⟩ : ByteArray) xs i).length := by omega
    obtain ⟨y, hy⟩ : ∃ r, (fillM (⟨#[]⟩ : ByteArray) xs i)[i]? = some r := ⟨_, List.getElem?_eq_getElem hlt2⟩
    have c1 : ((i : Int) < (xs.length : Int)) = True := eq_true (by omega)
    have c2 : ((i : Int) < ((fillM (⟨#[]⟩ : ByteArray) xs i).length : Int)) = True := eq_true (by omega)
    have hs := congrArg (List.map (cStr).enc) (fillM_set (⟨#[]⟩ : ByteArray) xs hx)
    rw [List.map_set] at hs
    have hmj := hml (i + 1) (by omega)
    simp only [go_sem, ↓reduceIte, reduceCtorEq, Nat.reduceAdd, Nat.reduceMul, Nat.reduceEqDiff, Nat.reduceSub, Nat.reduceLT, Nat.reduceLeDiff, Nat.reduceAnd, Nat.reduceShiftRight, Nat.reduceBEq, Nat.reduceBNe, Nat.reduceBneDiff, Nat.reduceBeqDiff, Int.reduceToNat, Int.reduceLE, Int.reduceLT, Int.reduceEq, c1, c2, w1, eq_true hlt2, hx, hy, List.length_set, List.length_map, List.set_set]
    exact ⟨i + 1, by omega, by omega, by rw [hmi, hmj]; exact congrArg (fun r => (⟨_, [((1, 100), Root.row 1 r)], 2⟩ : LS)) hs⟩
  · have c1 : ((i : Int) < (xs.length : Int)) = False := eq_false (by omega)
    obtain rfl : i = xs.length := by omega
    simp only [go_sem, ↓reduceIte, reduceCtorEq, Nat.reduceAdd, Nat.reduceMul, Nat.reduceEqDiff, Nat.reduceSub, Nat.reduceLT, Nat.reduceLeDiff, Nat.reduceAnd, Nat.reduceShiftRight, Nat.reduceBEq, Nat.reduceBNe, Nat.reduceBneDiff, Nat.reduceBeqDiff, Int.reduceToNat, Int.reduceLE, Int.reduceLT, Int.reduceEq, c1]
    rw [fillM_n]
    exact ⟨rfl, rfl⟩
abbrev O_toStringS : FM := .g1 (eList cStr) (fun x => (oL 0 x, [some (oR cStr x)])) (fun x => x.length ≤ 1048576)
attribute [go_sem] O_toStringS
theorem ok_laws_toStringS : O_toStringS.ok Try.prog 30 := FM.g1_ok fun x h => o_toStringS x h

def H_laws_toClient : Hint := { fs := [(31, MToPoint), (42, O_toIntS)], kp := [(0, [0]), (1, [1, 2]), (2, [1, 2, 3]), (3, [1, 2, 3]), (4, [1, 2, 3]), (5, [1, 2, 3]), (6, [1, 2, 3]), (7, [1, 2, 3]), (8, [1, 2, 3]), (9, [2, 3])], an := [], own := true }
attribute [go_sem] H_laws_toClient
theorem ok_H_laws_toClient : H_laws_toClient.ok Try.prog := AllOk.okR (.cons ok_laws_toPoint (.cons ok_laws_toIntS .nil)) .nil mix
theorem o_toClient (c : Client) (h : c.2.2.2.2.2.1.length ≤ 1048576) : VFun Try.prog 13 [(CE.st cClient).enc c] [] (oClient 0 c) [some (oR (cInt .i64) c.2.2.2.2.2.1)] := by
  refine VFun_own (rin := []) (n := 29) (rs := [.cell 2 39]) Try.func13 rfl rfl rfl rfl H_laws_toClient ok_H_laws_toClient (Nat.le_of_ble_eq_true rfl) (by kernel_rfl) ?_
  simp only [go_sem, ↓reduceIte, reduceCtorEq, Nat.reduceAdd, Nat.reduceMul, Nat.reduceEqDiff, Nat.reduceSub, Nat.reduceLT, Nat.reduceLeDiff, Nat.reduceAnd, Nat.reduceShiftRight, Nat.reduceBEq, Nat.reduceBNe, Nat.reduceBneDiff, Nat.reduceBeqDiff, Int.reduceToNat, Int.reduceLE, Int.reduceLT, Int.reduceEq]
  exact h
abbrev OToClient : FM := .g1 (CE.st cClient) (fun c => (oClient 0 c, [some (oR (cInt .i64) c.2.2.2.2.2.1)])) (fun c => c.2.2.2.2.2.1.length ≤ 1048576)
attribute [go_sem] OToClient
theorem ok_laws_toClient : OToClient.ok Try.prog 13 := FM.g1_ok fun c h => o_toClient c h

/-- A monitor whose lists are one's own. -/
abbrev oMonitor (m : Monitor) : E := .x (.a [.c (.v (.int .i64 m.1.1)), .c (.v (.int .i64 m.1.2.1)), .c (.v (.int .i64 m.1.2.2.1)), .c (.v (.int .i64 m.1.2.2.2.1)),
  .c (.v (.int .i64 m.1.2.2.2.2.1.1)), .c (.v (.int .u64 m.1.2.2.2.2.1.2.1.toNat)), .c (.v (.int .u64 m.1.2.2.2.2.1.2.2.1.toNat)), .c (.v (.int .u64 m.1.2.2.2.2.1.2.2.2.1.toNat)), .c (.v (.int .u64 m.1.2.2.2.2.1.2.2.2.2.toNat)),
  .h (0, 0) 0 m.1.2.2.2.2.2.1.length m.1.2.2.2.2.2.1.length,
  .c (.v (.int .i64 m.1.2.2.2.2.2.2.1)), .c (.v (.int .u64 m.1.2.2.2.2.2.2.2.1.toNat)), .c (.v (.int .u64 m.1.2.2.2.2.2.2.2.2.1.toNat)), .c (.v (.int .u64 m.1.2.2.2.2.2.2.2.2.2.1.toNat)), .c (.v (.int .u64 m.1.2.2.2.2.2.2.2.2.2.2.toNat)),
  .h (0, 1) 0 m.2.1.length m.2.1.length,
  .c (.v (.int .i64 m.2.2.1)), .c (.v (.int .u64 m.2.2.2.1.toNat)), .c (.v (.int .u64 m.2.2.2.2.1.toNat)), .c (.v (.int .u64 m.2.2.2.2.2.1.toNat)), .c (.v (.int .u64 m.2.2.2.2.2.2.toNat))])
abbrev rMonitor (m : Monitor) : List (Option Root) := [some (oR (cInt .i64) m.1.2.2.2.2.2.1), some (oR cStr m.2.1)]
attribute [go_sem] oMonitor rMonitor

def H_laws_toMonitor : Hint := { fs := [(13, OToClient), (30, O_toStringS), (31, MToPoint)], kp := [(0, [0]), (1, [1, 2]), (2, [1, 2, 3]), (3, [1, 2, 3]), (4, [1, 2, 3]), (5, [2, 3])], an := [], own := true }
attribute [go_sem] H_laws_toMonitor
theorem ok_H_laws_toMonitor : H_laws_toMonitor.ok Try.prog := AllOk.okR (.cons ok_laws_toClient (.cons ok_laws_toStringS (.cons ok_laws_toPoint .nil))) .nil mix
theorem o_toMonitor (m : Monitor) (h : m.1.2.2.2.2.2.1.length ≤ 1048576 ∧ m.2.1.length ≤ 1048576) : VFun Try.prog 8 [(CE.st cMonitor).enc m] [] (oMonitor m) (rMonitor m) := by
  refine VFun_own (rin := []) (n := 17) (rs := [.cell 2 41]) Try.func8 rfl rfl rfl rfl H_laws_toMonitor ok_H_laws_toMonitor (Nat.le_of_ble_eq_true rfl) (by kernel_rfl) ?_
  simp only [go_sem, ↓reduceIte, reduceCtorEq, Nat.reduceAdd, Nat.reduceMul, Nat.reduceEqDiff, Nat.reduceSub, Nat.reduceLT, Nat.reduceLeDiff, Nat.reduceAnd, Nat.reduceShiftRight, Nat.reduceBEq, Nat.reduceBNe, Nat.reduceBneDiff, Nat.reduceBeqDiff, Int.reduceToNat, Int.reduceLE, Int.reduceLT, Int.reduceEq]
  exact h
abbrev OToMonitor : FM := .g1 (CE.st cMonitor) (fun m => (oMonitor m, rMonitor m)) (fun m => m.1.2.2.2.2.2.1.length ≤ 1048576 ∧ m.2.1.length ≤ 1048576)
attribute [go_sem] OToMonitor
theorem ok_laws_toMonitor : OToMonitor.ok Try.prog 8 := FM.g1_ok fun x h => o_toMonitor x h

def H_laws_eqStringS : Hint := { fs := [], kp := [(0, [0, 1]), (1, [0, 1]), (2, []), (3, [0, 1]), (4, [0, 1, 5]), (6, [0, 1, 5]), (7, []), (5, [0, 1, 5]), (8, [])], an := [(6, [0, 0, 3, 7, 0, 0, 48, 112, 255])] }
attribute [go_sem] H_laws_eqStringS
theorem ok_H_laws_eqStringS : H_laws_eqStringS.ok Try.prog := AllOk.okR .nil .nil mix
theorem f_eqStringS (xs ys : List ByteArray) (hl : xs.length ≤ maxLen) : VFun Try.prog 36 [(eList cStr).enc xs, (eList cStr).enc ys] [] (eBool.enc (decide (xs = ys))) [] := by
  unfold maxLen at hl
  refine VFun_pure (n := 26) (rs := [.tmp 4]) Try.func36 rfl rfl rfl rfl H_laws_eqStringS ok_H_laws_eqStringS _ _ (Nat.le_of_ble_eq_true rfl) (by kernel_rfl) ?_
  simp only [go_sem, ↓reduceIte, reduceCtorEq, Nat.reduceAdd, Nat.reduceMul, Nat.reduceEqDiff, Nat.reduceSub, Nat.reduceLT, Nat.reduceLeDiff, Nat.reduceAnd, Nat.reduceShiftRight, Nat.reduceBEq, Nat.reduceBNe, Nat.reduceBneDiff, Nat.reduceBeqDiff, Int.reduceToNat, Int.reduceLE, Int.reduceLT, Int.reduceEq]
  refine ite_intro (fun h1 => ?_) fun h1 => ?_
  · have : xs ≠ ys := fun e => by simp [e] at h1
    simp [this]
  · have hlen : xs.length = ys.length := by simp at h1; omega
    refine LoopV.go (H := H_laws_eqStringS) ok_H_laws_eqStringS (by kernel_rfl) (fun i : Nat => ⟨[(0, .x (.o (.c (.s (xs.map cStr.enc))))), (1, .x (.o (.c (.s (ys.map cStr.enc))))), (5, sc (.int .i64 i))], [], 2⟩) (fun i => xs.length - i) (fun i => i ≤ xs.length ∧ ∀ j, j < i → xs[j]? = ys[j]?) ?_ 0 ⟨Nat.zero_le _, fun j h => by omega⟩
    intro i ⟨hi, hall⟩
    rcases Nat.lt_or_ge i xs.length with hlt | hge
    · have hx : xs[i]? = some xs[i] := List.getElem?_eq_getElem hlt
      have hy : ys[i]? = some (ys[i]'(by omega)) := List.getElem?_eq_getElem (by omega)
      generalize xs[i] = x at hx
      generalize ys[i]'(by omega) = y at hy
      have hw : IntKind.i64.wrap ((i : Int) + 1) = ((i + 1 : Nat) : Int) := by rw [wrap64] <;> omega
      have hlt' : ((i : Int) < (xs.length : Int)) = True := by simp; omega
      simp only [go_sem, ↓reduceIte, reduceCtorEq, Nat.reduceAdd, Nat.reduceMul, Nat.reduceEqDiff, Nat.reduceSub, Nat.reduceLT, Nat.reduceLeDiff, Nat.reduceAnd, Nat.reduceShiftRight, Nat.reduceBEq, Nat.reduceBNe, Nat.reduceBneDiff, Nat.reduceBeqDiff, Int.reduceToNat, Int.reduceLE, Int.reduceLT, Int.reduceEq, hx, hy, hw, hlt']
      refine ite_intro (fun h3 => ?_) fun h3 => ⟨i + 1, ⟨hlt, fun j hj => ?_⟩, by omega, rfl⟩
      · have : xs ≠ ys := fun e => by
          rw [e, hy] at hx
          cases hx
          simp at h3
        simp [this]
      · rcases Nat.lt_or_ge j i with h4 | h4
        · exact hall j h4
        · rw [show j = i by omega, hx, hy]
          simpa using h3
    · have hlt' : ((i : Int) < (xs.length : Int)) = False := by simp; omega
      simp only [go_sem, ↓reduceIte, reduceCtorEq, Nat.reduceAdd, Nat.reduceMul, Nat.reduceEqDiff, Nat.reduceSub, Nat.reduceLT, Nat.reduceLeDiff, Nat.reduceAnd, Nat.reduceShiftRight, Nat.reduceBEq, Nat.reduceBNe, Nat.reduceBneDiff, Nat.reduceBeqDiff, Int.reduceToNat, Int.reduceLE, Int.reduceLT, Int.reduceEq, hlt']
      have : xs = ys := List.ext_getElem? fun j => by
        rcases Nat.lt_or_ge j i with h4 | h4
        · exact hall j h4
        · rw [List.getElem?_eq_none (by omega), List.getElem?_eq_none (by omega)]
      simp [this]
abbrev MEqStringS : FM := .f2 (eList cStr) (eList cStr) eBool.enc (fun x y => decide (x = y)) (fun x _ => x.length ≤ maxLen)
attribute [go_sem] MEqStringS
theorem ok_laws_eqStringS : MEqStringS.ok Try.prog 36 := FM.f2_ok fun x y h => f_eqStringS x y h

def H_laws_eqMonitor : Hint := { fs := [(16, M28), (36, MEqStringS), (37, M147)], kp := [(0, [0, 1]), (1, [2, 3]), (2, []), (3, [2, 3]), (4, []), (5, [2, 3]), (6, []), (7, [])], an := [] }
attribute [go_sem] H_laws_eqMonitor
theorem ok_H_laws_eqMonitor : H_laws_eqMonitor.ok Try.prog := AllOk.okR (.cons m28 (.cons ok_laws_eqStringS (.cons m147 .nil))) .nil mix
theorem f_eqMonitor (x : Monitor) (h : x.1.2.2.2.2.2.1.length ≤ 1048576 ∧ x.2.1.length ≤ 1048576) : VFun Try.prog 10 [(CE.st cMonitor).enc x, (CE.st cMonitor).enc x] [] (eBool.enc true) [] := by
  refine VFun_pure (n := 23) (rs := [.tmp 4]) Try.func10 rfl rfl rfl rfl H_laws_eqMonitor ok_H_laws_eqMonitor _ _ (Nat.le_of_ble_eq_true rfl) (by kernel_rfl) ?_
  simp only [go_sem, ↓reduceIte, reduceCtorEq, Nat.reduceAdd, Nat.reduceMul, Nat.reduceEqDiff, Nat.reduceSub, Nat.reduceLT, Nat.reduceLeDiff, Nat.reduceAnd, Nat.reduceShiftRight, Nat.reduceBEq, Nat.reduceBNe, Nat.reduceBneDiff, Nat.reduceBeqDiff, Int.reduceToNat, Int.reduceLE, Int.reduceLT, Int.reduceEq]
  unfold maxLen
  exact ⟨by omega, by omega⟩
abbrev MEqMonitor : FM := .f2 (CE.st cMonitor) (CE.st cMonitor) eBool.enc (fun x y => true) (fun x y => x = y ∧ x.1.2.2.2.2.2.1.length ≤ 1048576 ∧ x.2.1.length ≤ 1048576)
attribute [go_sem] MEqMonitor
theorem ok_laws_eqMonitor : MEqMonitor.ok Try.prog 10 := FM.f2_ok fun x y h => by rw [← h.1]; exact f_eqMonitor x h.2

abbrev FR.p2 {A B R : Type} (a : CE A) (b : CE B) (r : CE R) (pre : A → B → Prop) (post : A → B → R → Prop) : FR where
  md := []
  m args rin := match args, rin with
    | [e1, e2], [] => match a.dec e1, b.dec e2 with
      | some x, some y => some (pre x y, fun k => ∀ v, post x y v → k (r.enc v) [])
      | _, _ => none
    | _, _ => none
theorem FR.p2_ok {P : Program} {g : FuncId} {A B R : Type} {a : CE A} {b : CE B} {r : CE R} {pre : A → B → Prop} {post : A → B → R → Prop} (h : ∀ x y, pre x y → ∃ v, post x y v ∧ VFun P g [a.enc x, b.enc y] [] (r.enc v) []) : (FR.p2 a b r pre post).ok P g := by
  intro args rin pr W hm hp k hk
  simp only [FR.p2] at hm
  split at hm
  · split at hm
    · rename_i e1 e2 _ _ x y h1 h2
      cases hm
      obtain ⟨t, h6, h7⟩ := h x y hp
      exact ⟨_, _, h7.weaken (.cons (a.ok _ _ h1) (.cons (b.ok _ _ h2) .nil)), hk t h6⟩
    · cases hm
  · cases hm

abbrev szGood (n v : Int) (k : Nat) : Prop := -1 ≤ v ∧ v ≤ n ∧ (0 ≤ v → (k : Int) ≤ n)

def H_laws_szIntS : Hint := { fs := [], kp := [(0, [0, 1]), (1, [0, 1]), (2, [1]), (3, []), (4, [1])], an := [] }
attribute [go_sem] H_laws_szIntS
theorem ok_H_laws_szIntS : H_laws_szIntS.ok Try.prog := AllOk.okR .nil .nil mix
theorem f_szIntS (xs : List Int) (n : Int) (h : xs.length ≤ maxLen) (hn : 0 ≤ n ∧ n ≤ 1048576) : ∃ v : Int, szGood n v xs.length ∧ VFun Try.prog 38 [(eList (cInt .i64)).enc xs, (eInt .i64).enc n] [] ((eInt .i64).enc v) [] := by
  unfold maxLen at h
  have w1 : IntKind.i64.wrap (n - (xs.length : Int)) = n - (xs.length : Int) := wrap64 (by omega) (by omega)
  refine VFun_rel (n := 12) (rs := [.tmp 4]) Try.func38 rfl rfl rfl rfl H_laws_szIntS ok_H_laws_szIntS  (rin := []) (T := Int) (eInt .i64) (fun t => t) (fun t => []) (fun v => szGood n v xs.length) (Nat.le_of_ble_eq_true rfl) (by kernel_rfl) ?_
  simp only [go_sem, ↓reduceIte, reduceCtorEq, Nat.reduceAdd, Nat.reduceMul, Nat.reduceEqDiff, Nat.reduceSub, Nat.reduceLT, Nat.reduceLeDiff, Nat.reduceAnd, Nat.reduceShiftRight, Nat.reduceBEq, Nat.reduceBNe, Nat.reduceBneDiff, Nat.reduceBeqDiff, Int.reduceToNat, Int.reduceLE, Int.reduceLT, Int.reduceEq, w1]
  refine ite_intro (fun h1 => ⟨-1, ⟨by omega, by omega, fun h => absurd h (by omega)⟩, rfl⟩) fun h1 => ⟨_, ⟨by omega, by omega, fun _ => by omega⟩, rfl⟩
abbrev RSzIntS : FR := .p2 (eList (cInt .i64)) (eInt .i64) (eInt .i64) (fun xs n => xs.length ≤ maxLen ∧ 0 ≤ n ∧ n ≤ 1048576) (fun xs n v => szGood n v xs.length)
attribute [go_sem] RSzIntS
theorem ok_laws_szIntS : RSzIntS.ok Try.prog 38 := FR.p2_ok fun xs n h => f_szIntS xs n h.1 h.2

def H_laws_szStringS : Hint := { fs := [], kp := [(0, [0, 1]), (1, [0, 1]), (2, [0, 1]), (3, []), (4, [0, 1]), (5, [0, 1, 5]), (7, [0, 1, 5]), (8, [0, 1, 5]), (9, []), (6, [0, 1, 5]), (10, [1])], an := [] }
attribute [go_sem] H_laws_szStringS
theorem ok_H_laws_szStringS : H_laws_szStringS.ok Try.prog := AllOk.okR .nil .nil mix
theorem f_szStringS (xs : List ByteArray) (n : Int) (h : xs.length ≤ maxLen ∧ ∀ x ∈ xs, x.size ≤ maxLen) (hn : 0 ≤ n ∧ n ≤ 1048576) : ∃ v : Int, szGood n v xs.length ∧ VFun Try.prog 25 [(eList cStr).enc xs, (eInt .i64).enc n] [] ((eInt .i64).enc v) [] := by
  obtain ⟨h, hx⟩ := h
  unfold maxLen at h hx
  have w1 : IntKind.i64.wrap (n - (xs.length : Int)) = n - (xs.length : Int) := wrap64 (by omega) (by omega)
  refine VFun_rel (n := 28) (rs := [.tmp 4]) Try.func25 rfl rfl rfl rfl H_laws_szStringS ok_H_laws_szStringS  (rin := []) (T := Int) (eInt .i64) (fun t => t) (fun t => []) (fun v => szGood n v xs.length) (Nat.le_of_ble_eq_true rfl) (by kernel_rfl) ?_
  simp only [go_sem, ↓reduceIte, reduceCtorEq, Nat.reduceAdd, Nat.reduceMul, Nat.reduceEqDiff, Nat.reduceSub, Nat.reduceLT, Nat.reduceLeDiff, Nat.reduceAnd, Nat.reduceShiftRight, Nat.reduceBEq, Nat.reduceBNe, Nat.reduceBneDiff, Nat.reduceBeqDiff, Int.reduceToNat, Int.reduceLE, Int.reduceLT, Int.reduceEq, w1]
  refine ite_intro (fun h1 => ⟨-1, ⟨by omega, by omega, fun h => absurd h (by omega)⟩, rfl⟩) fun h1 => ?_
  refine LoopV.go (H := H_laws_szStringS) ok_H_laws_szStringS (by kernel_rfl) (fun y : Int × Nat => ⟨[(0, .x (.o (.c (.s (xs.map cStr.enc))))), (1, sc (.int .i64 y.1)), (5, sc (.int .i64 y.2))], [], 2⟩) (fun y => xs.length - y.2) (fun y => y.2 ≤ xs.length ∧ 0 ≤ y.1 ∧ y.1 ≤ n) ?_ (n - xs.length, 0) ⟨by dsimp only; omega, by dsimp only; omega, by dsimp only; omega⟩
  rintro ⟨m, i⟩ ⟨hi, h2, h3⟩
  dsimp only at hi h2 h3
  have w1 : IntKind.i64.wrap ((i : Int) + 1) = ((i + 1 : Nat) : Int) := by rw [wrap64] <;> omega
  by_cases hlt : i < xs.length
  · obtain ⟨x, hi2⟩ : ∃ r, xs[i]? = some r := ⟨_, List.getElem?_eq_getElem hlt⟩
    have hs := hx x (List.mem_of_getElem? hi2)
    have c1 : ((i : Int) < (xs.length : Int)) = True := eq_true (by omega)
    have w2 : IntKind.i64.wrap (m - (x.size : Int)) = m - (x.size : Int) := wrap64 (by omega) (by omega)
    simp only [go_sem, ↓reduceIte, reduceCtorEq, Nat.reduceAdd, Nat.reduceMul, Nat.reduceEqDiff, Nat.reduceSub, Nat.reduceLT, Nat.reduceLeDiff, Nat.reduceAnd, Nat.reduceShiftRight, Nat.reduceBEq, Nat.reduceBNe, Nat.reduceBneDiff, Nat.reduceBeqDiff, Int.reduceToNat, Int.reduceLE, Int.reduceLT, Int.reduceEq, c1, w1, w2, hi2]
    refine ite_intro (fun h4 => ⟨-1, ⟨by omega, by omega, fun h => absurd h (by omega)⟩, rfl⟩) fun h4 => ?_
    exact ⟨(m - x.size, i + 1), ⟨by dsimp only; omega, by dsimp only; omega, by dsimp only; omega⟩, by dsimp only; omega, rfl⟩
  · have c1 : ((i : Int) < (xs.length : Int)) = False := eq_false (by omega)
    simp only [go_sem, ↓reduceIte, reduceCtorEq, Nat.reduceAdd, Nat.reduceMul, Nat.reduceEqDiff, Nat.reduceSub, Nat.reduceLT, Nat.reduceLeDiff, Nat.reduceAnd, Nat.reduceShiftRight, Nat.reduceBEq, Nat.reduceBNe, Nat.reduceBneDiff, Nat.reduceBeqDiff, Int.reduceToNat, Int.reduceLE, Int.reduceLT, Int.reduceEq, c1]
    exact ⟨m, ⟨by omega, by omega, fun _ => by omega⟩, rfl⟩
abbrev RSzStringS : FR := .p2 (eList cStr) (eInt .i64) (eInt .i64) (fun xs n => (xs.length ≤ maxLen ∧ ∀ x ∈ xs, x.size ≤ maxLen) ∧ 0 ≤ n ∧ n ≤ 1048576) (fun xs n v => szGood n v xs.length)
attribute [go_sem] RSzStringS
theorem ok_laws_szStringS : RSzStringS.ok Try.prog 25 := FR.p2_ok fun xs n h => f_szStringS xs n h.1 h.2

def H_laws_szClient : Hint := { fs := [], kp := [(0, [0, 1]), (1, [1, 2]), (2, [1]), (3, []), (4, [1])], an := [], rs := [(38, RSzIntS)] }
attribute [go_sem] H_laws_szClient
theorem ok_H_laws_szClient : H_laws_szClient.ok Try.prog := AllOk.okR .nil (.cons ok_laws_szIntS .nil) mix
theorem f_szClient (c : Client) (n : Int) (h : c.2.2.2.2.2.1.length ≤ maxLen) (hn : 0 ≤ n ∧ n ≤ 1048576) : ∃ v : Int, szGood n v c.2.2.2.2.2.1.length ∧ VFun Try.prog 11 [(CE.st cClient).enc c, (eInt .i64).enc n] [] ((eInt .i64).enc v) [] := by
  refine VFun_rel (n := 12) (rs := [.tmp 4]) Try.func11 rfl rfl rfl rfl H_laws_szClient ok_H_laws_szClient  (rin := []) (T := Int) (eInt .i64) (fun t => t) (fun t => []) (fun v => szGood n v c.2.2.2.2.2.1.length) (Nat.le_of_ble_eq_true rfl) (by kernel_rfl) ?_
  simp only [go_sem, ↓reduceIte, reduceCtorEq, Nat.reduceAdd, Nat.reduceMul, Nat.reduceEqDiff, Nat.reduceSub, Nat.reduceLT, Nat.reduceLeDiff, Nat.reduceAnd, Nat.reduceShiftRight, Nat.reduceBEq, Nat.reduceBNe, Nat.reduceBneDiff, Nat.reduceBeqDiff, Int.reduceToNat, Int.reduceLE, Int.reduceLT, Int.reduceEq]
  refine ⟨⟨h, by omega, by omega⟩, fun v hv => ite_intro (fun h1 => ⟨-1, ⟨by omega, by omega, fun h => absurd h (by omega)⟩, rfl⟩) fun h1 => ⟨v, hv, rfl⟩⟩
abbrev RSzClient : FR := .p2 (CE.st cClient) (eInt .i64) (eInt .i64) (fun c n => c.2.2.2.2.2.1.length ≤ maxLen ∧ 0 ≤ n ∧ n ≤ 1048576) (fun c n v => szGood n v c.2.2.2.2.2.1.length)
attribute [go_sem] RSzClient
theorem ok_laws_szClient : RSzClient.ok Try.prog 11 := FR.p2_ok fun xs n h => f_szClient xs n h.1 h.2

def H_laws_szMonitor : Hint := { fs := [], kp := [(0, [0, 1]), (1, [1, 2]), (2, [1, 2]), (3, []), (4, [1, 2]), (5, [1]), (6, []), (7, [1])], an := [], rs := [(11, RSzClient), (25, RSzStringS)] }
attribute [go_sem] H_laws_szMonitor
theorem ok_H_laws_szMonitor : H_laws_szMonitor.ok Try.prog := AllOk.okR .nil (.cons ok_laws_szClient (.cons ok_laws_szStringS .nil)) mix
theorem f_szMonitor (m : Monitor) (n : Int) (h : m.1.2.2.2.2.2.1.length ≤ maxLen ∧ m.2.1.length ≤ maxLen ∧ ∀ x ∈ m.2.1, x.size ≤ maxLen) (hn : 0 ≤ n ∧ n ≤ 1048576) : ∃ v : Int, (0 ≤ v → m.1.2.2.2.2.2.1.length ≤ 1048576 ∧ m.2.1.length ≤ 1048576) ∧ VFun Try.prog 6 [(CE.st cMonitor).enc m, (eInt .i64).enc n] [] ((eInt .i64).enc v) [] := by
  refine VFun_rel (n := 18) (rs := [.tmp 4]) Try.func6 rfl rfl rfl rfl H_laws_szMonitor ok_H_laws_szMonitor  (rin := []) (T := Int) (eInt .i64) (fun t => t) (fun t => []) (fun v => 0 ≤ v → m.1.2.2.2.2.2.1.length ≤ 1048576 ∧ m.2.1.length ≤ 1048576) (Nat.le_of_ble_eq_true rfl) (by kernel_rfl) ?_
  simp only [go_sem, ↓reduceIte, reduceCtorEq, Nat.reduceAdd, Nat.reduceMul, Nat.reduceEqDiff, Nat.reduceSub, Nat.reduceLT, Nat.reduceLeDiff, Nat.reduceAnd, Nat.reduceShiftRight, Nat.reduceBEq, Nat.reduceBNe, Nat.reduceBneDiff, Nat.reduceBeqDiff, Int.reduceToNat, Int.reduceLE, Int.reduceLT, Int.reduceEq]
  refine ⟨⟨h.1, by omega, by omega⟩, fun v hv => ite_intro (fun h1 => ⟨-1, fun h => absurd h (by omega), rfl⟩) fun h1 => ⟨⟨h.2, by omega, by omega⟩, fun u hu => ite_intro (fun h2 => ⟨-1, fun h => absurd h (by omega), rfl⟩) fun h2 => ⟨u, fun _ => ⟨by omega, by omega⟩, rfl⟩⟩⟩
abbrev RSzMonitor : FR := .p2 (CE.st cMonitor) (eInt .i64) (eInt .i64) (fun m n => (m.1.2.2.2.2.2.1.length ≤ maxLen ∧ m.2.1.length ≤ maxLen ∧ ∀ x ∈ m.2.1, x.size ≤ maxLen) ∧ 0 ≤ n ∧ n ≤ 1048576) (fun m n v => 0 ≤ v → m.1.2.2.2.2.2.1.length ≤ 1048576 ∧ m.2.1.length ≤ 1048576)
attribute [go_sem] RSzMonitor
theorem ok_laws_szMonitor : RSzMonitor.ok Try.prog 6 := FR.p2_ok fun xs n h => f_szMonitor xs n h.1 h.2

/-- Whether a monitor is ok. -/
def monM (m : Monitor) : Bool :=
  if clientM m.1 = true ∧ leavesOk m.2.1 = true ∧ (m.2.1.length : Int) ≤ m.1.2.2.2.2.2.2.1 then
    if m.2.2 = zPoint then decide ((m.2.1.length : Int) < m.1.2.2.2.2.2.2.1) || decide (m.1.2.2.2.2.2.2.1 = 0)
    else if (1 ≤ m.2.2.1 ∧ m.2.2.1 ≤ m.2.1.length) ∧ rootM (m.2.1.take m.2.2.1.toNat) = m.2.2.2 then decide ((m.2.1.length : Int) < m.1.2.2.2.2.2.2.1) || decide (m.2.2 = m.1.2.2.2.2.2.2)
    else false
  else false
theorem eP (a : Int) (b c d e : UInt64) (p : Point) : (decide (a = p.1) && (decide (b = p.2.1) && (decide (c = p.2.2.1) && (decide (d = p.2.2.2.1) && decide (e = p.2.2.2.2))))) = decide ((a, b, c, d, e) = p) := by
  obtain ⟨a', b', c', d', e'⟩ := p
  simp [Bool.decide_and]
theorem eD (b c d e : UInt64) (p : Digest) : (decide (p.1 = b) && (decide (p.2.1 = c) && (decide (p.2.2.1 = d) && decide (p.2.2.2 = e)))) = decide (p = (b, c, d, e)) := by
  obtain ⟨b', c', d', e'⟩ := p
  simp [Bool.decide_and]
theorem eD' (b c d e : UInt64) (p : Digest) : (decide (b = p.1) && (decide (c = p.2.1) && (decide (d = p.2.2.1) && decide (e = p.2.2.2)))) = decide (p = (b, c, d, e)) := by
  obtain ⟨b', c', d', e'⟩ := p
  simp [Bool.decide_and, eq_comm]
theorem monM_no {m : Monitor} (h : ¬ (clientM m.1 = true ∧ leavesOk m.2.1 = true ∧ (m.2.1.length : Int) ≤ m.1.2.2.2.2.2.2.1)) : monM m = false := if_neg h
theorem monM_z {m : Monitor} (h : clientM m.1 = true ∧ leavesOk m.2.1 = true ∧ (m.2.1.length : Int) ≤ m.1.2.2.2.2.2.2.1) (hz : m.2.2 = zPoint) : monM m = (decide ((m.2.1.length : Int) < m.1.2.2.2.2.2.2.1) || decide (m.1.2.2.2.2.2.2.1 = 0)) := by
  rw [monM, if_pos h, if_pos hz]
theorem monM_b {m : Monitor} (h : clientM m.1 = true ∧ leavesOk m.2.1 = true ∧ (m.2.1.length : Int) ≤ m.1.2.2.2.2.2.2.1) (hz : ¬ m.2.2 = zPoint) (hb : ¬ ((1 ≤ m.2.2.1 ∧ m.2.2.1 ≤ m.2.1.length) ∧ rootM (m.2.1.take m.2.2.1.toNat) = m.2.2.2)) : monM m = false := by
  rw [monM, if_pos h, if_neg hz, if_neg hb]
theorem monM_g {m : Monitor} (h : clientM m.1 = true ∧ leavesOk m.2.1 = true ∧ (m.2.1.length : Int) ≤ m.1.2.2.2.2.2.2.1) (hz : ¬ m.2.2 = zPoint) (hb : (1 ≤ m.2.2.1 ∧ m.2.2.1 ≤ m.2.1.length) ∧ rootM (m.2.1.take m.2.2.1.toNat) = m.2.2.2) : monM m = (decide ((m.2.1.length : Int) < m.1.2.2.2.2.2.2.1) || decide (m.2.2 = m.1.2.2.2.2.2.2)) := by
  rw [monM, if_pos h, if_neg hz, if_pos hb]
abbrev MMonOk : FM := .f1 (CE.st cMonitor) eBool.enc monM (fun m => m.1.2.2.2.2.2.1.length ≤ 1048576 ∧ m.2.1.length ≤ 1048576)
attribute [go_sem] MMonOk

def H_spec_MonitorOk : Hint := { fs := [(26, MClientOk), (27, MLeavesOk), (28, M166), (29, MRoot)], kp := [(0, [0]), (1, [1]), (2, []), (3, [1]), (4, [1]), (5, [1]), (6, []), (7, [1])], an := [(5, [0, 1, 3, 0, 8, 24, 63, 127, 255, 511, 1023, 511, 2559, 6655, 16383, 32767, 511, 66047, 197119, 524287, 1048575])] }
attribute [go_sem] H_spec_MonitorOk
theorem ok_H_spec_MonitorOk : H_spec_MonitorOk.ok Try.prog := AllOk.okR (.cons ok_spec_ClientOk (.cons ok_spec_LeavesOk (.cons m166 (.cons ok_l2Root .nil)))) .nil mix
theorem f_spec_MonitorOk (m : Monitor) (h : m.1.2.2.2.2.2.1.length ≤ 1048576 ∧ m.2.1.length ≤ 1048576) : VFun Try.prog 7 [(CE.st cMonitor).enc m] [] (eBool.enc (monM m)) [] := by
  obtain ⟨c, ls, g, g1, g2, g3, g4⟩ := m
  obtain ⟨h1, h2⟩ := h
  dsimp only at h1 h2
  have hz : ∀ x : UInt64, ((x.toNat : Int) = 0) = (x = 0) := fun x => u64_inj x 0
  have hzg := zP g g1 g2 g3 g4
  have hpe := eP g g1 g2 g3 g4 c.2.2.2.2.2.2
  have hde := eD g1 g2 g3 g4 (rootM (ls.take g.toNat))
  have hno := @monM_no (c, ls, g, g1, g2, g3, g4)
  have hmz := @monM_z (c, ls, g, g1, g2, g3, g4)
  have hmb := @monM_b (c, ls, g, g1, g2, g3, g4)
  have hmg := @monM_g (c, ls, g, g1, g2, g3, g4)
  dsimp only at hno hmz hmb hmg
  obtain ⟨q1, hq1⟩ : ∃ q, q = decide ((g, g1, g2, g3, g4) = zPoint) := ⟨_, rfl⟩
  obtain ⟨q2, hq2⟩ : ∃ q, q = decide ((g, g1, g2, g3, g4) = c.2.2.2.2.2.2) := ⟨_, rfl⟩
  obtain ⟨q3, hq3⟩ : ∃ q, q = decide (rootM (ls.take g.toNat) = (g1, g2, g3, g4)) := ⟨_, rfl⟩
  rw [← hq1] at hzg
  rw [← hq2] at hpe hmg
  rw [← hq3] at hde
  refine VFun_pure (n := 79) (rs := [.tmp 2]) Try.func7 rfl rfl rfl rfl H_spec_MonitorOk ok_H_spec_MonitorOk _ _ (Nat.le_of_ble_eq_true rfl) (by kernel_rfl) ?_
  simp only [go_sem, ↓reduceIte, reduceCtorEq, Nat.reduceAdd, Nat.reduceMul, Nat.reduceEqDiff, Nat.reduceSub, Nat.reduceLT, Nat.reduceLeDiff, Nat.reduceAnd, Nat.reduceShiftRight, Nat.reduceBEq, Nat.reduceBNe, Nat.reduceBneDiff, Nat.reduceBeqDiff, Int.reduceToNat, Int.reduceLE, Int.reduceLT, Int.reduceEq, hz, hzg, hpe, hde]
  refine ⟨h1, ite_intro (fun a1 => ⟨h2, ite_intro (fun a2 => ?_) fun a2 => ?_⟩) fun a1 => ?_⟩
  · obtain ⟨b1, b2⟩ := leavesOk_iff a2
    refine ite_intro (fun a3 => ?_) fun a3 => ?_
    · rw [hno fun h => absurd h.2.2 (by omega)]
    have hh : clientM c = true ∧ leavesOk ls = true ∧ (ls.length : Int) ≤ c.2.2.2.2.2.2.1 := ⟨a1, a2, by omega⟩
    refine ite_intro (fun a4 => ?_) fun a4 => ?_
    · rw [hmz hh (of_decide_eq_true (hq1 ▸ a4))]
      refine ite_intro (fun a5 => ?_) fun a5 => ?_
      · rw [decide_eq_false a5, Bool.false_or]
      · rw [decide_eq_true (Decidable.not_not.1 a5), Bool.true_or]
    · have hz' : ¬ (g, g1, g2, g3, g4) = zPoint := fun e => a4 (by rw [hq1]; exact decide_eq_true e)
      refine ite_intro (fun a6 => ⟨⟨by omega, by omega⟩, ⟨by rw [List.length_take]; omega, fun x hx => b2 x (List.mem_of_mem_take hx)⟩, ite_intro (fun a7 => ?_) fun a7 => ite_intro (fun a8 => ?_) fun a8 => ?_⟩) fun a6 => ?_
      · rw [hmb hh hz' fun h => absurd h.2 (of_decide_eq_false (hq3 ▸ a7))]
      · rw [hmg hh hz' ⟨a6, of_decide_eq_true (hq3 ▸ (by simpa using a7))⟩, decide_eq_false a8, Bool.false_or]
      · rw [hmg hh hz' ⟨a6, of_decide_eq_true (hq3 ▸ (by simpa using a7))⟩, decide_eq_true (Decidable.not_not.1 a8), Bool.true_or]
      · rw [hmb hh hz' fun h => a6 h.1]
  · rw [hno fun h => a2 h.2.1]
  · rw [hno fun h => a1 h.1]
theorem ok_spec_MonitorOk : MMonOk.ok Try.prog 7 := FM.f1_ok fun m h => f_spec_MonitorOk m h

def H_impl_MonitorOk : Hint := { fs := [(32, MClientOk), (33, MLeavesOk), (34, M166), (35, MRoot)], kp := [(0, [0]), (1, [1]), (2, [1, 3]), (3, [1, 3, 4]), (4, []), (5, [1, 3, 4]), (6, [3, 4]), (7, [1, 3, 4])], an := [(7, [0, 1, 3, 0, 15, 31, 63, 127, 255, 63, 575, 63, 2111, 6207, 15935, 32319, 65535, 131071, 262143, 524287, 524287, 1572863, 4194303, 8388607, 16777215, 33554431, 16777215, 134217727, 268435455, 536870911, 1073741823])] }
attribute [go_sem] H_impl_MonitorOk
theorem ok_H_impl_MonitorOk : H_impl_MonitorOk.ok Try.prog := AllOk.okR (.cons ok_impl_ClientOk (.cons ok_impl_LeavesOk (.cons m180 (.cons ok_rootOf .nil)))) .nil mix
theorem f_impl_MonitorOk (m : Monitor) (h : m.1.2.2.2.2.2.1.length ≤ 1048576 ∧ m.2.1.length ≤ 1048576) : VFun Try.prog 9 [(CE.st cMonitor).enc m] [] (eBool.enc (monM m)) [] := by
  obtain ⟨c, ls, g, g1, g2, g3, g4⟩ := m
  obtain ⟨h1, h2⟩ := h
  dsimp only at h1 h2
  have hz : ∀ x : UInt64, ((x.toNat : Int) = 0) = (x = 0) := fun x => u64_inj x 0
  have hzg := zP g g1 g2 g3 g4
  have hpe := eP g g1 g2 g3 g4 c.2.2.2.2.2.2
  have hde := eD' g1 g2 g3 g4 (rootM (ls.take g.toNat))
  have hno := @monM_no (c, ls, g, g1, g2, g3, g4)
  have hmz := @monM_z (c, ls, g, g1, g2, g3, g4)
  have hmb := @monM_b (c, ls, g, g1, g2, g3, g4)
  have hmg := @monM_g (c, ls, g, g1, g2, g3, g4)
  dsimp only at hno hmz hmb hmg
  obtain ⟨q1, hq1⟩ : ∃ q, q = decide ((g, g1, g2, g3, g4) = zPoint) := ⟨_, rfl⟩
  obtain ⟨q2, hq2⟩ : ∃ q, q = decide ((g, g1, g2, g3, g4) = c.2.2.2.2.2.2) := ⟨_, rfl⟩
  obtain ⟨q3, hq3⟩ : ∃ q, q = decide (rootM (ls.take g.toNat) = (g1, g2, g3, g4)) := ⟨_, rfl⟩
  rw [← hq1] at hzg
  rw [← hq2] at hpe hmg
  rw [← hq3] at hde
  refine VFun_pure (n := 70) (rs := [.tmp 2]) Try.func9 rfl rfl rfl rfl H_impl_MonitorOk ok_H_impl_MonitorOk _ _ (Nat.le_of_ble_eq_true rfl) (by kernel_rfl) ?_
  simp only [go_sem, ↓reduceIte, reduceCtorEq, Nat.reduceAdd, Nat.reduceMul, Nat.reduceEqDiff, Nat.reduceSub, Nat.reduceLT, Nat.reduceLeDiff, Nat.reduceAnd, Nat.reduceShiftRight, Nat.reduceBEq, Nat.reduceBNe, Nat.reduceBneDiff, Nat.reduceBeqDiff, Int.reduceToNat, Int.reduceLE, Int.reduceLT, Int.reduceEq, hz, hzg, hpe, hde]
  refine ⟨h1, ite_intro (fun a1 => ⟨h2, ite_intro (fun a2 => ?_) fun a2 => ?_⟩) fun a1 => ?_⟩
  · obtain ⟨b1, b2⟩ := leavesOk_iff a2
    refine ite_intro (fun a3 => ?_) fun a3 => ?_
    · rw [hno fun h => absurd h.2.2 (by omega)]
    have hh : clientM c = true ∧ leavesOk ls = true ∧ (ls.length : Int) ≤ c.2.2.2.2.2.2.1 := ⟨a1, a2, by omega⟩
    refine ite_intro (fun a4 => ?_) fun a4 => ?_
    · rw [hmz hh (of_decide_eq_true (hq1 ▸ a4))]
      refine ite_intro (fun a5 => ?_) fun a5 => ?_
      · rw [decide_eq_false a5, Bool.false_or]
      · rw [decide_eq_true (Decidable.not_not.1 a5), Bool.true_or]
    · have hz' : ¬ (g, g1, g2, g3, g4) = zPoint := fun e => a4 (by rw [hq1]; exact decide_eq_true e)
      refine ite_intro (fun a6 => ⟨⟨by omega, by omega⟩, ⟨by rw [List.length_take]; omega, fun x hx => b2 x (List.mem_of_mem_take hx)⟩, ite_intro (fun a7 => ite_intro (fun a8 => ?_) fun a8 => ?_) fun a7 => ?_⟩) fun a6 => ?_
      · rw [hmg hh hz' ⟨a6, of_decide_eq_true (hq3 ▸ (by simpa using a7))⟩, decide_eq_false a8, Bool.false_or]
      · rw [hmg hh hz' ⟨a6, of_decide_eq_true (hq3 ▸ (by simpa using a7))⟩, decide_eq_true (Decidable.not_not.1 a8), Bool.true_or]
      · rw [hmb hh hz' fun h => absurd h.2 (of_decide_eq_false (hq3 ▸ (by simpa using a7)))]
      · rw [hmb hh hz' fun h => a6 h.1]
  · rw [hno fun h => a2 h.2.1]
  · rw [hno fun h => a1 h.1]
theorem ok_impl_MonitorOk : MMonOk.ok Try.prog 9 := FM.f1_ok fun m h => f_impl_MonitorOk m h

end Go.Proofs.YtlofjogebacndaaW.V

