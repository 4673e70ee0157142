/- Functions: ticks of a monitor. No condition but each theorem's own. -/
import Derived.Test.YtlofjogebacndaaFWE
namespace Go.Proofs.YtlofjogebacndaaW.V
open Go Go.Proofs
set_option linter.unusedSimpArgs false
set_option linter.unusedVariables false
set_option maxRecDepth 8000
set_option maxHeartbeats 4000000

set_option synthInstance.maxSize 1000

abbrev Watched := Monitor × List Letter × List Alarm × List Point × List Point
abbrev cWatched : Cd Watched := cPair cMonitor (cPair (cList cLetter) (cPair (cList cAlarm) (cPair (cList cPoint) (cList cPoint))))
attribute [go_sem] cWatched
instance : DecidableEq Watched := instDecidableEqProd

abbrev fMsg (f c : Int) : Msg := (7, 0, f, 0, (0, 0, 0, 0), c, [], [])
theorem tick_fMsg {f : Nat} {c : Int} (h : f ≤ 256) (hc : 1 ≤ c ∧ c ≤ 8) : tickMsg (fMsg f c) := by
  obtain ⟨n, rfl⟩ := Int.eq_ofNat_of_zero_le (show 0 ≤ c by omega)
  exact .inr ⟨f, n, h, by omega, by omega, rfl⟩
def lackM (m : Monitor) : Int := m.1.2.2.2.2.2.2.1 - m.2.1.length
abbrev zWatched : Watched := (((0, 0, 0, 0, zPoint, [], zPoint), [], zPoint), [], [], [], [])
/-- What a tick of a monitor says. -/
def monTickM (m : Monitor) (me : Int) : Watched := if monM m = true ∧ (1 ≤ me ∧ me ≤ 20) then (if lackM m = 0 then (((clTickM m.1 me).1, m.2.1, m.2.2), (clTickM m.1 me).2.1, [], [], []) else (m, [(me, 0, tickB (fMsg m.2.1.length (if 8 < lackM m then 8 else lackM m)))], [], [], [])) else zWatched
theorem monTickM_no (m : Monitor) {me : Int} (h : ¬ (monM m = true ∧ (1 ≤ me ∧ me ≤ 20))) : monTickM m me = zWatched := if_neg h
theorem monTickM_end {m : Monitor} {me : Int} (h : monM m = true ∧ (1 ≤ me ∧ me ≤ 20)) (h2 : lackM m = 0) : monTickM m me = (((clTickM m.1 me).1, m.2.1, m.2.2), (clTickM m.1 me).2.1, [], [], []) := by
  rw [monTickM, if_pos h, if_pos h2]
theorem monTickM_go {m : Monitor} {me : Int} (h : monM m = true ∧ (1 ≤ me ∧ me ≤ 20)) (h2 : ¬ lackM m = 0) : monTickM m me = (m, [(me, 0, tickB (fMsg m.2.1.length (if 8 < lackM m then 8 else lackM m)))], [], [], []) := by
  rw [monTickM, if_pos h, if_neg h2]
theorem monM_lack {m : Monitor} (h : monM m = true) : clientM m.1 = true ∧ m.2.1.length ≤ 256 ∧ 0 ≤ lackM m ∧ lackM m ≤ 256 ∧ (0 ≤ m.1.2.2.2.2.2.2.1 ∧ m.1.2.2.2.2.2.2.1 ≤ 256) := by
  have h1 : clientM m.1 = true ∧ leavesOk m.2.1 = true ∧ (m.2.1.length : Int) ≤ m.1.2.2.2.2.2.2.1 := by
    by_cases h1 : clientM m.1 = true ∧ leavesOk m.2.1 = true ∧ (m.2.1.length : Int) ≤ m.1.2.2.2.2.2.2.1
    · exact h1
    · rw [monM_no h1] at h; cases h
  have h2 : headOk m.1 := by
    by_cases h2 : headOk m.1
    · exact h2
    · have := h1.1
      rw [clientM_no h2] at this; cases this
  have h3 : m.1.2.2.2.2.2.2.1 ≤ 256 := by
    rcases h2.2.2.2.2 with h3 | h3
    · omega
    · rw [h3]; decide
  refine ⟨h1.1, by omega, ?_, ?_, by omega⟩ <;> unfold lackM <;> omega

def H_impl_copied_string : Hint := { fs := [], kp := [(0, [0]), (1, [0]), (2, []), (3, [0]), (4, [0, 3]), (5, [3])], an := [], own := true, ow := [(0, 0, 1)] }
attribute [go_sem] H_impl_copied_string
theorem ok_H_impl_copied_string : H_impl_copied_string.ok Try.prog := AllOk.okR .nil .nil mix
theorem o_copied_string (xs) (h : xs.length ≤ 1100000) : VFun Try.prog 100 [(eList cStr).enc xs] [] (oL 0 xs) [some (oR cStr xs)] := by
  refine VFun_own (rin := []) (n := 14) (rs := [.tmp 2]) Try.func100 rfl rfl rfl rfl H_impl_copied_string ok_H_impl_copied_string (Nat.le_of_ble_eq_true rfl) (by kernel_rfl) ?_
  simp only [go_sem, ↓reduceIte, reduceCtorEq, Nat.reduceAdd, Nat.reduceMul, Nat.reduceEqDiff, Nat.reduceSub, Nat.reduceLT, Nat.reduceLeDiff, Nat.reduceAnd, Nat.reduceShiftRight, Nat.reduceBEq, Nat.reduceBNe, Nat.reduceBneDiff, Nat.reduceBeqDiff, Int.reduceToNat, Int.reduceLE, Int.reduceLT, Int.reduceEq]
  refine ite_intro (fun h1 => ?_) fun h1 => ?_
  · have : xs = [] := by simpa using h1
    rw [this]; exact ⟨rfl, rfl⟩
  · (repeat' apply And.intro) <;> first | omega | exact map_len_all cStr rfl xs | (simp; done) | rfl
abbrev OCopied_string : FM := .g1 (eList cStr) (fun xs => (oL 0 xs, [some (oR cStr xs)])) (fun xs => xs.length ≤ 1100000)
attribute [go_sem] OCopied_string
theorem ok_impl_copied_string : OCopied_string.ok Try.prog 100 := FM.g1_ok fun xs h => o_copied_string xs h

def H_spec_l2Leaves : Hint := { fs := [], kp := [(0, [0]), (1, [0]), (2, [0, 3]), (3, [0, 3, 4]), (5, [0, 3, 4]), (4, [0, 3, 4]), (6, [3])], an := [], own := true }
attribute [go_sem] H_spec_l2Leaves
theorem ok_H_spec_l2Leaves : H_spec_l2Leaves.ok Try.prog := AllOk.okR .nil .nil mix
theorem o_l2Leaves (xs : List ByteArray) (h : xs.length ≤ 1100000) : VFun Try.prog 97 [(eList cStr).enc xs] [] (oL 0 xs) [some (oR cStr xs)] := by
  refine VFun_own (rin := []) (n := 20) (rs := [.tmp 2]) Try.func97 rfl rfl rfl rfl H_spec_l2Leaves ok_H_spec_l2Leaves (Nat.le_of_ble_eq_true rfl) (by kernel_rfl) ?_
  simp only [go_sem, ↓reduceIte, reduceCtorEq, Nat.reduceAdd, Nat.reduceMul, Nat.reduceEqDiff, Nat.reduceSub, Nat.reduceLT, Nat.reduceLeDiff, Nat.reduceAnd, Nat.reduceShiftRight, Nat.reduceBEq, Nat.reduceBNe, Nat.reduceBneDiff, Nat.reduceBeqDiff, Int.reduceToNat, Int.reduceLE, Int.reduceLT, Int.reduceEq]
  refine LoopV.go (H := H_spec_l2Leaves) ok_H_spec_l2Leaves (by kernel_rfl) (fun i : Nat => ⟨[(0, .x (.o (.c (.s (xs.map cStr.enc))))), (3, .x (.o (.h (1, 100) 0 (xs.take i).length (xs.take i).length))), (4, sc (.int .i64 i))], [((1, 100), .row 1 ((xs.take i).map cStr.enc))], 2⟩) (fun i => xs.length - i) (fun i => i ≤ xs.length) ?_ 0 (Nat.zero_le _)
  intro i hi
  have ht : (xs.take i).length = i := by rw [List.length_take]; omega
  by_cases hlt : i < xs.length
  · obtain ⟨x, hx⟩ : ∃ r, xs[i]? = some r := ⟨_, List.getElem?_eq_getElem hlt⟩
    have hy : xs.take (i + 1) = xs.take i ++ [x] := by rw [List.take_add_one, hx]; rfl
    have w1 : IntKind.i64.wrap ((i : Int) + 1) = ((i + 1 : Nat) : Int) := by rw [wrap64] <;> omega
    have c1 : ((i : Int) < (xs.length : Int)) = True := eq_true (by omega)
    simp only [go_sem, ↓reduceIte, reduceCtorEq, Nat.reduceAdd, Nat.reduceMul, Nat.reduceEqDiff, Nat.reduceSub, Nat.reduceLT, Nat.reduceLeDiff, Nat.reduceAnd, Nat.reduceShiftRight, Nat.reduceBEq, Nat.reduceBNe, Nat.reduceBneDiff, Nat.reduceBeqDiff, Int.reduceToNat, Int.reduceLE, Int.reduceLT, Int.reduceEq, hx, w1, c1]
    exact ⟨⟨by omega, by omega⟩, i + 1, hlt, by omega, by rw [hy, List.length_append, List.map_append]; rfl⟩
  · have c1 : ((i : Int) < (xs.length : Int)) = False := eq_false (by omega)
    have htt : xs.take i = xs := List.take_of_length_le (by omega)
    simp only [go_sem, ↓reduceIte, reduceCtorEq, Nat.reduceAdd, Nat.reduceMul, Nat.reduceEqDiff, Nat.reduceSub, Nat.reduceLT, Nat.reduceLeDiff, Nat.reduceAnd, Nat.reduceShiftRight, Nat.reduceBEq, Nat.reduceBNe, Nat.reduceBneDiff, Nat.reduceBeqDiff, Int.reduceToNat, Int.reduceLE, Int.reduceLT, Int.reduceEq, c1, htt]
theorem ok_spec_l2Leaves : OCopied_string.ok Try.prog 97 := FM.g1_ok fun xs h => o_l2Leaves xs h

abbrev OMonCopy : FM := .g1 (CE.st cMonitor) (fun m => (oMonitor m, rMonitor m)) (fun m => m.1.2.2.2.2.2.1.length ≤ 1100000 ∧ m.2.1.length ≤ 1100000)
attribute [go_sem] OMonCopy

def H_impl_monitorCopy : Hint := { fs := [(43, OClientCopy), (100, OCopied_string)], kp := [(0, [0]), (1, [1, 2])], an := [(1, [0, 1, 3, 0, 8, 31, 0, 64, 255, 511])], own := true }
attribute [go_sem] H_impl_monitorCopy
theorem ok_H_impl_monitorCopy : H_impl_monitorCopy.ok Try.prog := AllOk.okR (.cons ok_impl_clientCopy (.cons ok_impl_copied_string .nil)) .nil mix
theorem o_monitorCopy (m : Monitor) (h : m.1.2.2.2.2.2.1.length ≤ 1100000 ∧ m.2.1.length ≤ 1100000) : VFun Try.prog 63 [(CE.st cMonitor).enc m] [] (oMonitor m) (rMonitor m) := by
  refine VFun_own (rin := []) (n := 12) (rs := [.cell 2 41]) Try.func63 rfl rfl rfl rfl H_impl_monitorCopy ok_H_impl_monitorCopy (Nat.le_of_ble_eq_true rfl) (by kernel_rfl) ?_
  simp only [go_sem, ↓reduceIte, reduceCtorEq, Nat.reduceAdd, Nat.reduceMul, Nat.reduceEqDiff, Nat.reduceSub, Nat.reduceLT, Nat.reduceLeDiff, Nat.reduceAnd, Nat.reduceShiftRight, Nat.reduceBEq, Nat.reduceBNe, Nat.reduceBneDiff, Nat.reduceBeqDiff, Int.reduceToNat, Int.reduceLE, Int.reduceLT, Int.reduceEq]
  exact h
theorem ok_impl_monitorCopy : OMonCopy.ok Try.prog 63 := FM.g1_ok fun m h => o_monitorCopy m h

def H_spec_l11Copy : Hint := { fs := [(40, OClientCopy), (97, OCopied_string)], kp := [(0, [0]), (1, [1, 2])], an := [(1, [0, 1, 3, 0, 8, 31, 0, 64, 255, 511])], own := true }
attribute [go_sem] H_spec_l11Copy
theorem ok_H_spec_l11Copy : H_spec_l11Copy.ok Try.prog := AllOk.okR (.cons ok_spec_l10Copy (.cons ok_spec_l2Leaves .nil)) .nil mix
theorem o_l11Copy (m : Monitor) (h : m.1.2.2.2.2.2.1.length ≤ 1100000 ∧ m.2.1.length ≤ 1100000) : VFun Try.prog 66 [(CE.st cMonitor).enc m] [] (oMonitor m) (rMonitor m) := by
  refine VFun_own (rin := []) (n := 12) (rs := [.cell 2 41]) Try.func66 rfl rfl rfl rfl H_spec_l11Copy ok_H_spec_l11Copy (Nat.le_of_ble_eq_true rfl) (by kernel_rfl) ?_
  simp only [go_sem, ↓reduceIte, reduceCtorEq, Nat.reduceAdd, Nat.reduceMul, Nat.reduceEqDiff, Nat.reduceSub, Nat.reduceLT, Nat.reduceLeDiff, Nat.reduceAnd, Nat.reduceShiftRight, Nat.reduceBEq, Nat.reduceBNe, Nat.reduceBneDiff, Nat.reduceBeqDiff, Int.reduceToNat, Int.reduceLE, Int.reduceLT, Int.reduceEq]
  exact h
theorem ok_spec_l11Copy : OMonCopy.ok Try.prog 66 := FM.g1_ok fun m h => o_l11Copy m h

/-- What is watched, its lists one's own. -/
abbrev oWatched (j k n : Nat) (w : Watched) : E := .x (.a [.c (.v (.int .i64 w.1.1.1)), .c (.v (.int .i64 w.1.1.2.1)), .c (.v (.int .i64 w.1.1.2.2.1)), .c (.v (.int .i64 w.1.1.2.2.2.1)),
  .c (.v (.int .i64 w.1.1.2.2.2.2.1.1)), .c (.v (.int .u64 w.1.1.2.2.2.2.1.2.1.toNat)), .c (.v (.int .u64 w.1.1.2.2.2.2.1.2.2.1.toNat)), .c (.v (.int .u64 w.1.1.2.2.2.2.1.2.2.2.1.toNat)), .c (.v (.int .u64 w.1.1.2.2.2.2.1.2.2.2.2.toNat)),
  .h (0, j) 0 w.1.1.2.2.2.2.2.1.length w.1.1.2.2.2.2.2.1.length,
  .c (.v (.int .i64 w.1.1.2.2.2.2.2.2.1)), .c (.v (.int .u64 w.1.1.2.2.2.2.2.2.2.1.toNat)), .c (.v (.int .u64 w.1.1.2.2.2.2.2.2.2.2.1.toNat)), .c (.v (.int .u64 w.1.1.2.2.2.2.2.2.2.2.2.1.toNat)), .c (.v (.int .u64 w.1.1.2.2.2.2.2.2.2.2.2.2.toNat)),
  .h (0, k) 0 w.1.2.1.length w.1.2.1.length,
  .c (.v (.int .i64 w.1.2.2.1)), .c (.v (.int .u64 w.1.2.2.2.1.toNat)), .c (.v (.int .u64 w.1.2.2.2.2.1.toNat)), .c (.v (.int .u64 w.1.2.2.2.2.2.1.toNat)), .c (.v (.int .u64 w.1.2.2.2.2.2.2.toNat)),
  .h (0, n) 0 w.2.1.length w.2.1.length, .c (.v (.slice none 0 0)), .c (.v (.slice none 0 0)), .c (.v (.slice none 0 0))])
abbrev rWatched (w : Watched) : List (Option Root) := [some (oR (cInt .i64) w.1.1.2.2.2.2.2.1), some (oR cStr w.1.2.1), some (oR cLetter w.2.1)]
attribute [go_sem] oWatched rWatched

/-- What comes of what a monitor's client was told: the client's lists are handed over. -/
def FM.watched : FM := ⟨[1], fun args rin => match args, rin with
  | [e1, .x (.a [c0, c1, c2, c3, c4, c5, c6, c7, c8, .h (0, 0) 0 n1 m1, d0, d1, d2, d3, d4, .h (0, 1) 0 n2 m2, z1, z2])], [.row 1 rows, .row 3 rowt] => match (CE.st cMonitor).dec e1, mapO (cInt .i64).dec rows, mapO cLetter.dec rowt with
    | some m, some xs, some ys => some (.x (.a [c0, c1, c2, c3, c4, c5, c6, c7, c8, .h (0, 0) 0 xs.length xs.length, d0, d1, d2, d3, d4, .h (0, 2) 0 m.2.1.length m.2.1.length,
        .c (.v (.int .i64 m.2.2.1)), .c (.v (.int .u64 m.2.2.2.1.toNat)), .c (.v (.int .u64 m.2.2.2.2.1.toNat)), .c (.v (.int .u64 m.2.2.2.2.2.1.toNat)), .c (.v (.int .u64 m.2.2.2.2.2.2.toNat)),
        .h (0, 1) 0 ys.length ys.length, .c (.v (.slice none 0 0)), .c (.v (.slice none 0 0)), .c (.v (.slice none 0 0))]), [some (oR (cInt .i64) xs), some (oR cLetter ys), some (oR cStr m.2.1)],
      (m.1.2.2.2.2.2.1.length ≤ 1100000 ∧ m.2.1.length ≤ 1100000) ∧ rows = xs.map (cInt .i64).enc ∧ rowt = ys.map cLetter.enc ∧ ∃ t : Told, .x (.a [c0, c1, c2, c3, c4, c5, c6, c7, c8, .h (0, 0) 0 n1 m1, d0, d1, d2, d3, d4, .h (0, 1) 0 n2 m2, z1, z2]) = oTold t ∧ xs = t.1.2.2.2.2.2.1 ∧ ys = t.2.1)
    | _, _, _ => none
  | _, _ => none⟩
theorem FM.watched_ok {P : Program} {g : FuncId} (h : ∀ (m : Monitor) (t : Told), m.1.2.2.2.2.2.1.length ≤ 1100000 ∧ m.2.1.length ≤ 1100000 → VFun P g [(CE.st cMonitor).enc m, oTold t] [some (oR (cInt .i64) t.1.2.2.2.2.2.1), some (oR cLetter t.2.1)] (oWatched 0 2 1 ((t.1, m.2), t.2.1, [], [], [])) [some (oR (cInt .i64) t.1.2.2.2.2.2.1), some (oR cLetter t.2.1), some (oR cStr m.2.1)]) : FM.watched.ok P g := by
  intro args rin res rout p hm hp
  simp only [FM.watched] at hm
  split at hm
  · split at hm
    · rename_i m xs ys he hx hy
      cases hm
      obtain ⟨h1, rfl, rfl, t, ht, rfl, rfl⟩ := hp
      have h2 := h m t h1
      rw [← ht] at h2
      injection ht with ht
      injection ht with ht
      simp only [List.cons.injEq] at ht
      obtain ⟨rfl, rfl, rfl, rfl, rfl, rfl, rfl, rfl, rfl, hh1, rfl, rfl, rfl, rfl, rfl, hh2, rfl, rfl, _⟩ := ht
      exact h2.weaken (.cons ((CE.st cMonitor).ok _ _ he) (.cons (fun _ _ _ _ _ h => h) .nil))
    · cases hm
  · cases hm
attribute [go_sem] FM.watched

def H_impl_watchedOf : Hint := { fs := [(63, OMonCopy)], kp := [(0, [0, 1]), (1, [2, 3, 4]), (2, [3, 4, 5]), (3, [3, 4, 5])], an := [], own := true }
attribute [go_sem] H_impl_watchedOf
theorem ok_H_impl_watchedOf : H_impl_watchedOf.ok Try.prog := AllOk.okR (.cons ok_impl_monitorCopy .nil) .nil mix
theorem o_watchedOf (m : Monitor) (t : Told) (h : m.1.2.2.2.2.2.1.length ≤ 1100000 ∧ m.2.1.length ≤ 1100000) : VFun Try.prog 64 [(CE.st cMonitor).enc m, oTold t] [some (oR (cInt .i64) t.1.2.2.2.2.2.1), some (oR cLetter t.2.1)] (oWatched 0 2 1 ((t.1, m.2), t.2.1, [], [], [])) [some (oR (cInt .i64) t.1.2.2.2.2.2.1), some (oR cLetter t.2.1), some (oR cStr m.2.1)] := by
  refine VFun_own (rin := [oR (cInt .i64) t.1.2.2.2.2.2.1, oR cLetter t.2.1]) (n := 19) (rs := [.cell 4 62]) Try.func64 rfl rfl rfl rfl H_impl_watchedOf ok_H_impl_watchedOf (Nat.le_of_ble_eq_true rfl) (by kernel_rfl) ?_
  simp only [go_sem, ↓reduceIte, reduceCtorEq, Nat.reduceAdd, Nat.reduceMul, Nat.reduceEqDiff, Nat.reduceSub, Nat.reduceLT, Nat.reduceLeDiff, Nat.reduceAnd, Nat.reduceShiftRight, Nat.reduceBEq, Nat.reduceBNe, Nat.reduceBneDiff, Nat.reduceBeqDiff, Int.reduceToNat, Int.reduceLE, Int.reduceLT, Int.reduceEq]
  exact h
theorem ok_impl_watchedOf : FM.watched.ok Try.prog 64 := FM.watched_ok o_watchedOf

def H_spec_l11Told : Hint := { fs := [(66, OMonCopy)], kp := [(0, [0, 1]), (1, [2, 3, 4]), (2, [3, 4, 5]), (3, [4, 5])], an := [(1, [0, 1, 0, 4, 0, 16, 0, 64, 255, 0, 1023])], own := true }
attribute [go_sem] H_spec_l11Told
theorem ok_H_spec_l11Told : H_spec_l11Told.ok Try.prog := AllOk.okR (.cons ok_spec_l11Copy .nil) .nil mix
theorem o_l11Told (m : Monitor) (t : Told) (h : m.1.2.2.2.2.2.1.length ≤ 1100000 ∧ m.2.1.length ≤ 1100000) : VFun Try.prog 65 [(CE.st cMonitor).enc m, oTold t] [some (oR (cInt .i64) t.1.2.2.2.2.2.1), some (oR cLetter t.2.1)] (oWatched 0 2 1 ((t.1, m.2), t.2.1, [], [], [])) [some (oR (cInt .i64) t.1.2.2.2.2.2.1), some (oR cLetter t.2.1), some (oR cStr m.2.1)] := by
  refine VFun_own (rin := [oR (cInt .i64) t.1.2.2.2.2.2.1, oR cLetter t.2.1]) (n := 20) (rs := [.cell 4 62]) Try.func65 rfl rfl rfl rfl H_spec_l11Told ok_H_spec_l11Told (Nat.le_of_ble_eq_true rfl) (by kernel_rfl) ?_
  simp only [go_sem, ↓reduceIte, reduceCtorEq, Nat.reduceAdd, Nat.reduceMul, Nat.reduceEqDiff, Nat.reduceSub, Nat.reduceLT, Nat.reduceLeDiff, Nat.reduceAnd, Nat.reduceShiftRight, Nat.reduceBEq, Nat.reduceBNe, Nat.reduceBneDiff, Nat.reduceBeqDiff, Int.reduceToNat, Int.reduceLE, Int.reduceLT, Int.reduceEq]
  exact h
theorem ok_spec_l11Told : FM.watched.ok Try.prog 65 := FM.watched_ok o_l11Told

abbrev OMonTick : FM := .g2 (CE.st cMonitor) (eInt .i64) (fun m me => (oWatched 0 1 2 (monTickM m me), rWatched (monTickM m me))) (fun m _ => m.1.2.2.2.2.2.1.length ≤ 1048576 ∧ m.2.1.length ≤ 1048576)
attribute [go_sem] OMonTick

def H_spec_MonitorTick : Hint := { fs := [(7, MMonOk), (12, OClTick), (39, MNode), (41, MWire), (65, FM.watched), (66, OMonCopy)], kp := [(0, [0, 1]), (1, [1, 2, 4]), (2, [4]), (3, [1, 2, 4]), (4, [1, 2, 4, 5]), (5, [1, 2, 4]), (6, [1, 2, 4, 5]), (7, [1, 2, 4]), (8, [1, 2, 4, 5]), (9, [1, 2, 4, 6])], an := [(5, [0, 0, 2, 0, 14, 31, 63]), (9, [0, 1, 0, 0, 11, 31, 63, 127, 255])], own := true, ow := [(0, 9, 1), (0, 15, 1), (0, 21, 3)] }
attribute [go_sem] H_spec_MonitorTick
theorem ok_H_spec_MonitorTick : H_spec_MonitorTick.ok Try.prog := AllOk.okR (.cons ok_spec_MonitorOk (.cons ok_spec_ClientTick (.cons ok_spec_l10Node (.cons ok_spec_WireBytes (.cons ok_spec_l11Told (.cons ok_spec_l11Copy .nil)))))) .nil mix
theorem o_spec_MonitorTick (m : Monitor) (me : Int) (h : m.1.2.2.2.2.2.1.length ≤ 1048576 ∧ m.2.1.length ≤ 1048576) : VFun Try.prog 22 [(CE.st cMonitor).enc m, (eInt .i64).enc me] [] (oWatched 0 1 2 (monTickM m me)) (rWatched (monTickM m me)) := by
  refine VFun_own (rin := []) (n := 47) (rs := [.cell 4 62]) Try.func22 rfl rfl rfl rfl H_spec_MonitorTick ok_H_spec_MonitorTick (Nat.le_of_ble_eq_true rfl) (by kernel_rfl) ?_
  by_cases h1 : monM m = true ∧ (1 ≤ me ∧ me ≤ 20)
  case neg =>
    rw [monTickM_no m h1]
    simp only [go_sem, ↓reduceIte, reduceCtorEq, Nat.reduceAdd, Nat.reduceMul, Nat.reduceEqDiff, Nat.reduceSub, Nat.reduceLT, Nat.reduceLeDiff, Nat.reduceAnd, Nat.reduceShiftRight, Nat.reduceBEq, Nat.reduceBNe, Nat.reduceBneDiff, Nat.reduceBeqDiff, Int.reduceToNat, Int.reduceLE, Int.reduceLT, Int.reduceEq]
    exact ⟨h, ite_intro (fun h3 => ite_intro (fun _ => rfl) fun h4 => absurd ⟨h3, by simpa using h4⟩ h1) fun _ => rfl⟩
  obtain ⟨g1, g2, g3, g4, g5⟩ := monM_lack h1.1
  have w1 : IntKind.i64.wrap (m.1.2.2.2.2.2.2.1 - m.2.1.length) = lackM m := by rw [wrap64] <;> first | rfl | (unfold lackM at *; omega)
  by_cases h2 : lackM m = 0
  · rw [monTickM_end h1 h2]
    simp only [go_sem, ↓reduceIte, reduceCtorEq, Nat.reduceAdd, Nat.reduceMul, Nat.reduceEqDiff, Nat.reduceSub, Nat.reduceLT, Nat.reduceLeDiff, Nat.reduceAnd, Nat.reduceShiftRight, Nat.reduceBEq, Nat.reduceBNe, Nat.reduceBneDiff, Nat.reduceBeqDiff, Int.reduceToNat, Int.reduceLE, Int.reduceLT, Int.reduceEq, h1, w1, eq_true h2]
    exact ⟨h, h.1, ⟨by omega, by omega⟩, clTickM m.1 me, rfl, rfl, rfl⟩
  · rw [monTickM_go h1 h2]
    by_cases h3 : 8 < lackM m
    · simp only [go_sem, ↓reduceIte, reduceCtorEq, Nat.reduceAdd, Nat.reduceMul, Nat.reduceEqDiff, Nat.reduceSub, Nat.reduceLT, Nat.reduceLeDiff, Nat.reduceAnd, Nat.reduceShiftRight, Nat.reduceBEq, Nat.reduceBNe, Nat.reduceBneDiff, Nat.reduceBeqDiff, Int.reduceToNat, Int.reduceLE, Int.reduceLT, Int.reduceEq, h1, w1, h2, h3]
      exact ⟨h, ⟨by omega, by omega⟩, tick_fMsg g2 (by omega)⟩
    · simp only [go_sem, ↓reduceIte, reduceCtorEq, Nat.reduceAdd, Nat.reduceMul, Nat.reduceEqDiff, Nat.reduceSub, Nat.reduceLT, Nat.reduceLeDiff, Nat.reduceAnd, Nat.reduceShiftRight, Nat.reduceBEq, Nat.reduceBNe, Nat.reduceBneDiff, Nat.reduceBeqDiff, Int.reduceToNat, Int.reduceLE, Int.reduceLT, Int.reduceEq, h1, w1, h2, h3]
      exact ⟨h, ⟨by omega, by omega⟩, tick_fMsg g2 (by omega)⟩
theorem ok_spec_MonitorTick : OMonTick.ok Try.prog 22 := FM.g2_ok fun m me h => o_spec_MonitorTick m me h

def H_impl_MonitorTick : Hint := { fs := [(9, MMonOk), (14, OClTick), (34, M166), (44, MLetter), (63, OMonCopy), (64, FM.watched)], kp := [(0, [0, 1]), (1, [1, 2, 4]), (2, [4]), (3, [1, 2, 4]), (4, [1, 2, 4, 5]), (5, [1, 2, 4, 5]), (6, [1, 2, 4, 6]), (7, [1, 2, 4])], an := [(6, [0, 1, 0, 0, 15, 31, 63, 127]), (7, [0, 0, 2, 0, 14, 31, 63])], own := true, ow := [(0, 9, 1), (0, 15, 1), (0, 21, 3)] }
attribute [go_sem] H_impl_MonitorTick
theorem ok_H_impl_MonitorTick : H_impl_MonitorTick.ok Try.prog := AllOk.okR (.cons ok_impl_MonitorOk (.cons ok_impl_ClientTick (.cons m180 (.cons ok_impl_letter (.cons ok_impl_monitorCopy (.cons ok_impl_watchedOf .nil)))))) .nil mix
theorem o_impl_MonitorTick (m : Monitor) (me : Int) (h : m.1.2.2.2.2.2.1.length ≤ 1048576 ∧ m.2.1.length ≤ 1048576) : VFun Try.prog 21 [(CE.st cMonitor).enc m, (eInt .i64).enc me] [] (oWatched 0 1 2 (monTickM m me)) (rWatched (monTickM m me)) := by
  refine VFun_own (rin := []) (n := 45) (rs := [.cell 4 62]) Try.func21 rfl rfl rfl rfl H_impl_MonitorTick ok_H_impl_MonitorTick (Nat.le_of_ble_eq_true rfl) (by kernel_rfl) ?_
  by_cases h1 : monM m = true ∧ (1 ≤ me ∧ me ≤ 20)
  case neg =>
    rw [monTickM_no m h1]
    simp only [go_sem, ↓reduceIte, reduceCtorEq, Nat.reduceAdd, Nat.reduceMul, Nat.reduceEqDiff, Nat.reduceSub, Nat.reduceLT, Nat.reduceLeDiff, Nat.reduceAnd, Nat.reduceShiftRight, Nat.reduceBEq, Nat.reduceBNe, Nat.reduceBneDiff, Nat.reduceBeqDiff, Int.reduceToNat, Int.reduceLE, Int.reduceLT, Int.reduceEq]
    exact ⟨h, ite_intro (fun h3 => ite_intro (fun _ => rfl) fun h4 => absurd ⟨h3, by simpa using h4⟩ h1) fun _ => rfl⟩
  obtain ⟨g1, g2, g3, g4, g5⟩ := monM_lack h1.1
  have w1 : IntKind.i64.wrap (m.1.2.2.2.2.2.2.1 - m.2.1.length) = lackM m := by rw [wrap64] <;> first | rfl | (unfold lackM at *; omega)
  by_cases h2 : lackM m = 0
  · have c2 : (0 < lackM m) = False := eq_false (by omega)
    rw [monTickM_end h1 h2]
    simp only [go_sem, ↓reduceIte, reduceCtorEq, Nat.reduceAdd, Nat.reduceMul, Nat.reduceEqDiff, Nat.reduceSub, Nat.reduceLT, Nat.reduceLeDiff, Nat.reduceAnd, Nat.reduceShiftRight, Nat.reduceBEq, Nat.reduceBNe, Nat.reduceBneDiff, Nat.reduceBeqDiff, Int.reduceToNat, Int.reduceLE, Int.reduceLT, Int.reduceEq, h1, w1, c2]
    exact ⟨h, h.1, ⟨by omega, by omega⟩, clTickM m.1 me, rfl, rfl, rfl⟩
  · have c2 : (0 < lackM m) = True := eq_true (by omega)
    have hm : min (lackM m) 8 = (if 8 < lackM m then 8 else lackM m) := by split <;> omega
    have hc : 1 ≤ (if 8 < lackM m then 8 else lackM m) ∧ (if 8 < lackM m then 8 else lackM m) ≤ 8 := by split <;> omega
    rw [monTickM_go h1 h2]
    generalize (if 8 < lackM m then 8 else lackM m) = cc at hm hc ⊢
    simp only [go_sem, ↓reduceIte, reduceCtorEq, Nat.reduceAdd, Nat.reduceMul, Nat.reduceEqDiff, Nat.reduceSub, Nat.reduceLT, Nat.reduceLeDiff, Nat.reduceAnd, Nat.reduceShiftRight, Nat.reduceBEq, Nat.reduceBNe, Nat.reduceBneDiff, Nat.reduceBeqDiff, Int.reduceToNat, Int.reduceLE, Int.reduceLT, Int.reduceEq, h1, w1, c2, hm]
    exact ⟨h, ⟨by omega, by omega⟩, tick_fMsg g2 hc⟩
theorem ok_impl_MonitorTick : OMonTick.ok Try.prog 21 := FM.g2_ok fun m me h => o_impl_MonitorTick m me h

end Go.Proofs.YtlofjogebacndaaW.V

