/- Functions: raw writes. No condition but each theorem's own. -/
import Derived.Test.YtgdbammhnjkbbaaFS
namespace Go.Proofs.YtgdbammhnjkbbaaW.V
open Go Go.Proofs
set_option linter.unusedSimpArgs false
set_option linter.unusedVariables false
set_option maxRecDepth 8000
set_option maxHeartbeats 4000000

def H_impl_copied_impl_Raw : Hint := { fs := [], kp := [(0, [0]), (1, [0]), (2, []), (3, [0]), (4, [0, 3]), (5, [3])], an := [], own := true, ow := [(0, 0, 3)] }
attribute [go_sem] H_impl_copied_impl_Raw
theorem ok_H_impl_copied_impl_Raw : H_impl_copied_impl_Raw.ok Try.prog := AllOk.okR .nil .nil mix
theorem o_copied_raw (xs) (h : xs.length ≤ 1000000) : VFun Try.prog 36 [(eList cRaw).enc xs] [] (oL 0 xs) [some (oR cRaw xs)] := by
  refine VFun_own (rin := []) (n := 14) (rs := [.tmp 2]) Try.func36 rfl rfl rfl rfl H_impl_copied_impl_Raw ok_H_impl_copied_impl_Raw (Nat.le_of_ble_eq_true rfl) (by kernel_rfl) ?_
  simp only [go_sem, ↓reduceIte, reduceCtorEq, Nat.reduceAdd, Nat.reduceMul, Nat.reduceEqDiff, Nat.reduceSub, Nat.reduceLT, Nat.reduceLeDiff, Nat.reduceAnd, Nat.reduceShiftRight, Nat.reduceBEq, Nat.reduceBNe, Nat.reduceBneDiff, Nat.reduceBeqDiff, Int.reduceToNat, Int.reduceLE, Int.reduceLT, Int.reduceEq]
  refine ite_intro (fun h1 => ?_) fun h1 => ?_
  · have : xs = [] := by simpa using h1
    rw [this]; exact ⟨rfl, rfl⟩
  · (repeat' apply And.intro) <;> first | omega | exact map_len_all cRaw rfl xs | (simp; done) | rfl
abbrev OCopied_raw : FM := .g1 (eList cRaw) (fun xs => (oL 0 xs, [some (oR cRaw xs)])) (fun xs => xs.length ≤ 1000000)
attribute [go_sem] OCopied_raw
theorem ok_impl_copied_impl_Raw : OCopied_raw.ok Try.prog 36 := FM.g1_ok fun xs h => o_copied_raw xs h

theorem readM_bd (d : Disk) : 0 ≤ (readM d).1.1 ∧ (readM d).1.1 ≤ 1000000000 ∧ 0 ≤ (readM d).1.2.1 ∧ (readM d).1.2.1 ≤ 256 ∧ ((readM d).2 = 0 ∨ (readM d).2 = 1 ∨ (readM d).2 = 2) := by
  unfold readM
  split
  · rename_i h; have := okM_seq h.1; simp; omega
  · split
    · rename_i h; have := okM_seq h; simp; omega
    · simp

def newM (d : Disk) (n : Int) (root : Digest) : Slot := (0, uOf ((readM d).1.1 + 1), uOf n, root)
def toM (d : Disk) : Int := if (readM d).2 = 1 then 2 else 1
/-- The raw writes that keep. -/
def rawsM (d : Disk) (n : Int) (root : Digest) : List Raw :=
  if (1 ≤ n ∧ n ≤ 256) ∧ (readM d).1.1 < 1000000000 then
    [(toM d, 0, 0), (toM d, 1, uOf ((readM d).1.1 + 1)), (toM d, 2, uOf n), (toM d, 3, root.1), (toM d, 4, root.2.1), (toM d, 5, root.2.2.1), (toM d, 6, root.2.2.2), (toM d, 0, sumM (newM d n root))]
  else []

theorem rawsM_no {d : Disk} {n : Int} {root : Digest} (h : ¬ ((1 ≤ n ∧ n ≤ 256) ∧ (readM d).1.1 < 1000000000)) : rawsM d n root = [] := if_neg h
theorem rawsM_at {d : Disk} {n : Int} {root : Digest} {t : Int} (h1 : 1 ≤ n ∧ n ≤ 256) (h2 : (readM d).1.1 < 1000000000) (ht : toM d = t) : rawsM d n root =
    [(t, 0, 0), (t, 1, uOf ((readM d).1.1 + 1)), (t, 2, uOf n), (t, 3, root.1), (t, 4, root.2.1), (t, 5, root.2.2.1), (t, 6, root.2.2.2), (t, 0, sumM (newM d n root))] := by
  rw [rawsM, if_pos ⟨h1, h2⟩, ht]

def H_spec_RecordRaws : Hint := { fs := [(21, MRead), (30, M166), (31, MSum)], kp := [(0, [0, 1, 2]), (1, [1, 3, 5]), (2, [1, 5, 7, 8]), (3, []), (4, [1, 5, 7, 8]), (5, [1, 5, 7, 8, 9]), (6, [1, 5, 7]), (7, [1, 5, 7, 9]), (8, [5, 9, 10])], an := [(8, [0, 1, 0, 0, 8, 28, 0, 0, 128, 448, 0, 0, 2048, 7168, 0, 0, 32768, 114688, 0, 0, 524288, 1835008, 0, 0, 8388608, 29360128, 0, 0, 134217728, 469762048, 1073741823, 2147483647])] }
attribute [go_sem] H_spec_RecordRaws
theorem ok_H_spec_RecordRaws : H_spec_RecordRaws.ok Try.prog := AllOk.okR (.cons ok_spec_RecordRead (.cons m166 (.cons ok_spec_SlotSum .nil))) .nil mix
theorem f_spec_RecordRaws (d : Disk) (n : Int) (root : Digest) : VFun Try.prog 8 [(CE.st cDisk).enc d, (eInt .i64).enc n, (CE.st cDigest).enc root] [] ((eList cRaw).enc (rawsM d n root)) [] := by
  have hr := readM_bd d
  obtain ⟨A, B, C, D⟩ := root
  have hu : IntKind.u64.wrap n = ((uOf n).toNat : Int) := wrapU n
  have hv : IntKind.u64.wrap ((readM d).1.1 + 1) = ((uOf ((readM d).1.1 + 1)).toNat : Int) := wrapU _
  have hw : IntKind.i64.wrap ((readM d).1.1 + 1) = (readM d).1.1 + 1 := by rw [wrap64] <;> omega
  refine VFun_pure (n := 66) (rs := [.tmp 6]) Try.func8 rfl rfl rfl rfl H_spec_RecordRaws ok_H_spec_RecordRaws _ _ (Nat.le_of_ble_eq_true rfl) (by kernel_rfl) ?_
  simp only [go_sem, ↓reduceIte, reduceCtorEq, Nat.reduceAdd, Nat.reduceMul, Nat.reduceEqDiff, Nat.reduceSub, Nat.reduceLT, Nat.reduceLeDiff, Nat.reduceAnd, Nat.reduceShiftRight, Nat.reduceBEq, Nat.reduceBNe, Nat.reduceBneDiff, Nat.reduceBeqDiff, Int.reduceToNat, Int.reduceLE, Int.reduceLT, Int.reduceEq, hu, hv, hw]
  refine ite_intro (fun h1 => ?_) fun h1 => by rw [rawsM_no fun h => h1 h.1]
  refine ite_intro (fun h2 => by rw [rawsM_no fun h => absurd h.2 (by omega)]) fun h2 => ?_
  refine ite_intro (fun h3 => by rw [rawsM_at (t := 2) h1 (by omega) (if_pos h3)]; rfl) fun h3 => by rw [rawsM_at (t := 1) h1 (by omega) (if_neg h3)]; rfl
abbrev MRaws : FM := .f3 (CE.st cDisk) (eInt .i64) (CE.st cDigest) (eList cRaw).enc rawsM (fun _ _ _ => True)
attribute [go_sem] MRaws
theorem ok_spec_RecordRaws : MRaws.ok Try.prog 8 := FM.f3_ok fun d n r _ => f_spec_RecordRaws d n r

abbrev ORaws : FM := .g3 (CE.st cDisk) (eInt .i64) (CE.st cDigest) (fun d n r => (oL 0 (rawsM d n r), [some (oR cRaw (rawsM d n r))])) (fun _ _ _ => True)
attribute [go_sem] ORaws
def H_impl_RecordRaws : Hint := { fs := [(22, MRead), (33, M166), (34, MSum), (35, MWords), (36, OCopied_raw)], kp := [(0, [0, 1, 2]), (1, [1, 3, 5]), (2, [1, 5, 7, 8]), (3, []), (4, [1, 5, 7, 8]), (5, [1, 5, 7, 8, 9]), (6, [1, 5, 7]), (7, [1, 5, 7, 9]), (8, [9, 10]), (9, [9, 10]), (10, [9, 10, 11]), (11, [9, 10, 11, 12]), (12, [9, 10, 11, 12, 13]), (14, [9, 10, 11, 12, 13]), (13, [9, 10, 11, 12, 13]), (15, [9, 10, 11])], an := [], own := true, ow := [(0, 0, 3)], cut := [7] }
attribute [go_sem] H_impl_RecordRaws
theorem ok_H_impl_RecordRaws : H_impl_RecordRaws.ok Try.prog := AllOk.okR (.cons ok_impl_RecordRead (.cons m180 (.cons ok_impl_SlotSum (.cons ok_impl_Slot_words (.cons ok_impl_copied_impl_Raw .nil))))) .nil mix
theorem f_impl_RecordRaws (d : Disk) (n : Int) (root : Digest) : VFun Try.prog 11 [(CE.st cDisk).enc d, (eInt .i64).enc n, (CE.st cDigest).enc root] [] (oL 0 (rawsM d n root)) [some (oR cRaw (rawsM d n root))] := by
  have hr := readM_bd d
  have hn : newM d n root = newM d n root := rfl
  conv at hn => rhs; unfold newM
  obtain ⟨A, B, C, D⟩ := root
  have hu : IntKind.u64.wrap n = ((uOf n).toNat : Int) := wrapU n
  have hv : IntKind.u64.wrap ((readM d).1.1 + 1) = ((uOf ((readM d).1.1 + 1)).toNat : Int) := wrapU _
  have hw : IntKind.i64.wrap ((readM d).1.1 + 1) = (readM d).1.1 + 1 := by rw [wrap64] <;> omega
  refine VFun_own (rin := []) (n := 68) (rs := [.tmp 6]) Try.func11 rfl rfl rfl rfl H_impl_RecordRaws ok_H_impl_RecordRaws (Nat.le_of_ble_eq_true rfl) (by kernel_rfl) ?_
  simp only [go_sem, ↓reduceIte, reduceCtorEq, Nat.reduceAdd, Nat.reduceMul, Nat.reduceEqDiff, Nat.reduceSub, Nat.reduceLT, Nat.reduceLeDiff, Nat.reduceAnd, Nat.reduceShiftRight, Nat.reduceBEq, Nat.reduceBNe, Nat.reduceBneDiff, Nat.reduceBeqDiff, Int.reduceToNat, Int.reduceLE, Int.reduceLT, Int.reduceEq, hu, hv, hw]
  refine ite_intro (fun h1 => ?_) fun h1 => by rw [rawsM_no fun h => h1 h.1]; exact ⟨rfl, rfl⟩
  refine ite_intro (fun h2 => by rw [rawsM_no fun h => absurd h.2 (by omega)]; exact ⟨rfl, rfl⟩) fun h2 => ?_
  refine CutS.intro (H := H_impl_RecordRaws) ok_H_impl_RecordRaws (by kernel_rfl) (by kernel_rfl) (fun t : Int => ⟨[(1, sc (.int .i64 n)), (5, .x (.o (.p (1, 100) 0 0 1))), (7, .x (.o (.p (1, 101) 0 0 1))), (9, sc (.int .i64 t))], [((1, 100), .bx [[.c (.v (.int .u64 A.toNat)), .c (.v (.int .u64 B.toNat)), .c (.v (.int .u64 C.toNat)), .c (.v (.int .u64 D.toNat))]]), ((1, 101), .bx [[.c (.v (.int .i64 (readM d).1.1)), .c (.v (.int .i64 (readM d).1.2.1)), .c (.v (.int .u64 (readM d).1.2.2.1.toNat)), .c (.v (.int .u64 (readM d).1.2.2.2.1.toNat)), .c (.v (.int .u64 (readM d).1.2.2.2.2.1.toNat)), .c (.v (.int .u64 (readM d).1.2.2.2.2.2.toNat))]])], 2⟩) (fun t => toM d = t) ?_ ?_
  · simp only [go_sem, ↓reduceIte, reduceCtorEq, Nat.reduceAdd, Nat.reduceMul, Nat.reduceEqDiff, Nat.reduceSub, Nat.reduceLT, Nat.reduceLeDiff, Nat.reduceAnd, Nat.reduceShiftRight, Nat.reduceBEq, Nat.reduceBNe, Nat.reduceBneDiff, Nat.reduceBeqDiff, Int.reduceToNat, Int.reduceLE, Int.reduceLT, Int.reduceEq]
    refine ite_intro (fun h3 => ⟨2, if_pos h3, rfl⟩) fun h3 => ⟨1, if_neg h3, rfl⟩
  intro t ht
  have hR := rawsM_at (root := (A, B, C, D)) h1 (by omega : (readM d).1.1 < 1000000000) ht
  rw [hn] at hR
  dsimp only at hR
  simp only [go_sem, ↓reduceIte, reduceCtorEq, Nat.reduceAdd, Nat.reduceMul, Nat.reduceEqDiff, Nat.reduceSub, Nat.reduceLT, Nat.reduceLeDiff, Nat.reduceAnd, Nat.reduceShiftRight, Nat.reduceBEq, Nat.reduceBNe, Nat.reduceBneDiff, Nat.reduceBeqDiff, Int.reduceToNat, Int.reduceLE, Int.reduceLT, Int.reduceEq, hu, hv, hw]
  let L : Nat → List Raw := fun k => match k with
    | 1 => [(t, 0, 0)]
    | 2 => [(t, 0, 0)] ++ [(t, 1, uOf ((readM d).1.1 + 1))]
    | 3 => [(t, 0, 0)] ++ [(t, 1, uOf ((readM d).1.1 + 1))] ++ [(t, 2, uOf n)]
    | 4 => [(t, 0, 0)] ++ [(t, 1, uOf ((readM d).1.1 + 1))] ++ [(t, 2, uOf n)] ++ [(t, 3, A)]
    | 5 => [(t, 0, 0)] ++ [(t, 1, uOf ((readM d).1.1 + 1))] ++ [(t, 2, uOf n)] ++ [(t, 3, A)] ++ [(t, 4, B)]
    | 6 => [(t, 0, 0)] ++ [(t, 1, uOf ((readM d).1.1 + 1))] ++ [(t, 2, uOf n)] ++ [(t, 3, A)] ++ [(t, 4, B)] ++ [(t, 5, C)]
    | _ => [(t, 0, 0)] ++ [(t, 1, uOf ((readM d).1.1 + 1))] ++ [(t, 2, uOf n)] ++ [(t, 3, A)] ++ [(t, 4, B)] ++ [(t, 5, C)] ++ [(t, 6, D)]
  have g1 : L 1 ++ [(t, 1, uOf ((readM d).1.1 + 1))] = L 2 := rfl
  have g2 : L 2 ++ [(t, 2, uOf n)] = L 3 := rfl
  have g3 : L 3 ++ [(t, 3, A)] = L 4 := rfl
  have g4 : L 4 ++ [(t, 4, B)] = L 5 := rfl
  have g5 : L 5 ++ [(t, 5, C)] = L 6 := rfl
  have g6 : L 6 ++ [(t, 6, D)] = L 7 := rfl
  have hl : ∀ k, 1 ≤ k → k ≤ 7 → (L k).length = k := fun k h0 h7 => by
    obtain rfl | rfl | rfl | rfl | rfl | rfl | rfl : k = 1 ∨ k = 2 ∨ k = 3 ∨ k = 4 ∨ k = 5 ∨ k = 6 ∨ k = 7 := by omega
    all_goals rfl
  have h0 : L 1 = [(t, 0, 0)] := rfl
  have h8 : L 7 ++ [(t, 0, sumM (0, uOf ((readM d).1.1 + 1), uOf n, A, B, C, D))] = rawsM d n (A, B, C, D) := by rw [hR]; rfl
  clear hR
  clear_value L
  refine LoopV.go (H := H_impl_RecordRaws) ok_H_impl_RecordRaws (by kernel_rfl) (fun k : Nat => ⟨[(9, sc (.int .i64 t)), (10, .x (.o (.p (1, 102) 0 0 1))), (11, .x (.o (.h (1, 100) 0 (L k).length (L k).length))), (12, .x (.o (.h (1, 101) 0 7 7))), (13, sc (.int .i64 k))], [((1, 100), .row 3 ((L k).map cRaw.enc)), ((1, 101), .bx [[.p (1, 102) 0 0 1], [.p (1, 102) 0 1 1], [.p (1, 102) 0 2 1], [.p (1, 102) 0 3 1], [.p (1, 102) 0 4 1], [.p (1, 102) 0 5 1], [.p (1, 102) 0 6 1]]), ((1, 102), .bx [[.c (.v (.int .u64 (sumM (0, uOf ((readM d).1.1 + 1), uOf n, A, B, C, D)).toNat)), .c (.v (.int .u64 (uOf ((readM d).1.1 + 1)).toNat)), .c (.v (.int .u64 (uOf n).toNat)), .c (.v (.int .u64 A.toNat)), .c (.v (.int .u64 B.toNat)), .c (.v (.int .u64 C.toNat)), .c (.v (.int .u64 D.toNat))]])], 2⟩) (fun k => 7 - k) (fun k => 1 ≤ k ∧ k ≤ 7) ?_ 1 (by omega) (by rw [h0]; rfl)
  intro k hk
  have hlk := hl k hk.1 hk.2
  obtain rfl | rfl | rfl | rfl | rfl | rfl | rfl : k = 1 ∨ k = 2 ∨ k = 3 ∨ k = 4 ∨ k = 5 ∨ k = 6 ∨ k = 7 := by omega
  · have c1 : (((1 : Nat) : Int) ≤ 6) = True := eq_true (by omega)
    simp only [go_sem, ↓reduceIte, reduceCtorEq, Nat.reduceAdd, Nat.reduceMul, Nat.reduceEqDiff, Nat.reduceSub, Nat.reduceLT, Nat.reduceLeDiff, Nat.reduceAnd, Nat.reduceShiftRight, Nat.reduceBEq, Nat.reduceBNe, Nat.reduceBneDiff, Nat.reduceBeqDiff, Int.reduceToNat, Int.reduceLE, Int.reduceLT, Int.reduceEq, c1]
    exact ⟨⟨by omega, by omega⟩, 2, by omega, by omega, by rw [← g1, List.length_append, List.map_append]; rfl⟩
  · have c1 : (((2 : Nat) : Int) ≤ 6) = True := eq_true (by omega)
    simp only [go_sem, ↓reduceIte, reduceCtorEq, Nat.reduceAdd, Nat.reduceMul, Nat.reduceEqDiff, Nat.reduceSub, Nat.reduceLT, Nat.reduceLeDiff, Nat.reduceAnd, Nat.reduceShiftRight, Nat.reduceBEq, Nat.reduceBNe, Nat.reduceBneDiff, Nat.reduceBeqDiff, Int.reduceToNat, Int.reduceLE, Int.reduceLT, Int.reduceEq, c1]
    exact ⟨⟨by omega, by omega⟩, 3, by omega, by omega, by rw [← g2, List.length_append, List.map_append]; rfl⟩
  · have c1 : (((3 : Nat) : Int) ≤ 6) = True := eq_true (by omega)
    simp only [go_sem, ↓reduceIte, reduceCtorEq, Nat.reduceAdd, Nat.reduceMul, Nat.reduceEqDiff, Nat.reduceSub, Nat.reduceLT, Nat.reduceLeDiff, Nat.reduceAnd, Nat.reduceShiftRight, Nat.reduceBEq, Nat.reduceBNe, Nat.reduceBneDiff, Nat.reduceBeqDiff, Int.reduceToNat, Int.reduceLE, Int.reduceLT, Int.reduceEq, c1]
    exact ⟨⟨by omega, by omega⟩, 4, by omega, by omega, by rw [← g3, List.length_append, List.map_append]; rfl⟩
  · have c1 : (((4 : Nat) : Int) ≤ 6) = True := eq_true (by omega)
    simp only [go_sem, ↓reduceIte, reduceCtorEq, Nat.reduceAdd, Nat.reduceMul, Nat.reduceEqDiff, Nat.reduceSub, Nat.reduceLT, Nat.reduceLeDiff, Nat.reduceAnd, Nat.reduceShiftRight, Nat.reduceBEq, Nat.reduceBNe, Nat.reduceBneDiff, Nat.reduceBeqDiff, Int.reduceToNat, Int.reduceLE, Int.reduceLT, Int.reduceEq, c1]
    exact ⟨⟨by omega, by omega⟩, 5, by omega, by omega, by rw [← g4, List.length_append, List.map_append]; rfl⟩
  · have c1 : (((5 : Nat) : Int) ≤ 6) = True := eq_true (by omega)
    simp only [go_sem, ↓reduceIte, reduceCtorEq, Nat.reduceAdd, Nat.reduceMul, Nat.reduceEqDiff, Nat.reduceSub, Nat.reduceLT, Nat.reduceLeDiff, Nat.reduceAnd, Nat.reduceShiftRight, Nat.reduceBEq, Nat.reduceBNe, Nat.reduceBneDiff, Nat.reduceBeqDiff, Int.reduceToNat, Int.reduceLE, Int.reduceLT, Int.reduceEq, c1]
    exact ⟨⟨by omega, by omega⟩, 6, by omega, by omega, by rw [← g5, List.length_append, List.map_append]; rfl⟩
  · have c1 : (((6 : Nat) : Int) ≤ 6) = True := eq_true (by omega)
    simp only [go_sem, ↓reduceIte, reduceCtorEq, Nat.reduceAdd, Nat.reduceMul, Nat.reduceEqDiff, Nat.reduceSub, Nat.reduceLT, Nat.reduceLeDiff, Nat.reduceAnd, Nat.reduceShiftRight, Nat.reduceBEq, Nat.reduceBNe, Nat.reduceBneDiff, Nat.reduceBeqDiff, Int.reduceToNat, Int.reduceLE, Int.reduceLT, Int.reduceEq, c1]
    exact ⟨⟨by omega, by omega⟩, 7, by omega, by omega, by rw [← g6, List.length_append, List.map_append]; rfl⟩
  · have c1 : (((7 : Nat) : Int) ≤ 6) = False := eq_false (by omega)
    simp only [go_sem, ↓reduceIte, reduceCtorEq, Nat.reduceAdd, Nat.reduceMul, Nat.reduceEqDiff, Nat.reduceSub, Nat.reduceLT, Nat.reduceLeDiff, Nat.reduceAnd, Nat.reduceShiftRight, Nat.reduceBEq, Nat.reduceBNe, Nat.reduceBneDiff, Nat.reduceBeqDiff, Int.reduceToNat, Int.reduceLE, Int.reduceLT, Int.reduceEq, c1]
    rw [← h8, List.length_append, List.map_append]
    exact ⟨⟨by omega, by omega⟩, by omega, rfl, rfl⟩
theorem ok_impl_RecordRaws : ORaws.ok Try.prog 11 := FM.g3_ok fun d n r _ => f_impl_RecordRaws d n r

/-- A slot with a word written. -/
def putM (s : Slot) (w : Int) (v : UInt64) : Slot :=
  if w = 0 then (v, s.2) else if w = 1 then (s.1, v, s.2.2) else if w = 2 then (s.1, s.2.1, v, s.2.2.2)
  else if w = 3 then (s.1, s.2.1, s.2.2.1, v, s.2.2.2.2) else if w = 4 then (s.1, s.2.1, s.2.2.1, s.2.2.2.1, v, s.2.2.2.2.2)
  else if w = 5 then (s.1, s.2.1, s.2.2.1, s.2.2.2.1, s.2.2.2.2.1, v, s.2.2.2.2.2.2) else if w = 6 then (s.1, s.2.1, s.2.2.1, s.2.2.2.1, s.2.2.2.2.1, s.2.2.2.2.2.1, v)
  else s
def wr1 (d : Disk) (r : Raw) : Disk := if r.1 = 1 then (putM d.1 r.2.1 r.2.2, d.2) else if r.1 = 2 then (d.1, putM d.2 r.2.1 r.2.2) else d
def writeM (d : Disk) (l : List Raw) : Disk := l.foldl wr1 d
def cutM (d : Disk) (l : List Raw) (c : Int) : Disk := writeM d (l.take c.toNat)

def H_spec_l7Put : Hint := { fs := [], kp := [(0, [0, 1, 2]), (1, [1, 2, 3, 6]), (2, [1, 2, 3, 6]), (3, [1, 2, 3, 6]), (4, [1, 2, 3, 6]), (5, [1, 2, 3, 6]), (6, [1, 2, 3, 6]), (7, [1, 2, 3, 6]), (8, [1, 2, 3, 6]), (9, [1, 2, 3, 6]), (10, [1, 2, 3, 6]), (11, [1, 2, 3, 6]), (12, [1, 2, 3, 6]), (13, [1, 2, 3, 6]), (14, [2, 3, 6]), (15, [3, 6])], an := [] }
attribute [go_sem] H_spec_l7Put
theorem ok_H_spec_l7Put : H_spec_l7Put.ok Try.prog := AllOk.okR .nil .nil mix
theorem f_l7Put (s : Slot) (w : Int) (v : UInt64) : VFun Try.prog 74 [(CE.st cSlot).enc s, (eInt .i64).enc w, eU64.enc v] [] ((CE.st cSlot).enc (putM s w v)) [] := by
  obtain ⟨a, b, c, d, e, f, g⟩ := s
  refine VFun_pure (n := 40) (rs := [.cell 6 33]) Try.func74 rfl rfl rfl rfl H_spec_l7Put ok_H_spec_l7Put _ _ (Nat.le_of_ble_eq_true rfl) (by kernel_rfl) ?_
  by_cases h : w = 0 ∨ w = 1 ∨ w = 2 ∨ w = 3 ∨ w = 4 ∨ w = 5 ∨ w = 6
  · obtain rfl | rfl | rfl | rfl | rfl | rfl | rfl := h
    all_goals simp only [go_sem, ↓reduceIte, reduceCtorEq, Nat.reduceAdd, Nat.reduceMul, Nat.reduceEqDiff, Nat.reduceSub, Nat.reduceLT, Nat.reduceLeDiff, Nat.reduceAnd, Nat.reduceShiftRight, Nat.reduceBEq, Nat.reduceBNe, Nat.reduceBneDiff, Nat.reduceBeqDiff, Int.reduceToNat, Int.reduceLE, Int.reduceLT, Int.reduceEq]
    all_goals rfl
  · have h0 : (w = 0) = False := eq_false (by omega)
    have h1 : (w = 1) = False := eq_false (by omega)
    have h2 : (w = 2) = False := eq_false (by omega)
    have h3 : (w = 3) = False := eq_false (by omega)
    have h4 : (w = 4) = False := eq_false (by omega)
    have h5 : (w = 5) = False := eq_false (by omega)
    have h6 : (w = 6) = False := eq_false (by omega)
    simp only [go_sem, ↓reduceIte, reduceCtorEq, Nat.reduceAdd, Nat.reduceMul, Nat.reduceEqDiff, Nat.reduceSub, Nat.reduceLT, Nat.reduceLeDiff, Nat.reduceAnd, Nat.reduceShiftRight, Nat.reduceBEq, Nat.reduceBNe, Nat.reduceBneDiff, Nat.reduceBeqDiff, Int.reduceToNat, Int.reduceLE, Int.reduceLT, Int.reduceEq, putM, h0, h1, h2, h3, h4, h5, h6]
abbrev MPut : FM := .f3 (CE.st cSlot) (eInt .i64) eU64 (CE.st cSlot).enc putM (fun _ _ _ => True)
attribute [go_sem] MPut
theorem ok_spec_l7Put : MPut.ok Try.prog 74 := FM.f3_ok fun s w v _ => f_l7Put s w v

end Go.Proofs.YtgdbammhnjkbbaaW.V

