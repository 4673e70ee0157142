/- Functions: logs and messages, handed over, compared, marked. No condition but each theorem's own. -/
import Derived.Test.YtfccplibbdnkpaaFWC
import Derived.Test.YtfccplibbdnkpaaFQS
namespace Go.Proofs.YtfccplibbdnkpaaW.V
open Go Go.Proofs
set_option linter.unusedSimpArgs false
set_option linter.unusedVariables false
set_option maxRecDepth 8000
set_option maxHeartbeats 4000000

set_option synthInstance.maxSize 1000

abbrev zDig : Digest := (0, 0, 0, 0)
def H_laws_toDigestS : Hint := { fs := [(32, MToDigest)], kp := [(0, [0]), (1, [0]), (2, [0, 3]), (3, [0, 3, 4]), (5, [0, 3, 4]), (4, [0, 3, 4]), (6, [3])], an := [], own := true }
attribute [go_sem] H_laws_toDigestS
theorem ok_H_laws_toDigestS : H_laws_toDigestS.ok Try.prog := AllOk.okR (.cons ok_laws_toDigest .nil) .nil mix
theorem o_toDigestS (xs : List Digest) (h : xs.length ≤ 1048576) : VFun Try.prog 33 [(eList cDigest).enc xs] [] (oL 0 xs) [some (oR cDigest xs)] := by
  have hml := fun i (h : i ≤ xs.length) => fillM_len zDig xs h
  refine VFun_own (rin := []) (n := 23) (rs := [.tmp 2]) Try.func33 rfl rfl rfl rfl H_laws_toDigestS ok_H_laws_toDigestS (Nat.le_of_ble_eq_true rfl) (by kernel_rfl) ?_
  have h0 : List.replicate xs.length ([.v (.int .u64 0), .v (.int .u64 0), .v (.int .u64 0), .v (.int .u64 0)] : List C) = (fillM zDig xs 0).map cDigest.enc := by
    rw [fillM, List.take_zero, List.nil_append, Nat.sub_zero, List.map_replicate]; rfl
  have hz := hml 0 (Nat.zero_le _)
  simp only [go_sem, ↓reduceIte, reduceCtorEq, Nat.reduceAdd, Nat.reduceMul, Nat.reduceEqDiff, Nat.reduceSub, Nat.reduceLT, Nat.reduceLeDiff, Nat.reduceAnd, Nat.reduceShiftRight, Nat.reduceBEq, Nat.reduceBNe, Nat.reduceBneDiff, Nat.reduceBeqDiff, Int.reduceToNat, Int.reduceLE, Int.reduceLT, Int.reduceEq]
  refine ⟨⟨by omega, by omega, by omega⟩, ?_⟩
  refine LoopV.go (H := H_laws_toDigestS) ok_H_laws_toDigestS (by kernel_rfl) (fun i : Nat => ⟨[(0, .x (.o (.c (.s (xs.map cDigest.enc))))), (3, .x (.o (.h (1, 100) 0 (fillM zDig xs i).length (fillM zDig xs i).length))), (4, sc (.int .i64 i))], [((1, 100), .row 4 ((fillM zDig xs i).map cDigest.enc))], 2⟩) (fun i => xs.length - i) (fun i => i ≤ xs.length) ?_ 0 (Nat.zero_le _) (by rw [hz]; exact congrArg (fun r => (⟨_, [((1, 100), Root.row 4 r)], 2⟩ : LS)) h0)
  intro i hi
  have hmi := hml i hi
  have w1 : IntKind.i64.wrap ((i : Int) + 1) = ((i + 1 : Nat) : Int) := by rw [wrap64] <;> omega
  by_cases hlt : i < xs.length
  · obtain ⟨x, hx⟩ : ∃ r, xs[i]? = some r := ⟨_, List.getElem?_eq_getElem hlt⟩
    have hlt2 : i < (fillM zDig xs i).length := by omega
    obtain ⟨y, hy⟩ : ∃ r, (fillM zDig xs i)[i]? = some r := ⟨_, List.getElem?_eq_getElem hlt2⟩
    have c1 : ((i : Int) < (xs.length : Int)) = True := eq_true (by omega)
    have c2 : ((i : Int) < ((fillM zDig xs i).length : Int)) = True := eq_true (by omega)
    have hs := congrArg (List.map cDigest.enc) (fillM_set zDig xs hx)
    rw [List.map_set] at hs
    have hmj := hml (i + 1) (by omega)
    simp only [go_sem, ↓reduceIte, reduceCtorEq, Nat.reduceAdd, Nat.reduceMul, Nat.reduceEqDiff, Nat.reduceSub, Nat.reduceLT, Nat.reduceLeDiff, Nat.reduceAnd, Nat.reduceShiftRight, Nat.reduceBEq, Nat.reduceBNe, Nat.reduceBneDiff, Nat.reduceBeqDiff, Int.reduceToNat, Int.reduceLE, Int.reduceLT, Int.reduceEq, c1, c2, w1, eq_true hlt2, hx, hy, List.length_set, List.length_map, List.set_set]
    exact ⟨i + 1, by omega, by omega, by rw [hmi, hmj]; exact congrArg (fun r => (⟨_, [((1, 100), Root.row 4 r)], 2⟩ : LS)) hs⟩
  · have c1 : ((i : Int) < (xs.length : Int)) = False := eq_false (by omega)
    obtain rfl : i = xs.length := by omega
    simp only [go_sem, ↓reduceIte, reduceCtorEq, Nat.reduceAdd, Nat.reduceMul, Nat.reduceEqDiff, Nat.reduceSub, Nat.reduceLT, Nat.reduceLeDiff, Nat.reduceAnd, Nat.reduceShiftRight, Nat.reduceBEq, Nat.reduceBNe, Nat.reduceBneDiff, Nat.reduceBeqDiff, Int.reduceToNat, Int.reduceLE, Int.reduceLT, Int.reduceEq, c1]
    rw [fillM_n]
    exact ⟨rfl, rfl⟩
abbrev OToDigestS : FM := .g1 (eList cDigest) (fun x => (oL 0 x, [some (oR cDigest x)])) (fun x => x.length ≤ 1048576)
attribute [go_sem] OToDigestS
theorem ok_laws_toDigestS : OToDigestS.ok Try.prog 33 := FM.g1_ok fun x h => o_toDigestS x h

def H_laws_eqDigestS : Hint := { fs := [(39, M240)], kp := [(0, [0, 1]), (1, [0, 1]), (2, []), (3, [0, 1]), (4, [0, 1, 5]), (6, [0, 1, 5]), (7, []), (5, [0, 1, 5]), (8, [])], an := [(6, [0, 0, 3, 7, 0, 0, 48, 112, 255, 511])] }
attribute [go_sem] H_laws_eqDigestS
theorem ok_H_laws_eqDigestS : H_laws_eqDigestS.ok Try.prog := AllOk.okR (.cons m240 .nil) .nil mix
theorem f_eq_digests (xs ys) (hl : xs.length ≤ maxLen) : VFun Try.prog 40 [(eList cDigest).enc xs, (eList cDigest).enc ys] [] (eBool.enc (decide (xs = ys))) [] := by
  unfold maxLen at hl
  refine VFun_pure (n := 27) (rs := [.tmp 4]) Try.func40 rfl rfl rfl rfl H_laws_eqDigestS ok_H_laws_eqDigestS _ _ (Nat.le_of_ble_eq_true rfl) (by kernel_rfl) ?_
  simp only [go_sem, ↓reduceIte, reduceCtorEq, Nat.reduceAdd, Nat.reduceMul, Nat.reduceEqDiff, Nat.reduceSub, Nat.reduceLT, Nat.reduceLeDiff, Nat.reduceAnd, Nat.reduceShiftRight, Nat.reduceBEq, Nat.reduceBNe, Nat.reduceBneDiff, Nat.reduceBeqDiff, Int.reduceToNat, Int.reduceLE, Int.reduceLT, Int.reduceEq]
  refine ite_intro (fun h1 => ?_) fun h1 => ?_
  · have : xs ≠ ys := fun e => by simp [e] at h1
    simp [this]
  · have hlen : xs.length = ys.length := by simp at h1; omega
    refine LoopV.go (H := H_laws_eqDigestS) ok_H_laws_eqDigestS (by kernel_rfl) (fun i : Nat => ⟨[(0, .x (.o (.c (.s (xs.map (cDigest).enc))))), (1, .x (.o (.c (.s (ys.map (cDigest).enc))))), (5, sc (.int .i64 i))], [], 2⟩) (fun i => xs.length - i) (fun i => i ≤ xs.length ∧ ∀ j, j < i → xs[j]? = ys[j]?) ?_ 0 ⟨Nat.zero_le _, fun j h => by omega⟩
    intro i ⟨hi, hall⟩
    rcases Nat.lt_or_ge i xs.length with hlt | hge
    · have hx : xs[i]? = some xs[i] := List.getElem?_eq_getElem hlt
      have hy : ys[i]? = some (ys[i]'(by omega)) := List.getElem?_eq_getElem (by omega)
      generalize xs[i] = x at hx
      generalize ys[i]'(by omega) = y at hy
      have hw : IntKind.i64.wrap ((i : Int) + 1) = ((i + 1 : Nat) : Int) := by rw [wrap64] <;> omega
      have hlt' : ((i : Int) < (xs.length : Int)) = True := by simp; omega
      simp only [go_sem, ↓reduceIte, reduceCtorEq, Nat.reduceAdd, Nat.reduceMul, Nat.reduceEqDiff, Nat.reduceSub, Nat.reduceLT, Nat.reduceLeDiff, Nat.reduceAnd, Nat.reduceShiftRight, Nat.reduceBEq, Nat.reduceBNe, Nat.reduceBneDiff, Nat.reduceBeqDiff, Int.reduceToNat, Int.reduceLE, Int.reduceLT, Int.reduceEq, hx, hy, hw, hlt']
      refine ite_intro (fun h3 => ?_) fun h3 => ⟨i + 1, ⟨hlt, fun j hj => ?_⟩, by omega, rfl⟩
      · have : xs ≠ ys := fun e => by
          rw [e, hy] at hx
          cases hx
          simp at h3
        simp [this]
      · rcases Nat.lt_or_ge j i with h4 | h4
        · exact hall j h4
        · rw [show j = i by omega, hx, hy]
          simpa using h3
    · have hlt' : ((i : Int) < (xs.length : Int)) = False := by simp; omega
      simp only [go_sem, ↓reduceIte, reduceCtorEq, Nat.reduceAdd, Nat.reduceMul, Nat.reduceEqDiff, Nat.reduceSub, Nat.reduceLT, Nat.reduceLeDiff, Nat.reduceAnd, Nat.reduceShiftRight, Nat.reduceBEq, Nat.reduceBNe, Nat.reduceBneDiff, Nat.reduceBeqDiff, Int.reduceToNat, Int.reduceLE, Int.reduceLT, Int.reduceEq, hlt']
      have : xs = ys := List.ext_getElem? fun j => by
        rcases Nat.lt_or_ge j i with h4 | h4
        · exact hall j h4
        · rw [List.getElem?_eq_none (by omega), List.getElem?_eq_none (by omega)]
      simp [this]
abbrev MEq_digests : FM := .f2 (eList cDigest) (eList cDigest) eBool.enc (fun x y => decide (x = y)) (fun x _ => x.length ≤ maxLen)
attribute [go_sem] MEq_digests
theorem ok_laws_eqDigestS : MEq_digests.ok Try.prog 40 := FM.f2_ok fun x y h => f_eq_digests x y h

def H_laws_szDigestS : Hint := { fs := [], kp := [(0, [0, 1]), (1, [0, 1]), (2, [1]), (3, []), (4, [1])], an := [] }
attribute [go_sem] H_laws_szDigestS
theorem ok_H_laws_szDigestS : H_laws_szDigestS.ok Try.prog := AllOk.okR .nil .nil mix
theorem f_szDigestS (xs : List Digest) (n : Int) (h : xs.length ≤ maxLen) (hn : 0 ≤ n ∧ n ≤ 1048576) : ∃ v : Int, szGood n v xs.length ∧ VFun Try.prog 25 [(eList cDigest).enc xs, (eInt .i64).enc n] [] ((eInt .i64).enc v) [] := by
  unfold maxLen at h
  have w1 : IntKind.i64.wrap (n - (xs.length : Int)) = n - (xs.length : Int) := wrap64 (by omega) (by omega)
  refine VFun_rel (n := 12) (rs := [.tmp 4]) Try.func25 rfl rfl rfl rfl H_laws_szDigestS ok_H_laws_szDigestS  (rin := []) (T := Int) (eInt .i64) (fun t => t) (fun t => []) (fun v => szGood n v xs.length) (Nat.le_of_ble_eq_true rfl) (by kernel_rfl) ?_
  simp only [go_sem, ↓reduceIte, reduceCtorEq, Nat.reduceAdd, Nat.reduceMul, Nat.reduceEqDiff, Nat.reduceSub, Nat.reduceLT, Nat.reduceLeDiff, Nat.reduceAnd, Nat.reduceShiftRight, Nat.reduceBEq, Nat.reduceBNe, Nat.reduceBneDiff, Nat.reduceBeqDiff, Int.reduceToNat, Int.reduceLE, Int.reduceLT, Int.reduceEq, w1]
  refine ite_intro (fun h1 => ⟨-1, ⟨by omega, by omega, fun h => absurd h (by omega)⟩, rfl⟩) fun h1 => ⟨_, ⟨by omega, by omega, fun _ => by omega⟩, rfl⟩
abbrev RSzDigestS : FR := .p2 (eList cDigest) (eInt .i64) (eInt .i64) (fun xs n => xs.length ≤ maxLen ∧ 0 ≤ n ∧ n ≤ 1048576) (fun xs n v => szGood n v xs.length)
attribute [go_sem] RSzDigestS
theorem ok_laws_szDigestS : RSzDigestS.ok Try.prog 25 := FR.p2_ok fun xs n h => f_szDigestS xs n h.1 h.2

/-- What the laws write into a list of digests. -/
def markDe (k i : Nat) : Digest := (uOf ((k + 4 * i : Nat) : Int), uOf ((k + 4 * i + 1 : Nat) : Int), uOf ((k + 4 * i + 2 : Nat) : Int), uOf ((k + 4 * i + 3 : Nat) : Int))
def markD (k n : Nat) : List Digest := (List.range n).map (markDe k)
theorem markD_len (k n : Nat) : (markD k n).length = n := by simp [markD]
def markDP (k : Nat) (xs : List Digest) (i : Nat) : List Digest := markD k i ++ xs.drop i
theorem markDP_len (k : Nat) (xs : List Digest) {i : Nat} (h : i ≤ xs.length) : (markDP k xs i).length = xs.length := by
  rw [markDP, List.length_append, markD_len, List.length_drop]; omega
theorem markDP_0 (k : Nat) (xs : List Digest) : markDP k xs 0 = xs := rfl
theorem markDP_n (k : Nat) (xs : List Digest) : markDP k xs xs.length = markD k xs.length := by
  rw [markDP, List.drop_length, List.append_nil]
theorem markDP_set (k : Nat) (xs : List Digest) {i : Nat} (h : i < xs.length) : (markDP k xs i).set i (markDe k i) = markDP k xs (i + 1) := by
  have e : markD k (i + 1) = markD k i ++ [markDe k i] := by simp [markD, List.range_succ]
  rw [markDP, markDP, e, List.set_append_right _ _ (by rw [markD_len]; omega), markD_len, Nat.sub_self, List.drop_eq_getElem_cons h, List.set_cons_zero, List.append_assoc]
  rfl

def H_laws_markDigestS : Hint := { fs := [], kp := [(0, [0, 1]), (1, [0, 1]), (2, [0, 1, 5]), (4, [0, 1, 5]), (5, [0, 1, 5]), (6, [0, 1, 5]), (7, [0, 1, 5]), (8, [0, 1, 5]), (9, [0, 1, 5]), (10, [0, 1, 5]), (11, [0, 1, 5]), (3, [0, 1, 5]), (12, [1])], an := [] }
attribute [go_sem] H_laws_markDigestS
theorem ok_H_laws_markDigestS : H_laws_markDigestS.ok Try.prog := AllOk.okR .nil .nil mix
theorem f_markDigestS (xs : List Digest) (k : Nat) (h : (1 ≤ k ∧ k ≤ 10000000) ∧ xs.length ≤ 10000000) : VFun Try.prog 43 [oL 0 xs, (eInt .i64).enc k] [some (oR cDigest xs)] ((eInt .i64).enc ((k + 4 * xs.length : Nat) : Int)) [some (oR cDigest (markD k xs.length))] := by
  have hml := fun i (h : i ≤ xs.length) => markDP_len k xs h
  have h0 := markDP_0 k xs
  refine VFun_own (rin := [oR cDigest xs]) (n := 45) (rs := [.tmp 4]) Try.func43 rfl rfl rfl rfl H_laws_markDigestS ok_H_laws_markDigestS (Nat.le_of_ble_eq_true rfl) (by kernel_rfl) ?_
  simp only [go_sem, ↓reduceIte, reduceCtorEq, Nat.reduceAdd, Nat.reduceMul, Nat.reduceEqDiff, Nat.reduceSub, Nat.reduceLT, Nat.reduceLeDiff, Nat.reduceAnd, Nat.reduceShiftRight, Nat.reduceBEq, Nat.reduceBNe, Nat.reduceBneDiff, Nat.reduceBeqDiff, Int.reduceToNat, Int.reduceLE, Int.reduceLT, Int.reduceEq]
  refine LoopV.go (H := H_laws_markDigestS) ok_H_laws_markDigestS (by kernel_rfl) (fun i : Nat => ⟨[(0, .x (.o (.h (0, 0) 0 (markDP k xs i).length (markDP k xs i).length))), (1, sc (.int .i64 ((k + 4 * i : Nat) : Int))), (5, sc (.int .i64 i))], [((0, 0), .row 4 ((markDP k xs i).map cDigest.enc))], 2⟩) (fun i => xs.length - i) (fun i => i ≤ xs.length) ?_ 0 (Nat.zero_le _)
  intro i hi
  have hmi := hml i hi
  have w1 : IntKind.i64.wrap ((i : Int) + 1) = ((i + 1 : Nat) : Int) := by rw [wrap64] <;> omega
  have w2 : IntKind.i64.wrap (((k + 4 * i : Nat) : Int) + 1) = ((k + 4 * i + 1 : Nat) : Int) := by rw [wrap64] <;> omega
  have w3 : IntKind.i64.wrap (((k + 4 * i + 1 : Nat) : Int) + 1) = ((k + 4 * i + 2 : Nat) : Int) := by rw [wrap64] <;> omega
  have w4 : IntKind.i64.wrap (((k + 4 * i + 2 : Nat) : Int) + 1) = ((k + 4 * i + 3 : Nat) : Int) := by rw [wrap64] <;> omega
  have w5 : IntKind.i64.wrap (((k + 4 * i + 3 : Nat) : Int) + 1) = ((k + 4 * (i + 1) : Nat) : Int) := by rw [wrap64] <;> omega
  by_cases hlt : i < xs.length
  · have hlt2 : i < (markDP k xs i).length := by omega
    have c1 : ((i : Int) < ((markDP k xs i).length : Int)) = True := eq_true (by omega)
    obtain ⟨⟨a, b, c, d⟩, hx⟩ : ∃ r, (markDP k xs i)[i]? = some r := ⟨_, List.getElem?_eq_getElem hlt2⟩
    have hg : ∀ v : List C, (((markDP k xs i).map cDigest.enc).set i v)[i]? = some v := fun v => List.getElem?_set_self (by simpa using hlt2)
    have hs : ((markDP k xs i).map cDigest.enc).set i [.v (.int .u64 (uOf ((k + 4 * i : Nat) : Int)).toNat), .v (.int .u64 (uOf ((k + 4 * i + 1 : Nat) : Int)).toNat), .v (.int .u64 (uOf ((k + 4 * i + 2 : Nat) : Int)).toNat), .v (.int .u64 (uOf ((k + 4 * i + 3 : Nat) : Int)).toNat)] = (markDP k xs (i + 1)).map cDigest.enc := by
      rw [← markDP_set k xs hlt, List.map_set]; rfl
    have hmj := hml (i + 1) (by omega)
    simp only [go_sem, ↓reduceIte, reduceCtorEq, Nat.reduceAdd, Nat.reduceMul, Nat.reduceEqDiff, Nat.reduceSub, Nat.reduceLT, Nat.reduceLeDiff, Nat.reduceAnd, Nat.reduceShiftRight, Nat.reduceBEq, Nat.reduceBNe, Nat.reduceBneDiff, Nat.reduceBeqDiff, Int.reduceToNat, Int.reduceLE, Int.reduceLT, Int.reduceEq, c1, w1, w2, w3, w4, w5, eq_true hlt2, hx, hg, List.length_set, List.length_map, List.set_set, wrapU]
    exact ⟨i + 1, by omega, by omega, by rw [hmi, hmj]; exact congrArg (fun r => (⟨_, [((0, 0), Root.row 4 r)], 2⟩ : LS)) hs⟩
  · have hie : i = xs.length := by omega
    have c1 : ((i : Int) < ((markDP k xs i).length : Int)) = False := eq_false (by omega)
    simp only [go_sem, ↓reduceIte, reduceCtorEq, Nat.reduceAdd, Nat.reduceMul, Nat.reduceEqDiff, Nat.reduceSub, Nat.reduceLT, Nat.reduceLeDiff, Nat.reduceAnd, Nat.reduceShiftRight, Nat.reduceBEq, Nat.reduceBNe, Nat.reduceBneDiff, Nat.reduceBeqDiff, Int.reduceToNat, Int.reduceLE, Int.reduceLT, Int.reduceEq, c1]
    subst hie
    rw [markDP_n]
    exact ⟨rfl, rfl⟩
abbrev MMarkD : FM := .mk1 cDigest (eInt .i64) (eInt .i64).enc (fun xs k => (markD k.toNat xs.length, ((k.toNat + 4 * xs.length : Nat) : Int))) (fun xs k => (1 ≤ k ∧ k ≤ 10000000) ∧ xs.length ≤ 10000000)
attribute [go_sem] MMarkD
theorem ok_laws_markDigestS : MMarkD.ok Try.prog 43 := FM.mk1_ok fun xs k h => by
  obtain ⟨n, rfl⟩ := Int.eq_ofNat_of_zero_le (show 0 ≤ k by omega)
  exact f_markDigestS xs n ⟨by omega, h.2⟩

def H_laws_heldDigestS : Hint := { fs := [], kp := [(0, [0, 1]), (1, [0, 1]), (2, [0, 1, 5]), (4, [0, 1, 5]), (5, []), (6, [0, 1, 5]), (7, [0, 1, 5]), (8, []), (9, [0, 1, 5]), (10, [0, 1, 5]), (11, []), (12, [0, 1, 5]), (13, [0, 1, 5]), (14, []), (15, [0, 1, 5]), (3, [0, 1, 5]), (16, [1])], an := [] }
attribute [go_sem] H_laws_heldDigestS
theorem ok_H_laws_heldDigestS : H_laws_heldDigestS.ok Try.prog := AllOk.okR .nil .nil mix
theorem f_heldDigestS (k n : Nat) (h : (1 ≤ k ∧ k ≤ 10000000) ∧ n ≤ 10000000) : VFun Try.prog 44 [(eList cDigest).enc (markD k n), (eInt .i64).enc k] [] ((eInt .i64).enc ((k + 4 * n : Nat) : Int)) [] := by
  have hml := markD_len k
  refine VFun_pure (n := 53) (rs := [.tmp 4]) Try.func44 rfl rfl rfl rfl H_laws_heldDigestS ok_H_laws_heldDigestS _ _ (Nat.le_of_ble_eq_true rfl) (by kernel_rfl) ?_
  simp only [go_sem, ↓reduceIte, reduceCtorEq, Nat.reduceAdd, Nat.reduceMul, Nat.reduceEqDiff, Nat.reduceSub, Nat.reduceLT, Nat.reduceLeDiff, Nat.reduceAnd, Nat.reduceShiftRight, Nat.reduceBEq, Nat.reduceBNe, Nat.reduceBneDiff, Nat.reduceBeqDiff, Int.reduceToNat, Int.reduceLE, Int.reduceLT, Int.reduceEq]
  refine LoopV.go (H := H_laws_heldDigestS) ok_H_laws_heldDigestS (by kernel_rfl) (fun i : Nat => ⟨[(0, .x (.o (.c (.s ((markD k n).map cDigest.enc))))), (1, sc (.int .i64 ((k + 4 * i : Nat) : Int))), (5, sc (.int .i64 i))], [], 2⟩) (fun i => n - i) (fun i => i ≤ n) ?_ 0 (Nat.zero_le _)
  intro i hi
  have hmi := hml n
  have w1 : IntKind.i64.wrap ((i : Int) + 1) = ((i + 1 : Nat) : Int) := by rw [wrap64] <;> omega
  have w2 : IntKind.i64.wrap (((k + 4 * i : Nat) : Int) + 1) = ((k + 4 * i + 1 : Nat) : Int) := by rw [wrap64] <;> omega
  have w3 : IntKind.i64.wrap (((k + 4 * i + 1 : Nat) : Int) + 1) = ((k + 4 * i + 2 : Nat) : Int) := by rw [wrap64] <;> omega
  have w4 : IntKind.i64.wrap (((k + 4 * i + 2 : Nat) : Int) + 1) = ((k + 4 * i + 3 : Nat) : Int) := by rw [wrap64] <;> omega
  have w5 : IntKind.i64.wrap (((k + 4 * i + 3 : Nat) : Int) + 1) = ((k + 4 * (i + 1) : Nat) : Int) := by rw [wrap64] <;> omega
  by_cases hlt : i < n
  · have hlt2 : i < (markD k n).length := by omega
    have c1 : ((i : Int) < ((markD k n).length : Int)) = True := eq_true (by omega)
    have hx : (markD k n)[i]? = some (uOf ((k + 4 * i : Nat) : Int), uOf ((k + 4 * i + 1 : Nat) : Int), uOf ((k + 4 * i + 2 : Nat) : Int), uOf ((k + 4 * i + 3 : Nat) : Int)) := by
      simp [markD, hlt, markDe]
    simp only [go_sem, ↓reduceIte, reduceCtorEq, Nat.reduceAdd, Nat.reduceMul, Nat.reduceEqDiff, Nat.reduceSub, Nat.reduceLT, Nat.reduceLeDiff, Nat.reduceAnd, Nat.reduceShiftRight, Nat.reduceBEq, Nat.reduceBNe, Nat.reduceBneDiff, Nat.reduceBeqDiff, Int.reduceToNat, Int.reduceLE, Int.reduceLT, Int.reduceEq, c1, w1, w2, w3, w4, w5, eq_true hlt2, hx, wrapU]
    exact ⟨i + 1, by omega, by omega, rfl⟩
  · have c1 : ((i : Int) < ((markD k n).length : Int)) = False := eq_false (by omega)
    obtain rfl : i = n := by omega
    simp only [go_sem, ↓reduceIte, reduceCtorEq, Nat.reduceAdd, Nat.reduceMul, Nat.reduceEqDiff, Nat.reduceSub, Nat.reduceLT, Nat.reduceLeDiff, Nat.reduceAnd, Nat.reduceShiftRight, Nat.reduceBEq, Nat.reduceBNe, Nat.reduceBneDiff, Nat.reduceBeqDiff, Int.reduceToNat, Int.reduceLE, Int.reduceLT, Int.reduceEq, c1]
abbrev MHeldD : FM := .f2 (eList cDigest) (eInt .i64) (eInt .i64).enc (fun xs k => ((k.toNat + 4 * xs.length : Nat) : Int)) (fun xs k => xs = markD k.toNat xs.length ∧ (1 ≤ k ∧ k ≤ 10000000) ∧ xs.length ≤ 10000000)
attribute [go_sem] MHeldD
theorem ok_laws_heldDigestS : MHeldD.ok Try.prog 44 := FM.f2_ok fun xs k h => by
  obtain ⟨n, rfl⟩ := Int.eq_ofNat_of_zero_le (show 0 ≤ k by omega)
  have := f_heldDigestS n xs.length ⟨by omega, h.2.2⟩
  have e : markD n xs.length = xs := h.1.symm
  rw [e] at this
  exact this

/-- Logs, and messages whose lists are one's own. -/
abbrev Log := List ByteArray
abbrev cLog : Cd Log := cList cStr
attribute [go_sem] cLog
abbrev oMsg (m : Msg) : E := .x (.a [.c (.v (.int .i64 m.1)), .c (.v (.int .i64 m.2.1)), .c (.v (.int .i64 m.2.2.1)), .c (.v (.int .i64 m.2.2.2.1)),
  .c (.v (.int .u64 m.2.2.2.2.1.1.toNat)), .c (.v (.int .u64 m.2.2.2.2.1.2.1.toNat)), .c (.v (.int .u64 m.2.2.2.2.1.2.2.1.toNat)), .c (.v (.int .u64 m.2.2.2.2.1.2.2.2.toNat)),
  .c (.v (.int .i64 m.2.2.2.2.2.1)), .h (0, 0) 0 m.2.2.2.2.2.2.1.length m.2.2.2.2.2.2.1.length, .h (0, 1) 0 m.2.2.2.2.2.2.2.length m.2.2.2.2.2.2.2.length])
abbrev rMsg (m : Msg) : List (Option Root) := [some (oR cDigest m.2.2.2.2.2.2.1), some (oR cStr m.2.2.2.2.2.2.2)]
attribute [go_sem] oMsg rMsg

end Go.Proofs.YtfccplibbdnkpaaW.V

