/- Functions: the digest of a text. No condition but each theorem's own. -/
import Derived.Test.YtcgkhljolflenaaGreatFU
namespace Go.Proofs.YtcgkhljolflenaaGreatW.V
open Go Go.Proofs
set_option linter.unusedSimpArgs false
set_option linter.unusedVariables false
set_option maxRecDepth 8000
set_option maxHeartbeats 4000000

def bare (l : List UInt8) : List UInt8 := l.filter (· ≠ 255)
theorem bare_succ {l : List UInt8} {i : Nat} {x : UInt8} (h : l[i]? = some x) : bare (l.take (i + 1)) = bare (l.take i) ++ (if x ≠ 255 then [x] else []) := by
  have : l.take (i + 1) = l.take i ++ [x] := by rw [List.take_add_one, h]; rfl
  rw [this, bare, List.filter_append]
  by_cases hx : x = 255
  · simp [hx, bare]
  · simp [hx, bare]
theorem bare_length (l : List UInt8) : (bare l).length ≤ l.length := List.length_filter_le _ _
theorem u8_ne (x y : UInt8) : ((x.toNat : Int) = (y.toNat : Int)) = (x = y) := by
  rw [eq_iff_iff, ← UInt8.toNat_inj]; omega

def H_spec_l1Bare : Hint := { fs := [], kp := [(0, [0]), (1, [0]), (2, [0, 3]), (3, [0, 3, 4]), (5, [0, 3, 4]), (6, [0, 3, 4]), (4, [0, 3, 4]), (7, [3])], an := [] }
attribute [go_sem] H_spec_l1Bare
theorem ok_H_spec_l1Bare : H_spec_l1Bare.ok Tryz.prog := AllOk.okR .nil .nil mix
theorem f_l1Bare (s : ByteArray) (hs : s.size ≤ 1000000) : VFun Tryz.prog 81 [eStr.enc s] [] (eStr.enc ⟨(bare s.data.toList).toArray⟩) [] := by
  refine VFun_pure (n := 24) (rs := [.tmp 2]) Tryz.func81 rfl rfl rfl rfl H_spec_l1Bare ok_H_spec_l1Bare _ _ (Nat.le_of_ble_eq_true rfl) (by kernel_rfl) ?_
  have hl : s.data.toList.length = s.size := rfl
  simp only [go_sem, ↓reduceIte, reduceCtorEq, Nat.reduceAdd, Nat.reduceMul, Nat.reduceEqDiff, Nat.reduceSub, Nat.reduceLT, Nat.reduceLeDiff, Nat.reduceAnd, Nat.reduceShiftRight, Nat.reduceBEq, Nat.reduceBNe, Nat.reduceBneDiff, Nat.reduceBeqDiff, Int.reduceToNat, Int.reduceLE, Int.reduceLT, Int.reduceEq]
  refine LoopV.go (H := H_spec_l1Bare) ok_H_spec_l1Bare (by kernel_rfl) (fun i : Nat => ⟨[(0, sc (.string s)), (3, .x (.o (.h (1, 100) 0 (bare (s.data.toList.take i)).length (bare (s.data.toList.take i)).length))), (4, sc (.int .i64 i))], [((1, 100), .row 1 ((bare (s.data.toList.take i)).map cU8.enc))], 2⟩) (fun i => s.size - i) (fun i => i ≤ s.size) ?_ 0 (by omega)
  intro i hi
  have hlen : (bare (s.data.toList.take i)).length ≤ i := Nat.le_trans (bare_length _) (by simp; omega)
  by_cases hlt : i < s.size
  · have c1 : ((i : Int) < (s.size : Int)) = True := eq_true (by omega)
    obtain ⟨x, hx⟩ : ∃ x, s.data.toList[i]? = some x := ⟨_, List.getElem?_eq_getElem (by omega)⟩
    have w1 : IntKind.i64.wrap ((i : Int) + 1) = ((i + 1 : Nat) : Int) := by rw [wrap64] <;> omega
    have hb := bare_succ hx
    simp only [go_sem, ↓reduceIte, reduceCtorEq, Nat.reduceAdd, Nat.reduceMul, Nat.reduceEqDiff, Nat.reduceSub, Nat.reduceLT, Nat.reduceLeDiff, Nat.reduceAnd, Nat.reduceShiftRight, Nat.reduceBEq, Nat.reduceBNe, Nat.reduceBneDiff, Nat.reduceBeqDiff, Int.reduceToNat, Int.reduceLE, Int.reduceLT, Int.reduceEq, c1, hx, w1]
    refine ite_intro (fun h3 => ?_) fun h3 => ?_
    · have h4 : x ≠ 255 := fun e => h3 (by rw [e]; rfl)
      rw [if_pos h4] at hb
      exact ⟨by omega, i + 1, by omega, by omega, by rw [hb]; simp [cU8_enc]⟩
    · have h4 : ¬ x ≠ 255 := fun h => h3 fun e => h (UInt8.toNat_inj.1 (by rw [show (255 : UInt8).toNat = 255 from rfl]; omega))
      rw [if_neg h4, List.append_nil] at hb
      exact ⟨i + 1, by omega, by omega, by rw [hb]⟩
  · have c1 : ((i : Int) < (s.size : Int)) = False := eq_false (by omega)
    have h8 : i = s.size := by omega
    subst h8
    simp only [go_sem, ↓reduceIte, reduceCtorEq, Nat.reduceAdd, Nat.reduceMul, Nat.reduceEqDiff, Nat.reduceSub, Nat.reduceLT, Nat.reduceLeDiff, Nat.reduceAnd, Nat.reduceShiftRight, Nat.reduceBEq, Nat.reduceBNe, Nat.reduceBneDiff, Nat.reduceBeqDiff, Int.reduceToNat, Int.reduceLE, Int.reduceLT, Int.reduceEq, c1]
    rw [List.take_of_length_le (by omega)]
abbrev MBare : FM := .f1 eStr eStr.enc (fun s => ⟨(bare s.data.toList).toArray⟩) (fun s => s.size ≤ 1000000)
attribute [go_sem] MBare
theorem ok_spec_l1Bare : MBare.ok Tryz.prog 81 := FM.f1_ok fun s h => f_l1Bare s h

def H_spec_l1Zeros : Hint := { fs := [], kp := [(0, [0]), (1, [0]), (2, [0, 3]), (3, [0, 3, 4]), (5, [0, 3, 4]), (4, [0, 3, 4]), (6, [3])], an := [] }
attribute [go_sem] H_spec_l1Zeros
theorem ok_H_spec_l1Zeros : H_spec_l1Zeros.ok Tryz.prog := AllOk.okR .nil .nil mix
theorem f_l1Zeros (n : Nat) (hn : n ≤ 1000000) : VFun Tryz.prog 82 [(eInt .i64).enc n] [] (eStr.enc ⟨(List.replicate n (0 : UInt8)).toArray⟩) [] := by
  refine VFun_pure (n := 16) (rs := [.tmp 2]) Tryz.func82 rfl rfl rfl rfl H_spec_l1Zeros ok_H_spec_l1Zeros _ _ (Nat.le_of_ble_eq_true rfl) (by kernel_rfl) ?_
  simp only [go_sem, ↓reduceIte, reduceCtorEq, Nat.reduceAdd, Nat.reduceMul, Nat.reduceEqDiff, Nat.reduceSub, Nat.reduceLT, Nat.reduceLeDiff, Nat.reduceAnd, Nat.reduceShiftRight, Nat.reduceBEq, Nat.reduceBNe, Nat.reduceBneDiff, Nat.reduceBeqDiff, Int.reduceToNat, Int.reduceLE, Int.reduceLT, Int.reduceEq]
  refine LoopV.go (H := H_spec_l1Zeros) ok_H_spec_l1Zeros (by kernel_rfl) (fun i : Nat => ⟨[(0, sc (.int .i64 n)), (3, .x (.o (.h (1, 100) 0 (List.replicate i (0 : UInt8)).length (List.replicate i (0 : UInt8)).length))), (4, sc (.int .i64 i))], [((1, 100), .row 1 ((List.replicate i (0 : UInt8)).map cU8.enc))], 2⟩) (fun i => n - i) (fun i => i ≤ n) ?_ 0 (by omega)
  intro i hi
  by_cases hlt : i < n
  · have c1 : ((i : Int) < (n : Int)) = True := eq_true (by omega)
    have w1 : IntKind.i64.wrap ((i : Int) + 1) = ((i + 1 : Nat) : Int) := by rw [wrap64] <;> omega
    simp only [go_sem, ↓reduceIte, reduceCtorEq, Nat.reduceAdd, Nat.reduceMul, Nat.reduceEqDiff, Nat.reduceSub, Nat.reduceLT, Nat.reduceLeDiff, Nat.reduceAnd, Nat.reduceShiftRight, Nat.reduceBEq, Nat.reduceBNe, Nat.reduceBneDiff, Nat.reduceBeqDiff, Int.reduceToNat, Int.reduceLE, Int.reduceLT, Int.reduceEq, c1, w1]
    exact ⟨by simp; omega, i + 1, by omega, by omega, by simp [List.replicate_succ', cU8_enc]⟩
  · have c1 : ((i : Int) < (n : Int)) = False := eq_false (by omega)
    have h8 : i = n := by omega
    subst h8
    simp only [go_sem, ↓reduceIte, reduceCtorEq, Nat.reduceAdd, Nat.reduceMul, Nat.reduceEqDiff, Nat.reduceSub, Nat.reduceLT, Nat.reduceLeDiff, Nat.reduceAnd, Nat.reduceShiftRight, Nat.reduceBEq, Nat.reduceBNe, Nat.reduceBneDiff, Nat.reduceBeqDiff, Int.reduceToNat, Int.reduceLE, Int.reduceLT, Int.reduceEq, c1]
abbrev MZeros : FM := .f1 (eInt .i64) eStr.enc (fun n => ⟨(List.replicate n.toNat (0 : UInt8)).toArray⟩) (fun n => 0 ≤ n ∧ n ≤ 1000000)
attribute [go_sem] MZeros
theorem ok_spec_l1Zeros : MZeros.ok Tryz.prog 82 := FM.f1_ok fun n h => by
  obtain ⟨n, rfl⟩ := Int.eq_ofNat_of_zero_le h.1
  exact f_l1Zeros n (by omega)

def H_spec_HashBytes : Hint := { fs := [(83, MBytes)], kp := [(0, [0]), (1, [1])], an := [(1, [0, 1, 3, 0, 8, 31, 63, 0, 128, 447, 1023, 0, 2048, 7103, 16383, 32767])] }
attribute [go_sem] H_spec_HashBytes
theorem ok_H_spec_HashBytes : H_spec_HashBytes.ok Tryz.prog := AllOk.okR (.cons ok_spec_l1Bytes .nil) .nil mix
theorem f_spec_HashBytes (d : Digest) : VFun Tryz.prog 91 [(CE.st cDigest).enc d] [] (eStr.enc ⟨(be8 d.1 ++ be8 d.2.1 ++ be8 d.2.2.1 ++ be8 d.2.2.2).toArray⟩) [] := by
  obtain ⟨x1, x2, x3, x4⟩ := d
  refine VFun_pure (n := 18) (rs := [.tmp 2]) Tryz.func91 rfl rfl rfl rfl H_spec_HashBytes ok_H_spec_HashBytes _ _ (Nat.le_of_ble_eq_true rfl) (by kernel_rfl) ?_
  have e : ∀ x, (be8 x).length = 8 := fun _ => rfl
  simp only [go_sem, ↓reduceIte, reduceCtorEq, Nat.reduceAdd, Nat.reduceMul, Nat.reduceEqDiff, Nat.reduceSub, Nat.reduceLT, Nat.reduceLeDiff, Nat.reduceAnd, Nat.reduceShiftRight, Nat.reduceBEq, Nat.reduceBNe, Nat.reduceBneDiff, Nat.reduceBeqDiff, Int.reduceToNat, Int.reduceLE, Int.reduceLT, Int.reduceEq, e, List.length_append]
abbrev MHashBytes : FM := .f1 (CE.st cDigest) eStr.enc (fun d => ⟨(be8 d.1 ++ be8 d.2.1 ++ be8 d.2.2.1 ++ be8 d.2.2.2).toArray⟩) (fun _ => True)
attribute [go_sem] MHashBytes
theorem ok_spec_HashBytes : MHashBytes.ok Tryz.prog 91 := FM.f1_ok fun d _ => f_spec_HashBytes d

/-- A text with its end. -/
def padded (s : ByteArray) : List UInt8 := bare s.data.toList ++ [128] ++ List.replicate ((32 - ((bare s.data.toList).length + 9) % 32) % 32) 0 ++ be8 (UInt64.ofNat (bare s.data.toList).length)
def hash0 : Digest := (13971524466476933880, 3286059910148148165, 8210247237615983910, 11412903256176698835)
def hashN (l : List UInt8) : Nat → Digest
  | 0 => hash0
  | n + 1 => hb (hashN l n) (wdAt l (32 * n), wdAt l (32 * n + 8), wdAt l (32 * n + 16), wdAt l (32 * n + 24))
/-- The digest of a text. -/
def hashOf (s : ByteArray) : Digest := if s.size > 20000 then (0, 0, 0, 0) else hashN (padded s) ((padded s).length / 32)

def H_spec_HashOf : Hint := { fs := [(81, MBare), (82, MZeros), (83, MBytes), (84, MBlock), (85, MWord)], kp := [(0, [0]), (1, [0, 2]), (2, [2]), (3, [0, 2]), (4, [0, 2]), (5, [0, 2, 3]), (6, [2, 4]), (7, [2, 4, 5]), (8, [2, 4, 5, 6]), (10, [2, 4, 5, 6]), (9, [2, 4, 5, 6]), (11, [2, 5])], an := [(5, [0, 0, 2, 7, 0, 16, 63, 0, 128, 384, 944, 2047, 4095]), (10, [0, 0, 0, 6, 0, 0, 32, 126, 0, 0, 512, 2046, 0, 0, 8192, 32766, 65534, 131071, 262143])] }
attribute [go_sem] H_spec_HashOf
theorem ok_H_spec_HashOf : H_spec_HashOf.ok Tryz.prog := AllOk.okR (.cons ok_spec_l1Bare (.cons ok_spec_l1Zeros (.cons ok_spec_l1Bytes (.cons ok_spec_HashBlock (.cons ok_spec_l1Word .nil))))) .nil mix
theorem padded_length (s : ByteArray) : (padded s).length = (bare s.data.toList).length + 1 + (32 - ((bare s.data.toList).length + 9) % 32) % 32 + 8 := by
  simp [padded, be8]; omega
theorem hashOf_small {s : ByteArray} (h : s.size ≤ 20000) : hashOf s = hashN (padded s) ((padded s).length / 32) := if_neg (by omega)
theorem f_spec_HashOf (s : ByteArray) (hs : s.size ≤ 1000000) : VFun Tryz.prog 37 [eStr.enc s] [] ((CE.st cDigest).enc (hashOf s)) [] := by
  refine VFun_pure (n := 57) (rs := [.cell 2 25]) Tryz.func37 rfl rfl rfl rfl H_spec_HashOf ok_H_spec_HashOf _ _ (Nat.le_of_ble_eq_true rfl) (by kernel_rfl) ?_
  have hb := bare_length s.data.toList
  have hl : s.data.toList.length = s.size := rfl
  have hpl := padded_length s
  have hp : (padded s) = padded s := rfl
  conv at hp => lhs; unfold padded
  have hu : IntKind.u64.wrap ((bare s.data.toList).length : Int) = ((UInt64.ofNat (bare s.data.toList).length).toNat : Int) := by
    rw [wrapU, uOf_nat]; simp
  have w1 : IntKind.i64.wrap (((bare s.data.toList).length : Int) + 9) = (((bare s.data.toList).length + 9 : Nat) : Int) := by rw [wrap64] <;> omega
  have t1 : (((bare s.data.toList).length + 9 : Nat) : Int).tmod 32 = ((((bare s.data.toList).length + 9) % 32 : Nat) : Int) := by rw [Int.tmod_eq_emod_of_nonneg (by omega)]; simp
  have w2 : IntKind.i64.wrap (32 - ((((bare s.data.toList).length + 9) % 32 : Nat) : Int)) = ((32 - ((bare s.data.toList).length + 9) % 32 : Nat) : Int) := by rw [wrap64] <;> omega
  have t2 : ((32 - ((bare s.data.toList).length + 9) % 32 : Nat) : Int).tmod 32 = (((32 - ((bare s.data.toList).length + 9) % 32) % 32 : Nat) : Int) := by rw [Int.tmod_eq_emod_of_nonneg (by omega)]; simp
  have e8 : ∀ x, (be8 x).length = 8 := fun _ => rfl
  have e128 : UInt8.ofNat 128 = 128 := rfl
  simp only [go_sem, ↓reduceIte, reduceCtorEq, Nat.reduceAdd, Nat.reduceMul, Nat.reduceEqDiff, Nat.reduceSub, Nat.reduceLT, Nat.reduceLeDiff, Nat.reduceAnd, Nat.reduceShiftRight, Nat.reduceBEq, Nat.reduceBNe, Nat.reduceBneDiff, Nat.reduceBeqDiff, Int.reduceToNat, Int.reduceLE, Int.reduceLT, Int.reduceEq, hu, w1, t1, w2, t2, e8, e128, List.length_replicate, Int.toNat_natCast, List.length_append, hp]
  refine ite_intro (fun h3 => by rw [hashOf, if_pos (by omega)]) fun h3 => ?_
  refine ⟨hs, by omega, by omega, by omega, by omega, ?_⟩
  rw [hashOf_small (by omega)]
  generalize padded s = l at hpl ⊢
  refine LoopV.go (H := H_spec_HashOf) ok_H_spec_HashOf (by kernel_rfl) (fun i : Nat => ⟨[(2, .x (.o (.p (1, 100) 0 0 1))), (4, sc (.string ⟨l.toArray⟩)), (5, .x (.o (.p (1, 101) 0 0 1))), (6, sc (.int .i64 (32 * i : Nat)))], [((1, 100), .bx [[.c (.v (.int .u64 0)), .c (.v (.int .u64 0)), .c (.v (.int .u64 0)), .c (.v (.int .u64 0))]]), ((1, 101), .bx [[.c (.v (.int .u64 (hashN l i).1.toNat)), .c (.v (.int .u64 (hashN l i).2.1.toNat)), .c (.v (.int .u64 (hashN l i).2.2.1.toNat)), .c (.v (.int .u64 (hashN l i).2.2.2.toNat))]])], 2⟩) (fun i => l.length / 32 - i) (fun i => i ≤ l.length / 32) ?_ 0 (by omega)
  intro i hi
  have hm : l.length % 32 = 0 := by omega
  by_cases hlt : 32 * i < l.length
  · have c1 : (((32 * i : Nat) : Int) < (l.length : Int)) = True := eq_true (by omega)
    have v1 : IntKind.i64.wrap (((32 * i : Nat) : Int) + 8) = ((32 * i + 8 : Nat) : Int) := by rw [wrap64] <;> omega
    have v2 : IntKind.i64.wrap (((32 * i : Nat) : Int) + 16) = ((32 * i + 16 : Nat) : Int) := by rw [wrap64] <;> omega
    have v3 : IntKind.i64.wrap (((32 * i : Nat) : Int) + 24) = ((32 * i + 24 : Nat) : Int) := by rw [wrap64] <;> omega
    have v4 : IntKind.i64.wrap (((32 * i : Nat) : Int) + 32) = ((32 * (i + 1) : Nat) : Int) := by rw [wrap64] <;> omega
    simp only [go_sem, ↓reduceIte, reduceCtorEq, Nat.reduceAdd, Nat.reduceMul, Nat.reduceEqDiff, Nat.reduceSub, Nat.reduceLT, Nat.reduceLeDiff, Nat.reduceAnd, Nat.reduceShiftRight, Nat.reduceBEq, Nat.reduceBNe, Nat.reduceBneDiff, Nat.reduceBeqDiff, Int.reduceToNat, Int.reduceLE, Int.reduceLT, Int.reduceEq, c1, v1, v2, v3, v4, Int.toNat_natCast]
    exact ⟨by omega, by omega, by omega, by omega, i + 1, by omega, by omega, rfl⟩
  · have c1 : (((32 * i : Nat) : Int) < (l.length : Int)) = False := eq_false (by omega)
    have h8 : i = l.length / 32 := by omega
    simp only [go_sem, ↓reduceIte, reduceCtorEq, Nat.reduceAdd, Nat.reduceMul, Nat.reduceEqDiff, Nat.reduceSub, Nat.reduceLT, Nat.reduceLeDiff, Nat.reduceAnd, Nat.reduceShiftRight, Nat.reduceBEq, Nat.reduceBNe, Nat.reduceBneDiff, Nat.reduceBeqDiff, Int.reduceToNat, Int.reduceLE, Int.reduceLT, Int.reduceEq, c1, ← h8]
abbrev MHashOf : FM := .f1 eStr (CE.st cDigest).enc hashOf (fun s => s.size ≤ 1000000)
attribute [go_sem] MHashOf
theorem ok_spec_HashOf : MHashOf.ok Tryz.prog 37 := FM.f1_ok fun s h => f_spec_HashOf s h

theorem wdAt_part (l : List UInt8) (i k n : Nat) (h : k + 8 ≤ n) : wdAt ((l.drop i).take n) k = wdAt l (i + k) := by
  have e : ((l.drop i).take n).drop k = (l.drop (i + k)).take (n - k) := by rw [List.drop_take, List.drop_drop]
  unfold wdAt
  rw [e]
  obtain ⟨r, hr⟩ : ∃ r, n - k = r + 8 := ⟨n - k - 8, by omega⟩
  rw [hr]
  by_cases hm : (l.drop (i + k)).length ≤ r + 8
  · rw [List.take_of_length_le hm]
  · match hd : l.drop (i + k) with
    | a :: b :: c :: d :: e :: f :: g :: h :: m => rfl
    | [] | [_] | [_, _] | [_, _, _] | [_, _, _, _] | [_, _, _, _, _] | [_, _, _, _, _, _] | [_, _, _, _, _, _, _] => rw [hd] at hm; simp at hm

def H_impl_HashOf : Hint := { fs := [(78, MAppend), (79, MBlock), (80, MDigestOf)], kp := [(0, [0]), (1, [0, 2]), (2, [2]), (3, [0, 2]), (4, [0, 2, 3]), (5, [0, 2, 3, 4]), (7, [0, 2, 3, 4]), (8, [0, 2, 3, 4]), (6, [0, 2, 3, 4]), (9, [2, 3]), (10, [2, 3, 5]), (11, [2, 3, 5]), (12, [2, 3, 5]), (13, [2, 3, 5]), (14, [2, 3]), (15, [2, 3, 6]), (16, [2, 3, 6, 7]), (18, [2, 3, 6, 7]), (17, [2, 3, 6, 7]), (19, [2, 6])], an := [(18, [0, 0, 0, 0, 8, 30, 62, 127, 255])], nl := [(4, [(3, 1)])] }
attribute [go_sem] H_impl_HashOf
theorem ok_H_impl_HashOf : H_impl_HashOf.ok Tryz.prog := AllOk.okR (.cons ok_encoding_binary_bigEndian_AppendUint64 (.cons ok_impl_HashBlock (.cons ok_impl_digestOf .nil))) .nil mix
theorem f_impl_HashOf (s : ByteArray) (hs : s.size ≤ 1000000) : VFun Tryz.prog 36 [eStr.enc s] [] ((CE.st cDigest).enc (hashOf s)) [] := by
  refine VFun_pure (n := 61) (rs := [.cell 2 25]) Tryz.func36 rfl rfl rfl rfl H_impl_HashOf ok_H_impl_HashOf _ _ (Nat.le_of_ble_eq_true rfl) (by kernel_rfl) ?_
  have hb := bare_length s.data.toList
  have hl : s.data.toList.length = s.size := rfl
  have hpl := padded_length s
  have hp : (padded s) = padded s := rfl
  conv at hp => lhs; unfold padded
  simp only [go_sem, ↓reduceIte, reduceCtorEq, Nat.reduceAdd, Nat.reduceMul, Nat.reduceEqDiff, Nat.reduceSub, Nat.reduceLT, Nat.reduceLeDiff, Nat.reduceAnd, Nat.reduceShiftRight, Nat.reduceBEq, Nat.reduceBNe, Nat.reduceBneDiff, Nat.reduceBeqDiff, Int.reduceToNat, Int.reduceLE, Int.reduceLT, Int.reduceEq]
  refine ite_intro (fun h3 => by rw [hashOf, if_pos (by omega)]) fun h3 => ?_
  rw [hashOf_small (by omega)]
  refine LoopV.go (H := H_impl_HashOf) ok_H_impl_HashOf (by kernel_rfl) (fun i : Nat => ⟨[(0, sc (.string s)), (2, .x (.o (.p (1, 100) 0 0 1))), (3, .x (.o (.h (1, 101) 0 (bare (s.data.toList.take i)).length (bare (s.data.toList.take i)).length))), (4, sc (.int .i64 i))], [((1, 100), .bx [[.c (.v (.int .u64 0)), .c (.v (.int .u64 0)), .c (.v (.int .u64 0)), .c (.v (.int .u64 0))]]), ((1, 101), .row 1 ((bare (s.data.toList.take i)).map cU8.enc))], 2⟩) (fun i => s.size - i) (fun i => i ≤ s.size) ?_ 0 (by omega)
  intro i hi
  have hlen : (bare (s.data.toList.take i)).length ≤ i := Nat.le_trans (bare_length _) (by simp; omega)
  by_cases hlt : i < s.size
  · have c1 : ((i : Int) < (s.size : Int)) = True := eq_true (by omega)
    obtain ⟨x, hx⟩ : ∃ x, s.data.toList[i]? = some x := ⟨_, List.getElem?_eq_getElem (by omega)⟩
    have w1 : IntKind.i64.wrap ((i : Int) + 1) = ((i + 1 : Nat) : Int) := by rw [wrap64] <;> omega
    have hb := bare_succ hx
    simp only [go_sem, ↓reduceIte, reduceCtorEq, Nat.reduceAdd, Nat.reduceMul, Nat.reduceEqDiff, Nat.reduceSub, Nat.reduceLT, Nat.reduceLeDiff, Nat.reduceAnd, Nat.reduceShiftRight, Nat.reduceBEq, Nat.reduceBNe, Nat.reduceBneDiff, Nat.reduceBeqDiff, Int.reduceToNat, Int.reduceLE, Int.reduceLT, Int.reduceEq, c1, hx, w1]
    refine ite_intro (fun h3 => ?_) fun h3 => ?_
    · have h4 : x ≠ 255 := fun e => h3 (by rw [e]; rfl)
      rw [if_pos h4] at hb
      exact ⟨by omega, i + 1, by omega, by omega, by rw [hb]; simp [cU8_enc]⟩
    · have h4 : ¬ x ≠ 255 := fun h => h3 fun e => h (UInt8.toNat_inj.1 (by rw [show (255 : UInt8).toNat = 255 from rfl]; omega))
      rw [if_neg h4, List.append_nil] at hb
      exact ⟨i + 1, by omega, by omega, by rw [hb]⟩
  have c1 : ((i : Int) < (s.size : Int)) = False := eq_false (by omega)
  have ht : s.data.toList.take i = s.data.toList := List.take_of_length_le (by omega)
  have hu : IntKind.u64.wrap ((bare s.data.toList).length : Int) = ((UInt64.ofNat (bare s.data.toList).length).toNat : Int) := by
    rw [wrapU, uOf_nat]; simp
  simp only [go_sem, ↓reduceIte, reduceCtorEq, Nat.reduceAdd, Nat.reduceMul, Nat.reduceEqDiff, Nat.reduceSub, Nat.reduceLT, Nat.reduceLeDiff, Nat.reduceAnd, Nat.reduceShiftRight, Nat.reduceBEq, Nat.reduceBNe, Nat.reduceBneDiff, Nat.reduceBeqDiff, Int.reduceToNat, Int.reduceLE, Int.reduceLT, Int.reduceEq, c1, ht, hu]
  refine ⟨⟨by omega, by omega⟩, ?_⟩
  generalize hB : bare s.data.toList = B at *
  clear ht hlen hi hlt c1
  refine LoopV.go (H := H_impl_HashOf) ok_H_impl_HashOf (by kernel_rfl) (fun k : Nat => ⟨[(2, .x (.o (.p (1, 100) 0 0 1))), (3, .x (.o (.h (1, 101) 0 (B ++ [128] ++ List.replicate k 0).length (B ++ [128] ++ List.replicate k 0).length))), (5, sc (.int .u64 (UInt64.ofNat B.length).toNat))], [((1, 100), .bx [[.c (.v (.int .u64 0)), .c (.v (.int .u64 0)), .c (.v (.int .u64 0)), .c (.v (.int .u64 0))]]), ((1, 101), .row 1 ((B ++ [128] ++ List.replicate k 0).map cU8.enc))], 2⟩) (fun k => 32 - k) (fun k => k ≤ (32 - (B.length + 9) % 32) % 32) ?_ 0 (by omega) (by simp [cU8_enc, sc])
  intro k hk
  have t1 : ((B.length + 1 + k : Nat) : Int).tmod 32 = (((B.length + 1 + k) % 32 : Nat) : Int) := by rw [Int.tmod_eq_emod_of_nonneg (by omega)]; simp
  have hlen : (B ++ [128] ++ List.replicate k 0).length = B.length + 1 + k := by simp; omega
  by_cases hlt : k < (32 - (B.length + 9) % 32) % 32
  · have c1 : ((((B.length + 1 + k) % 32 : Nat) : Int) = 24) = False := eq_false (by omega)
    simp only [go_sem, ↓reduceIte, reduceCtorEq, Nat.reduceAdd, Nat.reduceMul, Nat.reduceEqDiff, Nat.reduceSub, Nat.reduceLT, Nat.reduceLeDiff, Nat.reduceAnd, Nat.reduceShiftRight, Nat.reduceBEq, Nat.reduceBNe, Nat.reduceBneDiff, Nat.reduceBeqDiff, Int.reduceToNat, Int.reduceLE, Int.reduceLT, Int.reduceEq, hlen, t1, c1]
    exact ⟨⟨by omega, by omega⟩, k + 1, by omega, by omega, by rw [show List.replicate (k + 1) (0 : UInt8) = List.replicate k 0 ++ [0] from List.replicate_succ']; simp [cU8_enc, sc]; omega⟩
  have c1 : ((((B.length + 1 + k) % 32 : Nat) : Int) = 24) = True := eq_true (by omega)
  obtain rfl : k = (32 - (B.length + 9) % 32) % 32 := by omega
  have e8 : ∀ x, (be8 x).length = 8 := fun _ => rfl
  simp only [go_sem, ↓reduceIte, reduceCtorEq, Nat.reduceAdd, Nat.reduceMul, Nat.reduceEqDiff, Nat.reduceSub, Nat.reduceLT, Nat.reduceLeDiff, Nat.reduceAnd, Nat.reduceShiftRight, Nat.reduceBEq, Nat.reduceBNe, Nat.reduceBneDiff, Nat.reduceBeqDiff, Int.reduceToNat, Int.reduceLE, Int.reduceLT, Int.reduceEq, hlen, t1, c1, hp, e8]
  rw [← hlen]
  simp only [go_sem, ↓reduceIte, reduceCtorEq, Nat.reduceAdd, Nat.reduceMul, Nat.reduceEqDiff, Nat.reduceSub, Nat.reduceLT, Nat.reduceLeDiff, Nat.reduceAnd, Nat.reduceShiftRight, Nat.reduceBEq, Nat.reduceBNe, Nat.reduceBneDiff, Nat.reduceBeqDiff, Int.reduceToNat, Int.reduceLE, Int.reduceLT, Int.reduceEq]
  refine ⟨by rw [List.length_replicate]; omega, ?_⟩
  rw [show B.length + 1 + (List.replicate ((32 - (B.length + 9) % 32) % 32) (0 : UInt8)).length + 8 = (padded s).length by rw [hpl, List.length_replicate]]
  generalize padded s = l at hpl ⊢
  refine LoopV.go (H := H_impl_HashOf) ok_H_impl_HashOf (by kernel_rfl) (fun i : Nat => ⟨[(2, .x (.o (.p (1, 100) 0 0 1))), (3, .x (.o (.h (1, 101) 0 l.length l.length))), (6, .x (.o (.p (1, 102) 0 0 1))), (7, sc (.int .i64 (32 * i : Nat)))], [((1, 100), .bx [[.c (.v (.int .u64 0)), .c (.v (.int .u64 0)), .c (.v (.int .u64 0)), .c (.v (.int .u64 0))]]), ((1, 101), .row 1 (l.map cU8.enc)), ((1, 102), .bx [[.c (.v (.int .u64 (hashN l i).1.toNat)), .c (.v (.int .u64 (hashN l i).2.1.toNat)), .c (.v (.int .u64 (hashN l i).2.2.1.toNat)), .c (.v (.int .u64 (hashN l i).2.2.2.toNat))]])], 2⟩) (fun i => l.length / 32 - i) (fun i => i ≤ l.length / 32) ?_ 0 (by omega)
  intro i hi
  have hm : l.length % 32 = 0 := by omega
  by_cases hlt : 32 * i < l.length
  · have c1 : (((32 * i : Nat) : Int) < (l.length : Int)) = True := eq_true (by omega)
    have v4 : IntKind.i64.wrap (((32 * i : Nat) : Int) + 32) = ((32 * (i + 1) : Nat) : Int) := by rw [wrap64] <;> omega
    simp only [go_sem, ↓reduceIte, reduceCtorEq, Nat.reduceAdd, Nat.reduceMul, Nat.reduceEqDiff, Nat.reduceSub, Nat.reduceLT, Nat.reduceLeDiff, Nat.reduceAnd, Nat.reduceShiftRight, Nat.reduceBEq, Nat.reduceBNe, Nat.reduceBneDiff, Nat.reduceBeqDiff, Int.reduceToNat, Int.reduceLE, Int.reduceLT, Int.reduceEq, c1, v4, Int.toNat_natCast]
    rw [wdAt_part _ _ _ _ (by omega), wdAt_part _ _ _ _ (by omega), wdAt_part _ _ _ _ (by omega), wdAt_part _ _ _ _ (by omega)]
    have e : ((l.drop (32 * i)).take (32 * (i + 1) - 32 * i)).length = 32 := by simp; omega
    exact ⟨⟨by omega, by omega⟩, ⟨by omega, by omega⟩, i + 1, by omega, by omega, rfl⟩
  · have c1 : (((32 * i : Nat) : Int) < (l.length : Int)) = False := eq_false (by omega)
    have h8 : i = l.length / 32 := by omega
    simp only [go_sem, ↓reduceIte, reduceCtorEq, Nat.reduceAdd, Nat.reduceMul, Nat.reduceEqDiff, Nat.reduceSub, Nat.reduceLT, Nat.reduceLeDiff, Nat.reduceAnd, Nat.reduceShiftRight, Nat.reduceBEq, Nat.reduceBNe, Nat.reduceBneDiff, Nat.reduceBeqDiff, Int.reduceToNat, Int.reduceLE, Int.reduceLT, Int.reduceEq, c1, ← h8]

theorem ok_impl_HashOf : MHashOf.ok Tryz.prog 36 := FM.f1_ok fun s h => f_impl_HashOf s h

end Go.Proofs.YtcgkhljolflenaaGreatW.V

