/- Functions: words, blocks, digests of texts. No condition but each theorem's own. -/
import Derived.Test.YtcgkhljolflenaaGreatFB
import Derived.Test.YtcgkhljolflenaaGreatVUb
namespace Go.Proofs.YtcgkhljolflenaaGreatW.V
open Go Go.Proofs
set_option linter.unusedSimpArgs false
set_option linter.unusedVariables false
set_option maxRecDepth 8000
set_option maxHeartbeats 4000000

/-- Turned to the left. -/
def rotl (x : UInt64) (n : Int) : UInt64 := x <<< UInt64.ofNat n.toNat ||| x >>> UInt64.ofNat (64 - n.toNat)

def H_spec_l1Turn : Hint := { fs := [], kp := [(0, [0, 1]), (1, [0, 1])], an := [] }
attribute [go_sem] H_spec_l1Turn
theorem ok_H_spec_l1Turn : H_spec_l1Turn.ok Tryz.prog := AllOk.okR .nil .nil mix
theorem f_l1Turn (x : UInt64) (n : Int) (h : n = 39 ∨ n = 21) : VFun Tryz.prog 102 [eU64.enc x, (eInt .i64).enc n] [] (eU64.enc (rotl x n)) [] := by
  refine VFun_pure (n := 15) (rs := [.tmp 4]) Tryz.func102 rfl rfl rfl rfl H_spec_l1Turn ok_H_spec_l1Turn _ _ (Nat.le_of_ble_eq_true rfl) (by kernel_rfl) ?_
  have w1 : IntKind.u64.wrap 39 = 39 := by decide
  have w2 : IntKind.u64.wrap 21 = 21 := by decide
  have w3 : IntKind.i64.wrap (64 - 39) = 25 := by decide
  have w4 : IntKind.i64.wrap (64 - 21) = 43 := by decide
  have w5 : IntKind.u64.wrap 25 = 25 := by decide
  have w6 : IntKind.u64.wrap 43 = 43 := by decide
  obtain rfl | rfl := h
  · simp only [go_sem, ↓reduceIte, reduceCtorEq, Nat.reduceAdd, Nat.reduceMul, Nat.reduceEqDiff, Nat.reduceSub, Nat.reduceLT, Nat.reduceLeDiff, Nat.reduceAnd, Nat.reduceShiftRight, Nat.reduceBEq, Nat.reduceBNe, Nat.reduceBneDiff, Nat.reduceBeqDiff, Int.reduceToNat, Int.reduceLE, Int.reduceLT, Int.reduceEq, w1, w3, w5]
    rfl
  · simp only [go_sem, ↓reduceIte, reduceCtorEq, Nat.reduceAdd, Nat.reduceMul, Nat.reduceEqDiff, Nat.reduceSub, Nat.reduceLT, Nat.reduceLeDiff, Nat.reduceAnd, Nat.reduceShiftRight, Nat.reduceBEq, Nat.reduceBNe, Nat.reduceBneDiff, Nat.reduceBeqDiff, Int.reduceToNat, Int.reduceLE, Int.reduceLT, Int.reduceEq, w2, w4, w6]
    rfl
abbrev MTurn : FM := .f2 eU64 (eInt .i64) eU64.enc rotl (fun _ n => n = 39 ∨ n = 21)
attribute [go_sem] MTurn
theorem ok_spec_l1Turn : MTurn.ok Tryz.prog 102 := FM.f2_ok fun x n h => f_l1Turn x n h

def H_math_bits_RotateLeft64 : Hint := { fs := [], kp := [(0, [0, 1]), (1, [0, 1]), (2, [0, 5])], an := [] }
attribute [go_sem] H_math_bits_RotateLeft64
theorem ok_H_math_bits_RotateLeft64 : H_math_bits_RotateLeft64.ok Tryz.prog := AllOk.okR .nil .nil mix
theorem f_RotateLeft64 (x : UInt64) (n : Int) (h : n = 39 ∨ n = 21) : VFun Tryz.prog 100 [eU64.enc x, (eInt .i64).enc n] [] (eU64.enc (rotl x n)) [] := by
  refine VFun_pure (n := 17) (rs := [.tmp 4]) Tryz.func100 rfl rfl rfl rfl H_math_bits_RotateLeft64 ok_H_math_bits_RotateLeft64 _ _ (Nat.le_of_ble_eq_true rfl) (by kernel_rfl) ?_
  have w1 : IntKind.u64.wrap 39 = 39 := by decide
  have w2 : IntKind.u64.wrap 21 = 21 := by decide
  have w3 : IntKind.u64.wrap (64 - 39) = 25 := by decide
  have w4 : IntKind.u64.wrap (64 - 21) = 43 := by decide
  have a1 : andI .u64 39 63 = 39 := by decide
  have a2 : andI .u64 21 63 = 21 := by decide
  obtain rfl | rfl := h
  · simp only [go_sem, ↓reduceIte, reduceCtorEq, Nat.reduceAdd, Nat.reduceMul, Nat.reduceEqDiff, Nat.reduceSub, Nat.reduceLT, Nat.reduceLeDiff, Nat.reduceAnd, Nat.reduceShiftRight, Nat.reduceBEq, Nat.reduceBNe, Nat.reduceBneDiff, Nat.reduceBeqDiff, Int.reduceToNat, Int.reduceLE, Int.reduceLT, Int.reduceEq, w1, w3, a1]
    rfl
  · simp only [go_sem, ↓reduceIte, reduceCtorEq, Nat.reduceAdd, Nat.reduceMul, Nat.reduceEqDiff, Nat.reduceSub, Nat.reduceLT, Nat.reduceLeDiff, Nat.reduceAnd, Nat.reduceShiftRight, Nat.reduceBEq, Nat.reduceBNe, Nat.reduceBneDiff, Nat.reduceBeqDiff, Int.reduceToNat, Int.reduceLE, Int.reduceLT, Int.reduceEq, w2, w4, a2]
    rfl
theorem ok_math_bits_RotateLeft64 : MTurn.ok Tryz.prog 100 := FM.f2_ok fun x n h => f_RotateLeft64 x n h

abbrev S5 := UInt64 × UInt64 × UInt64 × UInt64 × UInt64
def hbS (s : S5) : S5 := (rotl (s.2.1 ^^^ (s.2.2.1 + rotl (s.2.2.2.1 ^^^ (s.1 + s.2.1 + (s.2.2.2.2 + 12620524952350641003))) 39)) 21, s.2.2.1 + rotl (s.2.2.2.1 ^^^ (s.1 + s.2.1 + (s.2.2.2.2 + 12620524952350641003))) 39,
  rotl (s.2.2.2.1 ^^^ (s.1 + s.2.1 + (s.2.2.2.2 + 12620524952350641003))) 39, s.1 + s.2.1 + (s.2.2.2.2 + 12620524952350641003), s.2.2.2.2 + 12620524952350641003)
def hbN : Nat → S5 → S5
  | 0, s => s
  | n + 1, s => hbS (hbN n s)
def hb0 (x y : Digest) : S5 := (x.1 ^^^ y.1, x.2.1 ^^^ y.2.1, x.2.2.1 ^^^ y.2.2.1, x.2.2.2 ^^^ y.2.2.2, 0)
/-- A state goes on by a block. -/
def hb (x y : Digest) : Digest := ((hbN 10 (hb0 x y)).1 ^^^ x.1, (hbN 10 (hb0 x y)).2.1 ^^^ x.2.1, (hbN 10 (hb0 x y)).2.2.1 ^^^ x.2.2.1, (hbN 10 (hb0 x y)).2.2.2.1 ^^^ x.2.2.2)
theorem u64_addc (k : UInt64) : IntKind.u64.wrap ((k.toNat : Int) + 12620524952350641003) = ((k + 12620524952350641003).toNat : Int) := u64_add k 12620524952350641003

def H_spec_HashBlock : Hint := { fs := [(102, MTurn)], kp := [(0, [0, 1]), (1, [2, 3, 4]), (2, [2, 3, 4, 5]), (3, [2, 3, 4, 5, 6]), (4, [2, 3, 4, 5, 6, 7]), (5, [2, 4, 5, 6, 7, 8]), (6, [2, 4, 5, 6, 7, 8, 9]), (7, [2, 4, 5, 6, 7, 8, 9, 10]), (9, [2, 4, 5, 6, 7, 8, 9, 10]), (10, [2, 4, 5, 6, 7, 8, 9, 10]), (11, [2, 4, 5, 6, 7, 8, 9, 10]), (12, [2, 4, 5, 6, 7, 8, 9, 10]), (13, [2, 4, 5, 6, 7, 8, 9, 10]), (14, [2, 4, 5, 6, 7, 8, 9, 10]), (15, [2, 4, 6, 7, 8, 9, 10, 11]), (16, [2, 4, 5, 7, 8, 9, 10, 11]), (17, [2, 4, 5, 6, 8, 9, 10, 11]), (18, [2, 4, 5, 6, 7, 9, 10, 11]), (8, [2, 4, 5, 6, 7, 8, 9, 10]), (19, [2, 4, 5, 6, 7, 8])], an := [] }
attribute [go_sem] H_spec_HashBlock
theorem ok_H_spec_HashBlock : H_spec_HashBlock.ok Tryz.prog := AllOk.okR (.cons ok_spec_l1Turn .nil) .nil mix
theorem f_spec_HashBlock (x y : Digest) : VFun Tryz.prog 84 [(CE.st cDigest).enc x, (CE.st cDigest).enc y] [] ((CE.st cDigest).enc (hb x y)) [] := by
  obtain ⟨x1, x2, x3, x4⟩ := x
  obtain ⟨y1, y2, y3, y4⟩ := y
  refine VFun_pure (n := 76) (rs := [.cell 4 25]) Tryz.func84 rfl rfl rfl rfl H_spec_HashBlock ok_H_spec_HashBlock _ _ (Nat.le_of_ble_eq_true rfl) (by kernel_rfl) ?_
  simp only [go_sem, ↓reduceIte, reduceCtorEq, Nat.reduceAdd, Nat.reduceMul, Nat.reduceEqDiff, Nat.reduceSub, Nat.reduceLT, Nat.reduceLeDiff, Nat.reduceAnd, Nat.reduceShiftRight, Nat.reduceBEq, Nat.reduceBNe, Nat.reduceBneDiff, Nat.reduceBeqDiff, Int.reduceToNat, Int.reduceLE, Int.reduceLT, Int.reduceEq]
  refine LoopV.go (H := H_spec_HashBlock) ok_H_spec_HashBlock (by kernel_rfl) (fun y : Nat × S5 => ⟨[(2, .x (.o (.p (1, 100) 0 0 1))), (4, .x (.o (.p (1, 101) 0 0 1))), (5, sc (.int .u64 y.2.1.toNat)), (6, sc (.int .u64 y.2.2.1.toNat)), (7, sc (.int .u64 y.2.2.2.1.toNat)), (8, sc (.int .u64 y.2.2.2.2.1.toNat)), (9, sc (.int .u64 y.2.2.2.2.2.toNat)), (10, sc (.int .i64 y.1))],
    [((1, 100), .bx [[.c (.v (.int .u64 x1.toNat)), .c (.v (.int .u64 x2.toNat)), .c (.v (.int .u64 x3.toNat)), .c (.v (.int .u64 x4.toNat))]]), ((1, 101), .bx [[.c (.v (.int .u64 0)), .c (.v (.int .u64 0)), .c (.v (.int .u64 0)), .c (.v (.int .u64 0))]])], 2⟩)
    (fun y => 10 - y.1) (fun y => y.1 ≤ 10 ∧ y.2 = hbN y.1 (hb0 (x1, x2, x3, x4) (y1, y2, y3, y4))) ?_ (0, hb0 (x1, x2, x3, x4) (y1, y2, y3, y4)) ⟨by omega, rfl⟩
  rintro ⟨i, a, b, c, d, k⟩ ⟨hi, hs⟩
  dsimp only at hi hs
  by_cases hlt : (i : Int) < 10
  · have hw : IntKind.i64.wrap ((i : Int) + 1) = ((i + 1 : Nat) : Int) := by rw [wrap64] <;> omega
    simp only [go_sem, ↓reduceIte, reduceCtorEq, Nat.reduceAdd, Nat.reduceMul, Nat.reduceEqDiff, Nat.reduceSub, Nat.reduceLT, Nat.reduceLeDiff, Nat.reduceAnd, Nat.reduceShiftRight, Nat.reduceBEq, Nat.reduceBNe, Nat.reduceBneDiff, Nat.reduceBeqDiff, Int.reduceToNat, Int.reduceLE, Int.reduceLT, Int.reduceEq, hlt, hw, u64_addc]
    exact ⟨(i + 1, hbS (a, b, c, d, k)), ⟨by dsimp only; omega, by dsimp only; rw [hs]; rfl⟩, by dsimp only; omega, rfl⟩
  · have hi' : i = 10 := by omega
    subst hi'
    simp only [go_sem, ↓reduceIte, reduceCtorEq, Nat.reduceAdd, Nat.reduceMul, Nat.reduceEqDiff, Nat.reduceSub, Nat.reduceLT, Nat.reduceLeDiff, Nat.reduceAnd, Nat.reduceShiftRight, Nat.reduceBEq, Nat.reduceBNe, Nat.reduceBneDiff, Nat.reduceBeqDiff, Int.reduceToNat, Int.reduceLE, Int.reduceLT, Int.reduceEq, hlt]
    rw [hb, ← hs]
abbrev MBlock : FM := .f2 (CE.st cDigest) (CE.st cDigest) (CE.st cDigest).enc hb (fun _ _ => True)
attribute [go_sem] MBlock
theorem ok_spec_HashBlock : MBlock.ok Tryz.prog 84 := FM.f2_ok fun x y _ => f_spec_HashBlock x y

def H_impl_HashBlock : Hint := { fs := [(100, MTurn)], kp := [(0, [0, 1]), (1, [2, 3, 4]), (2, [2, 4, 5, 6, 7, 8]), (3, [2, 4, 5, 6, 7, 8, 9]), (4, [2, 4, 5, 6, 7, 8, 9, 10]), (6, [2, 4, 5, 6, 7, 8, 9, 10]), (7, [2, 4, 5, 6, 7, 8, 9, 10]), (8, [2, 4, 5, 6, 7, 8, 9, 10]), (9, [2, 4, 5, 6, 7, 8, 9, 10]), (10, [2, 4, 5, 6, 7, 8, 9, 10]), (11, [2, 4, 5, 6, 7, 8, 9, 10]), (5, [2, 4, 5, 6, 7, 8, 9, 10]), (12, [2, 4, 5, 6, 7, 8])], an := [(1, [0, 1, 0, 4, 15, 0, 32, 0, 128, 480, 0, 1024, 0, 4096, 15360, 0, 32768, 0, 131072, 491520, 31, 1049599, 3178495, 8388607])] }
attribute [go_sem] H_impl_HashBlock
theorem ok_H_impl_HashBlock : H_impl_HashBlock.ok Tryz.prog := AllOk.okR (.cons ok_math_bits_RotateLeft64 .nil) .nil mix
theorem f_impl_HashBlock (x y : Digest) : VFun Tryz.prog 79 [(CE.st cDigest).enc x, (CE.st cDigest).enc y] [] ((CE.st cDigest).enc (hb x y)) [] := by
  obtain ⟨x1, x2, x3, x4⟩ := x
  obtain ⟨y1, y2, y3, y4⟩ := y
  refine VFun_pure (n := 74) (rs := [.cell 4 25]) Tryz.func79 rfl rfl rfl rfl H_impl_HashBlock ok_H_impl_HashBlock _ _ (Nat.le_of_ble_eq_true rfl) (by kernel_rfl) ?_
  simp only [go_sem, ↓reduceIte, reduceCtorEq, Nat.reduceAdd, Nat.reduceMul, Nat.reduceEqDiff, Nat.reduceSub, Nat.reduceLT, Nat.reduceLeDiff, Nat.reduceAnd, Nat.reduceShiftRight, Nat.reduceBEq, Nat.reduceBNe, Nat.reduceBneDiff, Nat.reduceBeqDiff, Int.reduceToNat, Int.reduceLE, Int.reduceLT, Int.reduceEq]
  refine LoopV.go (H := H_impl_HashBlock) ok_H_impl_HashBlock (by kernel_rfl) (fun y : Nat × S5 => ⟨[(2, .x (.o (.p (1, 100) 0 0 1))), (4, .x (.o (.p (1, 101) 0 0 1))), (5, sc (.int .u64 y.2.1.toNat)), (6, sc (.int .u64 y.2.2.1.toNat)), (7, sc (.int .u64 y.2.2.2.1.toNat)), (8, sc (.int .u64 y.2.2.2.2.1.toNat)), (9, sc (.int .u64 y.2.2.2.2.2.toNat)), (10, sc (.int .i64 y.1))],
    [((1, 100), .bx [[.c (.v (.int .u64 x1.toNat)), .c (.v (.int .u64 x2.toNat)), .c (.v (.int .u64 x3.toNat)), .c (.v (.int .u64 x4.toNat))]]), ((1, 101), .bx [[.c (.v (.int .u64 0)), .c (.v (.int .u64 0)), .c (.v (.int .u64 0)), .c (.v (.int .u64 0))]])], 2⟩)
    (fun y => 10 - y.1) (fun y => y.1 ≤ 10 ∧ y.2 = hbN y.1 (hb0 (x1, x2, x3, x4) (y1, y2, y3, y4))) ?_ (0, hb0 (x1, x2, x3, x4) (y1, y2, y3, y4)) ⟨by omega, rfl⟩
  rintro ⟨i, a, b, c, d, k⟩ ⟨hi, hs⟩
  dsimp only at hi hs
  by_cases hlt : (i : Int) < 10
  · have hw : IntKind.i64.wrap ((i : Int) + 1) = ((i + 1 : Nat) : Int) := by rw [wrap64] <;> omega
    simp only [go_sem, ↓reduceIte, reduceCtorEq, Nat.reduceAdd, Nat.reduceMul, Nat.reduceEqDiff, Nat.reduceSub, Nat.reduceLT, Nat.reduceLeDiff, Nat.reduceAnd, Nat.reduceShiftRight, Nat.reduceBEq, Nat.reduceBNe, Nat.reduceBneDiff, Nat.reduceBeqDiff, Int.reduceToNat, Int.reduceLE, Int.reduceLT, Int.reduceEq, hlt, hw, u64_addc, ← UInt64.add_assoc]
    refine ⟨(i + 1, hbS (a, b, c, d, k)), ⟨by dsimp only; omega, by dsimp only; rw [hs]; rfl⟩, by dsimp only; omega, by simp only [hbS, UInt64.add_assoc]⟩
  · have hi' : i = 10 := by omega
    subst hi'
    simp only [go_sem, ↓reduceIte, reduceCtorEq, Nat.reduceAdd, Nat.reduceMul, Nat.reduceEqDiff, Nat.reduceSub, Nat.reduceLT, Nat.reduceLeDiff, Nat.reduceAnd, Nat.reduceShiftRight, Nat.reduceBEq, Nat.reduceBNe, Nat.reduceBneDiff, Nat.reduceBeqDiff, Int.reduceToNat, Int.reduceLE, Int.reduceLT, Int.reduceEq, hlt]
    rw [hb, ← hs]
theorem ok_impl_HashBlock : MBlock.ok Tryz.prog 79 := FM.f2_ok fun x y _ => f_impl_HashBlock x y

/-- The eight bytes of a word, and back. -/
def be8 (w : UInt64) : List UInt8 := [(w >>> 56).toUInt8, (w >>> 48).toUInt8, (w >>> 40).toUInt8, (w >>> 32).toUInt8, (w >>> 24).toUInt8, (w >>> 16).toUInt8, (w >>> 8).toUInt8, w.toUInt8]
def wd8 (a b c d e f g h : UInt8) : UInt64 := h.toUInt64 ||| g.toUInt64 <<< 8 ||| f.toUInt64 <<< 16 ||| e.toUInt64 <<< 24 ||| d.toUInt64 <<< 32 ||| c.toUInt64 <<< 40 ||| b.toUInt64 <<< 48 ||| a.toUInt64 <<< 56
/-- The word from a place on. -/
def wdAt (l : List UInt8) (i : Nat) : UInt64 := match l.drop i with
  | a :: b :: c :: d :: e :: f :: g :: h :: _ => wd8 a b c d e f g h
  | _ => 0

theorem shl_or (x y : UInt64) : (x ||| y) <<< 8 = x <<< 8 ||| y <<< 8 := UInt64.toBitVec_inj.1 (BitVec.shiftLeft_or_distrib x.toBitVec y.toBitVec 8)
theorem shl8 (x : UInt64) : x <<< 8 <<< 8 = x <<< 16 := UInt64.toBitVec_inj.1 (BitVec.shiftLeft_add x.toBitVec 8 8).symm
theorem shl16 (x : UInt64) : x <<< 16 <<< 8 = x <<< 24 := UInt64.toBitVec_inj.1 (BitVec.shiftLeft_add x.toBitVec 16 8).symm
theorem shl24 (x : UInt64) : x <<< 24 <<< 8 = x <<< 32 := UInt64.toBitVec_inj.1 (BitVec.shiftLeft_add x.toBitVec 24 8).symm
theorem shl32 (x : UInt64) : x <<< 32 <<< 8 = x <<< 40 := UInt64.toBitVec_inj.1 (BitVec.shiftLeft_add x.toBitVec 32 8).symm
theorem shl40 (x : UInt64) : x <<< 40 <<< 8 = x <<< 48 := UInt64.toBitVec_inj.1 (BitVec.shiftLeft_add x.toBitVec 40 8).symm
theorem shl48 (x : UInt64) : x <<< 48 <<< 8 = x <<< 56 := UInt64.toBitVec_inj.1 (BitVec.shiftLeft_add x.toBitVec 48 8).symm
theorem wd8_step (a b c d e f g h : UInt8) : ((((((((0 ||| a.toUInt64) <<< 8 ||| b.toUInt64) <<< 8 ||| c.toUInt64) <<< 8 ||| d.toUInt64) <<< 8 ||| e.toUInt64) <<< 8 ||| f.toUInt64) <<< 8 ||| g.toUInt64) <<< 8 ||| h.toUInt64 : UInt64) = wd8 a b c d e f g h := by
  unfold wd8
  rw [UInt64.zero_or]
  simp only [shl_or, shl8, shl16, shl24, shl32, shl40, shl48]
  generalize a.toUInt64 <<< 56 = a', b.toUInt64 <<< 48 = b', c.toUInt64 <<< 40 = c', d.toUInt64 <<< 32 = d', e.toUInt64 <<< 24 = e', f.toUInt64 <<< 16 = f', g.toUInt64 <<< 8 = g', h.toUInt64 = h'
  ac_rfl

def H_encoding_binary_bigEndian_Uint64 : Hint := { fs := [], kp := [(0, [0, 1]), (1, [1]), (2, [1])], an := [(2, [0, 1, 3, 7, 0, 16, 48, 112, 240, 511, 0, 1024, 3072, 7168, 15360, 32767, 0, 65536, 196608, 458752, 983040, 2097151, 0, 4194304, 12582912, 29360128, 62914560, 134217727, 0, 268435456, 805306368, 1879048192, 4026531840, 8589934591, 0, 17179869184, 51539607552, 120259084288, 257698037760, 549755813887, 0, 1099511627776, 3298534883328, 7696581394432, 16492674416640, 35184372088831, 70368744177663])] }
attribute [go_sem] H_encoding_binary_bigEndian_Uint64
theorem ok_H_encoding_binary_bigEndian_Uint64 : H_encoding_binary_bigEndian_Uint64.ok Tryz.prog := AllOk.okR .nil .nil mix
theorem f_Uint64 (l : List UInt8) (h : 8 ≤ l.length) : VFun Tryz.prog 101 [.x (.a []), (eList cU8).enc l] [] (eU64.enc (wdAt l 0)) [] := by
  match l, h with
  | a :: b :: c :: d :: e :: f :: g :: i :: l, _ =>
  refine VFun_pure (n := 54) (rs := [.tmp 4]) Tryz.func101 rfl rfl rfl rfl H_encoding_binary_bigEndian_Uint64 ok_H_encoding_binary_bigEndian_Uint64 _ _ (Nat.le_of_ble_eq_true rfl) (by kernel_rfl) ?_
  simp only [go_sem, ↓reduceIte, reduceCtorEq, Nat.reduceAdd, Nat.reduceMul, Nat.reduceEqDiff, Nat.reduceSub, Nat.reduceLT, Nat.reduceLeDiff, Nat.reduceAnd, Nat.reduceShiftRight, Nat.reduceBEq, Nat.reduceBNe, Nat.reduceBneDiff, Nat.reduceBeqDiff, Int.reduceToNat, Int.reduceLE, Int.reduceLT, Int.reduceEq]
  rfl
abbrev MUint64 : FM := ⟨[], fun args rin => match args, rin with
  | [.x (.a []), e], [] => match (eList cU8).dec e with
    | some l => some (eU64.enc (wdAt l 0), [], 8 ≤ l.length)
    | none => none
  | _, _ => none⟩
attribute [go_sem] MUint64
theorem ok_encoding_binary_bigEndian_Uint64 : MUint64.ok Tryz.prog 101 := by
  intro args rin res rout p hm hp
  simp only [MUint64] at hm
  split at hm
  · split at hm
    · rename_i hx; cases hm; exact (f_Uint64 _ hp).weaken (.cons (fun _ _ _ _ _ h => h) (.cons (CE.ok _ _ _ hx) .nil))
    · cases hm
  · cases hm

def H_encoding_binary_bigEndian_AppendUint64 : Hint := { fs := [], kp := [(0, [0, 1, 2]), (1, [1, 2])], an := [], own := true }
attribute [go_sem] H_encoding_binary_bigEndian_AppendUint64
theorem ok_H_encoding_binary_bigEndian_AppendUint64 : H_encoding_binary_bigEndian_AppendUint64.ok Tryz.prog := AllOk.okR .nil .nil mix
theorem f_AppendUint64 (l : List UInt8) (w : UInt64) (h : l.length ≤ 1000000) : VFun Tryz.prog 78 [.x (.a []), oL 0 l, eU64.enc w] [some (oR cU8 l)] (oL 0 (l ++ be8 w)) [some (oR cU8 (l ++ be8 w))] := by
  refine VFun_own (rin := [oR cU8 l]) (n := 33) (rs := [.tmp 6]) Tryz.func78 rfl rfl rfl rfl H_encoding_binary_bigEndian_AppendUint64 ok_H_encoding_binary_bigEndian_AppendUint64 (Nat.le_of_ble_eq_true rfl) (by kernel_rfl) ?_
  simp only [go_sem, ↓reduceIte, reduceCtorEq, Nat.reduceAdd, Nat.reduceMul, Nat.reduceEqDiff, Nat.reduceSub, Nat.reduceLT, Nat.reduceLeDiff, Nat.reduceAnd, Nat.reduceShiftRight, Nat.reduceBEq, Nat.reduceBNe, Nat.reduceBneDiff, Nat.reduceBeqDiff, Int.reduceToNat, Int.reduceLE, Int.reduceLT, Int.reduceEq]
  exact ⟨by omega, by simp [be8], by simp [be8, cU8_enc]⟩
abbrev MAppend : FM := ⟨[1], fun args rin => match args, rin with
  | [.x (.a []), .x (.o (.h (0, 0) 0 n m)), e], [.row k rows] => match mapO cU8.dec rows, eU64.dec e with
    | some l, some w => some (oL 0 (l ++ be8 w), [some (oR cU8 (l ++ be8 w))], n = m ∧ l.length = m ∧ k = 1 ∧ rows = l.map cU8.enc ∧ l.length ≤ 1000000)
    | _, _ => none
  | _, _ => none⟩
attribute [go_sem] MAppend
theorem ok_encoding_binary_bigEndian_AppendUint64 : MAppend.ok Tryz.prog 78 := by
  intro args rin res rout p hm hp
  simp only [MAppend] at hm
  split at hm
  · split at hm
    · rename_i h1 h2
      cases hm
      obtain ⟨rfl, g2, rfl, g4, g5⟩ := hp
      subst g2
      rw [g4]
      exact (f_AppendUint64 _ _ g5).weaken (.cons (fun _ _ _ _ _ h => h) (.cons (fun _ _ _ _ _ h => h) (.cons (CE.ok _ _ _ h2) .nil)))
    · cases hm
  · cases hm

def H_impl_digestOf : Hint := { fs := [(101, MUint64)], kp := [(0, [0]), (1, [0, 2]), (2, [0, 2, 3])], an := [(2, [0, 0, 3, 0, 0, 16, 63, 0, 0, 256, 1023, 0, 0, 4096, 16383, 32767, 65535])] }
attribute [go_sem] H_impl_digestOf
theorem ok_H_impl_digestOf : H_impl_digestOf.ok Tryz.prog := AllOk.okR (.cons ok_encoding_binary_bigEndian_Uint64 .nil) .nil mix
theorem f_digestOf (l : List UInt8) (h : 32 ≤ l.length) (h2 : l.length ≤ 1000000) : VFun Tryz.prog 80 [(eList cU8).enc l] [] ((CE.st cDigest).enc (wdAt l 0, wdAt l 8, wdAt l 16, wdAt l 24)) [] := by
  refine VFun_pure (n := 22) (rs := [.cell 2 25]) Tryz.func80 rfl rfl rfl rfl H_impl_digestOf ok_H_impl_digestOf _ _ (Nat.le_of_ble_eq_true rfl) (by kernel_rfl) ?_
  simp only [go_sem, ↓reduceIte, reduceCtorEq, Nat.reduceAdd, Nat.reduceMul, Nat.reduceEqDiff, Nat.reduceSub, Nat.reduceLT, Nat.reduceLeDiff, Nat.reduceAnd, Nat.reduceShiftRight, Nat.reduceBEq, Nat.reduceBNe, Nat.reduceBneDiff, Nat.reduceBeqDiff, Int.reduceToNat, Int.reduceLE, Int.reduceLT, Int.reduceEq]
  have e : ∀ i, wdAt (l.drop i) 0 = wdAt l i := fun i => by simp [wdAt]
  rw [e, e, e]
  refine ⟨by omega, by omega, by omega, by omega, by omega, by omega, by omega, rfl⟩
abbrev MDigestOf : FM := .f1 (eList cU8) (CE.st cDigest).enc (fun l => (wdAt l 0, wdAt l 8, wdAt l 16, wdAt l 24)) (fun l => 32 ≤ l.length ∧ l.length ≤ 1000000)
attribute [go_sem] MDigestOf
theorem ok_impl_digestOf : MDigestOf.ok Tryz.prog 80 := FM.f1_ok fun l h => f_digestOf l h.1 h.2

def H_spec_l1Bytes : Hint := { fs := [], kp := [(0, [0]), (1, [0]), (2, [0, 3]), (3, [0, 3, 4]), (5, [0, 3, 4]), (4, [0, 3, 4]), (6, [3])], an := [] }
attribute [go_sem] H_spec_l1Bytes
theorem ok_H_spec_l1Bytes : H_spec_l1Bytes.ok Tryz.prog := AllOk.okR .nil .nil mix
theorem f_l1Bytes (w : UInt64) : VFun Tryz.prog 83 [eU64.enc w] [] (eStr.enc ⟨(be8 w).toArray⟩) [] := by
  refine VFun_pure (n := 21) (rs := [.tmp 2]) Tryz.func83 rfl rfl rfl rfl H_spec_l1Bytes ok_H_spec_l1Bytes _ _ (Nat.le_of_ble_eq_true rfl) (by kernel_rfl) ?_
  simp only [go_sem, ↓reduceIte, reduceCtorEq, Nat.reduceAdd, Nat.reduceMul, Nat.reduceEqDiff, Nat.reduceSub, Nat.reduceLT, Nat.reduceLeDiff, Nat.reduceAnd, Nat.reduceShiftRight, Nat.reduceBEq, Nat.reduceBNe, Nat.reduceBneDiff, Nat.reduceBeqDiff, Int.reduceToNat, Int.reduceLE, Int.reduceLT, Int.reduceEq]
  refine LoopV.go (H := H_spec_l1Bytes) ok_H_spec_l1Bytes (by kernel_rfl) (fun i : Nat => ⟨[(0, sc (.int .u64 w.toNat)), (3, .x (.o (.h (1, 100) 0 ((be8 w).take i).length ((be8 w).take i).length))), (4, sc (.int .i64 (7 - i)))], [((1, 100), .row 1 (((be8 w).take i).map cU8.enc))], 2⟩) (fun i => 8 - i) (fun i => i ≤ 8) ?_ 0 (by omega)
  intro i hi
  have hlen : ((be8 w).take i).length ≤ 8 := by simp [be8]; omega
  by_cases hlt : i < 8
  · have c1 : (0 ≤ 7 - (i : Int)) = True := eq_true (by omega)
    have w1 : IntKind.i64.wrap (8 * (7 - (i : Int))) = ((8 * (7 - i) : Nat) : Int) := by rw [wrap64] <;> omega
    have w2 : IntKind.u64.wrap ((8 * (7 - i) : Nat) : Int) = ((8 * (7 - i) : Nat) : Int) := wrapNat _ (by omega)
    have w3 : IntKind.i64.wrap (7 - (i : Int) - 1) = 7 - ((i + 1 : Nat) : Int) := by rw [wrap64] <;> omega
    have hk : 8 * (7 - i) < 64 := by omega
    have ht : (be8 w).take (i + 1) = (be8 w).take i ++ [(w >>> UInt64.ofNat (8 * (7 - i))).toUInt8] := by
      obtain rfl | rfl | rfl | rfl | rfl | rfl | rfl | rfl : i = 0 ∨ i = 1 ∨ i = 2 ∨ i = 3 ∨ i = 4 ∨ i = 5 ∨ i = 6 ∨ i = 7 := by omega
      all_goals simp [be8]
      all_goals rfl
    simp only [go_sem, ↓reduceIte, reduceCtorEq, Nat.reduceAdd, Nat.reduceMul, Nat.reduceEqDiff, Nat.reduceSub, Nat.reduceLT, Nat.reduceLeDiff, Nat.reduceAnd, Nat.reduceShiftRight, Nat.reduceBEq, Nat.reduceBNe, Nat.reduceBneDiff, Nat.reduceBeqDiff, Int.reduceToNat, Int.reduceLE, Int.reduceLT, Int.reduceEq, c1, w1, w2, w3, hk]
    exact ⟨by omega, i + 1, by omega, by omega, by rw [ht]; simp [cU8_enc]⟩
  · have c1 : (0 ≤ 7 - (i : Int)) = False := eq_false (by omega)
    simp only [go_sem, ↓reduceIte, reduceCtorEq, Nat.reduceAdd, Nat.reduceMul, Nat.reduceEqDiff, Nat.reduceSub, Nat.reduceLT, Nat.reduceLeDiff, Nat.reduceAnd, Nat.reduceShiftRight, Nat.reduceBEq, Nat.reduceBNe, Nat.reduceBneDiff, Nat.reduceBeqDiff, Int.reduceToNat, Int.reduceLE, Int.reduceLT, Int.reduceEq, c1]
    have h8 : i = 8 := by omega
    subst h8
    rfl
abbrev MBytes : FM := .f1 eU64 eStr.enc (fun w => ⟨(be8 w).toArray⟩) (fun _ => True)
attribute [go_sem] MBytes
theorem ok_spec_l1Bytes : MBytes.ok Tryz.prog 83 := FM.f1_ok fun w _ => f_l1Bytes w

def H_spec_l1Word : Hint := { fs := [], kp := [(0, [0, 1]), (1, [0, 1]), (2, [0, 1, 5]), (3, [0, 1, 5, 6]), (5, [0, 1, 5, 6]), (4, [0, 1, 5, 6]), (6, [5])], an := [] }
attribute [go_sem] H_spec_l1Word
theorem ok_H_spec_l1Word : H_spec_l1Word.ok Tryz.prog := AllOk.okR .nil .nil mix
theorem f_l1Word (s : ByteArray) (i : Nat) (h : i + 8 ≤ s.size) (hs : s.size ≤ 1000000) : VFun Tryz.prog 85 [eStr.enc s, (eInt .i64).enc i] [] (eU64.enc (wdAt s.data.toList i)) [] := by
  refine VFun_pure (n := 22) (rs := [.tmp 4]) Tryz.func85 rfl rfl rfl rfl H_spec_l1Word ok_H_spec_l1Word _ _ (Nat.le_of_ble_eq_true rfl) (by kernel_rfl) ?_
  have hl : i + 8 ≤ s.data.toList.length := h
  have gx : ∀ k, k < 8 → ∃ x, s.data.toList[i + k]? = some x := fun k hk => ⟨_, List.getElem?_eq_getElem (by omega)⟩
  obtain ⟨a, ha⟩ := gx 0 (by omega)
  obtain ⟨b, hb⟩ := gx 1 (by omega)
  obtain ⟨c, hc⟩ := gx 2 (by omega)
  obtain ⟨d, hd⟩ := gx 3 (by omega)
  obtain ⟨e, he⟩ := gx 4 (by omega)
  obtain ⟨f, hf⟩ := gx 5 (by omega)
  obtain ⟨g, hg⟩ := gx 6 (by omega)
  obtain ⟨q, hq⟩ := gx 7 (by omega)
  have hw : wdAt s.data.toList i = wd8 a b c d e f g q := by
    have hd' : s.data.toList.drop i = a :: b :: c :: d :: e :: f :: g :: q :: s.data.toList.drop (i + 8) := by
      apply List.ext_getElem?
      intro j
      rw [List.getElem?_drop]
      match j with
      | 0 => simpa using ha
      | 1 => simpa using hb
      | 2 => simpa using hc
      | 3 => simpa using hd
      | 4 => simpa using he
      | 5 => simpa using hf
      | 6 => simpa using hg
      | 7 => simpa using hq
      | j + 8 => simp only [List.getElem?_cons_succ, List.getElem?_drop]; congr 1; omega
    unfold wdAt
    rw [hd']
  let wk : Nat → UInt64 := fun k => match k with
    | 0 => 0
    | 1 => 0 ||| a.toUInt64
    | 2 => (0 ||| a.toUInt64) <<< 8 ||| b.toUInt64
    | 3 => ((0 ||| a.toUInt64) <<< 8 ||| b.toUInt64) <<< 8 ||| c.toUInt64
    | 4 => (((0 ||| a.toUInt64) <<< 8 ||| b.toUInt64) <<< 8 ||| c.toUInt64) <<< 8 ||| d.toUInt64
    | 5 => ((((0 ||| a.toUInt64) <<< 8 ||| b.toUInt64) <<< 8 ||| c.toUInt64) <<< 8 ||| d.toUInt64) <<< 8 ||| e.toUInt64
    | 6 => (((((0 ||| a.toUInt64) <<< 8 ||| b.toUInt64) <<< 8 ||| c.toUInt64) <<< 8 ||| d.toUInt64) <<< 8 ||| e.toUInt64) <<< 8 ||| f.toUInt64
    | 7 => ((((((0 ||| a.toUInt64) <<< 8 ||| b.toUInt64) <<< 8 ||| c.toUInt64) <<< 8 ||| d.toUInt64) <<< 8 ||| e.toUInt64) <<< 8 ||| f.toUInt64) <<< 8 ||| g.toUInt64
    | _ => (((((((0 ||| a.toUInt64) <<< 8 ||| b.toUInt64) <<< 8 ||| c.toUInt64) <<< 8 ||| d.toUInt64) <<< 8 ||| e.toUInt64) <<< 8 ||| f.toUInt64) <<< 8 ||| g.toUInt64) <<< 8 ||| q.toUInt64
  have hstep : ∀ k, k < 8 → ∃ x, s.data.toList[i + k]? = some x ∧ wk (k + 1) = wk k <<< 8 ||| x.toUInt64 := fun k hk => by
    obtain rfl | rfl | rfl | rfl | rfl | rfl | rfl | rfl : k = 0 ∨ k = 1 ∨ k = 2 ∨ k = 3 ∨ k = 4 ∨ k = 5 ∨ k = 6 ∨ k = 7 := by omega
    · exact ⟨a, ha, rfl⟩
    · exact ⟨b, hb, rfl⟩
    · exact ⟨c, hc, rfl⟩
    · exact ⟨d, hd, rfl⟩
    · exact ⟨e, he, rfl⟩
    · exact ⟨f, hf, rfl⟩
    · exact ⟨g, hg, rfl⟩
    · exact ⟨q, hq, rfl⟩
  have hend : wk 8 = wdAt s.data.toList i := by rw [hw, ← wd8_step]; rfl
  have h0 : wk 0 = 0 := rfl
  clear_value wk
  clear hw ha hb hc hd he hf hg hq
  simp only [go_sem, ↓reduceIte, reduceCtorEq, Nat.reduceAdd, Nat.reduceMul, Nat.reduceEqDiff, Nat.reduceSub, Nat.reduceLT, Nat.reduceLeDiff, Nat.reduceAnd, Nat.reduceShiftRight, Nat.reduceBEq, Nat.reduceBNe, Nat.reduceBneDiff, Nat.reduceBeqDiff, Int.reduceToNat, Int.reduceLE, Int.reduceLT, Int.reduceEq]
  refine LoopV.go (H := H_spec_l1Word) ok_H_spec_l1Word (by kernel_rfl) (fun k : Nat => ⟨[(0, sc (.string s)), (1, sc (.int .i64 i)), (5, sc (.int .u64 (wk k).toNat)), (6, sc (.int .i64 (i + k : Nat)))], [], 2⟩) (fun k => 8 - k) (fun k => k ≤ 8) ?_ 0 (by omega) (by rw [h0]; rfl)
  intro k hk
  have w0 : IntKind.i64.wrap ((i : Int) + 8) = ((i + 8 : Nat) : Int) := by rw [wrap64] <;> omega
  by_cases hlt : k < 8
  · obtain ⟨x, hx, hs2⟩ := hstep k hlt
    have w1 : IntKind.i64.wrap (((i + k : Nat) : Int) + 1) = ((i + (k + 1) : Nat) : Int) := by rw [wrap64] <;> omega
    have c1 : (((i + k : Nat) : Int) < ((i + 8 : Nat) : Int)) = True := eq_true (by omega)
    simp only [go_sem, ↓reduceIte, reduceCtorEq, Nat.reduceAdd, Nat.reduceMul, Nat.reduceEqDiff, Nat.reduceSub, Nat.reduceLT, Nat.reduceLeDiff, Nat.reduceAnd, Nat.reduceShiftRight, Nat.reduceBEq, Nat.reduceBNe, Nat.reduceBneDiff, Nat.reduceBeqDiff, Int.reduceToNat, Int.reduceLE, Int.reduceLT, Int.reduceEq, w0, w1, c1, hx]
    exact ⟨k + 1, by omega, by omega, by rw [hs2]; rfl⟩
  · have c1 : (((i + k : Nat) : Int) < ((i + 8 : Nat) : Int)) = False := eq_false (by omega)
    have h8 : k = 8 := by omega
    subst h8
    simp only [go_sem, ↓reduceIte, reduceCtorEq, Nat.reduceAdd, Nat.reduceMul, Nat.reduceEqDiff, Nat.reduceSub, Nat.reduceLT, Nat.reduceLeDiff, Nat.reduceAnd, Nat.reduceShiftRight, Nat.reduceBEq, Nat.reduceBNe, Nat.reduceBneDiff, Nat.reduceBeqDiff, Int.reduceToNat, Int.reduceLE, Int.reduceLT, Int.reduceEq, w0, c1, hend]
abbrev MWord : FM := .f2 eStr (eInt .i64) eU64.enc (fun s i => wdAt s.data.toList i.toNat) (fun s i => 0 ≤ i ∧ i.toNat + 8 ≤ s.size ∧ s.size ≤ 1000000)
attribute [go_sem] MWord
theorem ok_spec_l1Word : MWord.ok Tryz.prog 85 := FM.f2_ok fun s i h => by
  obtain ⟨n, rfl⟩ := Int.eq_ofNat_of_zero_le h.1
  exact f_l1Word s n h.2.1 h.2.2

end Go.Proofs.YtcgkhljolflenaaGreatW.V

