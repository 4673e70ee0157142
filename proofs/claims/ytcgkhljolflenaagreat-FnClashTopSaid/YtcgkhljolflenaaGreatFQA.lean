/- Functions: what is hashed of leaves and pairs. No condition but each theorem's own. -/
import Derived.Test.YtcgkhljolflenaaGreatFUH
import Derived.Test.YtcgkhljolflenaaGreatFRt
namespace Go.Proofs.YtcgkhljolflenaaGreatW.V
open Go Go.Proofs
set_option linter.unusedSimpArgs false
set_option linter.unusedVariables false
set_option maxRecDepth 8000
set_option maxHeartbeats 4000000

set_option synthInstance.maxSize 1000

def dBy (d : Digest) : List UInt8 := be8 d.1 ++ be8 d.2.1 ++ be8 d.2.2.1 ++ be8 d.2.2.2
theorem dBy_len (d : Digest) : (dBy d).length = 32 := rfl
def hbM (d : Digest) : ByteArray := ⟨(dBy d).toArray⟩
def leafT (s : ByteArray) : ByteArray := ⟨#[0]⟩ ++ s
def pairT (a b : Digest) : ByteArray := ⟨(1 :: (dBy a ++ dBy b)).toArray⟩
def leafH (s : ByteArray) : Digest := hashOf (leafT s)
def pairH (a b : Digest) : Digest := hashOf (pairT a b)
theorem hbM_size (d : Digest) : (hbM d).size = 32 := rfl
theorem leafT_size (s : ByteArray) : (leafT s).size = 1 + s.size := by rw [leafT, ByteArray.size_append]; rfl
theorem pairT_size (a b : Digest) : (pairT a b).size = 65 := rfl
abbrev MLeafT : FM := .f1 eStr eStr.enc leafT (fun s => s.size ≤ 900000)
attribute [go_sem] MLeafT
abbrev MPairT : FM := .f2 (CE.st cDigest) (CE.st cDigest) eStr.enc pairT (fun _ _ => True)
attribute [go_sem] MPairT
abbrev MLeafH : FM := .f1 eStr (CE.st cDigest).enc leafH (fun s => s.size ≤ 900000)
attribute [go_sem] MLeafH
abbrev MPairH : FM := .f2 (CE.st cDigest) (CE.st cDigest) (CE.st cDigest).enc pairH (fun _ _ => True)
attribute [go_sem] MPairH

def H_impl_HashBytes : Hint := { fs := [(78, MAppend)], kp := [(0, [0]), (1, [1]), (2, [1, 3]), (3, [3, 14, 15, 16]), (4, [3, 14, 15, 16]), (5, [3, 5, 14, 15, 16]), (6, [3, 14, 15, 16]), (7, [3])], an := [], nl := [(2, [(3, 1)])] }
attribute [go_sem] H_impl_HashBytes
theorem ok_H_impl_HashBytes : H_impl_HashBytes.ok Tryz.prog := AllOk.okR (.cons ok_encoding_binary_bigEndian_AppendUint64 .nil) .nil mix
theorem f_impl_HashBytes (d : Digest) : VFun Tryz.prog 70 [(CE.st cDigest).enc d] [] (eStr.enc (hbM d)) [] := by
  obtain ⟨x1, x2, x3, x4⟩ := d
  refine VFun_pure (n := 27) (rs := [.tmp 2]) Tryz.func70 rfl rfl rfl rfl H_impl_HashBytes ok_H_impl_HashBytes _ _ (Nat.le_of_ble_eq_true rfl) (by kernel_rfl) ?_
  have e8 : ∀ x, (be8 x).length = 8 := fun _ => rfl
  simp only [go_sem, ↓reduceIte, reduceCtorEq, Nat.reduceAdd, Nat.reduceMul, Nat.reduceEqDiff, Nat.reduceSub, Nat.reduceLT, Nat.reduceLeDiff, Nat.reduceAnd, Nat.reduceShiftRight, Nat.reduceBEq, Nat.reduceBNe, Nat.reduceBneDiff, Nat.reduceBeqDiff, Int.reduceToNat, Int.reduceLE, Int.reduceLT, Int.reduceEq]
  let L : Nat → List UInt8 := fun k => match k with
    | 0 => []
    | 1 => be8 x1
    | 2 => be8 x1 ++ be8 x2
    | 3 => be8 x1 ++ be8 x2 ++ be8 x3
    | _ => be8 x1 ++ be8 x2 ++ be8 x3 ++ be8 x4
  have hl : ∀ k, (L k).length ≤ 48 := fun k => by
    dsimp only [L]
    split <;> simp [e8]
  have h1 : L 0 ++ be8 x1 = L 1 := rfl
  have h2 : L 1 ++ be8 x2 = L 2 := rfl
  have h3 : L 2 ++ be8 x3 = L 3 := rfl
  have h4 : L 3 ++ be8 x4 = L 4 := rfl
  have h5 : L 4 = be8 x1 ++ be8 x2 ++ be8 x3 ++ be8 x4 := rfl
  have h0 : L 0 = [] := rfl
  clear_value L
  refine LoopV.go (H := H_impl_HashBytes) ok_H_impl_HashBytes (by kernel_rfl) (fun k : Nat => ⟨[(3, .x (.o (.h (1, 100) 0 (L k).length (L k).length))), (14, .x (.o (.h (1, 101) 0 4 4))), (15, sc (.int .i64 4)), (16, sc (.int .i64 k))], [((1, 100), .row 1 ((L k).map cU8.enc)), ((1, 101), .row 1 [[.v (.int .u64 x1.toNat)], [.v (.int .u64 x2.toNat)], [.v (.int .u64 x3.toNat)], [.v (.int .u64 x4.toNat)]])], 2⟩) (fun k => 4 - k) (fun k => k ≤ 4) ?_ 0 (by omega) (by rw [h0]; rfl)
  intro k hk
  have hlk := hl k
  obtain rfl | rfl | rfl | rfl | rfl : k = 0 ∨ k = 1 ∨ k = 2 ∨ k = 3 ∨ k = 4 := by omega
  · have c1 : (((0 : Nat) : Int) < 4) = True := eq_true (by omega)
    simp only [go_sem, ↓reduceIte, reduceCtorEq, Nat.reduceAdd, Nat.reduceMul, Nat.reduceEqDiff, Nat.reduceSub, Nat.reduceLT, Nat.reduceLeDiff, Nat.reduceAnd, Nat.reduceShiftRight, Nat.reduceBEq, Nat.reduceBNe, Nat.reduceBneDiff, Nat.reduceBeqDiff, Int.reduceToNat, Int.reduceLE, Int.reduceLT, Int.reduceEq, c1, h1]
    exact ⟨by omega, 1, by omega, by omega, by rw [← List.length_append, h1]; rfl⟩
  · have c1 : (((1 : Nat) : Int) < 4) = True := eq_true (by omega)
    simp only [go_sem, ↓reduceIte, reduceCtorEq, Nat.reduceAdd, Nat.reduceMul, Nat.reduceEqDiff, Nat.reduceSub, Nat.reduceLT, Nat.reduceLeDiff, Nat.reduceAnd, Nat.reduceShiftRight, Nat.reduceBEq, Nat.reduceBNe, Nat.reduceBneDiff, Nat.reduceBeqDiff, Int.reduceToNat, Int.reduceLE, Int.reduceLT, Int.reduceEq, c1, h2]
    exact ⟨by omega, 2, by omega, by omega, by rw [← List.length_append, h2]; rfl⟩
  · have c1 : (((2 : Nat) : Int) < 4) = True := eq_true (by omega)
    simp only [go_sem, ↓reduceIte, reduceCtorEq, Nat.reduceAdd, Nat.reduceMul, Nat.reduceEqDiff, Nat.reduceSub, Nat.reduceLT, Nat.reduceLeDiff, Nat.reduceAnd, Nat.reduceShiftRight, Nat.reduceBEq, Nat.reduceBNe, Nat.reduceBneDiff, Nat.reduceBeqDiff, Int.reduceToNat, Int.reduceLE, Int.reduceLT, Int.reduceEq, c1, h3]
    exact ⟨by omega, 3, by omega, by omega, by rw [← List.length_append, h3]; rfl⟩
  · have c1 : (((3 : Nat) : Int) < 4) = True := eq_true (by omega)
    simp only [go_sem, ↓reduceIte, reduceCtorEq, Nat.reduceAdd, Nat.reduceMul, Nat.reduceEqDiff, Nat.reduceSub, Nat.reduceLT, Nat.reduceLeDiff, Nat.reduceAnd, Nat.reduceShiftRight, Nat.reduceBEq, Nat.reduceBNe, Nat.reduceBneDiff, Nat.reduceBeqDiff, Int.reduceToNat, Int.reduceLE, Int.reduceLT, Int.reduceEq, c1, h4]
    exact ⟨by omega, 4, by omega, by omega, by rw [← List.length_append, h4]; rfl⟩
  · have c1 : (((4 : Nat) : Int) < 4) = False := eq_false (by omega)
    simp only [go_sem, ↓reduceIte, reduceCtorEq, Nat.reduceAdd, Nat.reduceMul, Nat.reduceEqDiff, Nat.reduceSub, Nat.reduceLT, Nat.reduceLeDiff, Nat.reduceAnd, Nat.reduceShiftRight, Nat.reduceBEq, Nat.reduceBNe, Nat.reduceBneDiff, Nat.reduceBeqDiff, Int.reduceToNat, Int.reduceLE, Int.reduceLT, Int.reduceEq, c1, h5]
    rfl
theorem ok_impl_HashBytes : MHashBytes.ok Tryz.prog 70 := FM.f1_ok fun d _ => f_impl_HashBytes d

def H_impl_leafText : Hint := { fs := [], kp := [(0, [0]), (1, [0])], an := [] }
attribute [go_sem] H_impl_leafText
theorem ok_H_impl_leafText : H_impl_leafText.ok Tryz.prog := AllOk.okR .nil .nil mix
theorem f_impl_leafText (s : ByteArray) (h : s.size ≤ 900000) : VFun Tryz.prog 33 [eStr.enc s] [] (eStr.enc (leafT s)) [] := by
  refine VFun_pure (n := 5) (rs := [.tmp 2]) Tryz.func33 rfl rfl rfl rfl H_impl_leafText ok_H_impl_leafText _ _ (Nat.le_of_ble_eq_true rfl) (by kernel_rfl) ?_
  simp only [go_sem, ↓reduceIte, reduceCtorEq, Nat.reduceAdd, Nat.reduceMul, Nat.reduceEqDiff, Nat.reduceSub, Nat.reduceLT, Nat.reduceLeDiff, Nat.reduceAnd, Nat.reduceShiftRight, Nat.reduceBEq, Nat.reduceBNe, Nat.reduceBneDiff, Nat.reduceBeqDiff, Int.reduceToNat, Int.reduceLE, Int.reduceLT, Int.reduceEq]
  exact ⟨by omega, rfl⟩
theorem ok_impl_leafText : MLeafT.ok Tryz.prog 33 := FM.f1_ok fun s h => f_impl_leafText s h

def H_spec_l1LeafText : Hint := { fs := [], kp := [(0, [0]), (1, [0])], an := [] }
attribute [go_sem] H_spec_l1LeafText
theorem ok_H_spec_l1LeafText : H_spec_l1LeafText.ok Tryz.prog := AllOk.okR .nil .nil mix
theorem f_spec_leafText (s : ByteArray) (h : s.size ≤ 900000) : VFun Tryz.prog 75 [eStr.enc s] [] (eStr.enc (leafT s)) [] := by
  refine VFun_pure (n := 7) (rs := [.tmp 2]) Tryz.func75 rfl rfl rfl rfl H_spec_l1LeafText ok_H_spec_l1LeafText _ _ (Nat.le_of_ble_eq_true rfl) (by kernel_rfl) ?_
  simp only [go_sem, ↓reduceIte, reduceCtorEq, Nat.reduceAdd, Nat.reduceMul, Nat.reduceEqDiff, Nat.reduceSub, Nat.reduceLT, Nat.reduceLeDiff, Nat.reduceAnd, Nat.reduceShiftRight, Nat.reduceBEq, Nat.reduceBNe, Nat.reduceBneDiff, Nat.reduceBeqDiff, Int.reduceToNat, Int.reduceLE, Int.reduceLT, Int.reduceEq]
  exact ⟨by omega, rfl⟩
theorem ok_spec_l1LeafText : MLeafT.ok Tryz.prog 75 := FM.f1_ok fun s h => f_spec_leafText s h

def H_impl_pairText : Hint := { fs := [(70, MHashBytes)], kp := [(0, [0, 1]), (1, [2, 3])], an := [(1, [0, 1, 3, 0, 11, 31, 63])] }
attribute [go_sem] H_impl_pairText
theorem ok_H_impl_pairText : H_impl_pairText.ok Tryz.prog := AllOk.okR (.cons ok_impl_HashBytes .nil) .nil mix
theorem f_impl_pairText (a b : Digest) : VFun Tryz.prog 31 [(CE.st cDigest).enc a, (CE.st cDigest).enc b] [] (eStr.enc (pairT a b)) [] := by
  refine VFun_pure (n := 11) (rs := [.tmp 4]) Tryz.func31 rfl rfl rfl rfl H_impl_pairText ok_H_impl_pairText _ _ (Nat.le_of_ble_eq_true rfl) (by kernel_rfl) ?_
  have e8 : ∀ x, (be8 x).length = 8 := fun _ => rfl
  simp only [go_sem, ↓reduceIte, reduceCtorEq, Nat.reduceAdd, Nat.reduceMul, Nat.reduceEqDiff, Nat.reduceSub, Nat.reduceLT, Nat.reduceLeDiff, Nat.reduceAnd, Nat.reduceShiftRight, Nat.reduceBEq, Nat.reduceBNe, Nat.reduceBneDiff, Nat.reduceBeqDiff, Int.reduceToNat, Int.reduceLE, Int.reduceLT, Int.reduceEq, e8]
  rfl
theorem ok_impl_pairText : MPairT.ok Tryz.prog 31 := FM.f2_ok fun a b _ => f_impl_pairText a b

def H_spec_l1PairText : Hint := { fs := [(91, MHashBytes)], kp := [(0, [0, 1]), (1, [2, 3])], an := [(1, [0, 1, 0, 4, 15, 0, 44, 127, 255])] }
attribute [go_sem] H_spec_l1PairText
theorem ok_H_spec_l1PairText : H_spec_l1PairText.ok Tryz.prog := AllOk.okR (.cons ok_spec_HashBytes .nil) .nil mix
theorem f_spec_pairText (a b : Digest) : VFun Tryz.prog 77 [(CE.st cDigest).enc a, (CE.st cDigest).enc b] [] (eStr.enc (pairT a b)) [] := by
  refine VFun_pure (n := 13) (rs := [.tmp 4]) Tryz.func77 rfl rfl rfl rfl H_spec_l1PairText ok_H_spec_l1PairText _ _ (Nat.le_of_ble_eq_true rfl) (by kernel_rfl) ?_
  have e8 : ∀ x, (be8 x).length = 8 := fun _ => rfl
  simp only [go_sem, ↓reduceIte, reduceCtorEq, Nat.reduceAdd, Nat.reduceMul, Nat.reduceEqDiff, Nat.reduceSub, Nat.reduceLT, Nat.reduceLeDiff, Nat.reduceAnd, Nat.reduceShiftRight, Nat.reduceBEq, Nat.reduceBNe, Nat.reduceBneDiff, Nat.reduceBeqDiff, Int.reduceToNat, Int.reduceLE, Int.reduceLT, Int.reduceEq, e8]
  rfl
theorem ok_spec_l1PairText : MPairT.ok Tryz.prog 77 := FM.f2_ok fun a b _ => f_spec_pairText a b

def H_impl_HashLeaf : Hint := { fs := [(33, MLeafT), (36, MHashOf)], kp := [(0, [0]), (1, [0, 2])], an := [] }
attribute [go_sem] H_impl_HashLeaf
theorem ok_H_impl_HashLeaf : H_impl_HashLeaf.ok Tryz.prog := AllOk.okR (.cons ok_impl_leafText (.cons ok_impl_HashOf .nil)) .nil mix
theorem f_impl_HashLeaf (s : ByteArray) (h : s.size ≤ 900000) : VFun Tryz.prog 68 [eStr.enc s] [] ((CE.st cDigest).enc (leafH s)) [] := by
  refine VFun_pure (n := 6) (rs := [.cell 2 25]) Tryz.func68 rfl rfl rfl rfl H_impl_HashLeaf ok_H_impl_HashLeaf _ _ (Nat.le_of_ble_eq_true rfl) (by kernel_rfl) ?_
  simp only [go_sem, ↓reduceIte, reduceCtorEq, Nat.reduceAdd, Nat.reduceMul, Nat.reduceEqDiff, Nat.reduceSub, Nat.reduceLT, Nat.reduceLeDiff, Nat.reduceAnd, Nat.reduceShiftRight, Nat.reduceBEq, Nat.reduceBNe, Nat.reduceBneDiff, Nat.reduceBeqDiff, Int.reduceToNat, Int.reduceLE, Int.reduceLT, Int.reduceEq]
  exact ⟨h, by rw [leafT_size]; omega, rfl⟩
theorem ok_impl_HashLeaf : MLeafH.ok Tryz.prog 68 := FM.f1_ok fun s h => f_impl_HashLeaf s h

def H_spec_HashLeaf : Hint := { fs := [(37, MHashOf), (75, MLeafT)], kp := [(0, [0]), (1, [0, 2])], an := [] }
attribute [go_sem] H_spec_HashLeaf
theorem ok_H_spec_HashLeaf : H_spec_HashLeaf.ok Tryz.prog := AllOk.okR (.cons ok_spec_HashOf (.cons ok_spec_l1LeafText .nil)) .nil mix
theorem f_spec_HashLeaf (s : ByteArray) (h : s.size ≤ 900000) : VFun Tryz.prog 74 [eStr.enc s] [] ((CE.st cDigest).enc (leafH s)) [] := by
  refine VFun_pure (n := 6) (rs := [.cell 2 25]) Tryz.func74 rfl rfl rfl rfl H_spec_HashLeaf ok_H_spec_HashLeaf _ _ (Nat.le_of_ble_eq_true rfl) (by kernel_rfl) ?_
  simp only [go_sem, ↓reduceIte, reduceCtorEq, Nat.reduceAdd, Nat.reduceMul, Nat.reduceEqDiff, Nat.reduceSub, Nat.reduceLT, Nat.reduceLeDiff, Nat.reduceAnd, Nat.reduceShiftRight, Nat.reduceBEq, Nat.reduceBNe, Nat.reduceBneDiff, Nat.reduceBeqDiff, Int.reduceToNat, Int.reduceLE, Int.reduceLT, Int.reduceEq]
  exact ⟨h, by rw [leafT_size]; omega, rfl⟩
theorem ok_spec_HashLeaf : MLeafH.ok Tryz.prog 74 := FM.f1_ok fun s h => f_spec_HashLeaf s h

def H_impl_HashPair : Hint := { fs := [(31, MPairT), (36, MHashOf)], kp := [(0, [0, 1]), (1, [2, 3, 4])], an := [] }
attribute [go_sem] H_impl_HashPair
theorem ok_H_impl_HashPair : H_impl_HashPair.ok Tryz.prog := AllOk.okR (.cons ok_impl_pairText (.cons ok_impl_HashOf .nil)) .nil mix
theorem f_impl_HashPair (a b : Digest) : VFun Tryz.prog 69 [(CE.st cDigest).enc a, (CE.st cDigest).enc b] [] ((CE.st cDigest).enc (pairH a b)) [] := by
  refine VFun_pure (n := 9) (rs := [.cell 4 25]) Tryz.func69 rfl rfl rfl rfl H_impl_HashPair ok_H_impl_HashPair _ _ (Nat.le_of_ble_eq_true rfl) (by kernel_rfl) ?_
  simp only [go_sem, ↓reduceIte, reduceCtorEq, Nat.reduceAdd, Nat.reduceMul, Nat.reduceEqDiff, Nat.reduceSub, Nat.reduceLT, Nat.reduceLeDiff, Nat.reduceAnd, Nat.reduceShiftRight, Nat.reduceBEq, Nat.reduceBNe, Nat.reduceBneDiff, Nat.reduceBeqDiff, Int.reduceToNat, Int.reduceLE, Int.reduceLT, Int.reduceEq]
  exact ⟨by rw [pairT_size]; omega, rfl⟩
theorem ok_impl_HashPair : MPairH.ok Tryz.prog 69 := FM.f2_ok fun a b _ => f_impl_HashPair a b

def H_spec_HashPair : Hint := { fs := [(37, MHashOf), (77, MPairT)], kp := [(0, [0, 1]), (1, [2, 3, 4])], an := [] }
attribute [go_sem] H_spec_HashPair
theorem ok_H_spec_HashPair : H_spec_HashPair.ok Tryz.prog := AllOk.okR (.cons ok_spec_HashOf (.cons ok_spec_l1PairText .nil)) .nil mix
theorem f_spec_HashPair (a b : Digest) : VFun Tryz.prog 90 [(CE.st cDigest).enc a, (CE.st cDigest).enc b] [] ((CE.st cDigest).enc (pairH a b)) [] := by
  refine VFun_pure (n := 9) (rs := [.cell 4 25]) Tryz.func90 rfl rfl rfl rfl H_spec_HashPair ok_H_spec_HashPair _ _ (Nat.le_of_ble_eq_true rfl) (by kernel_rfl) ?_
  simp only [go_sem, ↓reduceIte, reduceCtorEq, Nat.reduceAdd, Nat.reduceMul, Nat.reduceEqDiff, Nat.reduceSub, Nat.reduceLT, Nat.reduceLeDiff, Nat.reduceAnd, Nat.reduceShiftRight, Nat.reduceBEq, Nat.reduceBNe, Nat.reduceBneDiff, Nat.reduceBeqDiff, Int.reduceToNat, Int.reduceLE, Int.reduceLT, Int.reduceEq]
  exact ⟨by rw [pairT_size]; omega, rfl⟩
theorem ok_spec_HashPair : MPairH.ok Tryz.prog 90 := FM.f2_ok fun a b _ => f_spec_HashPair a b

end Go.Proofs.YtcgkhljolflenaaGreatW.V

