/- Plain laws: two paths that make one root and whose rows part make a clash. No condition but each theorem's own. -/
import Derived.Test.YtcgkhljolflenaaGreatFQD
namespace Go.Proofs.YtcgkhljolflenaaGreatW.V
open Go Go.Proofs
set_option linter.unusedSimpArgs false
set_option linter.unusedVariables false
set_option maxRecDepth 8000
set_option maxHeartbeats 4000000

set_option synthInstance.maxSize 1000

namespace PV

def H_spec_l3Path : Hint := { fs := [(45, MSplit), (46, MRoot)], kp := [(0, [0, 1]), (1, [0, 1]), (2, []), (3, [0, 1]), (4, [0, 1, 5]), (5, [0, 1, 5]), (6, [0, 1, 5])], an := [(5, [0, 0, 3, 0, 15, 0, 0, 96, 255, 511, 1023, 2047]), (6, [0, 0, 3, 0, 0, 24, 63, 0, 0, 384, 1023, 2047, 4095, 8191])], rs := [(19, RPath)], own := false }
attribute [go_sem] H_spec_l3Path
theorem ok_H_spec_l3Path : H_spec_l3Path.ok Tryz.prog := AllOk.okR (.cons ok_spec_TreeSplit (.cons ok_l2Root .nil)) (.cons ok_spec_l3Path .nil) mix
theorem f_l3PathV (l : List ByteArray) (i : Int) (h : (1 ≤ l.length ∧ l.length ≤ 256) ∧ (∀ x ∈ l, x.size ≤ 40) ∧ (0 ≤ i ∧ i < l.length)) : ∃ xs : List Digest, xs.length ≤ l.length ∧ VFun Tryz.prog 19 [(eList cStr).enc l, (eInt .i64).enc i] [] ((eList cDigest).enc xs) [] := by
  obtain ⟨h1, h2, h3⟩ := h
  obtain ⟨i, rfl⟩ := Int.eq_ofNat_of_zero_le h3.1
  refine VFun_rel (n := 40) (rs := [.tmp 4]) Tryz.func19 rfl rfl rfl rfl H_spec_l3Path ok_H_spec_l3Path  (rin := []) (T := List Digest) (eList cDigest) (fun xs => xs) (fun xs => []) (fun xs => xs.length ≤ l.length) (Nat.le_of_ble_eq_true rfl) (by kernel_rfl) ?_
  by_cases hm : 2 ≤ l.length
  · have s1 := splitN_lt hm
    have s2 := splitN_pos l.length
    have s3 := splitM_in hm (by omega)
    have c1 : ((l.length : Int) < 2) = False := eq_false (by omega)
    have htl : (l.take (splitN l.length)).length = splitN l.length := by rw [List.length_take]; omega
    by_cases hj : i < splitN l.length
    · have c2 : ((i : Int) < ((splitN l.length : Nat) : Int)) = True := eq_true (by omega)
      simp only [go_sem, ↓reduceIte, reduceCtorEq, Nat.reduceAdd, Nat.reduceMul, Nat.reduceEqDiff, Nat.reduceSub, Nat.reduceLT, Nat.reduceLeDiff, Nat.reduceAnd, Nat.reduceShiftRight, Nat.reduceBEq, Nat.reduceBNe, Nat.reduceBneDiff, Nat.reduceBeqDiff, Int.reduceToNat, Int.reduceLE, Int.reduceLT, Int.reduceEq, c1, s3, c2]
      exact ⟨by omega, ⟨⟨by omega, by omega⟩, fun x hx => h2 x (List.mem_of_mem_take hx), by omega⟩, fun xs hxs => ⟨⟨by omega, by omega⟩, ⟨by omega, fun x hx => h2 x (List.mem_of_mem_drop hx)⟩, ⟨by omega, by omega⟩, xs ++ [rootM (l.drop (splitN l.length))], by rw [List.length_append, List.length_singleton]; omega, rfl⟩⟩
    · have c2 : ((i : Int) < ((splitN l.length : Nat) : Int)) = False := eq_false (by omega)
      have w3 : IntKind.i64.wrap ((i : Int) - ((splitN l.length : Nat) : Int)) = ((i - splitN l.length : Nat) : Int) := by rw [wrap64] <;> omega
      simp only [go_sem, ↓reduceIte, reduceCtorEq, Nat.reduceAdd, Nat.reduceMul, Nat.reduceEqDiff, Nat.reduceSub, Nat.reduceLT, Nat.reduceLeDiff, Nat.reduceAnd, Nat.reduceShiftRight, Nat.reduceBEq, Nat.reduceBNe, Nat.reduceBneDiff, Nat.reduceBeqDiff, Int.reduceToNat, Int.reduceLE, Int.reduceLT, Int.reduceEq, c1, s3, c2, w3]
      exact ⟨⟨by omega, by omega⟩, ⟨⟨by omega, by omega⟩, fun x hx => h2 x (List.mem_of_mem_drop hx), by omega⟩, fun xs hxs => ⟨by omega, ⟨by omega, fun x hx => h2 x (List.mem_of_mem_take hx)⟩, ⟨by omega, by omega⟩, xs ++ [rootM (l.take (splitN l.length))], by rw [List.length_append, List.length_singleton]; omega, rfl⟩⟩
  · have c1 : ((l.length : Int) < 2) = True := eq_true (by omega)
    simp only [go_sem, ↓reduceIte, reduceCtorEq, Nat.reduceAdd, Nat.reduceMul, Nat.reduceEqDiff, Nat.reduceSub, Nat.reduceLT, Nat.reduceLeDiff, Nat.reduceAnd, Nat.reduceShiftRight, Nat.reduceBEq, Nat.reduceBNe, Nat.reduceBneDiff, Nat.reduceBeqDiff, Int.reduceToNat, Int.reduceLE, Int.reduceLT, Int.reduceEq, c1]
    exact ⟨[], Nat.zero_le _, rfl⟩

end PV
abbrev RPathV : FR where
  md := []
  m args rin := match args, rin with
    | [e1, e2], [] => match (eList cStr).dec e1, (eInt .i64).dec e2 with
      | some l, some i => some ((1 ≤ l.length ∧ l.length ≤ 256) ∧ (∀ x ∈ l, x.size ≤ 40) ∧ (0 ≤ i ∧ i < l.length), fun k => ∀ xs : List Digest, xs.length ≤ l.length → k ((eList cDigest).enc xs) [])
      | _, _ => none
    | _, _ => none
attribute [go_sem] RPathV
theorem ok_l3PathV : RPathV.ok Tryz.prog 19 := by
  intro args rin pr W hm hp k hk
  simp only [RPathV] at hm
  split at hm
  · split at hm
    · rename_i e1 e2 _ _ l i h1 h2
      cases hm
      obtain ⟨t, h6, h7⟩ := PV.f_l3PathV l i hp
      exact ⟨_, _, h7.weaken (.cons (CE.ok _ _ _ h1) (.cons (CE.ok _ _ _ h2) .nil)), hk t h6⟩
    · cases hm
  · cases hm

theorem foldP_at (bs : List Bool) (ds : List Digest) (d0 : Digest) : ∀ (m j : Nat), j < m → (foldP bs ds d0 m).1[j]? = some (stepP (bs.getD j true) (foldP bs ds d0 j).2 (ds.getD j (0, 0, 0, 0)))
  | 0, j, h => absurd h (by omega)
  | m + 1, j, h => by
    have hl := foldP_len bs ds d0 m
    rw [foldP]
    rcases Nat.lt_or_ge j m with h1 | h1
    · rw [List.getElem?_append_left (by omega)]
      exact foldP_at bs ds d0 m j h1
    · obtain rfl : j = m := by omega
      rw [List.getElem?_append_right (by omega), hl, Nat.sub_self]; rfl
/-- The text at a height. -/
def textAt (bs : List Bool) (ds : List Digest) (x : ByteArray) : Nat → ByteArray
  | 0 => leafT x
  | j + 1 => pairT (stepP (bs.getD j true) (foldP bs ds (leafH x) j).2 (ds.getD j (0, 0, 0, 0))).1 (stepP (bs.getD j true) (foldP bs ds (leafH x) j).2 (ds.getD j (0, 0, 0, 0))).2
theorem textAt_hash (bs : List Bool) (ds : List Digest) (x : ByteArray) : ∀ j, hashOf (textAt bs ds x j) = (foldP bs ds (leafH x) j).2
  | 0 => rfl
  | _ + 1 => rfl
theorem row_at (bs : List Bool) (ds : List Digest) (x : ByteArray) (m k : Nat) (h : k ≤ m) : (textsM (foldP bs ds (leafH x) m).1 ++ [leafT x])[k]? = some (textAt bs ds x (m - k)) := by
  have hl := foldP_len bs ds (leafH x) m
  have htl : (textsM (foldP bs ds (leafH x) m).1).length = m := by simp [textsM, hl]
  rcases Nat.lt_or_ge k m with h1 | h1
  · obtain ⟨j, hj⟩ : ∃ j, m - k = j + 1 := ⟨m - k - 1, by omega⟩
    rw [List.getElem?_append_left (by omega), textsM, List.getElem?_map, List.getElem?_reverse (by omega), hl, show m - 1 - k = j by omega, foldP_at _ _ _ _ _ (by omega), hj]; rfl
  · obtain rfl : k = m := by omega
    rw [List.getElem?_append_right (by omega), htl, Nat.sub_self]; rfl
theorem row_len (bs : List Bool) (ds : List Digest) (x : ByteArray) (m : Nat) : (textsM (foldP bs ds (leafH x) m).1 ++ [leafT x]).length = m + 1 := by
  simp [textsM, foldP_len]

theorem ba_extract (l : List UInt8) (i j : Nat) : (⟨l.toArray⟩ : ByteArray).extract i j = ⟨((l.drop i).take (j - i)).toArray⟩ := by
  apply ByteArray.ext
  rw [ByteArray.data_extract]
  simp [List.extract]
theorem hbM_eq (d : Digest) : hbM d = ⟨(be8 d.1 ++ be8 d.2.1 ++ be8 d.2.2.1 ++ be8 d.2.2.2).toArray⟩ := rfl
theorem pairT_l (u v : Digest) : (pairT u v).extract 1 33 = hbM u := by
  rw [pairT, ba_extract, hbM, List.drop_one, List.tail_cons, List.take_left' (dBy_len u)]
theorem pairT_r (u v : Digest) : (pairT u v).extract 33 65 = hbM v := by
  rw [pairT, ba_extract, hbM, show (33 : Nat) = 32 + 1 from rfl, List.drop_succ_cons, List.drop_left' (dBy_len u), List.take_of_length_le (Nat.le_of_eq (dBy_len v))]

abbrev Clash := ByteArray × ByteArray
abbrev cClash : Cd Clash := cPair cStr cStr
abbrev eFirst := eT2 (CE.st cClash) eBool (st_x _) (one_x _ _)
attribute [go_sem] cClash eFirst
def firstM : List ByteArray → List ByteArray → Clash × Bool
  | x :: a, y :: b => if x = y then firstM a b else ((x, y), true)
  | _, _ => ((⟨#[]⟩, ⟨#[]⟩), false)
theorem firstM_eq {x : ByteArray} {a b : List ByteArray} : firstM (x :: a) (x :: b) = firstM a b := by rw [firstM, if_pos rfl]
theorem firstM_ne {x y : ByteArray} {a b : List ByteArray} (h : ¬ x = y) : firstM (x :: a) (y :: b) = ((x, y), true) := by rw [firstM, if_neg h]
theorem firstM_l {b : List ByteArray} : firstM [] b = ((⟨#[]⟩, ⟨#[]⟩), false) := by rw [firstM]; intros; simp_all
theorem firstM_r {a : List ByteArray} : firstM a [] = ((⟨#[]⟩, ⟨#[]⟩), false) := by cases a <;> (rw [firstM]; intros; simp_all)
abbrev MFirst : FM := .f2 (eList cStr) (eList cStr) eFirst.enc firstM (fun a b => a.length ≤ 1048576)
attribute [go_sem] MFirst

def H_impl_ClashFirst : Hint := { fs := [], kp := [(0, [0, 1]), (1, [0, 1, 4]), (2, [0, 1, 4, 6]), (4, [0, 1, 4, 6]), (5, [0, 1, 4, 6]), (3, [0, 1, 4, 6]), (6, [4])], an := [(4, [0, 0, 3, 7, 0, 0, 48, 112, 255]), (5, [0, 0, 3, 7, 0, 0, 48, 112, 255, 511, 1023])] }
attribute [go_sem] H_impl_ClashFirst
theorem ok_H_impl_ClashFirst : H_impl_ClashFirst.ok Tryz.prog := AllOk.okR .nil .nil mix
theorem f_impl_ClashFirst (a b : List ByteArray) (h : a.length ≤ 1048576) : VFun Tryz.prog 61 [(eList cStr).enc a, (eList cStr).enc b] [] (eFirst.enc (firstM a b)) [] := by
  refine VFun_pure (n := 38) (rs := [.cell 4 33, .tmp 5]) Tryz.func61 rfl rfl rfl rfl H_impl_ClashFirst ok_H_impl_ClashFirst _ _ (Nat.le_of_ble_eq_true rfl) (by kernel_rfl) ?_
  simp only [go_sem, ↓reduceIte, reduceCtorEq, Nat.reduceAdd, Nat.reduceMul, Nat.reduceEqDiff, Nat.reduceSub, Nat.reduceLT, Nat.reduceLeDiff, Nat.reduceAnd, Nat.reduceShiftRight, Nat.reduceBEq, Nat.reduceBNe, Nat.reduceBneDiff, Nat.reduceBeqDiff, Int.reduceToNat, Int.reduceLE, Int.reduceLT, Int.reduceEq]
  refine LoopV.go (H := H_impl_ClashFirst) ok_H_impl_ClashFirst (by kernel_rfl) (fun i : Nat => ⟨[(0, .x (.o (.c (.s (a.map cStr.enc))))), (1, .x (.o (.c (.s (b.map cStr.enc))))), (4, .x (.o (.p (1, 100) 0 0 1))), (6, sc (.int .i64 i))], [((1, 100), .bx [[.c (.v (.string ⟨#[]⟩)), .c (.v (.string ⟨#[]⟩))]])], 2⟩) (fun i => a.length - i) (fun i => i ≤ a.length ∧ i ≤ b.length ∧ firstM (a.drop i) (b.drop i) = firstM a b) ?_ 0 ⟨Nat.zero_le _, Nat.zero_le _, rfl⟩
  rintro i ⟨h1, h2, h3⟩
  have w1 : IntKind.i64.wrap ((i : Int) + 1) = ((i + 1 : Nat) : Int) := by rw [wrap64] <;> omega
  by_cases ha : i < a.length
  · have c1 : ((i : Int) < (a.length : Int)) = True := eq_true (by omega)
    obtain ⟨x, hx⟩ : ∃ r, a[i]? = some r := ⟨_, List.getElem?_eq_getElem ha⟩
    have hxa : a.drop i = x :: a.drop (i + 1) := by
      have := List.drop_eq_getElem_cons ha
      rw [List.getElem?_eq_getElem ha] at hx
      cases hx; exact this
    by_cases hb : i < b.length
    · have c2 : ((i : Int) < (b.length : Int)) = True := eq_true (by omega)
      obtain ⟨y, hy⟩ : ∃ r, b[i]? = some r := ⟨_, List.getElem?_eq_getElem hb⟩
      have hyb : b.drop i = y :: b.drop (i + 1) := by
        have := List.drop_eq_getElem_cons hb
        rw [List.getElem?_eq_getElem hb] at hy
        cases hy; exact this
      rw [hxa, hyb] at h3
      by_cases hxy : x = y
      · subst hxy
        rw [firstM_eq] at h3
        simp only [go_sem, ↓reduceIte, reduceCtorEq, Nat.reduceAdd, Nat.reduceMul, Nat.reduceEqDiff, Nat.reduceSub, Nat.reduceLT, Nat.reduceLeDiff, Nat.reduceAnd, Nat.reduceShiftRight, Nat.reduceBEq, Nat.reduceBNe, Nat.reduceBneDiff, Nat.reduceBeqDiff, Int.reduceToNat, Int.reduceLE, Int.reduceLT, Int.reduceEq, c1, c2, hx, hy, w1]
        exact ⟨i + 1, ⟨ha, hb, h3⟩, by omega, rfl⟩
      · rw [firstM_ne hxy] at h3
        simp only [go_sem, ↓reduceIte, reduceCtorEq, Nat.reduceAdd, Nat.reduceMul, Nat.reduceEqDiff, Nat.reduceSub, Nat.reduceLT, Nat.reduceLeDiff, Nat.reduceAnd, Nat.reduceShiftRight, Nat.reduceBEq, Nat.reduceBNe, Nat.reduceBneDiff, Nat.reduceBeqDiff, Int.reduceToNat, Int.reduceLE, Int.reduceLT, Int.reduceEq, c1, c2, hx, hy, w1, eq_false hxy]
        rw [← h3]
    · have c2 : ((i : Int) < (b.length : Int)) = False := eq_false (by omega)
      rw [List.drop_eq_nil_of_le (by omega : b.length ≤ i), firstM_r] at h3
      simp only [go_sem, ↓reduceIte, reduceCtorEq, Nat.reduceAdd, Nat.reduceMul, Nat.reduceEqDiff, Nat.reduceSub, Nat.reduceLT, Nat.reduceLeDiff, Nat.reduceAnd, Nat.reduceShiftRight, Nat.reduceBEq, Nat.reduceBNe, Nat.reduceBneDiff, Nat.reduceBeqDiff, Int.reduceToNat, Int.reduceLE, Int.reduceLT, Int.reduceEq, c1, c2]
      rw [← h3]
  · have c1 : ((i : Int) < (a.length : Int)) = False := eq_false (by omega)
    rw [List.drop_eq_nil_of_le (by omega : a.length ≤ i), firstM_l] at h3
    simp only [go_sem, ↓reduceIte, reduceCtorEq, Nat.reduceAdd, Nat.reduceMul, Nat.reduceEqDiff, Nat.reduceSub, Nat.reduceLT, Nat.reduceLeDiff, Nat.reduceAnd, Nat.reduceShiftRight, Nat.reduceBEq, Nat.reduceBNe, Nat.reduceBneDiff, Nat.reduceBeqDiff, Int.reduceToNat, Int.reduceLE, Int.reduceLT, Int.reduceEq, c1]
    rw [← h3]
theorem ok_impl_ClashFirst : MFirst.ok Tryz.prog 61 := FM.f2_ok fun a b h => f_impl_ClashFirst a b h

theorem dig_eq (x y : Digest) : (decide (x.1 = y.1) && (decide (x.2.1 = y.2.1) && (decide (x.2.2.1 = y.2.2.1) && decide (x.2.2.2 = y.2.2.2)))) = decide (x = y) := by
  obtain ⟨a, b, c, d⟩ := x
  obtain ⟨a', b', c', d'⟩ := y
  simp [Bool.decide_and]

def clashM (c : Clash) : Bool := decide (¬ c.1 = c.2) && decide ((c.1.size : Int) ≤ 20000) && decide ((c.2.size : Int) ≤ 20000) && decide (hashOf c.1 = hashOf c.2)
def H_impl_ClashOk : Hint := { fs := [(36, MHashOf)], kp := [(0, [0]), (1, [1])], an := [(1, [0, 1, 0, 4, 15, 31, 63, 127, 255, 511, 1023, 2047, 4095, 8191, 16383, 32767, 65535, 131071, 262143, 524287, 1048575, 262143, 2359295, 8388607, 16777215, 33554431, 67108863])] }
attribute [go_sem] H_impl_ClashOk
theorem ok_H_impl_ClashOk : H_impl_ClashOk.ok Tryz.prog := AllOk.okR (.cons ok_impl_HashOf .nil) .nil mix
theorem f_ClashOk (c : Clash) (h : c.1.size ≤ 1000000 ∧ c.2.size ≤ 1000000) : VFun Tryz.prog 12 [(CE.st cClash).enc c] [] (eBool.enc (clashM c)) [] := by
  obtain ⟨l, r⟩ := c
  obtain ⟨h1, h2⟩ := h
  dsimp only at h1 h2
  have hd := dig_eq (hashOf l) (hashOf r)
  refine VFun_pure (n := 29) (rs := [.tmp 2]) Tryz.func12 rfl rfl rfl rfl H_impl_ClashOk ok_H_impl_ClashOk _ _ (Nat.le_of_ble_eq_true rfl) (by kernel_rfl) ?_
  by_cases hlr : l = r
  · simp only [go_sem, ↓reduceIte, reduceCtorEq, Nat.reduceAdd, Nat.reduceMul, Nat.reduceEqDiff, Nat.reduceSub, Nat.reduceLT, Nat.reduceLeDiff, Nat.reduceAnd, Nat.reduceShiftRight, Nat.reduceBEq, Nat.reduceBNe, Nat.reduceBneDiff, Nat.reduceBeqDiff, Int.reduceToNat, Int.reduceLE, Int.reduceLT, Int.reduceEq, eq_true hlr]
    unfold clashM
    rw [decide_eq_false (not_not_intro hlr)]; rfl
  · simp only [go_sem, ↓reduceIte, reduceCtorEq, Nat.reduceAdd, Nat.reduceMul, Nat.reduceEqDiff, Nat.reduceSub, Nat.reduceLT, Nat.reduceLeDiff, Nat.reduceAnd, Nat.reduceShiftRight, Nat.reduceBEq, Nat.reduceBNe, Nat.reduceBneDiff, Nat.reduceBeqDiff, Int.reduceToNat, Int.reduceLE, Int.reduceLT, Int.reduceEq, eq_false hlr, hd]
    unfold clashM
    rw [decide_eq_true (show ¬ (l, r).1 = (l, r).2 from hlr), Bool.true_and]
    refine ite_intro (fun c1 => ite_intro (fun c2 => ⟨h1, h2, ?_⟩) fun c2 => ?_) fun c1 => ?_
    · rw [decide_eq_true (show (((l, r).1.size : Nat) : Int) ≤ 20000 from c1), decide_eq_true (show (((l, r).2.size : Nat) : Int) ≤ 20000 from c2), Bool.true_and, Bool.true_and]
    · rw [decide_eq_false (show ¬ (((l, r).2.size : Nat) : Int) ≤ 20000 from c2), Bool.and_false, Bool.false_and]
    · rw [decide_eq_false (show ¬ (((l, r).1.size : Nat) : Int) ≤ 20000 from c1), Bool.false_and, Bool.false_and]
abbrev MClashOk : FM := .f1 (CE.st cClash) eBool.enc clashM (fun c => c.1.size ≤ 1000000 ∧ c.2.size ≤ 1000000)
attribute [go_sem] MClashOk
theorem ok_impl_ClashOk : MClashOk.ok Tryz.prog 12 := FM.f1_ok fun c h => f_ClashOk c h

def H_impl_PathRoot : Hint := { fs := [(29, MPathB), (30, MPairs), (68, MLeafH), (69, MPairH)], kp := [(0, [0, 1, 2, 3]), (1, [0, 1, 2, 3, 8]), (2, [8]), (3, [0, 1, 2, 3, 8]), (4, [2, 8]), (5, [0, 1, 2, 3, 8]), (6, [8, 10])], an := [] }
attribute [go_sem] H_impl_PathRoot
theorem ok_H_impl_PathRoot : H_impl_PathRoot.ok Tryz.prog := AllOk.okR (.cons ok_impl_pathOk (.cons ok_impl_pathPairs (.cons ok_impl_HashLeaf (.cons ok_impl_HashPair .nil)))) .nil mix
theorem f_impl_PathRoot (n i : Int) (l : ByteArray) (p : List Digest) : VFun Tryz.prog 52 [(eInt .i64).enc n, (eInt .i64).enc i, eStr.enc l, (eList cDigest).enc p] [] (eRoot.enc (rootP n i l p)) [] := by
  refine VFun_pure (n := 38) (rs := [.cell 8 25, .tmp 9]) Tryz.func52 rfl rfl rfl rfl H_impl_PathRoot ok_H_impl_PathRoot _ _ (Nat.le_of_ble_eq_true rfl) (by kernel_rfl) ?_
  by_cases hp : pathB n i l p = true
  case neg =>
    have hf : pathB n i l p = false := by simpa using hp
    have hr : rootP n i l p = ((0, 0, 0, 0), false) := if_neg hp
    simp only [go_sem, ↓reduceIte, reduceCtorEq, Nat.reduceAdd, Nat.reduceMul, Nat.reduceEqDiff, Nat.reduceSub, Nat.reduceLT, Nat.reduceLeDiff, Nat.reduceAnd, Nat.reduceShiftRight, Nat.reduceBEq, Nat.reduceBNe, Nat.reduceBneDiff, Nat.reduceBeqDiff, Int.reduceToNat, Int.reduceLE, Int.reduceLT, Int.reduceEq, hf, hr]
  obtain ⟨q1, q2, q3, q4⟩ := pathB_iff hp
  have hr : rootP n i l p = ((foldP (dirsM n.toNat i.toNat).reverse p (leafH l) p.length).2, true) := if_pos hp
  have hdl := dirsM_len n.toNat i.toNat
  have hfl := foldP_len (dirsM n.toNat i.toNat).reverse p (leafH l) p.length
  by_cases h0 : p.length = 0
  · have c1 : ((p.length : Int) = 0) = True := eq_true (by omega)
    rw [h0] at hr
    simp only [go_sem, ↓reduceIte, reduceCtorEq, Nat.reduceAdd, Nat.reduceMul, Nat.reduceEqDiff, Nat.reduceSub, Nat.reduceLT, Nat.reduceLeDiff, Nat.reduceAnd, Nat.reduceShiftRight, Nat.reduceBEq, Nat.reduceBNe, Nat.reduceBneDiff, Nat.reduceBeqDiff, Int.reduceToNat, Int.reduceLE, Int.reduceLT, Int.reduceEq, hp, c1, hr]
    exact ⟨by omega, rfl⟩
  · have c1 : ((p.length : Int) = 0) = False := eq_false (by omega)
    obtain ⟨m, hm⟩ : ∃ m, p.length = m + 1 := ⟨p.length - 1, by omega⟩
    have hx := foldP_at (dirsM n.toNat i.toNat).reverse p (leafH l) p.length m (by omega)
    have h2 : (foldP (dirsM n.toNat i.toNat).reverse p (leafH l) p.length).2 = pairH (stepP ((dirsM n.toNat i.toNat).reverse.getD m true) (foldP (dirsM n.toNat i.toNat).reverse p (leafH l) m).2 (p.getD m (0, 0, 0, 0))).1 (stepP ((dirsM n.toNat i.toNat).reverse.getD m true) (foldP (dirsM n.toNat i.toNat).reverse p (leafH l) m).2 (p.getD m (0, 0, 0, 0))).2 := by
      rw [hm, foldP]
    rw [h2] at hr
    generalize stepP ((dirsM n.toNat i.toNat).reverse.getD m true) (foldP (dirsM n.toNat i.toNat).reverse p (leafH l) m).2 (p.getD m (0, 0, 0, 0)) = S at hx hr
    have w1 : IntKind.i64.wrap ((p.length : Int) - 1) = (m : Int) := by rw [wrap64] <;> omega
    have c2 : (m < (foldP (dirsM n.toNat i.toNat).reverse p (leafH l) p.length).1.length) = True := eq_true (by omega)
    obtain ⟨sa, sb⟩ := S
    simp only [go_sem, ↓reduceIte, reduceCtorEq, Nat.reduceAdd, Nat.reduceMul, Nat.reduceEqDiff, Nat.reduceSub, Nat.reduceLT, Nat.reduceLeDiff, Nat.reduceAnd, Nat.reduceShiftRight, Nat.reduceBEq, Nat.reduceBNe, Nat.reduceBneDiff, Nat.reduceBeqDiff, Int.reduceToNat, Int.reduceLE, Int.reduceLT, Int.reduceEq, hp, c1, hr, w1, hx, c2]
    exact ⟨by decide, by decide⟩
theorem ok_impl_PathRoot : MRootP.ok Tryz.prog 52 := FM.f4_ok fun n i l p _ => f_impl_PathRoot n i l p

def behM (s : ByteArray) (l : List ByteArray) (i : Nat) : List ByteArray := s :: l.take i
theorem behM_len (s : ByteArray) (l : List ByteArray) {i : Nat} (h : i ≤ l.length) : (behM s l i).length = i + 1 := by
  rw [behM, List.length_cons, List.length_take]; omega
theorem behM_succ (s : ByteArray) {l : List ByteArray} {i : Nat} {x : ByteArray} (hx : l[i]? = some x) : behM s l (i + 1) = behM s l i ++ [x] := by
  rw [behM, behM, List.take_add_one, hx]; rfl
def H_spec_l4Behind : Hint := { fs := [], kp := [(0, [0, 1]), (1, [0, 1]), (2, [1, 5]), (3, [1, 5, 6]), (5, [1, 5, 6]), (4, [1, 5, 6]), (6, [5])], an := [] }
attribute [go_sem] H_spec_l4Behind
theorem ok_H_spec_l4Behind : H_spec_l4Behind.ok Tryz.prog := AllOk.okR .nil .nil mix
theorem f_l4Behind (s : ByteArray) (l : List ByteArray) (h : l.length ≤ 1000000) : VFun Tryz.prog 76 [eStr.enc s, (eList cStr).enc l] [] ((eList cStr).enc (s :: l)) [] := by
  refine VFun_pure (n := 23) (rs := [.tmp 4]) Tryz.func76 rfl rfl rfl rfl H_spec_l4Behind ok_H_spec_l4Behind _ _ (Nat.le_of_ble_eq_true rfl) (by kernel_rfl) ?_
  simp only [go_sem, ↓reduceIte, reduceCtorEq, Nat.reduceAdd, Nat.reduceMul, Nat.reduceEqDiff, Nat.reduceSub, Nat.reduceLT, Nat.reduceLeDiff, Nat.reduceAnd, Nat.reduceShiftRight, Nat.reduceBEq, Nat.reduceBNe, Nat.reduceBneDiff, Nat.reduceBeqDiff, Int.reduceToNat, Int.reduceLE, Int.reduceLT, Int.reduceEq]
  refine LoopV.go (H := H_spec_l4Behind) ok_H_spec_l4Behind (by kernel_rfl) (fun i : Nat => ⟨[(1, .x (.o (.c (.s (l.map cStr.enc))))), (5, .x (.o (.h (1, 100) 0 (behM s l i).length (behM s l i).length))), (6, sc (.int .i64 i))], [((1, 100), .row 1 ((behM s l i).map cStr.enc))], 2⟩) (fun i => l.length - i) (fun i => i ≤ l.length) ?_ 0 (Nat.zero_le _)
  intro i hi
  have ht := behM_len s l hi
  by_cases hlt : i < l.length
  · obtain ⟨x, hx⟩ : ∃ r, l[i]? = some r := ⟨_, List.getElem?_eq_getElem hlt⟩
    have hy := behM_succ s hx
    have w1 : IntKind.i64.wrap ((i : Int) + 1) = ((i + 1 : Nat) : Int) := by rw [wrap64] <;> omega
    have c1 : ((i : Int) < (l.length : Int)) = True := eq_true (by omega)
    simp only [go_sem, ↓reduceIte, reduceCtorEq, Nat.reduceAdd, Nat.reduceMul, Nat.reduceEqDiff, Nat.reduceSub, Nat.reduceLT, Nat.reduceLeDiff, Nat.reduceAnd, Nat.reduceShiftRight, Nat.reduceBEq, Nat.reduceBNe, Nat.reduceBneDiff, Nat.reduceBeqDiff, Int.reduceToNat, Int.reduceLE, Int.reduceLT, Int.reduceEq, hx, w1, c1]
    exact ⟨⟨by omega, by omega⟩, i + 1, hlt, by omega, by rw [hy, List.length_append, List.map_append]; rfl⟩
  · have c1 : ((i : Int) < (l.length : Int)) = False := eq_false (by omega)
    have htt : behM s l i = s :: l := by rw [behM, List.take_of_length_le (by omega)]
    rw [← htt]
    simp only [go_sem, ↓reduceIte, reduceCtorEq, Nat.reduceAdd, Nat.reduceMul, Nat.reduceEqDiff, Nat.reduceSub, Nat.reduceLT, Nat.reduceLeDiff, Nat.reduceAnd, Nat.reduceShiftRight, Nat.reduceBEq, Nat.reduceBNe, Nat.reduceBneDiff, Nat.reduceBeqDiff, Int.reduceToNat, Int.reduceLE, Int.reduceLT, Int.reduceEq, c1]
abbrev MBehind : FM := .f2 eStr (eList cStr) (eList cStr).enc (fun s l => s :: l) (fun _ l => l.length ≤ 1000000)
attribute [go_sem] MBehind
theorem ok_spec_l4Behind : MBehind.ok Tryz.prog 76 := FM.f2_ok fun s l h => f_l4Behind s l h

/-- The texts from the root down, seen from above. -/
def downM (n i : Nat) (x : ByteArray) (p : List Digest) : List ByteArray := textsM (foldP (dirsM n i).reverse p (leafH x) p.length).1 ++ [leafT x]
theorem foldP_topL {b : Bool} {bs : List Bool} {rest : List Digest} {last d0 : Digest} (h : rest.length = bs.length) : (foldP (b :: bs).reverse (rest ++ [last]) d0 (rest.length + 1)).1 = (foldP bs.reverse rest d0 rest.length).1 ++ [stepP b (foldP bs.reverse rest d0 rest.length).2 last] := by
  have hc : foldP (b :: bs).reverse (rest ++ [last]) d0 rest.length = foldP bs.reverse rest d0 rest.length := foldP_congr fun k hk => by
    rw [List.reverse_cons]
    constructor
    · rw [List.getD_eq_getElem?_getD, List.getD_eq_getElem?_getD, List.getElem?_append_left (by rw [List.length_reverse]; omega)]
    · rw [List.getD_eq_getElem?_getD, List.getD_eq_getElem?_getD, List.getElem?_append_left hk]
  have e1 : (b :: bs).reverse.getD rest.length true = b := by
    rw [List.reverse_cons, List.getD_eq_getElem?_getD, List.getElem?_append_right (by rw [List.length_reverse]; omega), List.length_reverse, h, Nat.sub_self]; rfl
  have e2 : (rest ++ [last]).getD rest.length (0, 0, 0, 0) = last := by
    rw [List.getD_eq_getElem?_getD, List.getElem?_append_right (Nat.le_refl _), Nat.sub_self]; rfl
  rw [foldP, hc, e1, e2]
theorem down_top {b : Bool} {bs : List Bool} {rest : List Digest} {last : Digest} {x : ByteArray} (h : rest.length = bs.length) : textsM (foldP (b :: bs).reverse (rest ++ [last]) (leafH x) (rest.length + 1)).1 ++ [leafT x] = pairT (stepP b (foldP bs.reverse rest (leafH x) rest.length).2 last).1 (stepP b (foldP bs.reverse rest (leafH x) rest.length).2 last).2 :: (textsM (foldP bs.reverse rest (leafH x) rest.length).1 ++ [leafT x]) := by
  rw [foldP_topL h, textsM, List.reverse_append, List.map_append]; rfl

abbrev MDownN (N : Nat) : FM := .f4 (eInt .i64) (eInt .i64) eStr (eList cDigest) (eList cStr).enc (fun n i x p => downM n.toNat i.toNat x p) (fun n i x p => n.toNat < N ∧ (1 ≤ n ∧ n ≤ 256) ∧ (0 ≤ i ∧ i < n) ∧ x.size ≤ 40 ∧ p.length = (dirsM n.toNat i.toNat).length)
attribute [go_sem] MDownN
def H_spec_l4Down (N : Nat) : Hint := { fs := [(35, (MDownN N)), (45, MSplit), (73, MUp), (74, MLeafH), (75, MLeafT), (76, MBehind), (77, MPairT)], kp := [(0, [0, 1, 2, 3]), (1, [0, 1, 2, 3]), (2, [2]), (3, [0, 1, 2, 3]), (4, [0, 1, 2, 3, 9]), (5, [0, 1, 2, 3, 9, 10]), (6, [0, 1, 2, 9, 10, 11]), (7, [1, 2, 9, 10, 11]), (8, [0, 1, 2, 9, 10, 11])], an := [(7, [0, 0, 0, 4, 0, 31, 0, 127, 0, 0, 0, 0, 4095, 8191, 16383]), (8, [0, 0, 0, 6, 0, 0, 48, 0, 128, 0, 1022, 2047, 0, 0, 12288, 0, 0, 98304, 0, 0, 1048575, 2097151, 4194303])] }
attribute [go_sem] H_spec_l4Down
theorem ok_H_spec_l4Down (N : Nat) (ih : (MDownN N).ok Tryz.prog 35) : (H_spec_l4Down N).ok Tryz.prog := AllOk.okR (.cons ih (.cons ok_spec_TreeSplit (.cons ok_spec_l3Up (.cons ok_spec_HashLeaf (.cons ok_spec_l1LeafText (.cons ok_spec_l4Behind (.cons ok_spec_l1PairText .nil))))))) .nil mix
theorem f_l4Down : ∀ (N : Nat) (n i : Int) (x : ByteArray) (p : List Digest), (n.toNat < N ∧ (1 ≤ n ∧ n ≤ 256) ∧ (0 ≤ i ∧ i < n) ∧ x.size ≤ 40 ∧ p.length = (dirsM n.toNat i.toNat).length) → VFun Tryz.prog 35 [(eInt .i64).enc n, (eInt .i64).enc i, eStr.enc x, (eList cDigest).enc p] [] ((eList cStr).enc (downM n.toNat i.toNat x p)) []
  | 0, n, i, x, p, h => absurd h.1 (by omega)
  | N + 1, n, i, x, p, h => by
    have ih : (MDownN N).ok Tryz.prog 35 := FM.f4_ok fun n i x p h => f_l4Down N n i x p h
    obtain ⟨h0, h1, h2, hxs, h3⟩ := h
    obtain ⟨n, rfl⟩ := Int.eq_ofNat_of_zero_le (show 0 ≤ n by omega)
    obtain ⟨i, rfl⟩ := Int.eq_ofNat_of_zero_le h2.1
    simp only [Int.toNat_natCast] at h0 h3 ⊢
    refine VFun_pure (n := 69) (rs := [.tmp 8]) Tryz.func35 rfl rfl rfl rfl (H_spec_l4Down N) (ok_H_spec_l4Down N ih) _ _ (Nat.le_of_ble_eq_true rfl) (by kernel_rfl) ?_
    have hdd : downM n i x p = textsM (foldP (dirsM n i).reverse p (leafH x) p.length).1 ++ [leafT x] := rfl
    rw [hdd]
    clear hdd
    by_cases hm : 2 ≤ n
    · have s1 := splitN_lt hm
      have s2 := splitN_pos n
      have s3 := splitM_in hm (by omega)
      have c1 : ((n : Int) < 2) = False := eq_false (by omega)
      by_cases hj : i < splitN n
      · have c2 : ((i : Int) < ((splitN n : Nat) : Int)) = True := eq_true (by omega)
        rw [dirsM_l hm hj] at h3 ⊢
        rw [List.length_cons] at h3
        have hdl := dirsM_len (splitN n) (i)
        obtain ⟨rest, last, rfl⟩ : ∃ rest last, p = rest ++ [last] := ⟨p.dropLast, p.getLast (by intro e; simp [e] at h3), (List.dropLast_concat_getLast _).symm⟩
        have hpl : (rest ++ [last]).length = rest.length + 1 := by simp
        rw [hpl] at h3
        have hrl : rest.length = (dirsM (splitN n) (i)).length := by omega
        have htop := down_top (b := true) (x := x) (last := last) hrl
        have w1 : IntKind.i64.wrap (((rest.length + 1 : Nat) : Int) - 1) = (rest.length : Int) := by rw [wrap64] <;> omega
        have hx : (rest ++ [last])[rest.length]? = some last := by simp
        have hdr : (rest ++ [last]).take rest.length = rest := by simp
        generalize rest ++ [last] = q at hpl hx hdr htop ⊢
        rw [hpl, htop]
        clear htop
        have hdd : downM (splitN n) (i) x rest = textsM (foldP (dirsM (splitN n) (i)).reverse rest (leafH x) rest.length).1 ++ [leafT x] := rfl
        rw [← hdd]
        have hlen : (downM (splitN n) (i) x rest).length = rest.length + 1 := by rw [hdd]; simp [textsM, foldP_len]
        simp only [go_sem, ↓reduceIte, reduceCtorEq, Nat.reduceAdd, Nat.reduceMul, Nat.reduceEqDiff, Nat.reduceSub, Nat.reduceLT, Nat.reduceLeDiff, Nat.reduceAnd, Nat.reduceShiftRight, Nat.reduceBEq, Nat.reduceBNe, Nat.reduceBneDiff, Nat.reduceBeqDiff, Int.reduceToNat, Int.reduceLE, Int.reduceLT, Int.reduceEq, c1, s3, c2, hpl, w1, hx, hdr]
        exact ⟨by omega, by omega, ⟨⟨by omega, by omega⟩, hrl⟩, ⟨by omega, ⟨by omega, by omega⟩, hxs, hrl⟩, by omega, rfl⟩
      · have c2 : ((i : Int) < ((splitN n : Nat) : Int)) = False := eq_false (by omega)
        have w2 : IntKind.i64.wrap ((n : Int) - ((splitN n : Nat) : Int)) = ((n - splitN n : Nat) : Int) := by rw [wrap64] <;> omega
        have w3 : IntKind.i64.wrap ((i : Int) - ((splitN n : Nat) : Int)) = ((i - splitN n : Nat) : Int) := by rw [wrap64] <;> omega
        rw [dirsM_r hm hj] at h3 ⊢
        rw [List.length_cons] at h3
        have hdl := dirsM_len (n - splitN n) (i - splitN n)
        obtain ⟨rest, last, rfl⟩ : ∃ rest last, p = rest ++ [last] := ⟨p.dropLast, p.getLast (by intro e; simp [e] at h3), (List.dropLast_concat_getLast _).symm⟩
        have hpl : (rest ++ [last]).length = rest.length + 1 := by simp
        rw [hpl] at h3
        have hrl : rest.length = (dirsM (n - splitN n) (i - splitN n)).length := by omega
        have htop := down_top (b := false) (x := x) (last := last) hrl
        have w1 : IntKind.i64.wrap (((rest.length + 1 : Nat) : Int) - 1) = (rest.length : Int) := by rw [wrap64] <;> omega
        have hx : (rest ++ [last])[rest.length]? = some last := by simp
        have hdr : (rest ++ [last]).take rest.length = rest := by simp
        generalize rest ++ [last] = q at hpl hx hdr htop ⊢
        rw [hpl, htop]
        clear htop
        have hdd : downM (n - splitN n) (i - splitN n) x rest = textsM (foldP (dirsM (n - splitN n) (i - splitN n)).reverse rest (leafH x) rest.length).1 ++ [leafT x] := rfl
        rw [← hdd]
        have hlen : (downM (n - splitN n) (i - splitN n) x rest).length = rest.length + 1 := by rw [hdd]; simp [textsM, foldP_len]
        simp only [go_sem, ↓reduceIte, reduceCtorEq, Nat.reduceAdd, Nat.reduceMul, Nat.reduceEqDiff, Nat.reduceSub, Nat.reduceLT, Nat.reduceLeDiff, Nat.reduceAnd, Nat.reduceShiftRight, Nat.reduceBEq, Nat.reduceBNe, Nat.reduceBneDiff, Nat.reduceBeqDiff, Int.reduceToNat, Int.reduceLE, Int.reduceLT, Int.reduceEq, c1, s3, c2, hpl, w1, w2, w3, hx, hdr]
        exact ⟨by omega, by omega, ⟨⟨by omega, by omega⟩, by omega, hrl⟩, ⟨by omega, ⟨by omega, by omega⟩, by omega, hxs, hrl⟩, by omega, rfl⟩
    · have c1 : ((n : Int) < 2) = True := eq_true (by omega)
      rw [dirsM_0 hm, List.length_nil] at h3
      have hp0 : p = [] := List.eq_nil_of_length_eq_zero h3
      subst hp0
      rw [dirsM_0 hm]
      simp only [go_sem, ↓reduceIte, reduceCtorEq, Nat.reduceAdd, Nat.reduceMul, Nat.reduceEqDiff, Nat.reduceSub, Nat.reduceLT, Nat.reduceLeDiff, Nat.reduceAnd, Nat.reduceShiftRight, Nat.reduceBEq, Nat.reduceBNe, Nat.reduceBneDiff, Nat.reduceBeqDiff, Int.reduceToNat, Int.reduceLE, Int.reduceLT, Int.reduceEq, c1]
      exact ⟨by omega, rfl⟩

abbrev MDown : FM := .f4 (eInt .i64) (eInt .i64) eStr (eList cDigest) (eList cStr).enc (fun n i x p => downM n.toNat i.toNat x p) (fun n i x p => (1 ≤ n ∧ n ≤ 256) ∧ (0 ≤ i ∧ i < n) ∧ x.size ≤ 40 ∧ p.length = (dirsM n.toNat i.toNat).length)
attribute [go_sem] MDown
theorem ok_spec_l4Down : MDown.ok Tryz.prog 35 := FM.f4_ok fun n i x p h => f_l4Down (n.toNat + 1) n i x p ⟨by omega, h⟩

def H_spec_ClashRow : Hint := { fs := [(34, MRootP), (35, MDown)], kp := [(0, [0, 1, 2, 3]), (1, [0, 1, 2, 3]), (2, [0, 1, 2, 3, 11]), (3, []), (4, [0, 1, 2, 3])], an := [] }
attribute [go_sem] H_spec_ClashRow
theorem ok_H_spec_ClashRow : H_spec_ClashRow.ok Tryz.prog := AllOk.okR (.cons ok_spec_PathRoot (.cons ok_spec_l4Down .nil)) .nil mix
theorem f_spec_ClashRow (n i : Int) (l : ByteArray) (p : List Digest) : VFun Tryz.prog 9 [(eInt .i64).enc n, (eInt .i64).enc i, eStr.enc l, (eList cDigest).enc p] [] (eRow.enc (rowM n i l p)) [] := by
  refine VFun_pure (n := 28) (rs := [.tmp 8, .tmp 9]) Tryz.func9 rfl rfl rfl rfl H_spec_ClashRow ok_H_spec_ClashRow _ _ (Nat.le_of_ble_eq_true rfl) (by kernel_rfl) ?_
  by_cases hp : pathB n i l p = true
  · obtain ⟨q1, q2, q3, q4⟩ := pathB_iff hp
    have hq : rootP n i l p = ((foldP (dirsM n.toNat i.toNat).reverse p (leafH l) p.length).2, true) := if_pos hp
    have hr : rowM n i l p = (downM n.toNat i.toNat l p, true) := if_pos hp
    simp only [go_sem, ↓reduceIte, reduceCtorEq, Nat.reduceAdd, Nat.reduceMul, Nat.reduceEqDiff, Nat.reduceSub, Nat.reduceLT, Nat.reduceLeDiff, Nat.reduceAnd, Nat.reduceShiftRight, Nat.reduceBEq, Nat.reduceBNe, Nat.reduceBneDiff, Nat.reduceBeqDiff, Int.reduceToNat, Int.reduceLE, Int.reduceLT, Int.reduceEq, hq, hr]
    exact ⟨q1, ⟨q2.1, by omega⟩, q3, q4⟩
  · have hq : rootP n i l p = ((0, 0, 0, 0), false) := if_neg hp
    have hr : rowM n i l p = ([], false) := if_neg hp
    simp only [go_sem, ↓reduceIte, reduceCtorEq, Nat.reduceAdd, Nat.reduceMul, Nat.reduceEqDiff, Nat.reduceSub, Nat.reduceLT, Nat.reduceLeDiff, Nat.reduceAnd, Nat.reduceShiftRight, Nat.reduceBEq, Nat.reduceBNe, Nat.reduceBneDiff, Nat.reduceBeqDiff, Int.reduceToNat, Int.reduceLE, Int.reduceLT, Int.reduceEq, hq, hr]
theorem ok_spec_ClashRow : MRow.ok Tryz.prog 9 := FM.f4_ok fun n i l p _ => f_spec_ClashRow n i l p

section
variable {P : Program} {g : FuncId} {A1 A2 A3 A4 A5 A6 R : Type}
def FM.f6 (a : CE A1) (b : CE A2) (c : CE A3) (d : CE A4) (e : CE A5) (f : CE A6) (r : R → E) (F : A1 → A2 → A3 → A4 → A5 → A6 → R) (pre : A1 → A2 → A3 → A4 → A5 → A6 → Prop) : FM := ⟨[], fun args rin => match args, rin with
  | [e1, e2, e3, e4, e5, e6], [] => match a.dec e1, b.dec e2, c.dec e3, d.dec e4, e.dec e5, f.dec e6 with
    | some x, some y, some z, some v, some u, some w => some (r (F x y z v u w), [], pre x y z v u w)
    | _, _, _, _, _, _ => none
  | _, _ => none⟩
theorem FM.f6_ok {a : CE A1} {b : CE A2} {c : CE A3} {d : CE A4} {e : CE A5} {f : CE A6} {r : R → E} {F : A1 → A2 → A3 → A4 → A5 → A6 → R} {pre : A1 → A2 → A3 → A4 → A5 → A6 → Prop} (h : ∀ x y z v u w, pre x y z v u w → VFun P g [a.enc x, b.enc y, c.enc z, d.enc v, e.enc u, f.enc w] [] (r (F x y z v u w)) []) :
    (FM.f6 a b c d e f r F pre).ok P g := by
  intro args rin res rout p hm hp
  simp only [FM.f6] at hm
  split at hm
  · split at hm
    · rename_i hx hy hz hv hu hw; cases hm; exact (h _ _ _ _ _ _ hp).weaken (.cons (a.ok _ _ hx) (.cons (b.ok _ _ hy) (.cons (c.ok _ _ hz) (.cons (d.ok _ _ hv) (.cons (e.ok _ _ hu) (.cons (f.ok _ _ hw) .nil))))))
    · cases hm
  · cases hm
end
attribute [go_sem] FM.f6

def clashP (n i : Int) (x : ByteArray) (px : List Digest) (y : ByteArray) (py : List Digest) : Clash × Bool := if pathB n i x px = true ∧ pathB n i y py = true ∧ (rootP n i x px).1 = (rootP n i y py).1 then firstM (rowM n i x px).1 (rowM n i y py).1 else ((⟨#[]⟩, ⟨#[]⟩), false)
theorem rowM_len (n i : Int) (x : ByteArray) (p : List Digest) : (rowM n i x p).1.length ≤ 257 := by
  unfold rowM
  split
  · rename_i hp
    obtain ⟨q1, q2, q3, q4⟩ := pathB_iff hp
    have hdl := dirsM_len n.toNat i.toNat
    rw [row_len]; omega
  · simp
def H_impl_ClashOfPaths : Hint := { fs := [(8, MRow), (52, MRootP), (61, MFirst)], kp := [(0, [0, 1, 2, 3, 4, 5]), (1, [0, 1, 2, 3, 4, 5, 12]), (2, [0, 1, 2, 3, 4, 5, 12, 14, 15]), (3, [0, 1, 2, 3, 4, 5, 12, 14, 15, 16, 17]), (4, [12]), (5, [0, 1, 2, 3, 4, 5, 12]), (6, [0, 1, 4, 5, 12, 18]), (7, [12, 18, 20])], an := [] }
attribute [go_sem] H_impl_ClashOfPaths
theorem ok_H_impl_ClashOfPaths : H_impl_ClashOfPaths.ok Tryz.prog := AllOk.okR (.cons ok_impl_ClashRow (.cons ok_impl_PathRoot (.cons ok_impl_ClashFirst .nil))) .nil mix
theorem f_impl_ClashOfPaths (n i : Int) (x : ByteArray) (px : List Digest) (y : ByteArray) (py : List Digest) : VFun Tryz.prog 26 [(eInt .i64).enc n, (eInt .i64).enc i, eStr.enc x, (eList cDigest).enc px, eStr.enc y, (eList cDigest).enc py] [] (eFirst.enc (clashP n i x px y py)) [] := by
  have hde := dig_eq (rootP n i x px).1 (rootP n i y py).1
  have hx2 : (rootP n i x px).2 = pathB n i x px := by unfold rootP; cases pathB n i x px <;> rfl
  have hy2 : (rootP n i y py).2 = pathB n i y py := by unfold rootP; cases pathB n i y py <;> rfl
  have hrl := rowM_len n i x px
  refine VFun_pure (n := 71) (rs := [.cell 12 33, .tmp 13]) Tryz.func26 rfl rfl rfl rfl H_impl_ClashOfPaths ok_H_impl_ClashOfPaths _ _ (Nat.le_of_ble_eq_true rfl) (by kernel_rfl) ?_
  simp only [go_sem, ↓reduceIte, reduceCtorEq, Nat.reduceAdd, Nat.reduceMul, Nat.reduceEqDiff, Nat.reduceSub, Nat.reduceLT, Nat.reduceLeDiff, Nat.reduceAnd, Nat.reduceShiftRight, Nat.reduceBEq, Nat.reduceBNe, Nat.reduceBneDiff, Nat.reduceBeqDiff, Int.reduceToNat, Int.reduceLE, Int.reduceLT, Int.reduceEq, hde, hx2, hy2]
  refine ite_intro (fun a => ite_intro (fun b => ite_intro (fun c => ?_) fun c => ?_) fun b => ?_) fun a => ?_
  · unfold clashP; rw [if_neg fun h => c h.2.2]
  · exact ⟨by omega, by unfold clashP; rw [if_pos ⟨a, b, Decidable.not_not.1 c⟩]⟩
  · unfold clashP; rw [if_neg fun h => b h.2.1]
  · unfold clashP; rw [if_neg fun h => a h.1]
abbrev MClashP : FM := .f6 (eInt .i64) (eInt .i64) eStr (eList cDigest) eStr (eList cDigest) eFirst.enc clashP (fun _ _ _ _ _ _ => True)
attribute [go_sem] MClashP
theorem ok_impl_ClashOfPaths : MClashP.ok Tryz.prog 26 := FM.f6_ok fun n i x px y py _ => f_impl_ClashOfPaths n i x px y py

def H_spec_l1Rd_pad : Hint := { fs := [], kp := [(0, [0, 1]), (1, [0, 1]), (2, [1, 5])], an := [(2, [0, 0, 3, 0, 8, 31, 0, 0, 192, 511, 1023])], rs := [(16, RPick)] }
attribute [go_sem] H_spec_l1Rd_pad
theorem ok_H_spec_l1Rd_pad : H_spec_l1Rd_pad.ok Tryz.prog := AllOk.okR .nil (.cons ok_spec_l1Rd_pick .nil) mix
theorem f_pad (b : List UInt8) (p : Int) (s : ByteArray) (h0 : 0 ≤ p) (h1 : p + 1 ≤ rdM) (hs : s.size ≤ 1000) : ∃ t : ByteArray × Int, (p ≤ t.2 ∧ t.2 ≤ p + 1 ∧ t.1.size ≤ s.size + 1) ∧ VFun Tryz.prog 20 [rdP, eStr.enc s] [some (rdR b p)] (eStr.enc t.1) [some (rdR b t.2)] := by
  unfold rdM at h1
  have w1 : IntKind.i64.wrap ((s.size : Int) + 1) = (s.size : Int) + 1 := by rw [wrap64] <;> omega
  refine VFun_rel (n := 21) (rs := [.tmp 4]) Tryz.func20 rfl rfl rfl rfl H_spec_l1Rd_pad ok_H_spec_l1Rd_pad  (rin := [rdR b p]) (T := ByteArray × Int) eStr (fun t => t.1) (fun t => [some (rdR b t.2)]) (fun t => p ≤ t.2 ∧ t.2 ≤ p + 1 ∧ t.1.size ≤ s.size + 1) (Nat.le_of_ble_eq_true rfl) (by kernel_rfl) ?_
  simp only [go_sem, ↓reduceIte, reduceCtorEq, Nat.reduceAdd, Nat.reduceMul, Nat.reduceEqDiff, Nat.reduceSub, Nat.reduceLT, Nat.reduceLeDiff, Nat.reduceAnd, Nat.reduceShiftRight, Nat.reduceBEq, Nat.reduceBNe, Nat.reduceBneDiff, Nat.reduceBeqDiff, Int.reduceToNat, Int.reduceLE, Int.reduceLT, Int.reduceEq, w1]
  refine ⟨⟨by omega, by omega⟩, fun v q g => ?_⟩
  have e1 : (s.extract 0 v.toNat).size = v.toNat := by rw [ByteArray.size_extract]; omega
  have e2 : (s.extract v.toNat s.size).size = s.size - v.toNat := by rw [ByteArray.size_extract]; omega
  have e3 : (s.extract 0 v.toNat ++ (⟨#[UInt8.ofNat 255]⟩ : ByteArray) ++ s.extract v.toNat s.size).size = s.size + 1 := by
    rw [ByteArray.size_append, ByteArray.size_append, e1, e2]
    show v.toNat + 1 + _ = _
    omega
  exact ⟨⟨by omega, by omega⟩, by omega, ⟨by omega, by omega, by omega⟩, by omega, (_, q), ⟨by dsimp only; omega, by dsimp only; omega, Nat.le_of_eq e3⟩, rfl, rfl⟩
abbrev RPad : FR := .rd1 eStr eStr.enc (fun _ => 1) (fun s => s.size ≤ 1000) (fun s t => t.size ≤ s.size + 1)
attribute [go_sem] RPad
theorem ok_spec_l1Rd_pad : RPad.ok Tryz.prog 20 := FR.rd1_ok fun b p s h0 h1 h2 => f_pad b p s h0 h1 h2

abbrev eBack := eT2 (CE.st cDigest) eBool (st_x _) (one_x _ _)
attribute [go_sem] eBack
def backM (s : ByteArray) : Digest × Bool := if s.size = 32 then ((wdAt s.data.toList 0, wdAt s.data.toList 8, wdAt s.data.toList 16, wdAt s.data.toList 24), true) else ((0, 0, 0, 0), false)
def H_spec_HashBack : Hint := { fs := [(85, MWord)], kp := [(0, [0]), (1, [0, 2]), (2, [2]), (3, [0, 2])], an := [] }
attribute [go_sem] H_spec_HashBack
theorem ok_H_spec_HashBack : H_spec_HashBack.ok Tryz.prog := AllOk.okR (.cons ok_spec_l1Word .nil) .nil mix
theorem f_HashBack (s : ByteArray) (h : s.size ≤ 1000000) : VFun Tryz.prog 92 [eStr.enc s] [] (eBack.enc (backM s)) [] := by
  refine VFun_pure (n := 17) (rs := [.cell 2 25, .tmp 3]) Tryz.func92 rfl rfl rfl rfl H_spec_HashBack ok_H_spec_HashBack _ _ (Nat.le_of_ble_eq_true rfl) (by kernel_rfl) ?_
  by_cases h3 : s.size = 32
  · have c1 : ((s.size : Int) = 32) = True := eq_true (by omega)
    have hb : backM s = ((wdAt s.data.toList 0, wdAt s.data.toList 8, wdAt s.data.toList 16, wdAt s.data.toList 24), true) := if_pos h3
    simp only [go_sem, ↓reduceIte, reduceCtorEq, Nat.reduceAdd, Nat.reduceMul, Nat.reduceEqDiff, Nat.reduceSub, Nat.reduceLT, Nat.reduceLeDiff, Nat.reduceAnd, Nat.reduceShiftRight, Nat.reduceBEq, Nat.reduceBNe, Nat.reduceBneDiff, Nat.reduceBeqDiff, Int.reduceToNat, Int.reduceLE, Int.reduceLT, Int.reduceEq, c1, hb]
    (repeat' apply And.intro) <;> first | omega | rfl
  · have c1 : ((s.size : Int) = 32) = False := eq_false (by omega)
    have hb : backM s = ((0, 0, 0, 0), false) := if_neg h3
    simp only [go_sem, ↓reduceIte, reduceCtorEq, Nat.reduceAdd, Nat.reduceMul, Nat.reduceEqDiff, Nat.reduceSub, Nat.reduceLT, Nat.reduceLeDiff, Nat.reduceAnd, Nat.reduceShiftRight, Nat.reduceBEq, Nat.reduceBNe, Nat.reduceBneDiff, Nat.reduceBeqDiff, Int.reduceToNat, Int.reduceLE, Int.reduceLT, Int.reduceEq, c1, hb]
abbrev MBack : FM := .f1 eStr eBack.enc backM (fun s => s.size ≤ 1000000)
attribute [go_sem] MBack
theorem ok_spec_HashBack : MBack.ok Tryz.prog 92 := FM.f1_ok fun s h => f_HashBack s h

theorem ba_at {S : ByteArray} {k : Nat} (h : k < S.size) : ∃ r, S.data.toList[k]? = some r := ⟨_, List.getElem?_eq_getElem h⟩

abbrev Row6 := Int × Int × ByteArray × List Digest × ByteArray × List Digest
abbrev row6E (t : Row6) : E := .t [.o (.c (.v (.int .i64 t.1))), .o (.c (.v (.int .i64 t.2.1))), .o (.c (.v (.string t.2.2.1))), .o (.c (.s (t.2.2.2.1.map cDigest.enc))), .o (.c (.v (.string t.2.2.2.2.1))), .o (.c (.s (t.2.2.2.2.2.map cDigest.enc)))]
attribute [go_sem] row6E
abbrev row6P (t : Row6) : Prop := t.2.2.1.size ≤ 41 ∧ t.2.2.2.1.length ≤ 1000 ∧ t.2.2.2.2.1.size ≤ 41 ∧ t.2.2.2.2.2.length ≤ 1000
def s_cp (b : List UInt8) (l : List ByteArray) (i k : Int) (y : ByteArray × Int) : LS := ⟨[(8, .x (.o (.p (1, 100) 0 0 1))), (9, .x (.o (.c (.s (l.map cStr.enc))))), (11, sc (.int .i64 i)), (12, sc (.string y.1)), (13, sc (.int .i64 k))],
  [((1, 100), .bx [[.p (1, 101) 0 0 1]]), ((1, 101), .bx [[.p (1, 102) 0 0 1]]), ((1, 102), .bx [[.p (1, 103) 0 0 1]]), ((1, 103), rdR (b.take 2000) y.2)], 2⟩
attribute [go_sem] s_cp

theorem be8_inj {a b : UInt64} (h : be8 a = be8 b) : a = b := by
  unfold be8 at h
  simp only [List.cons.injEq, and_true] at h
  obtain ⟨h1, h2, h3, h4, h5, h6, h7, h8⟩ := h
  apply UInt64.toNat_inj.1
  have e : ∀ {x y : UInt64} {k : UInt64}, (x >>> k).toUInt8 = (y >>> k).toUInt8 → x.toNat / 2 ^ (k.toNat % 64) % 256 = y.toNat / 2 ^ (k.toNat % 64) % 256 := fun {x y k} h => by
    have := congrArg UInt8.toNat h
    simpa only [UInt64.toNat_toUInt8, UInt64.toNat_shiftRight, Nat.shiftRight_eq_div_pow] using this
  have h1 := e h1
  have h2 := e h2
  have h3 := e h3
  have h4 := e h4
  have h5 := e h5
  have h6 := e h6
  have h7 := e h7
  have h8 : a.toNat % 256 = b.toNat % 256 := by simpa only [UInt64.toNat_toUInt8] using congrArg UInt8.toNat h8
  simp only [show (56 : UInt64).toNat % 64 = 56 from rfl, show (48 : UInt64).toNat % 64 = 48 from rfl, show (40 : UInt64).toNat % 64 = 40 from rfl, show (32 : UInt64).toNat % 64 = 32 from rfl, show (24 : UInt64).toNat % 64 = 24 from rfl, show (16 : UInt64).toNat % 64 = 16 from rfl, show (8 : UInt64).toNat % 64 = 8 from rfl] at h1 h2 h3 h4 h5 h6 h7
  have ha := a.toNat_lt
  have hb := b.toNat_lt
  omega
theorem app8 {a b : UInt64} {l m : List UInt8} (h : be8 a ++ l = be8 b ++ m) : a = b ∧ l = m := by
  obtain ⟨h1, h2⟩ := List.append_inj h rfl
  exact ⟨be8_inj h1, h2⟩
theorem dBy_inj {a b : Digest} (h : dBy a = dBy b) : a = b := by
  obtain ⟨a1, a2, a3, a4⟩ := a
  obtain ⟨b1, b2, b3, b4⟩ := b
  unfold dBy at h
  dsimp only at h
  simp only [List.append_assoc] at h
  obtain ⟨e1, h⟩ := app8 h
  obtain ⟨e2, h⟩ := app8 h
  obtain ⟨e3, h⟩ := app8 h
  have e4 := be8_inj h
  rw [e1, e2, e3, e4]
theorem pairT_inj {a b c d : Digest} (h : pairT a b = pairT c d) : a = c ∧ b = d := by
  unfold pairT at h
  have h1 : (1 :: (dBy a ++ dBy b)) = (1 :: (dBy c ++ dBy d)) := by
    have := congrArg (fun s : ByteArray => s.data.toList) h
    simpa using this
  rw [List.cons.injEq] at h1
  obtain ⟨h2, h3⟩ := List.append_inj h1.2 (by rw [dBy_len, dBy_len])
  exact ⟨dBy_inj h2, dBy_inj h3⟩
theorem leafT_inj {x y : ByteArray} (h : leafT x = leafT y) : x = y := by
  have := congrArg (fun s : ByteArray => s.data.toList) h
  simp only [leafT, ByteArray.data_append, Array.toList_append] at this
  exact ByteArray.ext (Array.toList_inj.1 (List.append_cancel_left this))
theorem stepP_inj {b : Bool} {u v x y : Digest} (h : stepP b u x = stepP b v y) : u = v ∧ x = y := by
  unfold stepP at h
  cases b
  · exact ⟨(Prod.mk.inj h).2, (Prod.mk.inj h).1⟩
  · exact ⟨(Prod.mk.inj h).1, (Prod.mk.inj h).2⟩

theorem firstM_no : ∀ {a b : List ByteArray}, a.length = b.length → (firstM a b).2 = false → a = b
  | [], [], _, _ => rfl
  | x :: a, y :: b, hl, h => by
    by_cases hxy : x = y
    · subst hxy
      rw [firstM_eq] at h
      rw [firstM_no (by simpa using hl) h]
    · rw [firstM_ne hxy] at h; cases h
theorem firstM_same : ∀ (a : List ByteArray), firstM a a = ((⟨#[]⟩, ⟨#[]⟩), false)
  | [] => firstM_l
  | x :: a => by rw [firstM_eq]; exact firstM_same a
theorem firstM_at : ∀ {a b : List ByteArray} {c : Clash}, firstM a b = (c, true) → ∃ k : Nat, a[k]? = some c.1 ∧ b[k]? = some c.2 ∧ ¬ c.1 = c.2 ∧ ∀ j, j < k → a[j]? = b[j]?
  | [], _, c, h => by rw [firstM_l] at h; cases h
  | _ :: _, [], c, h => by rw [firstM_r] at h; cases h
  | x :: a, y :: b, c, h => by
    by_cases hxy : x = y
    · subst hxy
      rw [firstM_eq] at h
      obtain ⟨k, h1, h2, h3, h4⟩ := firstM_at h
      refine ⟨k + 1, h1, h2, h3, fun j hj => ?_⟩
      cases j with
      | zero => rfl
      | succ j => exact h4 j (by omega)
    · rw [firstM_ne hxy] at h
      cases h
      exact ⟨0, rfl, rfl, hxy, fun j hj => absurd hj (by omega)⟩

theorem textAt_size (bs : List Bool) (p : List Digest) (x : ByteArray) (h : x.size ≤ 41) (j : Nat) : (textAt bs p x j).size ≤ 65 := by
  cases j with
  | zero => show (leafT x).size ≤ 65; rw [leafT_size]; omega
  | succ j => exact Nat.le_of_eq (pairT_size _ _)
theorem row_inj {bs : List Bool} {p q : List Digest} {x y : ByteArray} {m : Nat} (hp : p.length = m) (hq : q.length = m)
    (h : textsM (foldP bs p (leafH x) m).1 ++ [leafT x] = textsM (foldP bs q (leafH y) m).1 ++ [leafT y]) : x = y ∧ p = q := by
  have ht : ∀ j, j ≤ m → textAt bs p x j = textAt bs q y j := fun j hj => by
    have h1 := row_at bs p x m (m - j) (by omega)
    have h2 := row_at bs q y m (m - j) (by omega)
    rw [h, h2, show m - (m - j) = j by omega] at h1
    exact (Option.some.inj h1).symm
  refine ⟨leafT_inj (ht 0 (Nat.zero_le _)), List.ext_getElem? fun j => ?_⟩
  rcases Nat.lt_or_ge j m with hj | hj
  · have h1 := (stepP_inj (Prod.ext (pairT_inj (ht (j + 1) hj)).1 (pairT_inj (ht (j + 1) hj)).2)).2
    rw [List.getD_eq_getElem?_getD, List.getD_eq_getElem?_getD, List.getElem?_eq_getElem (by omega), List.getElem?_eq_getElem (by omega)] at h1
    rw [List.getElem?_eq_getElem (by omega), List.getElem?_eq_getElem (by omega)]
    exact congrArg some h1
  · rw [List.getElem?_eq_none (by omega), List.getElem?_eq_none (by omega)]
theorem row_clash {bs : List Bool} {p q : List Digest} {x y : ByteArray} {m : Nat} {c : Clash} (hx : x.size ≤ 41) (hy : y.size ≤ 41)
    (hr : (foldP bs p (leafH x) m).2 = (foldP bs q (leafH y) m).2)
    (h : firstM (textsM (foldP bs p (leafH x) m).1 ++ [leafT x]) (textsM (foldP bs q (leafH y) m).1 ++ [leafT y]) = (c, true)) :
    (c.1.size ≤ 65 ∧ c.2.size ≤ 65) ∧ clashM c = true := by
  obtain ⟨k, h1, h2, h3, h4⟩ := firstM_at h
  have hk : k ≤ m := by
    have := (List.getElem?_eq_some_iff.1 h1).1
    rw [row_len] at this; omega
  rw [row_at bs p x m k hk] at h1
  rw [row_at bs q y m k hk] at h2
  have e1 := Option.some.inj h1
  have e2 := Option.some.inj h2
  have s1 : c.1.size ≤ 65 := by rw [← e1]; exact textAt_size _ _ _ hx _
  have s2 : c.2.size ≤ 65 := by rw [← e2]; exact textAt_size _ _ _ hy _
  have hh : hashOf c.1 = hashOf c.2 := by
    rw [← e1, ← e2, textAt_hash, textAt_hash]
    rcases Nat.eq_zero_or_pos k with rfl | hk0
    · exact hr
    · have h5 := h4 (k - 1) (by omega)
      rw [row_at bs p x m (k - 1) (by omega), row_at bs q y m (k - 1) (by omega), show m - (k - 1) = (m - k) + 1 by omega] at h5
      have h6 := pairT_inj (Option.some.inj h5)
      exact (stepP_inj (Prod.ext h6.1 h6.2)).1
  refine ⟨⟨s1, s2⟩, ?_⟩
  unfold clashM
  rw [decide_eq_true h3, decide_eq_true (show ((c.1.size : Nat) : Int) ≤ 20000 by omega), decide_eq_true (show ((c.2.size : Nat) : Int) ≤ 20000 by omega), decide_eq_true hh]; rfl

/-- Two paths at one place: their rows part just where leaves or paths differ; where they make one root, what is told is a clash. -/
theorem paths_part {n i : Int} {x y : ByteArray} {px py : List Digest} (h1 : pathB n i x px = true) (h2 : pathB n i y py = true) :
    (firstM (rowM n i x px).1 (rowM n i y py).1).2 = decide (¬ (x = y ∧ px = py)) := by
  have hx := pathB_iff h1
  have hy := pathB_iff h2
  have r1 : rowM n i x px = (textsM (foldP (dirsM n.toNat i.toNat).reverse px (leafH x) px.length).1 ++ [leafT x], true) := if_pos h1
  have r2 : rowM n i y py = (textsM (foldP (dirsM n.toNat i.toNat).reverse py (leafH y) py.length).1 ++ [leafT y], true) := if_pos h2
  rw [r1, r2]
  have hl : py.length = px.length := by rw [hx.2.2.2, hy.2.2.2]
  rw [hl]
  cases hf : (firstM (textsM (foldP (dirsM n.toNat i.toNat).reverse px (leafH x) px.length).1 ++ [leafT x]) (textsM (foldP (dirsM n.toNat i.toNat).reverse py (leafH y) px.length).1 ++ [leafT y])).2 with
  | false => exact (decide_eq_false (not_not_intro (row_inj rfl hl (firstM_no (by rw [row_len, row_len]) hf)))).symm
  | true =>
    refine (decide_eq_true ?_).symm
    rintro ⟨rfl, rfl⟩
    rw [firstM_same] at hf
    cases hf
theorem paths_clash {n i : Int} {x y : ByteArray} {px py : List Digest} {c : Clash} (h : clashP n i x px y py = (c, true)) : (c.1.size ≤ 65 ∧ c.2.size ≤ 65) ∧ clashM c = true := by
  unfold clashP at h
  split at h
  · rename_i hh
    obtain ⟨h1, h2, h3⟩ := hh
    have hx := pathB_iff h1
    have hy := pathB_iff h2
    have r1 : rowM n i x px = (textsM (foldP (dirsM n.toNat i.toNat).reverse px (leafH x) px.length).1 ++ [leafT x], true) := if_pos h1
    have r2 : rowM n i y py = (textsM (foldP (dirsM n.toNat i.toNat).reverse py (leafH y) py.length).1 ++ [leafT y], true) := if_pos h2
    have t1 : rootP n i x px = ((foldP (dirsM n.toNat i.toNat).reverse px (leafH x) px.length).2, true) := if_pos h1
    have t2 : rootP n i y py = ((foldP (dirsM n.toNat i.toNat).reverse py (leafH y) py.length).2, true) := if_pos h2
    have hl : py.length = px.length := by rw [hx.2.2.2, hy.2.2.2]
    rw [r1, r2, hl] at h
    rw [t1, t2, hl] at h3
    exact row_clash (by omega) (by omega) h3 h
  · cases h
theorem firstM_zero : ∀ {a b : List ByteArray}, (firstM a b).2 = false → firstM a b = ((⟨#[]⟩, ⟨#[]⟩), false)
  | [], _, _ => firstM_l
  | _ :: _, [], _ => firstM_r
  | x :: a, y :: b, h => by
    by_cases hxy : x = y
    · subst hxy; rw [firstM_eq] at h ⊢; exact firstM_zero h
    · rw [firstM_ne hxy] at h; cases h
/-- What clashP says, in three values. -/
theorem clashP_cases (n i : Int) (x : ByteArray) (px : List Digest) (y : ByteArray) (py : List Digest) :
    (clashP n i x px y py).2 = (pathB n i x px && (pathB n i y py && (decide ((rootP n i x px).1 = (rootP n i y py).1) && (firstM (rowM n i x px).1 (rowM n i y py).1).2))) ∧
    ((clashP n i x px y py).2 = false → (clashP n i x px y py).1 = ((⟨#[]⟩, ⟨#[]⟩) : Clash)) ∧
    ((clashP n i x px y py).2 = true → (clashP n i x px y py).1 = (firstM (rowM n i x px).1 (rowM n i y py).1).1) := by
  unfold clashP
  by_cases h : pathB n i x px = true ∧ pathB n i y py = true ∧ (rootP n i x px).1 = (rootP n i y py).1
  · rw [if_pos h, h.1, h.2.1, decide_eq_true h.2.2]
    exact ⟨by rw [Bool.true_and, Bool.true_and, Bool.true_and], fun h => by rw [firstM_zero h], fun _ => rfl⟩
  · rw [if_neg h]
    refine ⟨?_, fun _ => rfl, fun h => by cases h⟩
    symm
    rw [Bool.and_eq_false_iff, Bool.and_eq_false_iff, Bool.and_eq_false_iff]
    cases h1 : pathB n i x px with
    | false => exact .inl rfl
    | true => cases h2 : pathB n i y py with
      | false => exact .inr (.inl rfl)
      | true => exact .inr (.inr (.inl (decide_eq_false fun h3 => h ⟨h1, h2, h3⟩)))

end Go.Proofs.YtcgkhljolflenaaGreatW.V


