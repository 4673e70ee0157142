/- The law: each step of a proof hashes to what the step above it says. No condition but each theorem's own. -/
import Derived.Test.YtcgkhljolflenaaFQE
namespace Go.Proofs.YtcgkhljolflenaaW.V
open Go Go.Proofs
set_option linter.unusedSimpArgs false
set_option linter.unusedVariables false
set_option maxRecDepth 8000
set_option maxHeartbeats 4000000


theorem foldP_at (bs : List Bool) (ds : List Digest) (d0 : Digest) : ∀ (m j : Nat), j < m → (foldP bs ds d0 m).1[j]? = some (stepP (bs.getD j true) (foldP bs ds d0 j).2 (ds.getD j (0, 0, 0, 0)))
  | 0, j, h => absurd h (by omega)
  | m + 1, j, h => by
    have hl := foldP_len bs ds d0 m
    rw [foldP]
    rcases Nat.lt_or_ge j m with h1 | h1
    · rw [List.getElem?_append_left (by omega)]
      exact foldP_at bs ds d0 m j h1
    · obtain rfl : j = m := by omega
      rw [List.getElem?_append_right (by omega), hl, Nat.sub_self]; rfl
/-- The text at a height. -/
def textAt (bs : List Bool) (ds : List Digest) (x : ByteArray) : Nat → ByteArray
  | 0 => leafT x
  | j + 1 => pairT (stepP (bs.getD j true) (foldP bs ds (leafH x) j).2 (ds.getD j (0, 0, 0, 0))).1 (stepP (bs.getD j true) (foldP bs ds (leafH x) j).2 (ds.getD j (0, 0, 0, 0))).2
theorem textAt_hash (bs : List Bool) (ds : List Digest) (x : ByteArray) : ∀ j, hashOf (textAt bs ds x j) = (foldP bs ds (leafH x) j).2
  | 0 => rfl
  | _ + 1 => rfl
theorem row_at (bs : List Bool) (ds : List Digest) (x : ByteArray) (m k : Nat) (h : k ≤ m) : (textsM (foldP bs ds (leafH x) m).1 ++ [leafT x])[k]? = some (textAt bs ds x (m - k)) := by
  have hl := foldP_len bs ds (leafH x) m
  have htl : (textsM (foldP bs ds (leafH x) m).1).length = m := by simp [textsM, hl]
  rcases Nat.lt_or_ge k m with h1 | h1
  · obtain ⟨j, hj⟩ : ∃ j, m - k = j + 1 := ⟨m - k - 1, by omega⟩
    rw [List.getElem?_append_left (by omega), textsM, List.getElem?_map, List.getElem?_reverse (by omega), hl, show m - 1 - k = j by omega, foldP_at _ _ _ _ _ (by omega), hj]; rfl
  · obtain rfl : k = m := by omega
    rw [List.getElem?_append_right (by omega), htl, Nat.sub_self]; rfl
theorem row_len (bs : List Bool) (ds : List Digest) (x : ByteArray) (m : Nat) : (textsM (foldP bs ds (leafH x) m).1 ++ [leafT x]).length = m + 1 := by
  simp [textsM, foldP_len]

theorem ba_extract (l : List UInt8) (i j : Nat) : (⟨l.toArray⟩ : ByteArray).extract i j = ⟨((l.drop i).take (j - i)).toArray⟩ := by
  apply ByteArray.ext
  rw [ByteArray.data_extract]
  simp [List.extract]
theorem hbM_eq (d : Digest) : hbM d = ⟨(be8 d.1 ++ be8 d.2.1 ++ be8 d.2.2.1 ++ be8 d.2.2.2).toArray⟩ := rfl
theorem pairT_l (u v : Digest) : (pairT u v).extract 1 33 = hbM u := by
  rw [pairT, ba_extract, hbM, List.drop_one, List.tail_cons, List.take_left' (dBy_len u)]
theorem pairT_r (u v : Digest) : (pairT u v).extract 33 65 = hbM v := by
  rw [pairT, ba_extract, hbM, show (33 : Nat) = 32 + 1 from rfl, List.drop_succ_cons, List.drop_left' (dBy_len u), List.take_of_length_le (Nat.le_of_eq (dBy_len v))]

def H_laws_FnClashRows : Hint := { fs := [(8, MRow), (9, MRootP), (10, MIf), (11, MHashOf), (12, MHashBytes)], kp := [(0, [0]), (1, [0]), (2, []), (3, [0]), (4, [3, 4, 5, 6]), (5, [3, 4, 5, 6, 7, 8]), (6, [5, 6, 7, 8, 9, 10]), (7, []), (8, [5, 7, 8, 9]), (9, []), (10, [5, 7, 9]), (11, []), (12, [7]), (13, [7, 11]), (15, [7, 11]), (16, [7, 11, 12]), (17, []), (14, [7, 11]), (18, [])], an := [(10, [0, 1, 3, 7, 0, 31, 63, 127, 127, 383, 895, 2047, 4095, 127, 8319, 32767, 65535])], rs := [(7, RDrawClashRow)] }
attribute [go_sem] H_laws_FnClashRows
theorem ok_H_laws_FnClashRows : H_laws_FnClashRows.ok Try.prog := AllOk.okR (.cons ok_impl_ClashRow (.cons ok_spec_PathRoot (.cons ok_laws_ifInt (.cons ok_spec_HashOf (.cons ok_spec_HashBytes .nil))))) (.cons ok_spec_DrawClashRow .nil) mix
theorem f_FnClashRows (b : List UInt8) (_ : b.length ≤ maxLen ∧ ∀ x ∈ b, True) : VFun Try.prog 3 [(eList cU8).enc b] [] (eBool.enc true) [] := by
  refine VFun_pure (n := 110) (rs := [.tmp 2]) Try.func3 rfl rfl rfl rfl H_laws_FnClashRows ok_H_laws_FnClashRows _ _ (Nat.le_of_ble_eq_true rfl) (by kernel_rfl) ?_
  simp only [go_sem, ↓reduceIte, reduceCtorEq, Nat.reduceAdd, Nat.reduceMul, Nat.reduceEqDiff, Nat.reduceSub, Nat.reduceLT, Nat.reduceLeDiff, Nat.reduceAnd, Nat.reduceShiftRight, Nat.reduceBEq, Nat.reduceBNe, Nat.reduceBneDiff, Nat.reduceBeqDiff, Int.reduceToNat, Int.reduceLE, Int.reduceLT, Int.reduceEq]
  refine ite_intro (fun _ => trivial) fun h => ⟨by omega, ?_⟩
  rintro ⟨n, i, x, p⟩ ⟨g1, g2⟩
  dsimp only at g1 g2
  by_cases hp : pathB n i x p = true
  · have hr : rowM n i x p = (textsM (foldP (dirsM n.toNat i.toNat).reverse p (leafH x) p.length).1 ++ [leafT x], true) := if_pos hp
    have hq : rootP n i x p = ((foldP (dirsM n.toNat i.toNat).reverse p (leafH x) p.length).2, true) := if_pos hp
    have hra := row_at (dirsM n.toNat i.toNat).reverse p x p.length
    have hrl := row_len (dirsM n.toNat i.toNat).reverse p x p.length
    have hth := textAt_hash (dirsM n.toNat i.toNat).reverse p x
    generalize (dirsM n.toNat i.toNat).reverse = bs at *
    generalize hR : textsM (foldP bs p (leafH x) p.length).1 ++ [leafT x] = R at hr hra hrl
    have hts : ∀ j, (textAt bs p x j).size ≤ 65 := fun j => by
      cases j with
      | zero => show (leafT x).size ≤ 65; rw [leafT_size]; omega
      | succ j => exact Nat.le_of_eq (pairT_size _ _)
    have w1 : IntKind.i64.wrap ((p.length : Int) + 1) = ((p.length + 1 : Nat) : Int) := by rw [wrap64] <;> omega
    have c1 : (((p.length + 1 : Nat) : Int) = ((p.length + 1 : Nat) : Int)) = True := eq_true rfl
    have h0 : R[0]? = some (textAt bs p x p.length) := by have := hra 0 (Nat.zero_le _); simpa using this
    have hm : R[p.length]? = some (leafT x) := by have := hra p.length (Nat.le_refl _); rw [Nat.sub_self] at this; exact this
    have w2 : IntKind.i64.wrap (((p.length + 1 : Nat) : Int) - 1) = (p.length : Int) := by rw [wrap64] <;> omega
    simp only [go_sem, ↓reduceIte, reduceCtorEq, Nat.reduceAdd, Nat.reduceMul, Nat.reduceEqDiff, Nat.reduceSub, Nat.reduceLT, Nat.reduceLeDiff, Nat.reduceAnd, Nat.reduceShiftRight, Nat.reduceBEq, Nat.reduceBNe, Nat.reduceBneDiff, Nat.reduceBeqDiff, Int.reduceToNat, Int.reduceLE, Int.reduceLT, Int.reduceEq, beq_self_eq_true, hr, hq, w1, hrl, h0, hm, w2, hth]
    refine ⟨Nat.le_trans (hts _) (by omega), by omega, ite_intro (fun hne => absurd rfl hne) fun _ => ?_⟩
    refine LoopV.go (H := H_laws_FnClashRows) ok_H_laws_FnClashRows (by kernel_rfl) (fun k : Nat => ⟨[(7, .x (.o (.c (.s (R.map cStr.enc))))), (11, sc (.int .i64 k))], [], 2⟩) (fun k => p.length + 1 - k) (fun k => 1 ≤ k ∧ k ≤ p.length + 1) ?_ 1 ⟨by omega, by omega⟩
    rintro k ⟨hk1, hk2⟩
    by_cases hlt : k < p.length + 1
    · have d1 : ((k : Int) < ((p.length + 1 : Nat) : Int)) = True := eq_true (by omega)
      have hx := hra k (by omega)
      have hy := hra (k - 1) (by omega)
      rw [show p.length - (k - 1) = (p.length - k) + 1 by omega] at hy
      have ht := textAt_hash bs p x (p.length - k)
      generalize hj : p.length - k = j at hx hy ht
      obtain ⟨u, v, huv, hor⟩ : ∃ u v, textAt bs p x (j + 1) = pairT u v ∧ (u = (foldP bs p (leafH x) j).2 ∨ v = (foldP bs p (leafH x) j).2) := by
        refine ⟨_, _, rfl, ?_⟩
        unfold stepP
        split
        · exact .inl rfl
        · exact .inr rfl
      rw [huv] at hy
      generalize (foldP bs p (leafH x) j).2 = D at ht hor
      have v1 : IntKind.i64.wrap ((k : Int) - 1) = ((k - 1 : Nat) : Int) := by rw [wrap64] <;> omega
      have v2 : IntKind.i64.wrap ((k : Int) + 1) = ((k + 1 : Nat) : Int) := by rw [wrap64] <;> omega
      have hsz := pairT_size u v
      have hsj := hts j
      have d2 : (k - 1 < R.length) = True := eq_true (by omega)
      have d3 : (k < R.length) = True := eq_true (by omega)
      have c65 : (((65 : Nat) : Int) = 65) = True := eq_true rfl
      by_cases hc : (pairT u v).extract 1 33 = (⟨(be8 D.1 ++ be8 D.2.1 ++ be8 D.2.2.1 ++ be8 D.2.2.2).toArray⟩ : ByteArray)
      · have e1 : ((pairT u v).extract 1 33 = (⟨(be8 D.1 ++ be8 D.2.1 ++ be8 D.2.2.1 ++ be8 D.2.2.2).toArray⟩ : ByteArray)) = True := eq_true hc
        simp only [go_sem, ↓reduceIte, reduceCtorEq, Nat.reduceAdd, Nat.reduceMul, Nat.reduceEqDiff, Nat.reduceSub, Nat.reduceLT, Nat.reduceLeDiff, Nat.reduceAnd, Nat.reduceShiftRight, Nat.reduceBEq, Nat.reduceBNe, Nat.reduceBneDiff, Nat.reduceBeqDiff, Int.reduceToNat, Int.reduceLE, Int.reduceLT, Int.reduceEq, hrl, d1, hx, hy, ht, v1, v2, hsz, c65, e1]
        refine ⟨Nat.le_trans hsj (by decide), ?_⟩
        clear hsj hsz hts g1 hth ht e1
        exact ⟨by decide, k + 1, ⟨by omega, by omega⟩, by omega, rfl⟩
      · have hv := hor.resolve_left fun hu => hc (by rw [pairT_l, hu, hbM_eq])
        have e1 : ((pairT u v).extract 33 65 = (⟨(be8 D.1 ++ be8 D.2.1 ++ be8 D.2.2.1 ++ be8 D.2.2.2).toArray⟩ : ByteArray)) = True := eq_true (by rw [pairT_r, hv, hbM_eq])
        have e2 : ((pairT u v).extract 1 33 = (⟨(be8 D.1 ++ be8 D.2.1 ++ be8 D.2.2.1 ++ be8 D.2.2.2).toArray⟩ : ByteArray)) = False := eq_false hc
        simp only [go_sem, ↓reduceIte, reduceCtorEq, Nat.reduceAdd, Nat.reduceMul, Nat.reduceEqDiff, Nat.reduceSub, Nat.reduceLT, Nat.reduceLeDiff, Nat.reduceAnd, Nat.reduceShiftRight, Nat.reduceBEq, Nat.reduceBNe, Nat.reduceBneDiff, Nat.reduceBeqDiff, Int.reduceToNat, Int.reduceLE, Int.reduceLT, Int.reduceEq, hrl, d1, hx, hy, ht, v1, v2, hsz, c65, e1, e2]
        refine ⟨Nat.le_trans hsj (by decide), ?_⟩
        clear hsj hsz hts g1 hth ht e1
        exact ⟨by decide, ⟨by decide, by decide⟩, k + 1, ⟨by omega, by omega⟩, by omega, rfl⟩
    · have d1 : ((k : Int) < ((p.length + 1 : Nat) : Int)) = False := eq_false (by omega)
      simp only [go_sem, ↓reduceIte, reduceCtorEq, Nat.reduceAdd, Nat.reduceMul, Nat.reduceEqDiff, Nat.reduceSub, Nat.reduceLT, Nat.reduceLeDiff, Nat.reduceAnd, Nat.reduceShiftRight, Nat.reduceBEq, Nat.reduceBNe, Nat.reduceBneDiff, Nat.reduceBeqDiff, Int.reduceToNat, Int.reduceLE, Int.reduceLT, Int.reduceEq, hrl, d1]
  · have hr : rowM n i x p = ([], false) := if_neg hp
    have hq : rootP n i x p = ((0, 0, 0, 0), false) := if_neg hp
    simp only [go_sem, ↓reduceIte, reduceCtorEq, Nat.reduceAdd, Nat.reduceMul, Nat.reduceEqDiff, Nat.reduceSub, Nat.reduceLT, Nat.reduceLeDiff, Nat.reduceAnd, Nat.reduceShiftRight, Nat.reduceBEq, Nat.reduceBNe, Nat.reduceBneDiff, Nat.reduceBeqDiff, Int.reduceToNat, Int.reduceLE, Int.reduceLT, Int.reduceEq, beq_self_eq_true, hr, hq]

end Go.Proofs.YtcgkhljolflenaaW.V

