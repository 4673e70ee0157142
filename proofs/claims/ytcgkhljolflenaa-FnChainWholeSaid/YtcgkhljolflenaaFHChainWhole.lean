/- The law: a chain of growths cut in two leads to the same point. No condition but each theorem's own. -/
import Derived.Test.YtcgkhljolflenaaFGR
namespace Go.Proofs.YtcgkhljolflenaaW.V
open Go Go.Proofs
set_option linter.unusedSimpArgs false
set_option linter.unusedVariables false
set_option maxRecDepth 8000
set_option maxHeartbeats 4000000


theorem chainF_app : ∀ (a b : List Growth) (p : Point), chainF p (a ++ b) = (chainF p a).bind fun q => chainF q b
  | [], b, p => rfl
  | g :: a, b, p => by
    rw [List.cons_append, chainF, chainF]
    split
    · exact chainF_app a b g.1
    · rfl
theorem chainF_end : ∀ (a : List Growth) (p q : Point), chainF p a = some q → (a = [] ∧ q = p) ∨ ∃ g, a[a.length - 1]? = some g ∧ q = g.1
  | [], p, q, h => .inl ⟨rfl, by cases h; rfl⟩
  | g :: a, p, q, h => by
    rw [chainF] at h
    split at h
    · rcases chainF_end a g.1 q h with ⟨rfl, h2⟩ | ⟨x, h1, h2⟩
      · exact .inr ⟨g, rfl, h2⟩
      · refine .inr ⟨x, ?_, h2⟩
        have h3 : a ≠ [] := fun h => by rw [h] at h1; cases h1
        have h4 := List.length_pos_iff.2 h3
        rw [List.length_cons, Nat.add_sub_cancel, show a.length = (a.length - 1) + 1 by omega, List.getElem?_cons_succ]
        exact h1
    · cases h
theorem ptEq (x y : Point) : (decide (x.1 = y.1) && (decide (x.2.1 = y.2.1) && (decide (x.2.2.1 = y.2.2.1) && (decide (x.2.2.2.1 = y.2.2.2.1) && decide (x.2.2.2.2 = y.2.2.2.2))))) = decide (x = y) := by
  obtain ⟨a, b, c, d, e⟩ := x
  obtain ⟨a', b', c', d', e'⟩ := y
  rw [Bool.eq_iff_iff]
  simp only [Bool.and_eq_true, decide_eq_true_eq, Prod.mk.injEq]

def H_laws_FnChainWhole : Hint := { fs := [(21, MChain), (22, MChain)], kp := [(0, [0]), (1, [0]), (2, []), (3, [0]), (4, [0, 3, 4]), (5, [0, 3, 4, 5, 6]), (6, [0, 3, 4, 5, 6, 7, 8]), (7, []), (8, [0, 3, 4, 5, 6]), (9, []), (10, [0, 3, 4, 5]), (11, [3, 4, 5, 9]), (12, [3, 4, 5, 9, 10, 11]), (13, [3, 4, 5, 11, 12, 13])], an := [(11, [0, 0, 0, 6, 15, 31, 63, 63, 0, 383, 1023]), (12, [0, 0, 0, 6, 15, 31, 63, 63, 0, 383, 1023]), (13, [0, 1, 3, 7, 15, 31, 31, 127, 255, 511, 1023, 2047, 4095, 8191, 16383, 16383, 65535, 131071, 262143, 524287, 1048575, 2097151, 4194303, 8388607, 8388607, 8388607, 41943039, 109051903, 260046847, 528482303, 1065353215, 2147483647, 4294967295, 8589934591, 17179869183, 34359738367])], rs := [(20, RDrawCh), (23, RAt)], cut := [4, 10, 11] }
attribute [go_sem] H_laws_FnChainWhole
theorem ok_H_laws_FnChainWhole : H_laws_FnChainWhole.ok Try.prog := AllOk.okR (.cons ok_impl_ChainEnd (.cons ok_spec_ChainEnd .nil)) (.cons ok_spec_DrawChainEnd (.cons ok_laws_at .nil)) mix
theorem f_FnChainWhole (code : List UInt8) (h : code.length ≤ maxLen ∧ ∀ x ∈ code, True) : VFun Try.prog 5 [(eList cU8).enc code] [] (eBool.enc true) [] := by
  obtain ⟨hc, -⟩ := h
  unfold maxLen at hc
  refine VFun_pure (n := 102) (rs := [.tmp 2]) Try.func5 rfl rfl rfl rfl H_laws_FnChainWhole ok_H_laws_FnChainWhole _ _ (Nat.le_of_ble_eq_true rfl) (by kernel_rfl) ?_
  by_cases hlen : (1048576 : Int) < code.length
  · simp only [go_sem, ↓reduceIte, reduceCtorEq, Nat.reduceAdd, Nat.reduceMul, Nat.reduceEqDiff, Nat.reduceSub, Nat.reduceLT, Nat.reduceLeDiff, Nat.reduceAnd, Nat.reduceShiftRight, Nat.reduceBEq, Nat.reduceBNe, Nat.reduceBneDiff, Nat.reduceBeqDiff, Int.reduceToNat, Int.reduceLE, Int.reduceLT, Int.reduceEq, hlen]
  simp only [go_sem, ↓reduceIte, reduceCtorEq, Nat.reduceAdd, Nat.reduceMul, Nat.reduceEqDiff, Nat.reduceSub, Nat.reduceLT, Nat.reduceLeDiff, Nat.reduceAnd, Nat.reduceShiftRight, Nat.reduceBEq, Nat.reduceBNe, Nat.reduceBneDiff, Nat.reduceBeqDiff, Int.reduceToNat, Int.reduceLE, Int.reduceLT, Int.reduceEq, hlen]
  refine CutS.intro (H := H_laws_FnChainWhole) ok_H_laws_FnChainWhole (by kernel_rfl) (by kernel_rfl) (fun y : Point × List Growth => ⟨[(0, (eList cU8).enc code), (3, .x (.o (.p (1, 100) 0 0 1))), (4, .x (.o (.c (.s (y.2.map cGrowth.enc)))))], [((1, 100), bxPt y.1)], 2⟩) chainP ?_ ?_
  · simp only [go_sem, ↓reduceIte, reduceCtorEq, Nat.reduceAdd, Nat.reduceMul, Nat.reduceEqDiff, Nat.reduceSub, Nat.reduceLT, Nat.reduceLeDiff, Nat.reduceAnd, Nat.reduceShiftRight, Nat.reduceBEq, Nat.reduceBNe, Nat.reduceBneDiff, Nat.reduceBeqDiff, Int.reduceToNat, Int.reduceLE, Int.reduceLT, Int.reduceEq]
    exact ⟨by omega, fun t ht => ⟨t, ht, rfl⟩⟩
  rintro ⟨f, gs⟩ ⟨k1, k2⟩
  dsimp only at k1 k2
  have kA : gs.length ≤ 1048576 ∧ ∀ g ∈ gs, g.2.length ≤ 1048576 := ⟨by omega, fun g hg => by have := k2 g hg; omega⟩
  obtain ⟨C, hC⟩ : ∃ C, chainM f gs = C := ⟨_, rfl⟩
  obtain ⟨e, ok⟩ := C
  have hb : (ok == ok) = true := beq_self_eq_true _
  simp only [go_sem, ↓reduceIte, reduceCtorEq, Nat.reduceAdd, Nat.reduceMul, Nat.reduceEqDiff, Nat.reduceSub, Nat.reduceLT, Nat.reduceLeDiff, Nat.reduceAnd, Nat.reduceShiftRight, Nat.reduceBEq, Nat.reduceBNe, Nat.reduceBneDiff, Nat.reduceBeqDiff, Int.reduceToNat, Int.reduceLE, Int.reduceLT, Int.reduceEq, hC, hb, ptEq, decide_true]
  refine ⟨kA, kA, ?_⟩
  cases ok
  case false =>
    refine CutS.intro (H := H_laws_FnChainWhole) ok_H_laws_FnChainWhole (by kernel_rfl) (by kernel_rfl) (fun _ : Unit => ⟨[], [], 2⟩) (fun _ => False) ?_ ?_
    · simp only [go_sem, ↓reduceIte, reduceCtorEq, Nat.reduceAdd, Nat.reduceMul, Nat.reduceEqDiff, Nat.reduceSub, Nat.reduceLT, Nat.reduceLeDiff, Nat.reduceAnd, Nat.reduceShiftRight, Nat.reduceBEq, Nat.reduceBNe, Nat.reduceBneDiff, Nat.reduceBeqDiff, Int.reduceToNat, Int.reduceLE, Int.reduceLT, Int.reduceEq]
    exact fun _ h => h.elim
  have h8 : ¬ 256 < gs.length := fun h8 => by rw [chainM_big h8] at hC; cases hC
  have hF : chainF f gs = some e := by
    cases hq : chainF f gs with
    | some q => rw [chainM_at h8 hq] at hC; cases hC; rfl
    | none => rw [chainM_no h8 hq] at hC; cases hC
  refine CutS.intro (H := H_laws_FnChainWhole) ok_H_laws_FnChainWhole (by kernel_rfl) (by kernel_rfl) (fun _ : Unit => ⟨[(0, (eList cU8).enc code), (3, .x (.o (.p (1, 100) 0 0 1))), (4, .x (.o (.c (.s (gs.map cGrowth.enc))))), (5, .x (.o (.p (1, 101) 0 0 1)))], [((1, 100), bxPt f), ((1, 101), bxPt e)], 2⟩) (fun _ => True) ?_ ?_
  · simp only [go_sem, ↓reduceIte, reduceCtorEq, Nat.reduceAdd, Nat.reduceMul, Nat.reduceEqDiff, Nat.reduceSub, Nat.reduceLT, Nat.reduceLeDiff, Nat.reduceAnd, Nat.reduceShiftRight, Nat.reduceBEq, Nat.reduceBNe, Nat.reduceBneDiff, Nat.reduceBeqDiff, Int.reduceToNat, Int.reduceLE, Int.reduceLT, Int.reduceEq]
    exact ⟨(), trivial⟩
  rintro _ _
  simp only [go_sem, ↓reduceIte, reduceCtorEq, Nat.reduceAdd, Nat.reduceMul, Nat.reduceEqDiff, Nat.reduceSub, Nat.reduceLT, Nat.reduceLeDiff, Nat.reduceAnd, Nat.reduceShiftRight, Nat.reduceBEq, Nat.reduceBNe, Nat.reduceBneDiff, Nat.reduceBeqDiff, Int.reduceToNat, Int.reduceLE, Int.reduceLT, Int.reduceEq]
  refine CutS.intro (H := H_laws_FnChainWhole) ok_H_laws_FnChainWhole (by kernel_rfl) (by kernel_rfl) (fun y : Int => ⟨[(3, .x (.o (.p (1, 100) 0 0 1))), (4, .x (.o (.c (.s (gs.map cGrowth.enc))))), (5, .x (.o (.p (1, 101) 0 0 1))), (9, sc (.int .i64 y))], [((1, 100), bxPt f), ((1, 101), bxPt e)], 2⟩) (fun y => 0 ≤ y ∧ y ≤ gs.length) ?_ ?_
  · simp only [go_sem, ↓reduceIte, reduceCtorEq, Nat.reduceAdd, Nat.reduceMul, Nat.reduceEqDiff, Nat.reduceSub, Nat.reduceLT, Nat.reduceLeDiff, Nat.reduceAnd, Nat.reduceShiftRight, Nat.reduceBEq, Nat.reduceBNe, Nat.reduceBneDiff, Nat.reduceBeqDiff, Int.reduceToNat, Int.reduceLE, Int.reduceLT, Int.reduceEq]
    have w0 : IntKind.i64.wrap ((gs.length : Int) + 1) = (gs.length : Int) + 1 := by rw [wrap64] <;> omega
    refine ⟨by omega, fun y => ⟨by omega, (IntKind.i64.wrap (y.toNat : Int)).tmod (IntKind.i64.wrap ((gs.length : Int) + 1)), ?_, rfl⟩⟩
    have hy : IntKind.i64.wrap (y.toNat : Int) = (y.toNat : Int) := by have := y.toNat_lt; rw [wrap64] <;> omega
    rw [w0, hy]
    have h1 := Int.tmod_nonneg ((gs.length : Int) + 1) (show 0 ≤ (y.toNat : Int) by omega)
    have h2 := Int.tmod_lt_of_pos (y.toNat : Int) (show 0 < (gs.length : Int) + 1 by omega)
    omega
  rintro k ⟨i1, i2⟩
  have hsp : gs.take k.toNat ++ gs.drop k.toNat = gs := List.take_append_drop _ _
  have hbd : chainF f gs = (chainF f (gs.take k.toNat)).bind fun q => chainF q (gs.drop k.toNat) := by rw [← chainF_app, hsp]
  rw [hF] at hbd
  obtain ⟨q, hq1, hq2⟩ : ∃ q, chainF f (gs.take k.toNat) = some q ∧ chainF q (gs.drop k.toNat) = some e := by
    cases hq : chainF f (gs.take k.toNat) with
    | some q => rw [hq] at hbd; exact ⟨q, rfl, hbd.symm⟩
    | none => rw [hq] at hbd; cases hbd
  have hM1 := chainM_at (p := f) (gs := gs.take k.toNat) (by rw [List.length_take]; omega) hq1
  have hM2 := chainM_at (p := q) (gs := gs.drop k.toNat) (by rw [List.length_drop]; omega) hq2
  have ht : (gs.drop k.toNat).take (gs.length - k.toNat) = gs.drop k.toNat := List.take_of_length_le (by rw [List.length_drop]; omega)
  have key := chainF_end gs f e hF
  have hk2 : (gs.take k.toNat).length ≤ 1048576 ∧ ∀ g ∈ gs.take k.toNat, g.2.length ≤ 1048576 := ⟨by rw [List.length_take]; omega, fun g hg => kA.2 g (List.mem_of_mem_take hg)⟩
  have hk3 : (gs.drop k.toNat).length ≤ 1048576 ∧ ∀ g ∈ gs.drop k.toNat, g.2.length ≤ 1048576 := ⟨by rw [List.length_drop]; omega, fun g hg => kA.2 g (List.mem_of_mem_drop hg)⟩
  rcases key with ⟨hg, he⟩ | ⟨g, hg, he⟩
  · have c0 : ((gs.length : Int) = 0) = True := eq_true (by rw [hg]; rfl)
    simp only [go_sem, ↓reduceIte, reduceCtorEq, Nat.reduceAdd, Nat.reduceMul, Nat.reduceEqDiff, Nat.reduceSub, Nat.reduceLT, Nat.reduceLeDiff, Nat.reduceAnd, Nat.reduceShiftRight, Nat.reduceBEq, Nat.reduceBNe, Nat.reduceBneDiff, Nat.reduceBeqDiff, Int.reduceToNat, Int.reduceLE, Int.reduceLT, Int.reduceEq, hM1, ht, hM2, ptEq, decide_true, c0, decide_eq_true he]
    exact ⟨⟨by omega, by omega⟩, hk2, ⟨by omega, by omega, by omega⟩, by omega, hk3.2⟩
  · have hl : gs.length - 1 < gs.length := (List.getElem?_eq_some_iff.1 hg).1
    have c0 : ((gs.length : Int) = 0) = False := eq_false (by omega)
    have c1 : (0 < (gs.length : Int)) = True := eq_true (by omega)
    have w1 : IntKind.i64.wrap ((gs.length : Int) - 1) = ((gs.length - 1 : Nat) : Int) := by rw [wrap64] <;> omega
    simp only [go_sem, ↓reduceIte, reduceCtorEq, Nat.reduceAdd, Nat.reduceMul, Nat.reduceEqDiff, Nat.reduceSub, Nat.reduceLT, Nat.reduceLeDiff, Nat.reduceAnd, Nat.reduceShiftRight, Nat.reduceBEq, Nat.reduceBNe, Nat.reduceBneDiff, Nat.reduceBeqDiff, Int.reduceToNat, Int.reduceLE, Int.reduceLT, Int.reduceEq, hM1, ht, hM2, ptEq, decide_true, c0, c1, w1, hg, eq_true hl, decide_eq_true he]
    exact ⟨⟨by omega, by omega⟩, hk2, ⟨by omega, by omega, by omega⟩, by omega, hk3.2⟩

end Go.Proofs.YtcgkhljolflenaaW.V

