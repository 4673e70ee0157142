/- The law: two unlike leaves proved at one place under one root give two texts of one digest. No condition but each theorem's own. -/
import Derived.Test.YtcgkhljolflenaaFQI
namespace Go.Proofs.YtcgkhljolflenaaW.V
open Go Go.Proofs
set_option linter.unusedSimpArgs false
set_option linter.unusedVariables false
set_option maxRecDepth 8000
set_option maxHeartbeats 4000000


def H_laws_FnClashPaths : Hint := { fs := [(8, MRow), (9, MRootP), (14, MClashP), (15, MRow), (16, MFirst), (17, MFirst), (18, MSameDigests), (19, MClashOk)], kp := [(0, [0]), (1, [0]), (2, []), (3, [0]), (4, [3, 4, 5, 6, 7, 8]), (5, [3, 4, 5, 6, 7, 8, 9, 10]), (6, [3, 4, 5, 6, 7, 8, 9, 10, 11, 12]), (7, [3, 4, 5, 6, 7, 8, 9, 10, 11, 12, 13, 14]), (8, [3, 4, 5, 6, 7, 8, 9, 10, 11, 12, 13, 14, 15]), (9, [3, 4, 5, 6, 7, 8, 9, 10, 11, 12, 13, 14, 15, 17]), (10, [3, 4, 5, 6, 7, 8, 9, 10, 11, 12, 13, 14, 15, 17, 19]), (11, [5, 6, 7, 8, 9, 10, 11, 12, 13, 14, 15, 17, 19, 21]), (12, [5, 6, 7, 8, 9, 10, 11, 12, 13, 14, 19, 21, 23, 24]), (13, [5, 6, 7, 8, 9, 10, 11, 12, 13, 14, 23, 24, 25, 26]), (14, []), (15, [9, 10, 11, 12, 13, 14, 23, 24]), (16, []), (17, [9, 10, 23])], an := [], rs := [(13, RDrawClashOfPaths)] }
attribute [go_sem] H_laws_FnClashPaths
theorem ok_H_laws_FnClashPaths : H_laws_FnClashPaths.ok Try.prog := AllOk.okR (.cons ok_impl_ClashRow (.cons ok_spec_PathRoot (.cons ok_impl_ClashOfPaths (.cons ok_spec_ClashRow (.cons ok_impl_ClashFirst (.cons ok_spec_ClashFirst (.cons ok_laws_sameDigests (.cons ok_impl_ClashOk .nil)))))))) (.cons ok_spec_DrawClashOfPaths .nil) mix
theorem f_FnClashPaths (b : List UInt8) (_ : b.length ≤ maxLen ∧ ∀ x ∈ b, True) : VFun Try.prog 4 [(eList cU8).enc b] [] (eBool.enc true) [] := by
  refine VFun_pure (n := 169) (rs := [.tmp 2]) Try.func4 rfl rfl rfl rfl H_laws_FnClashPaths ok_H_laws_FnClashPaths _ _ (Nat.le_of_ble_eq_true rfl) (by kernel_rfl) ?_
  simp only [go_sem, ↓reduceIte, reduceCtorEq, Nat.reduceAdd, Nat.reduceMul, Nat.reduceEqDiff, Nat.reduceSub, Nat.reduceLT, Nat.reduceLeDiff, Nat.reduceAnd, Nat.reduceShiftRight, Nat.reduceBEq, Nat.reduceBNe, Nat.reduceBneDiff, Nat.reduceBeqDiff, Int.reduceToNat, Int.reduceLE, Int.reduceLT, Int.reduceEq, beq_self_eq_true]
  refine ite_intro (fun _ => trivial) fun h => ⟨by omega, ?_⟩
  rintro ⟨n, i, x, px, y, py⟩ ⟨g1, g2, g3, g4⟩
  dsimp only at g1 g2 g3 g4
  have hx2 : (rootP n i x px).2 = pathB n i x px := by unfold rootP; cases pathB n i x px <;> rfl
  have hy2 : (rootP n i y py).2 = pathB n i y py := by unfold rootP; cases pathB n i y py <;> rfl
  have hrl := rowM_len n i x px
  have hcc := clashP_cases n i x px y py
  have hcl := @paths_clash n i x y px py
  have hpart := @paths_part n i x y px py
  have hde := dig_eq (rootP n i x px).1 (rootP n i y py).1
  generalize hc : clashP n i x px y py = C at *
  generalize hf : firstM (rowM n i x px).1 (rowM n i y py).1 = F at *
  obtain ⟨c, ok⟩ := C
  obtain ⟨f, apart⟩ := F
  dsimp only at hcc hcl hpart
  obtain ⟨hok, hz, ht⟩ := hcc
  have hno : ¬ (pathB n i x px = true ∧ pathB n i y py = true) → ok = false ∧ c = ((⟨#[]⟩, ⟨#[]⟩) : Clash) := fun hh => by
    have : ok = false := by
      rw [hok]
      cases h1 : pathB n i x px with
      | false => rfl
      | true => cases h2 : pathB n i y py with
        | false => rfl
        | true => exact absurd ⟨h1, h2⟩ hh
    exact ⟨this, hz this⟩
  by_cases hb : pathB n i x px = true ∧ pathB n i y py = true
  case neg =>
    obtain ⟨e1, e2⟩ := hno hb
    subst e1 e2
    cases h1 : pathB n i x px with
    | false =>
      simp only [go_sem, ↓reduceIte, reduceCtorEq, Nat.reduceAdd, Nat.reduceMul, Nat.reduceEqDiff, Nat.reduceSub, Nat.reduceLT, Nat.reduceLeDiff, Nat.reduceAnd, Nat.reduceShiftRight, Nat.reduceBEq, Nat.reduceBNe, Nat.reduceBneDiff, Nat.reduceBeqDiff, Int.reduceToNat, Int.reduceLE, Int.reduceLT, Int.reduceEq, beq_self_eq_true, hx2, hy2, hc, hf, h1]
      exact ⟨by omega, by omega⟩
    | true =>
      have h2 : pathB n i y py = false := by
        cases h2 : pathB n i y py with
        | false => rfl
        | true => exact absurd ⟨h1, h2⟩ hb
      simp only [go_sem, ↓reduceIte, reduceCtorEq, Nat.reduceAdd, Nat.reduceMul, Nat.reduceEqDiff, Nat.reduceSub, Nat.reduceLT, Nat.reduceLeDiff, Nat.reduceAnd, Nat.reduceShiftRight, Nat.reduceBEq, Nat.reduceBNe, Nat.reduceBneDiff, Nat.reduceBeqDiff, Int.reduceToNat, Int.reduceLE, Int.reduceLT, Int.reduceEq, beq_self_eq_true, hx2, hy2, hc, hf, h1, h2]
      exact ⟨by omega, by omega⟩
  obtain ⟨h1, h2⟩ := hb
  have hp := hpart h1 h2
  rw [h1, h2, Bool.true_and, Bool.true_and] at hok
  clear hpart hno
  by_cases hxy : x = y ∧ px = py
  · have ha : apart = false := hp.trans (decide_eq_false (not_not_intro hxy))
    rw [ha, Bool.and_false] at hok
    replace hz := hz hok
    clear hcl ht hp
    subst ha hok hz
    have e1 : (x = y) = True := eq_true hxy.1
    have e2 : (px = py) = True := eq_true hxy.2
    simp only [go_sem, ↓reduceIte, reduceCtorEq, Nat.reduceAdd, Nat.reduceMul, Nat.reduceEqDiff, Nat.reduceSub, Nat.reduceLT, Nat.reduceLeDiff, Nat.reduceAnd, Nat.reduceShiftRight, Nat.reduceBEq, Nat.reduceBNe, Nat.reduceBneDiff, Nat.reduceBeqDiff, Int.reduceToNat, Int.reduceLE, Int.reduceLT, Int.reduceEq, beq_self_eq_true, hx2, hy2, hc, hf, h1, h2, hde, e1, e2]
    exact ⟨by omega, by omega, by omega, ite_intro (fun _ => trivial) fun _ => trivial⟩
  have ha : apart = true := hp.trans (decide_eq_true hxy)
  rw [ha, Bool.and_true] at hok
  by_cases hr : (rootP n i x px).1 = (rootP n i y py).1
  · replace hok := hok.trans (decide_eq_true hr)
    replace ht := ht hok
    subst ht hok ha
    obtain ⟨⟨z1, z2⟩, z3⟩ := hcl rfl
    obtain ⟨c1, c2⟩ := c
    dsimp only at z1 z2
    clear hz hcl hp
    by_cases e1 : x = y
    · have e2 : (px = py) = False := eq_false fun h => hxy ⟨e1, h⟩
      simp only [go_sem, ↓reduceIte, reduceCtorEq, Nat.reduceAdd, Nat.reduceMul, Nat.reduceEqDiff, Nat.reduceSub, Nat.reduceLT, Nat.reduceLeDiff, Nat.reduceAnd, Nat.reduceShiftRight, Nat.reduceBEq, Nat.reduceBNe, Nat.reduceBneDiff, Nat.reduceBeqDiff, Int.reduceToNat, Int.reduceLE, Int.reduceLT, Int.reduceEq, beq_self_eq_true, hx2, hy2, hc, hf, h1, h2, hde, eq_true e1, e2, eq_true hr, z3]
      exact ⟨by omega, by omega, by omega, by omega, by omega⟩
    · simp only [go_sem, ↓reduceIte, reduceCtorEq, Nat.reduceAdd, Nat.reduceMul, Nat.reduceEqDiff, Nat.reduceSub, Nat.reduceLT, Nat.reduceLeDiff, Nat.reduceAnd, Nat.reduceShiftRight, Nat.reduceBEq, Nat.reduceBNe, Nat.reduceBneDiff, Nat.reduceBeqDiff, Int.reduceToNat, Int.reduceLE, Int.reduceLT, Int.reduceEq, beq_self_eq_true, hx2, hy2, hc, hf, h1, h2, hde, eq_false e1, eq_true hr, z3]
      exact ⟨by omega, by omega, by omega, by omega⟩
  · replace hok := hok.trans (decide_eq_false hr)
    replace hz := hz hok
    subst hz hok ha
    clear hcl ht hp
    by_cases e1 : x = y
    · have e2 : (px = py) = False := eq_false fun h => hxy ⟨e1, h⟩
      simp only [go_sem, ↓reduceIte, reduceCtorEq, Nat.reduceAdd, Nat.reduceMul, Nat.reduceEqDiff, Nat.reduceSub, Nat.reduceLT, Nat.reduceLeDiff, Nat.reduceAnd, Nat.reduceShiftRight, Nat.reduceBEq, Nat.reduceBNe, Nat.reduceBneDiff, Nat.reduceBeqDiff, Int.reduceToNat, Int.reduceLE, Int.reduceLT, Int.reduceEq, beq_self_eq_true, hx2, hy2, hc, hf, h1, h2, hde, eq_true e1, e2, eq_false hr]
      exact ⟨by omega, by omega, by omega⟩
    · simp only [go_sem, ↓reduceIte, reduceCtorEq, Nat.reduceAdd, Nat.reduceMul, Nat.reduceEqDiff, Nat.reduceSub, Nat.reduceLT, Nat.reduceLeDiff, Nat.reduceAnd, Nat.reduceShiftRight, Nat.reduceBEq, Nat.reduceBNe, Nat.reduceBneDiff, Nat.reduceBeqDiff, Int.reduceToNat, Int.reduceLE, Int.reduceLT, Int.reduceEq, beq_self_eq_true, hx2, hy2, hc, hf, h1, h2, hde, eq_false e1, eq_false hr]
      exact ⟨by omega, by omega⟩

end Go.Proofs.YtcgkhljolflenaaW.V

